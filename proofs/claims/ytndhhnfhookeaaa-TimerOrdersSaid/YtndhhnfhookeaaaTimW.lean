import Derived.Test.YtndhhnfhookeaaaTimV
namespace Go.Proofs.Ytndhhnfhookeaaa
open Go.RowKit

/-! ### A wheel that is none -/
set_option maxHeartbeats 1000000 in
theorem set_nil (t : Tim) (w : World) : Calls Try.prog 15 #[.pointer none, .agg #[.int .i64 t.due, .int .i64 t.kind, .int .i64 t.mem, .int .i64 t.lev]] w fun e w' => e = .returned (.int .i64 8) ∧ Below w.heap.size w w' := by
  have hB0 := (Below.refl w.heap.size w).alloc (Nat.le_refl _) (.cells #[.int .i64 t.due, .int .i64 t.kind, .int .i64 t.mem, .int .i64 t.lev] 29)
  go_enter Try.func15, Try.ntmps15
  go_wp2_with fail
  go_ret
  exact ⟨rfl, hB0⟩
set_option maxHeartbeats 1000000 in
theorem part_nil (gf : Nat) (cb : Array Value) (w : World) : Calls Try.prog 61 #[.pointer none, .func (.func gf) #[] cb] w fun e w' => e = .returned (.slice none 0 0) ∧ w = w' := by
  go_enter Try.func61, Try.ntmps61
  go_wp2_with fail
  go_ret
  exact ⟨rfl, rfl⟩
set_option maxHeartbeats 1000000 in
theorem len_nil (w : World) : Calls Try.prog 24 #[.pointer none] w fun e w' => e = .returned (.int .i64 0) ∧ w = w' := by
  go_enter Try.func24, Try.ntmps24
  go_wp2_with fail
  go_ret
  exact ⟨rfl, rfl⟩
set_option maxHeartbeats 1000000 in
theorem fire_nil (now : Int) (w : World) : Calls Try.prog 17 #[.pointer none, .int .i64 now] w fun e w' => e = .returned (.slice none 0 0) ∧ Below w.heap.size w w' := by
  have hB0 := (Below.refl w.heap.size w).alloc (Nat.le_refl _) (.cells #[.int .i64 now] 3)
  go_enter Try.func17, Try.ntmps17
  go_wp2_with fail
  refine (part_nil _ _ _).mono ?_
  rintro e w1 ⟨rfl, rfl⟩
  go_wp2_with fail
  go_ret
  exact ⟨rfl, hB0⟩
set_option maxHeartbeats 1000000 in
theorem cancel_nil (t : Tim) (w : World) : Calls Try.prog 25 #[.pointer none, .agg #[.int .i64 t.due, .int .i64 t.kind, .int .i64 t.mem, .int .i64 t.lev]] w fun e w' => e = .returned (.int .i64 8) ∧ Below w.heap.size w w' := by
  have hB0 := (Below.refl w.heap.size w).alloc (Nat.le_refl _) (.cells #[.int .i64 t.due, .int .i64 t.kind, .int .i64 t.mem, .int .i64 t.lev] 29)
  go_enter Try.func25, Try.ntmps25
  go_wp2_with fail
  refine (part_nil _ _ _).mono ?_
  rintro e w1 ⟨rfl, rfl⟩
  go_wp2_with fail
  go_ret
  exact ⟨rfl, hB0⟩
set_option maxHeartbeats 1000000 in
theorem drop_nil (k m : Int) (w : World) : Calls Try.prog 26 #[.pointer none, .int .i64 k, .int .i64 m] w fun e w' => e = .returned (.int .i64 0) ∧ Below w.heap.size w w' := by
  have hB0 := ((Below.refl w.heap.size w).alloc (Nat.le_refl _) (.cells #[.int .i64 k] 3)).alloc (by simp) (.cells #[.int .i64 m] 3)
  go_enter Try.func26, Try.ntmps26
  go_wp2_with fail
  refine (part_nil _ _ _).mono ?_
  rintro e w1 ⟨rfl, rfl⟩
  go_wp2_with fail
  go_ret
  exact ⟨rfl, hB0⟩
set_option maxHeartbeats 1000000 in
theorem copy_nil (w : World) : Calls Try.prog 16 #[.pointer none] w fun e w' => e = .returned (.pointer none) ∧ w = w' := by
  go_enter Try.func16, Try.ntmps16
  go_wp2_with fail
  go_ret
  exact ⟨rfl, rfl⟩
set_option maxHeartbeats 1000000 in
theorem first_nil (now : Int) (w : World) :
    Calls Try.prog 20 #[.pointer none, .int .i64 now] w fun e w' => e = .returned (.tuple #[.agg #[.int .i64 0, .int .i64 0, .int .i64 0, .int .i64 0], .bool false]) ∧ Below w.heap.size w w' := by
  have hB0 := (Below.refl w.heap.size w).alloc (Nat.le_refl _) (.cells #[.int .i64 0, .int .i64 0, .int .i64 0, .int .i64 0] 29)
  have bz0 := Blk.new w 29 #[.int .i64 0, .int .i64 0, .int .i64 0, .int .i64 0] w.heap.size rfl
  go_enter Try.func20, Try.ntmps20
  go_wp2_with fail
  refine (all_nil _).mono ?_
  rintro e w1 ⟨rfl, rfl⟩
  have bz1 := bz0
  have hbA := hB0
  have z0 := bz1.cell 0
  have z1 := bz1.cell 1
  have z2 := bz1.cell 2
  have z3 := bz1.cell 3
  have hzl := bz1.lt
  simp at z0 z1 z2 z3
  have f0 := bz1.frozen 0
  have f1 := bz1.frozen 1
  have f2 := bz1.frozen 2
  have f3 := bz1.frozen 3
  go_wp2_with fail
  refine bodyPost_ret (v := .tuple #[.agg #[.int .i64 0, .int .i64 0, .int .i64 0, .int .i64 0], .bool false]) (by simp [results, Try.results20, go_sem, z0, z1, z2, z3, hzl]) rfl ⟨rfl, ?_⟩
  exact hbA
end Go.Proofs.Ytndhhnfhookeaaa
