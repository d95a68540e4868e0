import Derived.Test.YtndhhnfhookeaaaTimC
namespace Go.Proofs.Ytndhhnfhookeaaa
open Go.RowKit

/-- Is a timer in a list? -/
def hasT (l : List Tim) (t : Tim) : Bool := l.any (eqT t)

/-- What is told of a place: one that is there, or -1. -/
def IdxPost (w : World) (b : Bool) (e : Ending) (w' : World) : Prop := ∃ z : Int, e = .returned (.int .i64 z) ∧ decide (0 ≤ z) = b ∧ Below w.heap.size w w'

set_option maxHeartbeats 4000000 in
set_option maxRecDepth 10000 in
theorem indexT_any (A : Option Addr) (n cp : Nat) (l : List Tim) (t : Tim) (w : World) (hr : Rd w w.heap.size 4 A n (l.flatMap Tim.cells)) (hn : n ≤ 1000000) :
    Calls Try.prog 94 #[.slice A n cp, .agg #[.int .i64 t.due, .int .i64 t.kind, .int .i64 t.mem, .int .i64 t.lev]] w (IdxPost w (hasT l t)) := by
  have HL := Lib.hid (hr.len Tim.cells_len (by omega))
  have hB0 := (Below.refl w.heap.size w).alloc (Nat.le_refl _) (.cells #[.int .i64 t.due, .int .i64 t.kind, .int .i64 t.mem, .int .i64 t.lev] 29)
  have bt0 := Blk.new w 29 #[.int .i64 t.due, .int .i64 t.kind, .int .i64 t.mem, .int .i64 t.lev] w.heap.size rfl
  obtain ⟨H, HH⟩ : ∃ H, Hid (hasT l t = H) := ⟨_, Lib.hid rfl⟩
  rw [HH.out]
  go_enter Try.func94, Try.ntmps94
  go_wp2_with fail
  go_loopw [5, 8] (fun _ i wr => ∃ k : Nat, k ≤ n ∧ i = .int .i64 k ∧ Hid ((l.take k).any (eqT t) = false) ∧ Blk wr w.heap.size 29 #[.int .i64 t.due, .int .i64 t.kind, .int .i64 t.mem, .int .i64 t.lev] ∧ Below w.heap.size w wr) (fun _ i _ => n - (intOf i).toNat)
  case atStart => exact ⟨0, Nat.zero_le _, rfl, Lib.hid rfl, bt0, hB0⟩
  case round =>
    clear bt0 hB0
    obtain ⟨k, hk, rfl, HN, bt, hb⟩ := hrel
    by_cases hlt : k < n
    · have hlz : (k : Int) < (n : Int) := by omega
      have hg_f : l[k]? = some (l[k]'(by have := HL.out; omega)) := List.getElem?_eq_getElem _
      obtain ⟨b_f, off_f, rfl, hbb_f, hc_f⟩ := (hr.below hb).elem Tim.cells_len hg_f hlt
      have HT_f := Lib.hid (show l.take (k + 1) = l.take k ++ [(l[k]'(by have := HL.out; omega))] from List.take_succ_eq_append_getElem (by have := HL.out; omega))
      have HM_f := Lib.hid (show (l[k]'(by have := HL.out; omega)) ∈ l from List.getElem_mem _)
      generalize (l[k]'(by have := HL.out; omega)) = f at *
      have c0 := hc_f 0 _ rfl
      have c1 := hc_f 1 _ rfl
      have c2 := hc_f 2 _ rfl
      have c3 := hc_f 3 _ rfl
      clear hc_f hg_f
      simp only [Nat.add_zero] at c0
      have t0 := bt.cell 0
      have t1 := bt.cell 1
      have t2 := bt.cell 2
      have t3 := bt.cell 3
      simp at t0 t1 t2 t3
      have hq := tim_eql t f
      cases hE : eqT t f with
      | true =>
        rw [hE] at hq
        have HV := Lib.hid (show H = true by rw [← HH.out]; exact List.any_eq_true.2 ⟨f, HM_f.out, hE⟩)
        clear hE
        go_wp2_with fail
        go_quiet (fail)
        have hbV := below_drewN hb nq
        clear hq
        go_wp2_with fail
        go_ret
        exact ⟨_, rfl, by rw [HV.out]; exact decide_eq_true (by omega), hbV⟩
      | false =>
        rw [hE] at hq
        have HV := Lib.hid (show (l.take (k + 1)).any (eqT t) = false by rw [HT_f.out, List.any_append, HN.out]; simp [hE])
        clear hE
        go_wp2_with fail
        go_quiet (fail)
        have hbV := below_drewN hb nq
        have btV := bt.drewN nq
        clear hq
        go_wp2_with fail
        go_roundw
        case rel => exact ⟨k + 1, by omega, by go_num, HV, btV, hbV⟩
        case measure => simp [intOf]; omega
    · have hlz : ¬ (k : Int) < (n : Int) := by omega
      have HV := Lib.hid (show H = false by
        rw [← HH.out]
        have := HN.out
        rw [List.take_of_length_le (by have := HL.out; omega)] at this
        exact this)
      go_wp2_with fail
      go_ret
      exact ⟨_, rfl, by rw [HV.out]; decide, hb⟩

set_option maxHeartbeats 1000000 in
theorem containsT_any (A : Option Addr) (n cp : Nat) (l : List Tim) (t : Tim) (w : World) (hr : Rd w w.heap.size 4 A n (l.flatMap Tim.cells)) (hn : n ≤ 1000000) :
    Calls Try.prog 59 #[.slice A n cp, .agg #[.int .i64 t.due, .int .i64 t.kind, .int .i64 t.mem, .int .i64 t.lev]] w fun e w' => e = .returned (.bool (hasT l t)) ∧ Below w.heap.size w w' := by
  have hB0 := (Below.refl w.heap.size w).alloc (Nat.le_refl _) (.cells #[.int .i64 t.due, .int .i64 t.kind, .int .i64 t.mem, .int .i64 t.lev] 29)
  have HI := Lib.hid (indexT_any A n cp l t (w.alloc (.cells #[.int .i64 t.due, .int .i64 t.kind, .int .i64 t.mem, .int .i64 t.lev] 29)) (hr.alloc _) hn)
  obtain ⟨H, HH⟩ : ∃ H, Hid (hasT l t = H) := ⟨_, Lib.hid rfl⟩
  rw [HH.out] at HI ⊢
  go_enter Try.func59, Try.ntmps59
  go_wp2_with fail
  refine HI.out.mono ?_
  rintro e w1 ⟨z, rfl, hz, hb⟩
  go_wp2_with fail
  go_ret
  exact ⟨rfl, Below.past hB0 hb hB0.size⟩

/-! ### Wheels -/
/-- A wheel's room and timers, in block g; its row is of the block base on. -/
def Wh (w : World) (g : Nat) (room : Int) (base : Nat) (ts : List Tim) : Prop :=
  ∃ (A : Option Addr) (c : Nat), Blk w g 113 #[.int .i64 room, .slice A ts.length c] ∧ w.ownsRow base 29 4 (.slice A ts.length c) ts.length (ts.flatMap Tim.cells)

set_option maxHeartbeats 1000000 in
theorem timerNew_any (room : Int) (w : World) : Calls Try.prog 14 #[.int .i64 room] w fun e w' => e = .returned (.pointer (some ⟨w.heap.size, 0, none⟩)) ∧ Hid (Wh w' w.heap.size (max room 0) w.heap.size []) ∧ Below w.heap.size w w' := by
  obtain ⟨m, hm⟩ : ∃ m, Hid (max room 0 = m) := ⟨_, Lib.hid rfl⟩
  have q := hm.out
  rw [q]
  have hB0 := (Below.refl w.heap.size w).alloc (Nat.le_refl _) (.cells #[.int .i64 m, .slice none 0 0] 113)
  have bl := Blk.new w 113 #[.int .i64 m, .slice none 0 0] w.heap.size rfl
  have hW : Hid (Wh (w.alloc (.cells #[.int .i64 m, .slice none 0 0] 113)) w.heap.size m w.heap.size []) := Lib.hid ⟨none, 0, bl, World.ownsRow_nil _ _ _ _⟩
  clear bl
  go_enter Try.func14, Try.ntmps14
  go_wp2_with fail
  all_goals
    go_ret
    exact ⟨rfl, hW, hB0⟩
end Go.Proofs.Ytndhhnfhookeaaa
