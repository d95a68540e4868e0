import Derived.Test.YtehemhpfdajbdaaDoorChaP
namespace Go.Proofs.YtehemhpfdajbdaaDoor
open Go.RowKit

/-- The word that awake asks for lies in its table. -/
def ChOk (w : World) : Prop := w.cell? ⟨0, 9, none⟩ = some (.string ⟨#[102, 117, 110, 100]⟩) ∧ 0 < w.heap.size
theorem ChOk.past {w w' : World} (h : ChOk w) (hb : Below w.heap.size w w') : ChOk w' := ⟨(hb.cell (p := ⟨0, 9, none⟩) h.2).trans h.1, Nat.lt_of_lt_of_le h.2 hb.size⟩

theorem small2 (w : World) : Calls Tryd.prog 30 #[.int .i64 2] w fun e w' => e = .returned (.string ⟨#[50]⟩) ∧ w' = w := by
  go_enter Tryd.func30, Tryd.ntmps30
  go_wp2_with fail
  go_ret
  exact ⟨rfl, rfl⟩
theorem fmt2 (w : World) : Calls Tryd.prog 23 #[.int .i64 2, .int .i64 10] w fun e w' => e = .returned (.string ⟨#[50]⟩) ∧ w' = w := by
  go_enter Tryd.func23, Tryd.ntmps23
  go_wp2_with fail
  refine (small2 _).mono ?_
  rintro e w' ⟨rfl, rfl⟩
  go_wp2_with fail
  go_ret
  exact ⟨rfl, rfl⟩
theorem itoai2 (w : World) : Calls Tryd.prog 19 #[.int .i64 2] w fun e w' => e = .returned (.string ⟨#[50]⟩) ∧ w' = w := by
  go_enter Tryd.func19, Tryd.ntmps19
  go_wp2_with fail
  refine (fmt2 _).mono ?_
  rintro e w' ⟨rfl, rfl⟩
  go_wp2_with fail
  go_ret
  exact ⟨rfl, rfl⟩
theorem itoa2 (w : World) : Calls Tryd.prog 12 #[.int .i64 2] w fun e w' => e = .returned (.string ⟨#[50]⟩) ∧ w' = w := by
  go_enter Tryd.func12, Tryd.ntmps12
  go_wp2_with fail
  refine (itoai2 _).mono ?_
  rintro e w' ⟨rfl, rfl⟩
  go_wp2_with fail
  go_ret
  exact ⟨rfl, rfl⟩

set_option maxRecDepth 10000 in
set_option maxHeartbeats 2000000 in
theorem name92 (w : World) (hw : ChOk w) : Calls Tryd.prog 5 #[.agg #[.int .i64 9, .int .i64 2]] w fun e w' => e = .returned (.string ⟨#[102, 117, 110, 100, 58, 50]⟩) ∧ Below w.heap.size w w' := by
  have hB0 := (Below.refl w.heap.size w).alloc (Nat.le_refl _) (.cells #[.int .i64 9, .int .i64 2] 23)
  have bx0 := Blk.new w 23 #[.int .i64 9, .int .i64 2] w.heap.size rfl
  have HN : Hid (numA 16 ⟨9, 2⟩ = (11, 0)) := Lib.hid rfl
  go_enter Tryd.func5, Tryd.ntmps5
  go_wp2_with fail
  refine (num_any 16 ⟨9, 2⟩ _).mono ?_
  rw [HN.out]
  rintro e w1 ⟨rfl, hb1⟩
  have hB1 := Below.past hB0 hb1 hB0.size
  have bx1 := bx0.past hb1
  have hw1 := (hw.past hB1).1
  have e0 := (bx1).cell 0
  have e1 := (bx1).cell 1
  simp at e0 e1
  go_wp2_with fail
  go_quiet ((go_at_call 12; exact quiet_left ((itoa2 _).mono fun e w' h => ⟨h.1, h.2.symm⟩)))
  go_wp2_with fail
  go_ret
  exact ⟨rfl, below_drewN hB1 _⟩

set_option maxRecDepth 10000 in
set_option maxHeartbeats 2000000 in
theorem awake13 (w : World) (hw : ChOk w) : Calls Tryd.prog 4 #[] w fun e w' => e = .returned (.bool true) ∧ Below w.heap.size w w' := by
  have HN : Hid (numA 2 ⟨9, 2⟩ = (11, 0)) := Lib.hid rfl
  go_enter Tryd.func4, Tryd.ntmps4
  go_wp2_with fail
  refine (num_any 2 ⟨9, 2⟩ _).mono ?_
  rw [HN.out]
  rintro e w1 ⟨rfl, hb1⟩
  go_wp2_with fail
  refine (count_yes 2 (by omega) _).mono ?_
  rintro e w' ⟨rfl, rfl⟩
  go_wp2_with fail
  refine (name92 _ (hw.past hb1)).mono ?_
  rintro e w2 ⟨rfl, hb2⟩
  go_wp2_with fail
  go_ret
  exact ⟨rfl, Below.next hb1 hb2⟩
end Go.Proofs.YtehemhpfdajbdaaDoor
