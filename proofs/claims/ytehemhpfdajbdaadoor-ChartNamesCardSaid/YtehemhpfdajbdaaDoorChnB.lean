import Derived.Test.YtehemhpfdajbdaaDoorChnA
namespace Go.Proofs.YtehemhpfdajbdaaDoor
open Go.RowKit

/-! ### The table of words; the text of a number from 1 to 16; the name of an account -/
def NaOk (w : World) : Prop := (∀ k, k < 10 → w.cell? ⟨0, k, none⟩ = some (.string ⟨(wdC k).toArray⟩)) ∧ 0 < w.heap.size
theorem NaOk.past {w w' : World} (h : NaOk w) (hb : Below w.heap.size w w') : NaOk w' := ⟨fun k hk => (hb.cell (p := ⟨0, k, none⟩) h.2).trans (h.1 k hk), Nat.lt_of_lt_of_le h.2 hb.size⟩
theorem sixteen {m : Nat} (h1 : 1 ≤ m) (h2 : m ≤ 16) : m = 1 ∨ m = 2 ∨ m = 3 ∨ m = 4 ∨ m = 5 ∨ m = 6 ∨ m = 7 ∨ m = 8 ∨ m = 9 ∨ m = 10 ∨ m = 11 ∨ m = 12 ∨ m = 13 ∨ m = 14 ∨ m = 15 ∨ m = 16 := by omega
set_option maxRecDepth 100000 in
theorem small16 (m : Nat) (h1 : 1 ≤ m) (h2 : m ≤ 16) (w : World) : Calls Tryd.prog 30 #[.int .i64 (m : Nat)] w fun e w' => e = .returned (.string ⟨(decS m).toArray⟩) ∧ w' = w := by
  rcases sixteen h1 h2 with rfl | rfl | rfl | rfl | rfl | rfl | rfl | rfl | rfl | rfl | rfl | rfl | rfl | rfl | rfl | rfl
  all_goals
    go_enter Tryd.func30, Tryd.ntmps30
    go_wp2_with fail
    go_ret
    exact ⟨rfl, rfl⟩
theorem fmt16 (m : Nat) (h1 : 1 ≤ m) (h2 : m ≤ 16) (w : World) : Calls Tryd.prog 23 #[.int .i64 (m : Nat), .int .i64 10] w fun e w' => e = .returned (.string ⟨(decS m).toArray⟩) ∧ w' = w := by
  have HS := Lib.hid (small16 m h1 h2 w)
  have q1 : (0 : Int) ≤ (m : Int) := by omega
  have q2 : (m : Int) < 100 := by omega
  clear h1 h2
  go_enter Tryd.func23, Tryd.ntmps23
  go_wp2_with fail
  refine HS.out.mono ?_
  rintro e w' ⟨rfl, rfl⟩
  go_wp2_with fail
  go_ret
  exact ⟨rfl, rfl⟩
theorem itoai16 (m : Nat) (h1 : 1 ≤ m) (h2 : m ≤ 16) (w : World) : Calls Tryd.prog 19 #[.int .i64 (m : Nat)] w fun e w' => e = .returned (.string ⟨(decS m).toArray⟩) ∧ w' = w := by
  go_enter Tryd.func19, Tryd.ntmps19
  go_wp2_with fail
  refine (fmt16 m h1 h2 _).mono ?_
  rintro e w' ⟨rfl, rfl⟩
  go_wp2_with fail
  go_ret
  exact ⟨rfl, rfl⟩
theorem itoa16 (m : Nat) (h1 : 1 ≤ m) (h2 : m ≤ 16) (w : World) : Calls Tryd.prog 12 #[.int .i64 (m : Nat)] w fun e w' => e = .returned (.string ⟨(decS m).toArray⟩) ∧ w' = w := by
  go_enter Tryd.func12, Tryd.ntmps12
  go_wp2_with fail
  refine (itoai16 m h1 h2 _).mono ?_
  rintro e w' ⟨rfl, rfl⟩
  go_wp2_with fail
  go_ret
  exact ⟨rfl, rfl⟩
end Go.Proofs.YtehemhpfdajbdaaDoor
