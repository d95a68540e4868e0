import Derived.Test.YtfedjgblgnkbcaaDoorRepA
import Derived.Test.YtfedjgblgnkbcaaDoorRepB
import Derived.Lib.QuietBelow
namespace Go.Proofs.YtfedjgblgnkbcaaDoor
open Go.RowKit Go.Sort

/-! ### The document's lines -/
set_option maxRecDepth 100000 in
set_option maxHeartbeats 4000000 in
theorem refErrors_any (e : Int) (w : World) : Calls Tryd.prog 15 #[.int .i64 e] w fun r w' => r = .returned (.string ⟨(errT e).toArray⟩) ∧ Below w.heap.size w w' := by
  by_cases he : 0 ≤ e ∧ e ≤ 18
  · obtain rfl | rfl | rfl | rfl | rfl | rfl | rfl | rfl | rfl | rfl | rfl | rfl | rfl | rfl | rfl | rfl | rfl | rfl | rfl : e = 0 ∨ e = 1 ∨ e = 2 ∨ e = 3 ∨ e = 4 ∨ e = 5 ∨ e = 6 ∨ e = 7 ∨ e = 8 ∨ e = 9 ∨ e = 10 ∨ e = 11 ∨ e = 12 ∨ e = 13 ∨ e = 14 ∨ e = 15 ∨ e = 16 ∨ e = 17 ∨ e = 18 := by omega
    all_goals
      go_enter Tryd.func15, Tryd.ntmps15
      go_wp2_with fail
      go_ret
      exact ⟨rfl, (Below.refl _ _).alloc (Nat.le_refl _) _⟩
  · have HN : Hid (errT e = [117, 110, 107, 110, 111, 119, 110]) := Lib.hid (by unfold errT; rw [if_neg he])
    rw [HN.out]
    by_cases h0 : e < 0
    · clear he
      go_enter Tryd.func15, Tryd.ntmps15
      go_wp2_with fail
      go_ret
      exact ⟨rfl, (Below.refl _ _).alloc (Nat.le_refl _) _⟩
    · have h1 : 18 < e := by omega
      clear he
      go_enter Tryd.func15, Tryd.ntmps15
      go_wp2_with fail
      go_ret
      exact ⟨rfl, (Below.refl _ _).alloc (Nat.le_refl _) _⟩
set_option maxRecDepth 100000 in
set_option maxHeartbeats 2000000 in
theorem refAnswer_any (e z : Int) (hz : inI z) (w : World) :
    Calls Tryd.prog 8 #[.agg #[.int .i64 e, .int .i64 z]] w fun r w' => r = .returned (.string ⟨(answT e z).toArray⟩) ∧ Below w.heap.size w w' := by
  have hB0 := (Below.refl w.heap.size w).alloc (Nat.le_refl _) (.cells #[.int .i64 e, .int .i64 z] 26)
  have bx0 := Blk.new w 26 #[.int .i64 e, .int .i64 z] w.heap.size rfl
  obtain ⟨W, hW⟩ : ∃ W, Hid (w.alloc (.cells #[.int .i64 e, .int .i64 z] 26) = W) := ⟨_, Lib.hid rfl⟩
  rw [hW.out] at hB0 bx0
  have k0 := (bx0).cell 0
  have k1 := (bx0).cell 1
  simp at k0 k1
  by_cases h0 : e = 0
  · subst h0
    have HN := Lib.hid (number_any z hz)
    have HO : Hid (answT 0 z = [111, 107, 32] ++ numI z) := Lib.hid (by unfold answT; rw [if_pos rfl]; simp [numsT])
    have hl := numI_len z
    rw [HO.out]
    generalize numI z = y at *
    have h1 : (⟨#[111, 107, 32]⟩ : ByteArray) ++ ⟨y.toArray⟩ = ⟨([111, 107, 32] ++ y).toArray⟩ := app_bytes [111, 107, 32] y
    clear hz bx0
    go_enter Tryd.func8, Tryd.ntmps8
    go_upto_region 1 with fail
    rw [hW.out]
    go_wp2_with fail
    refine (HN.out _).mono ?_
    rintro r w5 ⟨rfl, hb5⟩
    go_wp2_with fail
    go_ret
    exact ⟨rfl, Below.past hB0 hb5 hB0.size⟩
  · have HE := Lib.hid (refErrors_any e)
    have HO : Hid (answT e z = [101, 114, 114, 111, 114, 32] ++ errT e) := Lib.hid (if_neg h0)
    have hel := errT_len e
    rw [HO.out]
    generalize errT e = y at *
    have h1 : (⟨#[101, 114, 114, 111, 114, 32]⟩ : ByteArray) ++ ⟨y.toArray⟩ = ⟨([101, 114, 114, 111, 114, 32] ++ y).toArray⟩ := app_bytes [101, 114, 114, 111, 114, 32] y
    have q0 : (e != 0) = true := by simpa using h0
    clear hz bx0 h0
    go_enter Tryd.func8, Tryd.ntmps8
    go_upto_region 1 with fail
    rw [hW.out]
    go_wp2_with fail
    refine (HE.out _).mono ?_
    rintro r w5 ⟨rfl, hb5⟩
    go_wp2_with fail
    go_ret
    exact ⟨rfl, Below.past hB0 hb5 hB0.size⟩
end Go.Proofs.YtfedjgblgnkbcaaDoor
