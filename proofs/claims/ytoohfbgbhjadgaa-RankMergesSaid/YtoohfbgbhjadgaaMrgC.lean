import Derived.Test.YtoohfbgbhjadgaaMrgB
import Derived.Test.YtoohfbgbhjadgaaAppRd
import Derived.Lib.AppendZerosOnto
namespace Go.Proofs.Ytoohfbgbhjadgaa
open Go.RowKit

/-- slices.Grow of nil: a row of the call's own, empty, with room. -/
theorem grow_any (n : Nat) (h0 : 0 < n) (hn : n ≤ 1000) (w : World) :
    Calls Try.prog 94 #[.slice none 0 0, .int .i64 (n : Nat)] w fun e w' => ∃ v, e = .returned v ∧ w'.ownsRow w.heap.size 22 1 v 0 [] ∧ Below w.heap.size w w' := by
  obtain ⟨i0, hi0, hz0, hz1, hz2⟩ := info_parts ksInfo
  have hold : (Builtin.firstCells i0.size 0 (.slice none 0 0)).run Try.prog w.drew = .ok ([] : List Value).toArray w.drew := run_firstCells_none w.drew i0.size 0 0 0
  have hrz : ∀ ty, (Builtin.append_ #[26, 3] ty #[.slice none 0 0, .int .i64 (n : Int)]).run Try.prog w =
      .ok (.slice (some ⟨w.heap.size, 0, none⟩) n (grownCap w n 0 22)) (w.drew.alloc (.cells (([] : List Value).toArray ++ Builtin.zeroCells (Value.slice none 0 0).cells n ++ Builtin.zeroCells (Value.slice none 0 0).cells (grownCap w n 0 22 - n)) 22)) := fun ty => by
    have h := Lib.run_append_grow_zeros w 26 3 ty 22 i0 (.slice none 0 0) .i64 .i64 Try.underlying26 Try.underlying3 hi0 hz0 none 0 0 [] hold n h0 (by omega) (by omega) (by omega) (by rw [hz2]; omega)
      (growslice_fits (by omega) (by rw [hz2]; omega))
    rw [Nat.zero_add] at h
    exact h
  have hGn := grownCap_ge w n 0 22
  have hGm := grownCap_le_maxLen w n 0 22 (by unfold maxLen; omega)
  generalize grownCap w n 0 22 = G at hrz hGn hGm
  have hG63 : G ≤ 9223372036854775807 := by unfold maxLen at hGm; omega
  have HM := Lib.hid hGm
  obtain ⟨Z, hZ⟩ : ∃ Z, Hid (([] : List Value).toArray ++ Builtin.zeroCells (Value.slice none 0 0).cells n ++ Builtin.zeroCells (Value.slice none 0 0).cells (G - n) = Z) := ⟨_, Lib.hid rfl⟩
  rw [hZ.out] at hrz
  have hZs : Z.size = G * 1 := by
    rw [← hZ.out]
    simp [size_zeroCells, Value.cells]
    omega
  have HO := Lib.hid (World.ownsRow_made (base := w.heap.size) (e := 22) (size := 1) w.drew Z G (Nat.le_refl _) HM.out hZs)
  have hb := ((Below.refl w.heap.size w).drew).alloc (Nat.le_refl _) (.cells Z 22)
  have q0 : ¬ (n : Int) < 0 := by omega
  clear hold hZs hZ hGm
  go_enter Try.func94, Try.ntmps94
  go_wp2_with (at_builtin; refine Lib.wpList_append_run _ rfl _ _ _ _ rfl _ _ rfl rfl _ _ (hrz _) ?_)
  go_ret
  exact ⟨_, rfl, HO.out, hb⟩
end Go.Proofs.Ytoohfbgbhjadgaa
