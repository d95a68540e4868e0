import Derived.Test.YtjlaooaicddloaaDoorCalI
import Derived.Test.YtjlaooaicddloaaDoorCalH
namespace Go.Proofs.YtjlaooaicddloaaDoor
open Go.RowKit

/-- From one tick to the next, whatever the tick. -/
theorem rises {cf : Conf} (h8 : wrongK cf = 8) (t : Int) : ∃ a b s u M D : Int, refAtC cf t = (a, s) ∧ refAtC cf (t + 1) = (b, u) ∧ dueL (t + 1) cf.cycles = (M, D) ∧ 0 ≤ a ∧ a ≤ 1000 ∧
    ((a = b ∧ ((s = u ∧ ¬ 0 < M ∧ ¬ t + 1 = 0) ∨ (s < u ∧ (0 < M ∨ (¬ 0 < M ∧ t + 1 = 0))))) ∨ (a + 1 = b ∧ 0 < M)) := by
  obtain ⟨h1, h2, h3⟩ := cycs_of_ok h8
  have hM := dueL_cnt (t + 1) cf.cycles
  have hbd := cntL_bd (t + 1) cf.cycles
  by_cases d1 : t + 1 < 0
  · refine ⟨0, 0, 0, 0, (dueL (t + 1) cf.cycles).1, (dueL (t + 1) cf.cycles).2, by rw [refAtC, if_pos (by omega)], by rw [refAtC, if_pos d1], rfl, by omega, by omega, Or.inl ⟨rfl, Or.inl ⟨rfl, ?_, by omega⟩⟩⟩
    rw [hM]
    intro hp
    obtain ⟨j, y, hy, hc⟩ := cntL_pos.1 hp
    have := cntX_pos.1 hc
    have := cyc_at h1 hy
    have := close_nn h1 j
    omega
  · by_cases d2 : t + 1 = 0
    · have e := (Stand.start h1 h2 (0 : Nat)).done
      refine ⟨0, 0, 0, 1, (dueL (t + 1) cf.cycles).1, (dueL (t + 1) cf.cycles).2, by rw [refAtC, if_pos (by omega)], by rw [refAtC, if_neg d1, d2]; exact e, rfl, by omega, by omega, Or.inl ⟨rfl, Or.inr ⟨by omega, ?_⟩⟩⟩
      by_cases hp : 0 < (dueL (t + 1) cf.cycles).1
      · exact Or.inl hp
      · exact Or.inr ⟨hp, d2⟩
    · obtain ⟨k, rfl⟩ := Int.eq_ofNat_of_zero_le (show 0 ≤ t by omega)
      obtain ⟨a, b, s, u, e1, e2, l1, l2, hh⟩ := rises_nn h1 h2 k
      rw [← hM] at hh
      refine ⟨a, b, s, u, (dueL (k + 1) cf.cycles).1, (dueL (k + 1) cf.cycles).2, by rw [refAtC, if_neg (by omega)]; exact e1, by rw [refAtC, if_neg d1]; exact e2, rfl, by omega, by omega, ?_⟩
      rcases hh with ⟨rfl, hsu, hiff⟩ | ⟨rfl, hp⟩
      · refine Or.inl ⟨rfl, ?_⟩
        by_cases hs : s = u
        · exact Or.inl ⟨hs, fun hp => hiff.2 hp hs, d2⟩
        · exact Or.inr ⟨by omega, Or.inl (hiff.1 hs)⟩
      · exact Or.inr ⟨by omega, hp⟩

end Go.Proofs.YtjlaooaicddloaaDoor
