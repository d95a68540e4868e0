import Derived.Test.YtjlaooaicddloaaDoorCalG
namespace Go.Proofs.YtjlaooaicddloaaDoor
open Go.RowKit

theorem atC_ok {cf : Conf} (t : Int) (h : wrongK cf = 8) : atC cf t = ((refAtC cf t).1, (refAtC cf t).2, 0) := by
  rw [atC, if_pos h, refAtC]
  by_cases c : t < 0
  · rw [if_pos c, if_pos c]
  · rw [if_neg c, if_neg c]
theorem atC_not {cf : Conf} (t : Int) (h : ¬ wrongK cf = 8) : atC cf t = (0, 0, 1) := by rw [atC, if_neg h]
theorem word_ne {k : Nat} (h : ¬ k = 8) (hl : k ≤ 8) : ((word k).toList == []) = false := by rw [word_empty, decide_eq_false (by omega)]

end Go.Proofs.YtjlaooaicddloaaDoor
