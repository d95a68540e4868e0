import Derived.Test.YtjlaooaicddloaaDoorCalF
import Derived.Test.YtjlaooaicddloaaDoorCalD
namespace Go.Proofs.YtjlaooaicddloaaDoor
open Go.RowKit

/-- How many ticks there are till the end. -/
def leftI (L t : Int) : Int := if t ≤ 0 then L else if t ≤ L then L - t else 0
def leftC (cf : Conf) (t : Int) : Int := if wrongK cf = 8 then leftI (lastC cf) t else 0
theorem lastC_bd {cf : Conf} (h : wrongK cf = 8) : 0 ≤ lastC cf ∧ lastC cf ≤ 1000 := by
  obtain ⟨h1, h2, h3⟩ := cycs_of_ok h
  have hx : cf.cycles[cf.cycles.length - 1]? = some cf.cycles[cf.cycles.length - 1] := List.getElem?_eq_getElem (by omega)
  have e := close_succ hx
  rw [List.take_of_length_le (by omega)] at e
  have := cyc_at h1 hx
  have := close_nn h1 (cf.cycles.length - 1)
  rw [lastC, e]
  omega

end Go.Proofs.YtjlaooaicddloaaDoor
