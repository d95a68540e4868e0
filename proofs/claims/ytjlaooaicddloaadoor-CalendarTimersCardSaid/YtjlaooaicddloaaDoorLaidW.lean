import Derived.Test.YtjlaooaicddloaaDoorCalA
import Derived.Test.YtjlaooaicddloaaDoorLaw
import Derived.LaidMore
import Derived.OpenShut
import Derived.Stop.Joined
namespace Go.Proofs.YtjlaooaicddloaaDoor
open Go.ChangeShapes Go.WideShapes Go.ChangeAt Go.WideMaps Go.WideElems Go.RowKit

theorem gWords : Tryd.prog.globalNamed "compline/calendar.words" = some 0 := by kernel_rfl
theorem tWords : (Tryd.prog.globals[0]?).map (·.type) = some 61 := by kernel_rfl

theorem door_met (os : Os) (args : Array Value) : laidMetH Tryd.prog [("compline/calendar.words", Rows.laid_compline_calendar_words)] ((World.doorLaid Tryd.prog 400 os).forCall (fun _ _ => 0) ⟨#[], args, []⟩).memory :=
  laidMetH_of_parts3 (fuel := 8) (laidMet_of_run' 8 (by kernel_rfl) (by kernel_rfl)) (by kernel_rfl) (by kernel_rfl)

theorem str_at {H : Type} {enc : TypeId × Value → H} {W : World} {b : Nat} {spare : Nat → Bool} {held : Bool} {m : Nat} {cs : Array Value} {i : Nat} {x : DataW H × List MemPlace}
    (h : DataW.trod enc Tryd.prog W b spare held m 9 ((cs.toList.drop (i * 1)).take 1) = some x) (bs : List UInt8) (hx : x.1 = .lit (.string bs)) : cs[i]? = some (.string ⟨bs.toArray⟩) := by
  obtain ⟨s, e1, e2, _⟩ := DataW.trod_string Tryd.underlying9 h
  rw [e2] at hx
  simp only [DataW.lit.injEq, Lit.string.injEq] at hx
  obtain ⟨s⟩ := s
  have e3 := congrArg (fun l : List Value => l[0]?) e1
  subst hx
  simpa using e3

theorem of_laid {W : World} (h : laidMetH Tryd.prog [("compline/calendar.words", Rows.laid_compline_calendar_words)] W) : WdOk W := by
  rw [MakeChecks.laidMetH_plain _ _ _ (by kernel_rfl)] at h
  obtain ⟨ps, ⟨g0, t0, cs0, f0, p0, q0, hg0, ht0, hv0, hd0, _, _⟩, _, _⟩ := h
  obtain rfl := Option.some.inj (gWords.symm.trans hg0)
  obtain rfl := Option.some.inj (tWords.symm.trans ht0)
  obtain ⟨xs, m1, rfl, hx1, hlen, hn3, hel⟩ := DataW.trod_array Tryd.underlying61 hd0
  have c9 : Tryd.prog.cellsOf 9 = 1 := by kernel_rfl
  rw [c9] at hel
  simp only [Prod.mk.injEq, Rows.laid_compline_calendar_words, DataW.agg.injEq] at hx1
  match xs, hn3, hx1, hel with
  | [x0, x1, x2, x3, x4, x5], _, hx1, hel =>
    simp only [List.map_cons, List.map_nil, List.cons.injEq, and_true] at hx1
    obtain ⟨⟨a0, a1, a2, a3, a4, a5⟩, _⟩ := hx1
    have k0 := (World.var?_cell hg0 hv0 0).trans (str_at (hel 0 (by decide)) _ a0.symm)
    have k1 := (World.var?_cell hg0 hv0 1).trans (str_at (hel 1 (by decide)) _ a1.symm)
    have k2 := (World.var?_cell hg0 hv0 2).trans (str_at (hel 2 (by decide)) _ a2.symm)
    have k3 := (World.var?_cell hg0 hv0 3).trans (str_at (hel 3 (by decide)) _ a3.symm)
    have k4 := (World.var?_cell hg0 hv0 4).trans (str_at (hel 4 (by decide)) _ a4.symm)
    have k5 := (World.var?_cell hg0 hv0 5).trans (str_at (hel 5 (by decide)) _ a5.symm)
    exact ⟨k0, k1, k2, k3, k4, k5, World.block_lt_of_cell? _ _ k0⟩
end Go.Proofs.YtjlaooaicddloaaDoor
