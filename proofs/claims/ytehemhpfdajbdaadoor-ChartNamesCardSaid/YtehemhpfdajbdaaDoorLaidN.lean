import Derived.Test.YtehemhpfdajbdaaDoorChnB
import Derived.Test.YtehemhpfdajbdaaDoorLaw
import Derived.LaidMore
import Derived.OpenShut
import Derived.Stop.Joined
namespace Go.Proofs.YtehemhpfdajbdaaDoor
open Go.ChangeShapes Go.WideShapes Go.ChangeAt Go.WideMaps Go.WideElems Go.RowKit

theorem gCn : Tryd.prog.globalNamed "compline/chart.words" = some 0 := by kernel_rfl
theorem tCn : (Tryd.prog.globals[0]?).map (·.type) = some 36 := by kernel_rfl
theorem str_atN {H : Type} {enc : TypeId × Value → H} {W : World} {b : Nat} {spare : Nat → Bool} {held : Bool} {m : Nat} {cs : Array Value} {i : Nat} {x : DataW H × List MemPlace}
    (h : DataW.trod enc Tryd.prog W b spare held m 9 ((cs.toList.drop (i * 1)).take 1) = some x) (bs : List UInt8) (hx : x.1 = .lit (.string bs)) : cs[i]? = some (.string ⟨bs.toArray⟩) := by
  obtain ⟨s, e1, e2, _⟩ := DataW.trod_string Tryd.underlying9 h
  rw [e2] at hx
  simp only [DataW.lit.injEq, Lit.string.injEq] at hx
  obtain ⟨s⟩ := s
  have e3 := congrArg (fun l : List Value => l[0]?) e1
  subst hx
  simpa using e3
theorem of_wordsN {W : World} (h : laidMet Tryd.prog [("compline/chart.words", Rows.laid_compline_chart_words)] W) : NaOk W := by
  obtain ⟨ps, ⟨g0, t0, cs0, f0, p0, q0, hg0, ht0, hv0, hd0, _, _⟩, _⟩ := h
  obtain rfl := Option.some.inj (gCn.symm.trans hg0)
  obtain rfl := Option.some.inj (tCn.symm.trans ht0)
  obtain ⟨xs, m1, rfl, hx1, hlen, hn3, hel⟩ := DataW.trod_array Tryd.underlying36 hd0
  have c9 : Tryd.prog.cellsOf 9 = 1 := by kernel_rfl
  rw [c9] at hel
  simp only [Prod.mk.injEq, Rows.laid_compline_chart_words, DataW.agg.injEq] at hx1
  match xs, hn3, hx1, hel with
  | [x0, x1, x2, x3, x4, x5, x6, x7, x8, x9], _, hx1, hel =>
    simp only [List.map_cons, List.map_nil, List.cons.injEq, and_true] at hx1
    obtain ⟨⟨a0, a1, a2, a3, a4, a5, a6, a7, a8, a9⟩, _⟩ := hx1
    have k0 := (World.var?_cell hg0 hv0 0).trans (str_atN (hel 0 (by decide)) _ a0.symm)
    have k1 := (World.var?_cell hg0 hv0 1).trans (str_atN (hel 1 (by decide)) _ a1.symm)
    have k2 := (World.var?_cell hg0 hv0 2).trans (str_atN (hel 2 (by decide)) _ a2.symm)
    have k3 := (World.var?_cell hg0 hv0 3).trans (str_atN (hel 3 (by decide)) _ a3.symm)
    have k4 := (World.var?_cell hg0 hv0 4).trans (str_atN (hel 4 (by decide)) _ a4.symm)
    have k5 := (World.var?_cell hg0 hv0 5).trans (str_atN (hel 5 (by decide)) _ a5.symm)
    have k6 := (World.var?_cell hg0 hv0 6).trans (str_atN (hel 6 (by decide)) _ a6.symm)
    have k7 := (World.var?_cell hg0 hv0 7).trans (str_atN (hel 7 (by decide)) _ a7.symm)
    have k8 := (World.var?_cell hg0 hv0 8).trans (str_atN (hel 8 (by decide)) _ a8.symm)
    have k9 := (World.var?_cell hg0 hv0 9).trans (str_atN (hel 9 (by decide)) _ a9.symm)
    refine ⟨fun k hk => ?_, World.block_lt_of_cell? _ _ k9⟩
    rcases (show k = 0 ∨ k = 1 ∨ k = 2 ∨ k = 3 ∨ k = 4 ∨ k = 5 ∨ k = 6 ∨ k = 7 ∨ k = 8 ∨ k = 9 by omega) with rfl | rfl | rfl | rfl | rfl | rfl | rfl | rfl | rfl | rfl <;> assumption
end Go.Proofs.YtehemhpfdajbdaaDoor
