import Derived.Test.YtfilpmmimpkfmabDoorChaC
import Derived.Test.YtfilpmmimpkfmabDoorLaw
import Derived.LaidMore
import Derived.OpenShut
import Derived.Stop.Joined
namespace Go.Proofs.YtfilpmmimpkfmabDoor
open Go.ChangeShapes Go.WideShapes Go.ChangeAt Go.WideMaps Go.WideElems Go.RowKit

theorem gCh : Tryd.prog.globalNamed "compline/chart.words" = some 0 := by kernel_rfl
theorem tCh : (Tryd.prog.globals[0]?).map (·.type) = some 55 := by kernel_rfl

theorem door_metC (os : Os) (args : Array Value) : laidMetH Tryd.prog [("math/bits.deBruijn32tab", Rows.laid_math_bits_deBruijn32tab), ("math/bits.deBruijn64tab", Rows.laid_math_bits_deBruijn64tab), ("internal/strconv.uint64pow10", Rows.laid_internal_strconv_uint64pow10), ("compline/chart.words", Rows.laid_compline_chart_words)] ((World.doorLaid Tryd.prog 400 os).forCall (fun _ _ => 0) ⟨#[], args, []⟩).memory :=
  laidMetH_of_parts3 (fuel := 8) (laidMet_of_run' 8 (by kernel_rfl) (by kernel_rfl)) (by kernel_rfl) (by kernel_rfl)

theorem str_atC {H : Type} {enc : TypeId × Value → H} {W : World} {b : Nat} {spare : Nat → Bool} {held : Bool} {m : Nat} {cs : Array Value} {i : Nat} {x : DataW H × List MemPlace}
    (h : DataW.trod enc Tryd.prog W b spare held m 9 ((cs.toList.drop (i * 1)).take 1) = some x) (bs : List UInt8) (hx : x.1 = .lit (.string bs)) : cs[i]? = some (.string ⟨bs.toArray⟩) := by
  obtain ⟨s, e1, e2, _⟩ := DataW.trod_string Tryd.underlying9 h
  rw [e2] at hx
  simp only [DataW.lit.injEq, Lit.string.injEq] at hx
  obtain ⟨s⟩ := s
  have e3 := congrArg (fun l : List Value => l[0]?) e1
  subst hx
  simpa using e3

theorem of_laidC {W : World} (h : laidMetH Tryd.prog [("math/bits.deBruijn32tab", Rows.laid_math_bits_deBruijn32tab), ("math/bits.deBruijn64tab", Rows.laid_math_bits_deBruijn64tab), ("internal/strconv.uint64pow10", Rows.laid_internal_strconv_uint64pow10), ("compline/chart.words", Rows.laid_compline_chart_words)] W) : ChOk W := by
  rw [MakeChecks.laidMetH_plain _ _ _ (by kernel_rfl)] at h
  obtain ⟨ps, ⟨_, _, _, _, _, _, _, _, _, _, ⟨_, _, _, _, _, _, _, _, _, _, ⟨_, _, _, _, _, _, _, _, _, _, ⟨g0, t0, cs0, f0, p0, q0, hg0, ht0, hv0, hd0, _, _⟩, _⟩, _⟩, _⟩, _, _⟩ := h
  obtain rfl := Option.some.inj (gCh.symm.trans hg0)
  obtain rfl := Option.some.inj (tCh.symm.trans ht0)
  obtain ⟨xs, m1, rfl, hx1, hlen, hn3, hel⟩ := DataW.trod_array Tryd.underlying55 hd0
  have c9 : Tryd.prog.cellsOf 9 = 1 := by kernel_rfl
  rw [c9] at hel
  simp only [Prod.mk.injEq, Rows.laid_compline_chart_words, DataW.agg.injEq] at hx1
  match xs, hn3, hx1, hel with
  | [x0, x1, x2, x3, x4, x5, x6, x7, x8, x9], _, hx1, hel =>
    simp only [List.map_cons, List.map_nil, List.cons.injEq, and_true] at hx1
    obtain ⟨⟨a0, a1, a2, a3, a4, a5, a6, a7, a8, a9⟩, _⟩ := hx1
    have k9 := (World.var?_cell hg0 hv0 9).trans (str_atC (hel 9 (by decide)) _ a9.symm)
    exact ⟨k9, World.block_lt_of_cell? _ _ k9⟩
end Go.Proofs.YtfilpmmimpkfmabDoor
