import Derived.Test.YtfedjgblgnkbcaaDoorRepE
import Derived.Test.YtfedjgblgnkbcaaDoorLaw
import Derived.Lib.LaidTab
import Derived.Stop.LaidErr
import Derived.LaidMore
import Derived.OpenShut
import Derived.Stop.Joined
namespace Go.Proofs.YtfedjgblgnkbcaaDoor
open Go.ChangeShapes Go.WideShapes Go.ChangeAt Go.WideMaps Go.WideElems Go.RowKit

theorem gRp : Tryd.prog.globalNamed "compline/report.words" = some 0 := by kernel_rfl
theorem tRp : (Tryd.prog.globals[0]?).map (·.type) = some 43 := by kernel_rfl
theorem gPw : Tryd.prog.globalNamed "internal/strconv.uint64pow10" = some 2 := by kernel_rfl
theorem tPw : (Tryd.prog.globals[2]?).map (·.type) = some 64 := by kernel_rfl

theorem door_metR (os : Os) (args : Array Value) : laidMetH Tryd.prog [("math/bits.deBruijn32tab", Rows.laid_math_bits_deBruijn32tab), ("math/bits.deBruijn64tab", Rows.laid_math_bits_deBruijn64tab), ("internal/strconv.uint64pow10", Rows.laid_internal_strconv_uint64pow10), ("compline/report.words", Rows.laid_compline_report_words)] ((World.doorLaid Tryd.prog 400 os).forCall (fun _ _ => 0) ⟨#[], args, []⟩).memory :=
  laidMetH_of_parts3 (fuel := 8) (laidMet_of_run' 8 (by kernel_rfl) (by kernel_rfl)) (by kernel_rfl) (by kernel_rfl)

theorem pw_data {H : Type} : (Rows.laid_internal_strconv_uint64pow10 : DataW H) = Lib.tabData .u64 Lib.pow10Tab := by
  have : Lib.pow10Tab = [1, 10, 100, 1000, 10000, 100000, 1000000, 10000000, 100000000, 1000000000, 10000000000, 100000000000, 1000000000000, 10000000000000, 100000000000000, 1000000000000000, 10000000000000000, 100000000000000000, 1000000000000000000, 10000000000000000000] := by decide
  rw [this]
  rfl

theorem str_atR {H : Type} {enc : TypeId × Value → H} {W : World} {b : Nat} {spare : Nat → Bool} {held : Bool} {m : Nat} {cs : List Value} {i : Nat} {x : DataW H × List MemPlace}
    (h : DataW.trod enc Tryd.prog W b spare held m 9 ((cs.drop (i * 1)).take 1) = some x) (bs : List UInt8) (hx : x.1 = .lit (.string bs)) : cs[i]? = some (.string ⟨bs.toArray⟩) := by
  obtain ⟨s, e1, e2, _⟩ := DataW.trod_string Tryd.underlying9 h
  rw [e2] at hx
  simp only [DataW.lit.injEq, Lit.string.injEq] at hx
  obtain ⟨s⟩ := s
  have e3 := congrArg (fun l : List Value => l[0]?) e1
  subst hx
  simpa using e3

theorem of_laidR {W : World} (h : laidMetH Tryd.prog [("math/bits.deBruijn32tab", Rows.laid_math_bits_deBruijn32tab), ("math/bits.deBruijn64tab", Rows.laid_math_bits_deBruijn64tab), ("internal/strconv.uint64pow10", Rows.laid_internal_strconv_uint64pow10), ("compline/report.words", Rows.laid_compline_report_words)] W) : RpOk W := by
  rw [MakeChecks.laidMetH_plain _ _ _ (by kernel_rfl)] at h
  have h3 := h.tail.tail
  rw [pw_data] at h3
  have hT : TabOk W := Lib.tabIs_of_head gPw tPw Tryd.underlying64 Tryd.underlying51 (by kernel_rfl) (by kernel_rfl) h3
  obtain ⟨ps, ⟨g0, t0, cs0, f0, p0, q0, hg0, ht0, hv0, hd0, _, _⟩, _⟩ := h3.tail
  obtain rfl := Option.some.inj (gRp.symm.trans hg0)
  obtain rfl := Option.some.inj (tRp.symm.trans ht0)
  obtain ⟨xs, m1, rfl, hx1, hlen, hn3, hel⟩ := DataW.trod_array Tryd.underlying43 hd0
  have cw : Tryd.prog.cellsOf 42 = 2 := by kernel_rfl
  have c9 : Tryd.prog.cellsOf 9 = 1 := by kernel_rfl
  rw [cw] at hel
  simp only [Prod.mk.injEq, Rows.laid_compline_report_words, DataW.agg.injEq] at hx1
  obtain ⟨x5, e5, v5⟩ : ∃ x5, xs[5]? = some x5 ∧ x5.1 = .agg [.lit (.string [112, 97, 105, 100]), .lit (.string [109, 97, 110])] := by
    have h := congrArg (fun l : List (DataW Unit) => l[5]?) hx1.1
    simp only [List.getElem?_map, List.getElem?_cons_succ, List.getElem?_cons_zero] at h
    obtain ⟨x5, e5, v5⟩ := Option.map_eq_some_iff.1 h.symm
    exact ⟨x5, e5, v5⟩
  have h5 := hel 5 (by decide)
  rw [e5] at h5
  obtain ⟨ys, m2, rfl, hy, _, hn2, hey⟩ := DataW.trod_array Tryd.underlying42 h5
  rw [c9] at hey
  match ys, hn2, hy, hey with
  | [y0, y1], _, hy, hey =>
    rw [hy] at v5
    simp only [List.map_cons, List.map_nil, DataW.agg.injEq, List.cons.injEq, and_true] at v5
    have k0 := str_atR (hey 0 (by decide)) _ v5.1
    have k1 := str_atR (hey 1 (by decide)) _ v5.2
    have j0 : cs0[10]? = some (.string ⟨#[112, 97, 105, 100]⟩) := by simpa [List.getElem?_take, List.getElem?_drop] using k0
    have j1 : cs0[11]? = some (.string ⟨#[109, 97, 110]⟩) := by simpa [List.getElem?_take, List.getElem?_drop] using k1
    have m0 := (World.var?_cell hg0 hv0 10).trans j0
    have m1 := (World.var?_cell hg0 hv0 11).trans j1
    exact ⟨hT, m0, m1, World.block_lt_of_cell? _ _ m0⟩
end Go.Proofs.YtfedjgblgnkbcaaDoor
