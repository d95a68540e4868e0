/-
  ReportLines answers true for every input: the lines of any obligation, and of any answer.
-/
import Derived.Test.YtfedjgblgnkbcaaDoorRepF
import Derived.Test.YtfedjgblgnkbcaaDoorLaidR
import Derived.Test.YtfedjgblgnkbcaaDoorLaw
import Derived.Test.YtfedjgblgnkbcaaDoorCards
import Derived.Test.YtfedjgblgnkbcaaDoorTie
import Derived.SevenTiedAt
namespace Go.Proofs.YtfedjgblgnkbcaaDoor
open Go.ChangeShapes Go.WideShapes Go.ChangeAt Go.RowKit Go.Deep

theorem obl_flat : flatOf Tryd.prog 3 23 = some [.i64, .i64, .i64, .i64, .i64, .i64] := by kernel_rfl
theorem obl_under : Tryd.prog.underlying 23 = some (.struct (Tryd.prog.fieldsOf 23)) := by kernel_rfl
structure ObT where
  (c m a n d s : Int)
theorem okObl {zs : List Int} (h : IntsOk [.i64, .i64, .i64, .i64, .i64, .i64] zs) : ∃ t : ObT, intVals [.i64, .i64, .i64, .i64, .i64, .i64] zs = [.int .i64 t.c, .int .i64 t.m, .int .i64 t.a, .int .i64 t.n, .int .i64 t.d, .int .i64 t.s] ∧ (inI t.c ∧ inI t.m ∧ inI t.a ∧ inI t.n ∧ inI t.d) := by
  match zs, h with
  | [a, b, c, d, e, f], h => exact ⟨⟨a, b, c, d, e, f⟩, rfl, wf_bd (h.2 0 _ _ rfl rfl), wf_bd (h.2 1 _ _ rfl rfl), wf_bd (h.2 2 _ _ rfl rfl), wf_bd (h.2 3 _ _ rfl rfl), wf_bd (h.2 4 _ _ rfl rfl)⟩
theorem ans_flat : flatOf Tryd.prog 3 26 = some [.i64, .i64] := by kernel_rfl
theorem ans_under : Tryd.prog.underlying 26 = some (.struct (Tryd.prog.fieldsOf 26)) := by kernel_rfl
theorem okAns {zs : List Int} (h : IntsOk [.i64, .i64] zs) : ∃ t : Int × Int, intVals [.i64, .i64] zs = [.int .i64 t.1, .int .i64 t.2] ∧ inI t.2 := by
  match zs, h with
  | [a, b], h => exact ⟨⟨a, b⟩, rfl, wf_bd (h.2 1 _ _ rfl rfl)⟩

set_option maxRecDepth 100000 in
theorem reportLines_lifted (os : Os) (started : os.Started) (H : Type) (enc : TypeId × Value → H) :
    ReturnsInHanded {} Tryd.checked os 3 .any (fun w args => (Rows.reportLinesSpec.pre enc Tryd.prog Tryd.f3 [] false w args ∧ laidMetH Tryd.prog [("math/bits.deBruijn32tab", Rows.laid_math_bits_deBruijn32tab), ("math/bits.deBruijn64tab", Rows.laid_math_bits_deBruijn64tab), ("internal/strconv.uint64pow10", Rows.laid_internal_strconv_uint64pow10), ("compline/report.words", Rows.laid_compline_report_words)] w) ∧ sizedMet enc Tryd.prog Tryd.f3 (OpenSpec.ofChange Rows.reportLinesSpec) false w args) (Rows.reportLinesSpec.post enc Tryd.prog Tryd.f3 false true false false) := by
  refine returnsInHanded_of_change_and (C := Tryd.checked) (X := fun w _ => laidMetH Tryd.prog [("math/bits.deBruijn32tab", Rows.laid_math_bits_deBruijn32tab), ("math/bits.deBruijn64tab", Rows.laid_math_bits_deBruijn64tab), ("internal/strconv.uint64pow10", Rows.laid_internal_strconv_uint64pow10), ("compline/report.words", Rows.laid_compline_report_words)] w) (fun _ _ _ hh h => h.of_heap hh) Tryd.own started (by kernel_rfl) Tryd.func3
    (ChangeSpec.witness_shaped (enc := enc) (C := Tryd.checked) (os := os) (X := fun w _ => laidMetH Tryd.prog [("math/bits.deBruijn32tab", Rows.laid_math_bits_deBruijn32tab), ("math/bits.deBruijn64tab", Rows.laid_math_bits_deBruijn64tab), ("internal/strconv.uint64pow10", Rows.laid_internal_strconv_uint64pow10), ("compline/report.words", Rows.laid_compline_report_words)] w) false (World.doorLaid Tryd.prog 400 os) #[.agg #[.int .i64 0, .int .i64 0, .int .i64 0, .int .i64 0, .int .i64 0, .int .i64 0], .agg #[.int .i64 0, .int .i64 0]] 8 rfl (World.shaped_of_RefB (by kernel_rfl) (by kernel_rfl)) (by kernel_rfl) (by kernel_rfl) (by kernel_rfl) (door_metR os _)) ?_
  intro W base args ds gs before hval0 hW _ _ hL _
  have hval : ∀ (j : Nat) t v, Tryd.f3.params[j]? = some t → args[j]? = some v → Value.okWide Tryd.prog W .any base t v := hval0
  have hW' := hW
  obtain ⟨p, q, hA0, hV, rfl, hfz, hnd⟩ := hW
  have hA : DataW.TrodAll enc Tryd.prog W 0 (fun _ => true) true Tryd.f3.params.toList args.toList ds p := hA0
  rw [Tryd.params3] at hA hval
  obtain ⟨v0, vs0, d0, ds0, p0, q0, hargs, rfl, rfl, h0, r0⟩ := trodAll_cons hA
  obtain ⟨v1, vs1, d1, ds1, p1, q1, rfl, rfl, rfl, h1, r1⟩ := trodAll_cons r0
  obtain ⟨rfl, rfl, rfl⟩ := trodAll_nil r1
  obtain rfl : args = #[v0, v1] := by cases args; simp_all
  obtain ⟨arr0, rfl, hsz0⟩ := okWide_struct obl_under (hval 0 23 v0 rfl rfl)
  obtain ⟨fuel0, hf0⟩ := h0
  obtain ⟨zs0, hcs0, hok0⟩ := flatOf_open 3 23 _ fuel0 _ _ obl_flat hf0
  obtain ⟨x, hx0, g_x⟩ := okObl hok0
  obtain rfl : arr0 = #[.int .i64 x.c, .int .i64 x.m, .int .i64 x.a, .int .i64 x.n, .int .i64 x.d, .int .i64 x.s] := by
    apply Array.ext'; rw [hx0] at hcs0; simpa [Value.cells] using hcs0
  obtain ⟨arr1, rfl, hsz1⟩ := okWide_struct ans_under (hval 1 26 v1 rfl rfl)
  obtain ⟨fuel1, hf1⟩ := h1
  obtain ⟨zs1, hcs1, hok1⟩ := flatOf_open 3 26 _ fuel1 _ _ ans_flat hf1
  obtain ⟨y, hx1, g_y⟩ := okAns hok1
  obtain rfl : arr1 = #[.int .i64 y.1, .int .i64 y.2] := by
    apply Array.ext'; rw [hx1] at hcs1; simpa [Value.cells] using hcs1
  have hwd := of_laidR hL
  have key : Calls Tryd.prog 3 #[.agg #[.int .i64 x.c, .int .i64 x.m, .int .i64 x.a, .int .i64 x.n, .int .i64 x.d, .int .i64 x.s], .agg #[.int .i64 y.1, .int .i64 y.2]] W fun e w' => e = .returned (.bool true) ∧ Below W.heap.size W w' := by
    exact reportLines_any x.c x.m x.a x.n x.d x.s y.1 y.2 g_x.1 g_x.2.1 g_x.2.2.1 g_x.2.2.2.1 g_x.2.2.2.2 g_y W hwd
  refine key.mono fun e W' ⟨he, hb⟩ => ⟨_, he, ?_⟩
  exact law_post (tb := 4) Tryd.laidOut (by kernel_rfl) rfl Tryd.underlying4 rfl hW' (by obtain ⟨rfl, rfl⟩ := trodVars_none hV; rfl) hb

theorem reportLines_holds : Rows.ReportLinesSaid :=
  OpenClaim.holds_of_wide 3 Tryd.f3 rfl rfl rfl rfl rfl rfl rfl ⟨rfl, rfl, rfl, rfl, rfl⟩ rfl rfl rfl rfl rfl (by kernel_rfl) Tryd.func3 (by kernel_rfl)
    (of_decide_eq_true (by kernel_rfl)) (by unfold Func.isWrapper; first | (rw [if_pos (by decide +kernel)]; kernel_rfl) | (rw [if_neg (by decide +kernel)]; exact ⟨rfl, rfl⟩))
    (fun os started H enc _ => reportLines_lifted os started H enc)

theorem reportLines_card : Rows.ReportLinesCardSaid :=
  Claim7.holds_tied_plain_at .later [] [.data, .data, .data, .data] true (true, "237f7a0687f4a1d422b7dee24fffc93ea8e6adc7fde2bb3b3a646dee6ee1998e") false
    reportLines_holds (fun _ h => by cases h) (by kernel_rfl) (fun _ h => by cases h) reportLines_row_tie rfl ⟨rfl, rfl⟩ (by kernel_rfl) rfl
    (fun f fn hf hfn => by
      obtain rfl : f = 3 := Option.some.inj ((show Tryd.prog.funcNamed "compline/complinelaw36.ReportLines" = some 3 by kernel_rfl).symm.trans hf) |>.symm
      obtain rfl : fn = Tryd.f3 := (Option.some.inj (Tryd.func3.symm.trans hfn)).symm
      exact ⟨by kernel_rfl, fun j t ht => by
        rw [Tryd.params3] at ht
        have hm : t ∈ [23, 26] := by simpa using Array.mem_of_getElem? ht
        have hall : ([23, 26].all fun u => !Tryd.prog.wantsStandIn u) = true := by kernel_rfl
        exact (show Tryd.prog.wantsStandIn t = false by simpa using List.all_eq_true.1 hall t hm)⟩)
    (by kernel_rfl)

end Go.Proofs.YtfedjgblgnkbcaaDoor
