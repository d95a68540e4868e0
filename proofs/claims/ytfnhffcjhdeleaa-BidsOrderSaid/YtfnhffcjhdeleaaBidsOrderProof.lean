/-
  BidsOrder answers true for every input: who sees the bids in their order cannot tell how those of unlike prices came.
-/
import Derived.Test.YtfnhffcjhdeleaaBidZ
import Derived.Test.YtfnhffcjhdeleaaOpenCf
namespace Go.Proofs.Ytfnhffcjhdeleaa
open Go.ChangeShapes Go.WideShapes Go.ChangeAt Go.RowKit Go.Deep

theorem bidl_flat : flatOf Try.prog 3 103 = some [.i64, .i64, .i64, .i64, .i64] := by kernel_rfl
theorem bidl_cellsOf : Try.prog.cellsOf 103 = 5 := by kernel_rfl
theorem okBidL {zs : List Int} (h : IntsOk [.i64, .i64, .i64, .i64, .i64] zs) : ∃ t : BidV, intVals [.i64, .i64, .i64, .i64, .i64] zs = t.cells ∧ True := by
  match zs, h with
  | [a, b, c, d, e], h => exact ⟨⟨a, b, c, d, e⟩, rfl, trivial⟩

set_option maxRecDepth 100000 in
theorem bidsOrder_lifted (os : Os) (started : os.Started) (H : Type) (enc : TypeId × Value → H) :
    ReturnsInHanded {} Try.checked os 11 .any (Rows.bidsOrderSpec.pre6 enc Try.prog Try.f11 Rows.bidsOrderRow.domain false) (Rows.bidsOrderSpec.post enc Try.prog Try.f11 false true false false) := by
  refine returnsInHanded_of_change (C := Try.checked) Try.own started (by kernel_rfl) Try.func11
    (ChangeSpec.witness6 (enc := enc) (C := Try.checked) false ⟨#[], #[.agg #[.slice none 0 0, .slice none 0 0, .slice none 0 0, .int .i64 0, .int .i64 0, .int .i64 0, .int .i64 0, .int .i64 0], .slice none 0 0, .agg #[.int .i64 0, .int .i64 0]], []⟩ 8 (by kernel_rfl) (by kernel_rfl) (by kernel_rfl) (by kernel_rfl)) ?_
  intro W base args ds gs before hval0 hW hcnd _
  have hval : ∀ (j : Nat) t v, Try.f11.params[j]? = some t → args[j]? = some v → Value.okWide Try.prog W .any base t v := hval0
  have hW' := hW
  obtain ⟨p, q, hA0, hV, rfl, hfz, hnd⟩ := hW
  have hA : DataW.TrodAll enc Try.prog W 0 (fun _ => true) true Try.f11.params.toList args.toList ds p := hA0
  rw [Try.params11] at hA hval
  obtain ⟨v0, vs0, d0, ds0, p0, q0, hargs, rfl, rfl, h0, r0⟩ := trodAll_cons hA
  obtain ⟨v1, vs1, d1, ds1, p1, q1, rfl, rfl, rfl, h1, r1⟩ := trodAll_cons r0
  obtain ⟨v2, vs2, d2, ds2, p2, q2, rfl, rfl, rfl, h2, r2⟩ := trodAll_cons r1
  obtain ⟨rfl, rfl, rfl⟩ := trodAll_nil r2
  obtain rfl : args = #[v0, v1, v2] := by cases args; simp_all
  obtain ⟨arr0, rfl, hsz0⟩ := okWide_struct cfg_under (hval 0 89 v0 rfl rfl)
  obtain ⟨fuel0, hf0⟩ := h0
  obtain ⟨A1, A2, A3, n1, n2, n3, cp1, cp2, cp3, cf, hcs0, hr1, hr2, hr3, gcf⟩ := open_cfg hf0
  obtain rfl : arr0 = #[.slice A1 n1 cp1, .slice A2 n2 cp2, .slice A3 n3 cp3, .int .i64 cf.line, .int .i64 cf.capital, .int .i64 cf.lead, .int .i64 cf.trades, .int .i64 cf.bids] := by
    apply Array.ext'; simpa [Value.cells] using hcs0
  obtain ⟨a1, len1, cap1, rfl⟩ := okWide_slice Try.underlying99 (hval 1 99 v1 rfl rfl)
  obtain ⟨fuel1, hf1⟩ := h1
  obtain ⟨A_ml, len_ml, cap_ml, ml, hcs1, hlc_ml, hcm_ml, hl_ml, g_ml, rd_ml⟩ := open_flat_list BidV.cells (fun _ => True) Try.underlying99 bidl_flat bidl_cellsOf (by decide) (fun _ => okBidL) hf1
  have hcs1' : (Value.slice a1 len1 cap1) = .slice A_ml len_ml cap_ml := by simpa [Value.cells] using hcs1
  injection hcs1' with e1_1 e2_1 e3_1
  subst e1_1; subst e2_1; subst e3_1
  obtain ⟨arr2, rfl, hsz2⟩ := okWide_array Try.underlying100 (hval 2 100 v2 rfl rfl)
  obtain ⟨fuel2, hf2⟩ := h2
  obtain ⟨zs2, hcs2, hok2⟩ := flatOf_open 3 100 [.i64, .i64] fuel2 _ _ (by kernel_rfl) hf2
  obtain ⟨x0, x1, rfl⟩ : ∃ a b, zs2 = [a, b] := by
    match zs2, hok2.1 with
    | [a, b], _ => exact ⟨a, b, rfl⟩
  obtain rfl : arr2 = #[.int .i64 x0, .int .i64 x1] := by
    apply Array.ext'; simpa [Value.cells, intVals] using hcs2
  have key : Calls Try.prog 11 #[.agg #[.slice A1 n1 cp1, .slice A2 n2 cp2, .slice A3 n3 cp3, .int .i64 cf.line, .int .i64 cf.capital, .int .i64 cf.lead, .int .i64 cf.trades, .int .i64 cf.bids], .slice a1 len1 cap1, .agg #[.int .i64 x0, .int .i64 x1]] W fun e w' => e = .returned (.bool true) ∧ Below W.heap.size W w' := by
    by_cases hfew : fewB n1 n2 n3 = true ∧ wrongK cf = 8 ∧ len1 ≤ 30
    · obtain ⟨hfew, hk8, hn30⟩ := hfew
      have h20 : n1 ≤ 20 ∧ n2 ≤ 20 ∧ n3 ≤ 20 := by simpa [fewB] using hfew
      have hcf : CfRd W A1 n1 A2 n2 A3 n3 cf := ⟨hr1, hr2, hr3, by omega, by omega, by omega⟩
      exact bidsOrder_few A1 A2 A3 n1 n2 n3 cp1 cp2 cp3 cf a1 len1 cap1 ml x0 x1 W hcf rd_ml hfew hn30 hk8
    · exact bidsOrder_many A1 A2 A3 n1 n2 n3 cp1 cp2 cp3 cf a1 len1 cap1 x0 x1 W hfew (fun h => by
        have h20 : n1 ≤ 20 ∧ n2 ≤ 20 ∧ n3 ≤ 20 := by simpa [fewB] using h
        exact ⟨hr1, hr2, hr3, by omega, by omega, by omega⟩)
  refine key.mono fun e W' ⟨he, hb⟩ => ⟨_, he, ?_⟩
  exact law_post (tb := 4) Try.laidOut (by kernel_rfl) rfl Try.underlying4 rfl hW' (by obtain ⟨rfl, rfl⟩ := trodVars_none hV; rfl) hb

theorem bidsOrder_holds : Rows.BidsOrderSaid :=
  OpenClaim.holds_of_wide 11 Try.f11 rfl rfl rfl rfl rfl rfl rfl ⟨rfl, rfl, rfl, rfl, rfl⟩ rfl rfl rfl rfl rfl (by kernel_rfl) Try.func11 (by kernel_rfl)
    (of_decide_eq_true (by kernel_rfl)) (by unfold Func.isWrapper; first | (rw [if_pos (by decide +kernel)]; kernel_rfl) | (rw [if_neg (by decide +kernel)]; exact ⟨rfl, rfl⟩))
    (fun os started H enc _ => bidsOrder_lifted os started H enc)

end Go.Proofs.Ytfnhffcjhdeleaa
