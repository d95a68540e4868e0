/-
  RegisterBounds answers true for every input: what a member owes and what is accepted stay within bounds, as trades come in and go out.
-/
import Derived.Test.YtelbolhckhdioaaRgM
import Derived.Test.YtelbolhckhdioaaOpenCf
namespace Go.Proofs.Ytelbolhckhdioaa
open Go.ChangeShapes Go.WideShapes Go.ChangeAt Go.RowKit Go.Deep

theorem trdR_flat : flatOf Try.prog 3 87 = some [.i64, .i64, .i64, .i64, .i64, .i64] := by kernel_rfl
theorem trdR_cellsOf : Try.prog.cellsOf 87 = 6 := by kernel_rfl
theorem okTrdR {zs : List Int} (h : IntsOk [.i64, .i64, .i64, .i64, .i64, .i64] zs) : ∃ t : Trad, intVals [.i64, .i64, .i64, .i64, .i64, .i64] zs = trD t ∧ (inI t.qty ∧ inI t.price) := by
  match zs, h with
  | [a, b, c, d, e, f], h => exact ⟨⟨a, b, c, d, e, f⟩, rfl, wf_bd (h.2 4 _ _ rfl rfl), wf_bd (h.2 5 _ _ rfl rfl)⟩

set_option maxRecDepth 100000 in
theorem registerBounds_lifted (os : Os) (started : os.Started) (H : Type) (enc : TypeId × Value → H) :
    ReturnsInHanded {} Try.checked os 8 .any (Rows.registerBoundsSpec.pre6 enc Try.prog Try.f8 Rows.registerBoundsRow.domain false) (Rows.registerBoundsSpec.post enc Try.prog Try.f8 false true false false) := by
  refine returnsInHanded_of_change (C := Try.checked) Try.own started (by kernel_rfl) Try.func8
    (ChangeSpec.witness6 (enc := enc) (C := Try.checked) false ⟨#[], #[.agg #[.slice none 0 0, .slice none 0 0, .slice none 0 0, .int .i64 0, .int .i64 0, .int .i64 0, .int .i64 0, .int .i64 0], .slice none 0 0, .agg #[.int .i64 0, .int .i64 0]], []⟩ 8 (by kernel_rfl) (by kernel_rfl) (by kernel_rfl) (by kernel_rfl)) ?_
  intro W base args ds gs before hval0 hW hcnd _
  have hval : ∀ (j : Nat) t v, Try.f8.params[j]? = some t → args[j]? = some v → Value.okWide Try.prog W .any base t v := hval0
  have hW' := hW
  obtain ⟨p, q, hA0, hV, rfl, hfz, hnd⟩ := hW
  have hA : DataW.TrodAll enc Try.prog W 0 (fun _ => true) true Try.f8.params.toList args.toList ds p := hA0
  rw [Try.params8] at hA hval
  obtain ⟨v0, vs0, d0, ds0, p0, q0, hargs, rfl, rfl, h0, r0⟩ := trodAll_cons hA
  obtain ⟨v1, vs1, d1, ds1, p1, q1, rfl, rfl, rfl, h1, r1⟩ := trodAll_cons r0
  obtain ⟨v2, vs2, d2, ds2, p2, q2, rfl, rfl, rfl, h2, r2⟩ := trodAll_cons r1
  obtain ⟨rfl, rfl, rfl⟩ := trodAll_nil r2
  obtain rfl : args = #[v0, v1, v2] := by cases args; simp_all
  obtain ⟨arr0, rfl, hsz0⟩ := okWide_struct cfg_under (hval 0 78 v0 rfl rfl)
  obtain ⟨fuel0, hf0⟩ := h0
  obtain ⟨A1, A2, A3, n1, n2, n3, cp1, cp2, cp3, cf, hcs0, hr1, hr2, hr3, gcf⟩ := open_cfg hf0
  obtain rfl : arr0 = #[.slice A1 n1 cp1, .slice A2 n2 cp2, .slice A3 n3 cp3, .int .i64 cf.line, .int .i64 cf.capital, .int .i64 cf.lead, .int .i64 cf.trades, .int .i64 cf.bids] := by
    apply Array.ext'; simpa [Value.cells] using hcs0
  obtain ⟨a1, len1, cap1, rfl⟩ := okWide_slice Try.underlying79 (hval 1 79 v1 rfl rfl)
  obtain ⟨fuel1, hf1⟩ := h1
  obtain ⟨A_ml, len_ml, cap_ml, ml, hcs1, hlc_ml, hcm_ml, hl_ml, g_ml, rd_ml⟩ := open_flat_list trD (fun t => inI t.qty ∧ inI t.price) Try.underlying79 trdR_flat trdR_cellsOf (by decide) (fun _ => okTrdR) hf1
  have hcs1' : (Value.slice a1 len1 cap1) = .slice A_ml len_ml cap_ml := by simpa [Value.cells] using hcs1
  injection hcs1' with e1_1 e2_1 e3_1
  subst e1_1; subst e2_1; subst e3_1
  obtain ⟨arr2, rfl, hsz2⟩ := okWide_array Try.underlying95 (hval 2 95 v2 rfl rfl)
  obtain ⟨fuel2, hf2⟩ := h2
  obtain ⟨zs2, hcs2, hok2⟩ := flatOf_open 3 95 [.i64, .i64] fuel2 _ _ (by kernel_rfl) hf2
  obtain ⟨x0, x1, rfl⟩ : ∃ a b, zs2 = [a, b] := by
    match zs2, hok2.1 with
    | [a, b], _ => exact ⟨a, b, rfl⟩
  obtain rfl : arr2 = #[.int .i64 x0, .int .i64 x1] := by
    apply Array.ext'; simpa [Value.cells, intVals] using hcs2
  have key : Calls Try.prog 8 #[.agg #[.slice A1 n1 cp1, .slice A2 n2 cp2, .slice A3 n3 cp3, .int .i64 cf.line, .int .i64 cf.capital, .int .i64 cf.lead, .int .i64 cf.trades, .int .i64 cf.bids], .slice a1 len1 cap1, .agg #[.int .i64 x0, .int .i64 x1]] W fun e w' => e = .returned (.bool true) ∧ Below W.heap.size W w' := by
    have hcf : fewB n1 n2 n3 = true → CfRd W A1 n1 A2 n2 A3 n3 cf := fun h => by
      have h20 : n1 ≤ 20 ∧ n2 ≤ 20 ∧ n3 ≤ 20 := by simpa [fewB] using h
      exact ⟨hr1, hr2, hr3, by omega, by omega, by omega⟩
    by_cases hfew : fewB n1 n2 n3 = true ∧ len1 ≤ 40 ∧ wrongK cf = 8
    · obtain ⟨hfew, hn40, hk8⟩ := hfew
      exact registerBounds_few A1 A2 A3 n1 n2 n3 cp1 cp2 cp3 cf a1 len1 cap1 x0 x1 ml W (hcf hfew) rd_ml g_ml hfew hn40 hk8
    · exact registerBounds_many A1 A2 A3 n1 n2 n3 cp1 cp2 cp3 cf a1 len1 cap1 x0 x1 W hfew hcf
  refine key.mono fun e W' ⟨he, hb⟩ => ⟨_, he, ?_⟩
  exact law_post (tb := 4) Try.laidOut (by kernel_rfl) rfl Try.underlying4 rfl hW' (by obtain ⟨rfl, rfl⟩ := trodVars_none hV; rfl) hb

theorem registerBounds_holds : Rows.RegisterBoundsSaid :=
  OpenClaim.holds_of_wide 8 Try.f8 rfl rfl rfl rfl rfl rfl rfl ⟨rfl, rfl, rfl, rfl, rfl⟩ rfl rfl rfl rfl rfl (by kernel_rfl) Try.func8 (by kernel_rfl)
    (of_decide_eq_true (by kernel_rfl)) (by unfold Func.isWrapper; first | (rw [if_pos (by decide +kernel)]; kernel_rfl) | (rw [if_neg (by decide +kernel)]; exact ⟨rfl, rfl⟩))
    (fun os started H enc _ => registerBounds_lifted os started H enc)

end Go.Proofs.Ytelbolhckhdioaa
