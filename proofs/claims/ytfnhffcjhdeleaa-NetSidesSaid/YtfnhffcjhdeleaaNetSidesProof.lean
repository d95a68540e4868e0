/-
  NetSides answers true for every input: what is owed, and what is claimed, of any legs, all in all, and one by one.
-/
import Derived.Test.YtfnhffcjhdeleaaNetS
import Derived.Test.YtfnhffcjhdeleaaLaw
namespace Go.Proofs.Ytfnhffcjhdeleaa
open Go.ChangeShapes Go.WideShapes Go.ChangeAt Go.RowKit Go.Deep

theorem leg_flat : flatOf Try.prog 3 97 = some [.i64, .i64, .i64] := by kernel_rfl
theorem leg_cells : Try.prog.cellsOf 97 = 3 := by kernel_rfl
theorem okLeg {zs : List Int} (h : IntsOk [.i64, .i64, .i64] zs) : ∃ b : Leg, intVals [.i64, .i64, .i64] zs = b.cells ∧ inI b.amount := by
  match zs, h with
  | [a, b, c], h => exact ⟨⟨a, b, c⟩, rfl, wf_bd (h.2 2 _ _ rfl rfl)⟩

set_option maxRecDepth 100000 in
theorem netSides_lifted (os : Os) (started : os.Started) (H : Type) (enc : TypeId × Value → H) :
    ReturnsInHanded {} Try.checked os 12 .any (Rows.netSidesSpec.pre6 enc Try.prog Try.f12 Rows.netSidesRow.domain false) (Rows.netSidesSpec.post enc Try.prog Try.f12 false true false false) := by
  refine returnsInHanded_of_change (C := Try.checked) Try.own started (by kernel_rfl) Try.func12
    (ChangeSpec.witness6 (enc := enc) (C := Try.checked) false ⟨#[], #[.slice none 0 0, .agg #[.int .i64 0, .int .i64 0]], []⟩ 8 (by kernel_rfl) (by kernel_rfl) (by kernel_rfl) (by kernel_rfl)) ?_
  intro W base args ds gs before hval0 hW hcnd _
  have hval : ∀ (j : Nat) t v, Try.f12.params[j]? = some t → args[j]? = some v → Value.okWide Try.prog W .any base t v := hval0
  have hW' := hW
  obtain ⟨p, q, hA0, hV, rfl, hfz, hnd⟩ := hW
  have hA : DataW.TrodAll enc Try.prog W 0 (fun _ => true) true Try.f12.params.toList args.toList ds p := hA0
  rw [Try.params12] at hA hval
  obtain ⟨v0, vs0, d0, ds0, p0, q0, hargs, rfl, rfl, h0, r0⟩ := trodAll_cons hA
  obtain ⟨v1, vs1, d1, ds1, p1, q1, rfl, rfl, rfl, h1, r1⟩ := trodAll_cons r0
  obtain ⟨rfl, rfl, rfl⟩ := trodAll_nil r1
  obtain rfl : args = #[v0, v1] := by cases args; simp_all
  obtain ⟨a0, len0, cap0, rfl⟩ := okWide_slice Try.underlying90 (hval 0 90 v0 rfl rfl)
  obtain ⟨fuel0, hf0⟩ := h0
  obtain ⟨A_ml, len_ml, cap_ml, ml, hcs0, hlc_ml, hcm_ml, hl_ml, g_ml, rd_ml⟩ := open_flat_list Leg.cells (fun b => inI b.amount) Try.underlying90 leg_flat leg_cells (by decide) (fun _ => okLeg) hf0
  have hcs0' : (Value.slice a0 len0 cap0) = .slice A_ml len_ml cap_ml := by simpa [Value.cells] using hcs0
  injection hcs0' with e1_0 e2_0 e3_0
  subst e1_0; subst e2_0; subst e3_0
  obtain ⟨arr1, rfl, hsz1⟩ := okWide_array Try.underlying100 (hval 1 100 v1 rfl rfl)
  obtain ⟨fuel1, hf1⟩ := h1
  obtain ⟨zs1, hcs1, hok1⟩ := flatOf_open 3 100 [.i64, .i64] fuel1 _ _ (by kernel_rfl) hf1
  obtain ⟨x0, x1, rfl⟩ : ∃ a b, zs1 = [a, b] := by
    match zs1, hok1.1 with
    | [a, b], _ => exact ⟨a, b, rfl⟩
  obtain rfl : arr1 = #[.int .i64 x0, .int .i64 x1] := by
    apply Array.ext'; simpa [Value.cells, intVals] using hcs1
  have key : Calls Try.prog 12 #[.slice a0 len0 cap0, .agg #[.int .i64 x0, .int .i64 x1]] W fun e w' => e = .returned (.bool true) ∧ Below W.heap.size W w' := by
    by_cases hfew : len0 ≤ 60
    · exact netSides_few a0 len0 cap0 ml x0 x1 W rd_ml hfew g_ml
    · exact netSides_long a0 len0 cap0 x0 x1 W (by omega)
  refine key.mono fun e W' ⟨he, hb⟩ => ⟨_, he, ?_⟩
  exact law_post (tb := 4) Try.laidOut (by kernel_rfl) rfl Try.underlying4 rfl hW' (by obtain ⟨rfl, rfl⟩ := trodVars_none hV; rfl) hb

theorem netSides_holds : Rows.NetSidesSaid :=
  OpenClaim.holds_of_wide 12 Try.f12 rfl rfl rfl rfl rfl rfl rfl ⟨rfl, rfl, rfl, rfl, rfl⟩ rfl rfl rfl rfl rfl (by kernel_rfl) Try.func12 (by kernel_rfl)
    (of_decide_eq_true (by kernel_rfl)) (by unfold Func.isWrapper; first | (rw [if_pos (by decide +kernel)]; kernel_rfl) | (rw [if_neg (by decide +kernel)]; exact ⟨rfl, rfl⟩))
    (fun os started H enc _ => netSides_lifted os started H enc)

end Go.Proofs.Ytfnhffcjhdeleaa
