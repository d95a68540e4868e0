/-
  TimerSorts answers true for every input: any timers in their order, like ones as often as they stand there.
-/
import Derived.Test.YtoohfbgbhjadgaaTimH
import Derived.Test.YtoohfbgbhjadgaaLaw
namespace Go.Proofs.Ytoohfbgbhjadgaa
open Go.ChangeShapes Go.WideShapes Go.ChangeAt Go.RowKit Go.Deep

theorem tim_flat : flatOf Try.prog 3 40 = some [.i64, .i64, .i64, .i64] := by kernel_rfl
theorem tim_cellsOf : Try.prog.cellsOf 40 = 4 := by kernel_rfl
theorem okTim {zs : List Int} (h : IntsOk [.i64, .i64, .i64, .i64] zs) : ∃ t : Tim, intVals [.i64, .i64, .i64, .i64] zs = t.cells ∧ True := by
  match zs, h with
  | [a, b, c, d], h => exact ⟨⟨a, b, c, d⟩, rfl, trivial⟩

set_option maxRecDepth 100000 in
theorem timerSorts_lifted (os : Os) (started : os.Started) (H : Type) (enc : TypeId × Value → H) :
    ReturnsInHanded {} Try.checked os 7 .any (Rows.timerSortsSpec.pre6 enc Try.prog Try.f7 Rows.timerSortsRow.domain false) (Rows.timerSortsSpec.post enc Try.prog Try.f7 false true false false) := by
  refine returnsInHanded_of_change (C := Try.checked) Try.own started (by kernel_rfl) Try.func7
    (ChangeSpec.witness6 (enc := enc) (C := Try.checked) false ⟨#[], #[.slice none 0 0], []⟩ 8 (by kernel_rfl) (by kernel_rfl) (by kernel_rfl) (by kernel_rfl)) ?_
  intro W base args ds gs before hval0 hW hcnd _
  have hval : ∀ (j : Nat) t v, Try.f7.params[j]? = some t → args[j]? = some v → Value.okWide Try.prog W .any base t v := hval0
  have hW' := hW
  obtain ⟨p, q, hA0, hV, rfl, hfz, hnd⟩ := hW
  have hA : DataW.TrodAll enc Try.prog W 0 (fun _ => true) true Try.f7.params.toList args.toList ds p := hA0
  rw [Try.params7] at hA hval
  obtain ⟨v0, vs0, d0, ds0, p0, q0, hargs, rfl, rfl, h0, r0⟩ := trodAll_cons hA
  obtain ⟨rfl, rfl, rfl⟩ := trodAll_nil r0
  obtain rfl : args = #[v0] := by cases args; simp_all
  obtain ⟨a0, len0, cap0, rfl⟩ := okWide_slice Try.underlying37 (hval 0 37 v0 rfl rfl)
  obtain ⟨fuel0, hf0⟩ := h0
  obtain ⟨A_l, len_l, cap_l, l, hcs0, hlc_l, hcm_l, hl_l, g_l, rd_l⟩ := open_flat_list Tim.cells (fun _ => True) Try.underlying37 tim_flat tim_cellsOf (by decide) (fun _ => okTim) hf0
  have hcs0' : (Value.slice a0 len0 cap0) = .slice A_l len_l cap_l := by simpa [Value.cells] using hcs0
  injection hcs0' with e1_0 e2_0 e3_0
  subst e1_0; subst e2_0; subst e3_0
  have key : Calls Try.prog 7 #[.slice a0 len0 cap0] W fun e w' => e = .returned (.bool true) ∧ Below W.heap.size W w' := by
    by_cases h : len0 ≤ 40
    · exact timerSorts_few a0 len0 cap0 l W rd_l h
    · exact timerSorts_long a0 len0 cap0 W (by omega)
  refine key.mono fun e W' ⟨he, hb⟩ => ⟨_, he, ?_⟩
  exact law_post (tb := 4) Try.laidOut (by kernel_rfl) rfl Try.underlying4 rfl hW' (by obtain ⟨rfl, rfl⟩ := trodVars_none hV; rfl) hb

theorem timerSorts_holds : Rows.TimerSortsSaid :=
  OpenClaim.holds_of_wide 7 Try.f7 rfl rfl rfl rfl rfl rfl rfl ⟨rfl, rfl, rfl, rfl, rfl⟩ rfl rfl rfl rfl rfl (by kernel_rfl) Try.func7 (by kernel_rfl)
    (of_decide_eq_true (by kernel_rfl)) (by unfold Func.isWrapper; first | (rw [if_pos (by decide +kernel)]; kernel_rfl) | (rw [if_neg (by decide +kernel)]; exact ⟨rfl, rfl⟩))
    (fun os started H enc _ => timerSorts_lifted os started H enc)

end Go.Proofs.Ytoohfbgbhjadgaa
