/-
  HoldOwn answers true for every input: a copy goes its own way; of no vault there is nothing.
-/
import Derived.Test.YtelbolhckhdioaaHkE
import Derived.Test.YtelbolhckhdioaaHkL
namespace Go.Proofs.Ytelbolhckhdioaa
open Go.ChangeShapes Go.WideShapes Go.ChangeAt Go.RowKit Go.Deep

set_option maxRecDepth 100000 in
theorem holdOwn_lifted (os : Os) (started : os.Started) (H : Type) (enc : TypeId × Value → H) :
    ReturnsInHanded {} Try.checked os 6 .any (Rows.holdOwnSpec.pre6 enc Try.prog Try.f6 Rows.holdOwnRow.domain false) (Rows.holdOwnSpec.post enc Try.prog Try.f6 false true false false) := by
  refine returnsInHanded_of_change (C := Try.checked) Try.own started (by kernel_rfl) Try.func6
    (ChangeSpec.witness6 (enc := enc) (C := Try.checked) false ⟨#[], #[.slice none 0 0, .slice none 0 0], []⟩ 8 (by kernel_rfl) (by kernel_rfl) (by kernel_rfl) (by kernel_rfl)) ?_
  intro W base args ds gs before hval0 hW hcnd _
  have hval : ∀ (j : Nat) t v, Try.f6.params[j]? = some t → args[j]? = some v → Value.okWide Try.prog W .any base t v := hval0
  have hW' := hW
  obtain ⟨p, q, hA0, hV, rfl, hfz, hnd⟩ := hW
  have hA : DataW.TrodAll enc Try.prog W 0 (fun _ => true) true Try.f6.params.toList args.toList ds p := hA0
  rw [Try.params6] at hA hval
  obtain ⟨v0, vs0, d0, ds0, p0, q0, hargs, rfl, rfl, h0, r0⟩ := trodAll_cons hA
  obtain ⟨v1, vs1, d1, ds1, p1, q1, rfl, rfl, rfl, h1, r1⟩ := trodAll_cons r0
  obtain ⟨rfl, rfl, rfl⟩ := trodAll_nil r1
  obtain rfl : args = #[v0, v1] := by cases args; simp_all
  obtain ⟨a0, len0, cap0, rfl⟩ := okWide_slice Try.underlying41 (hval 0 41 v0 rfl rfl)
  obtain ⟨fuel0, hf0⟩ := h0
  obtain ⟨A_l, len_l, cap_l, l, hcs0, hlc_l, hcm_l, hl_l, g_l, rd_l⟩ := open_list_of ActH.cells (ActHOk W) 9 ActH.cells_len (by decide) Try.underlying41 act15_cells.1 open_act15 hf0
  have hcs0' : (Value.slice a0 len0 cap0) = .slice A_l len_l cap_l := by simpa [Value.cells] using hcs0
  injection hcs0' with e1_0 e2_0 e3_0
  subst e1_0; subst e2_0; subst e3_0
  obtain ⟨a1, len1, cap1, rfl⟩ := okWide_slice Try.underlying41 (hval 1 41 v1 rfl rfl)
  obtain ⟨fuel1, hf1⟩ := h1
  obtain ⟨A_m, len_m, cap_m, m, hcs1, hlc_m, hcm_m, hl_m, g_m, rd_m⟩ := open_list_of ActH.cells (ActHOk W) 9 ActH.cells_len (by decide) Try.underlying41 act15_cells.1 open_act15 hf1
  have hcs1' : (Value.slice a1 len1 cap1) = .slice A_m len_m cap_m := by simpa [Value.cells] using hcs1
  injection hcs1' with e1_1 e2_1 e3_1
  subst e1_1; subst e2_1; subst e3_1
  have key : Calls Try.prog 6 #[.slice a0 len0 cap0, .slice a1 len1 cap1] W fun e w' => e = .returned (.bool true) ∧ Below W.heap.size W w' := by
    cases h : fewH l with
    | true =>
      cases h2 : fewH m with
      | true => exact holdOwn_few a0 len0 cap0 l a1 len1 cap1 m W rd_l g_l rd_m g_m h h2
      | false => exact holdOwn_long a0 len0 cap0 l a1 len1 cap1 m W rd_l rd_m (.inr h2)
    | false => exact holdOwn_long a0 len0 cap0 l a1 len1 cap1 m W rd_l rd_m (.inl h)
  refine key.mono fun e W' ⟨he, hb⟩ => ⟨_, he, ?_⟩
  exact law_post (tb := 4) Try.laidOut (by kernel_rfl) rfl Try.underlying4 rfl hW' (by obtain ⟨rfl, rfl⟩ := trodVars_none hV; rfl) hb

theorem holdOwn_holds : Rows.HoldOwnSaid :=
  OpenClaim.holds_of_wide 6 Try.f6 rfl rfl rfl rfl rfl rfl rfl ⟨rfl, rfl, rfl, rfl, rfl⟩ rfl rfl rfl rfl rfl (by kernel_rfl) Try.func6 (by kernel_rfl)
    (of_decide_eq_true (by kernel_rfl)) (by unfold Func.isWrapper; first | (rw [if_pos (by decide +kernel)]; kernel_rfl) | (rw [if_neg (by decide +kernel)]; exact ⟨rfl, rfl⟩))
    (fun os started H enc _ => holdOwn_lifted os started H enc)

end Go.Proofs.Ytelbolhckhdioaa
