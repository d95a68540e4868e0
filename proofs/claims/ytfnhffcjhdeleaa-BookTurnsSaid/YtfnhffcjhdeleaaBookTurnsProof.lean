/-
  BookTurns answers true for every input: a posting, and then the same turned, leave all as it was, if both are done; the second one lacks funds, or room, if any.
-/
import Derived.Test.YtfnhffcjhdeleaaBokZ
import Derived.Test.YtfnhffcjhdeleaaOpenE
namespace Go.Proofs.Ytfnhffcjhdeleaa
open Go.ChangeShapes Go.WideShapes Go.ChangeAt Go.RowKit Go.Deep

set_option maxRecDepth 100000 in
theorem bookTurns_lifted (os : Os) (started : os.Started) (H : Type) (enc : TypeId × Value → H) :
    ReturnsInHanded {} Try.checked os 6 .any (Rows.bookTurnsSpec.pre6 enc Try.prog Try.f6 Rows.bookTurnsRow.domain false) (Rows.bookTurnsSpec.post enc Try.prog Try.f6 false true false false) := by
  refine returnsInHanded_of_change (C := Try.checked) Try.own started (by kernel_rfl) Try.func6
    (ChangeSpec.witness6 (enc := enc) (C := Try.checked) false ⟨#[], #[.slice none 0 0, .slice none 0 0], []⟩ 8 (by kernel_rfl) (by kernel_rfl) (by kernel_rfl) (by kernel_rfl)) ?_
  intro W base args ds gs before hval0 hW hcnd _
  have hval : ∀ (j : Nat) t v, Try.f6.params[j]? = some t → args[j]? = some v → Value.okWide Try.prog W .any base t v := hval0
  have hW' := hW
  obtain ⟨p, q, hA0, hV, rfl, hfz, hnd⟩ := hW
  have hA : DataW.TrodAll enc Try.prog W 0 (fun _ => true) true Try.f6.params.toList args.toList ds p := hA0
  rw [Try.params6] at hA hval
  obtain ⟨v0, vs0, d0, ds0, p0, q0, hargs, rfl, rfl, h0, r0⟩ := trodAll_cons hA
  obtain ⟨v1, vs1, d1, ds1, p1, q1, rfl, rfl, rfl, h1, r1⟩ := trodAll_cons r0
  obtain ⟨rfl, rfl, rfl⟩ := trodAll_nil r1
  obtain rfl : args = #[v0, v1] := by cases args; simp_all
  obtain ⟨a0, len0, cap0, rfl⟩ := okWide_slice Try.underlying22 (hval 0 22 v0 rfl rfl)
  obtain ⟨fuel0, hf0⟩ := h0
  obtain ⟨A_ps, len_ps, cap_ps, ps, hcs0, hl_ps, rd_ps, k_ps⟩ := open_posts hf0
  have hcs0' : (Value.slice a0 len0 cap0) = .slice A_ps len_ps cap_ps := by simpa [Value.cells] using hcs0
  injection hcs0' with e1_0 e2_0 e3_0
  subst e1_0; subst e2_0; subst e3_0
  obtain ⟨a1, len1, cap1, rfl⟩ := okWide_slice Try.underlying32 (hval 1 32 v1 rfl rfl)
  obtain ⟨fuel1, hf1⟩ := h1
  obtain ⟨A_xl, len_xl, cap_xl, xl, hcs1, hlc_xl, hcm_xl, hl_xl, g_xl, rd_xl⟩ := open_flat_list Ent.cells EntOk Try.underlying32 ent_flat ent_cellsOf (by decide) (fun _ => okEnt) hf1
  have hcs1' : (Value.slice a1 len1 cap1) = .slice A_xl len_xl cap_xl := by simpa [Value.cells] using hcs1
  injection hcs1' with e1_1 e2_1 e3_1
  subst e1_1; subst e2_1; subst e3_1
  have key : Calls Try.prog 6 #[.slice a0 len0 cap0, .slice a1 len1 cap1] W fun e w' => e = .returned (.bool true) ∧ Below W.heap.size W w' := by
    by_cases h : fewP 12 ps = true ∧ len1 ≤ 12
    · exact bookTurns_few a0 len0 cap0 ps a1 len1 cap1 xl W rd_ps k_ps rd_xl g_xl h.1 h.2
    · refine bookTurns_long a0 len0 cap0 ps a1 len1 cap1 W rd_ps ?_
      cases hf : fewP 12 ps with
      | false => exact Or.inl rfl
      | true => exact Or.inr (by rw [hf] at h; simp at h; omega)
  refine key.mono fun e W' ⟨he, hb⟩ => ⟨_, he, ?_⟩
  exact law_post (tb := 4) Try.laidOut (by kernel_rfl) rfl Try.underlying4 rfl hW' (by obtain ⟨rfl, rfl⟩ := trodVars_none hV; rfl) hb

theorem bookTurns_holds : Rows.BookTurnsSaid :=
  OpenClaim.holds_of_wide 6 Try.f6 rfl rfl rfl rfl rfl rfl rfl ⟨rfl, rfl, rfl, rfl, rfl⟩ rfl rfl rfl rfl rfl (by kernel_rfl) Try.func6 (by kernel_rfl)
    (of_decide_eq_true (by kernel_rfl)) (by unfold Func.isWrapper; first | (rw [if_pos (by decide +kernel)]; kernel_rfl) | (rw [if_neg (by decide +kernel)]; exact ⟨rfl, rfl⟩))
    (fun os started H enc _ => bookTurns_lifted os started H enc)

end Go.Proofs.Ytfnhffcjhdeleaa
