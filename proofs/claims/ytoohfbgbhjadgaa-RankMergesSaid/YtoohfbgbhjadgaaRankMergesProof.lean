/-
  RankMerges answers true for every input: any two lists put together, and where runs of like keys begin.
-/
import Derived.Test.YtoohfbgbhjadgaaRnkD
import Derived.Test.YtoohfbgbhjadgaaOpenK
namespace Go.Proofs.Ytoohfbgbhjadgaa
open Go.ChangeShapes Go.WideShapes Go.ChangeAt Go.RowKit Go.Deep

theorem keys_short {w : World} {vs : List KeyV} (hr : ∀ v ∈ vs, Rd w w.heap.size 1 v.A v.k.length (v.k.flatMap iC)) (hs : vs.all shortK = true) : KeysRd w w.heap.size vs := fun v hv => by
  have := List.all_eq_true.1 hs v hv
  exact ⟨hr v hv, by simp [shortK] at this; omega⟩

set_option maxRecDepth 100000 in
theorem rankMerges_lifted (os : Os) (started : os.Started) (H : Type) (enc : TypeId × Value → H) :
    ReturnsInHanded {} Try.checked os 6 .any (Rows.rankMergesSpec.pre6 enc Try.prog Try.f6 Rows.rankMergesRow.domain false) (Rows.rankMergesSpec.post enc Try.prog Try.f6 false true false false) := by
  refine returnsInHanded_of_change (C := Try.checked) Try.own started (by kernel_rfl) Try.func6
    (ChangeSpec.witness6 (enc := enc) (C := Try.checked) false ⟨#[], #[.slice none 0 0, .slice none 0 0], []⟩ 8 (by kernel_rfl) (by kernel_rfl) (by kernel_rfl) (by kernel_rfl)) ?_
  intro W base args ds gs before hval0 hW hcnd _
  have hval : ∀ (j : Nat) t v, Try.f6.params[j]? = some t → args[j]? = some v → Value.okWide Try.prog W .any base t v := hval0
  have hW' := hW
  obtain ⟨p, q, hA0, hV, rfl, hfz, hnd⟩ := hW
  have hA : DataW.TrodAll enc Try.prog W 0 (fun _ => true) true Try.f6.params.toList args.toList ds p := hA0
  rw [Try.params6] at hA hval
  obtain ⟨v0, vs0, d0, ds0, p0, q0, hargs, rfl, rfl, h0, r0⟩ := trodAll_cons hA
  obtain ⟨v1, vs1, d1, ds1, p1, q1, rfl, rfl, rfl, h1, r1⟩ := trodAll_cons r0
  obtain ⟨rfl, rfl, rfl⟩ := trodAll_nil r1
  obtain rfl : args = #[v0, v1] := by cases args; simp_all
  obtain ⟨a0, len0, cap0, rfl⟩ := okWide_slice Try.underlying26 (hval 0 26 v0 rfl rfl)
  obtain ⟨fuel0, hf0⟩ := h0
  obtain ⟨A_ks, len_ks, cap_ks, ks, hcs0, hl_ks, rd_ks, k_ks, nil_ks⟩ := open_keys hf0
  have hcs0' : (Value.slice a0 len0 cap0) = .slice A_ks len_ks cap_ks := by simpa [Value.cells] using hcs0
  injection hcs0' with e1_0 e2_0 e3_0
  subst e1_0; subst e2_0; subst e3_0
  obtain ⟨a1, len1, cap1, rfl⟩ := okWide_slice Try.underlying26 (hval 1 26 v1 rfl rfl)
  obtain ⟨fuel1, hf1⟩ := h1
  obtain ⟨A_ls, len_ls, cap_ls, ls, hcs1, hl_ls, rd_ls, k_ls, nil_ls⟩ := open_keys hf1
  have hcs1' : (Value.slice a1 len1 cap1) = .slice A_ls len_ls cap_ls := by simpa [Value.cells] using hcs1
  injection hcs1' with e1_1 e2_1 e3_1
  subst e1_1; subst e2_1; subst e3_1
  have key : Calls Try.prog 6 #[.slice a0 len0 cap0, .slice a1 len1 cap1] W fun e w' => e = .returned (.bool true) ∧ Below W.heap.size W w' := by
    by_cases h : len0 ≤ 20 ∧ ks.all shortK = true
    · by_cases h' : len1 ≤ 20 ∧ ls.all shortK = true
      · exact rankMerges_few a0 len0 cap0 a1 len1 cap1 ks ls W rd_ks rd_ls nil_ks nil_ls (keys_short k_ks h.2) (keys_short k_ls h'.2) h.1 h.2 h'.1 h'.2
      · exact rankMerges_long2 a0 len0 cap0 a1 len1 cap1 ks ls W rd_ks rd_ls h h'
    · exact rankMerges_long a0 len0 cap0 a1 len1 cap1 ks W rd_ks h
  refine key.mono fun e W' ⟨he, hb⟩ => ⟨_, he, ?_⟩
  exact law_post (tb := 4) Try.laidOut (by kernel_rfl) rfl Try.underlying4 rfl hW' (by obtain ⟨rfl, rfl⟩ := trodVars_none hV; rfl) hb

theorem rankMerges_holds : Rows.RankMergesSaid :=
  OpenClaim.holds_of_wide 6 Try.f6 rfl rfl rfl rfl rfl rfl rfl ⟨rfl, rfl, rfl, rfl, rfl⟩ rfl rfl rfl rfl rfl (by kernel_rfl) Try.func6 (by kernel_rfl)
    (of_decide_eq_true (by kernel_rfl)) (by unfold Func.isWrapper; first | (rw [if_pos (by decide +kernel)]; kernel_rfl) | (rw [if_neg (by decide +kernel)]; exact ⟨rfl, rfl⟩))
    (fun os started H enc _ => rankMerges_lifted os started H enc)

end Go.Proofs.Ytoohfbgbhjadgaa
