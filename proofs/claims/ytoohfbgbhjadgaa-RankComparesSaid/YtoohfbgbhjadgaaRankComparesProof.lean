/-
  RankCompares answers true for every input: how any two keys compare, either way round, and with a third one between.
-/
import Derived.Test.YtoohfbgbhjadgaaRnkA
import Derived.Test.YtoohfbgbhjadgaaLaw
namespace Go.Proofs.Ytoohfbgbhjadgaa
open Go.ChangeShapes Go.WideShapes Go.ChangeAt Go.RowKit Go.Deep

theorem k64_flat : flatOf Try.prog 3 2 = some [.i64] := by kernel_rfl
theorem k64_cells : Try.prog.cellsOf 2 = 1 := by kernel_rfl
theorem okK64 {zs : List Int} (h : IntsOk [.i64] zs) : ∃ b : Int, intVals [.i64] zs = iC b ∧ True := by
  match zs, h with
  | [a], h => exact ⟨a, rfl, trivial⟩

set_option maxRecDepth 100000 in
theorem rankCompares_lifted (os : Os) (started : os.Started) (H : Type) (enc : TypeId × Value → H) :
    ReturnsInHanded {} Try.checked os 3 .any (Rows.rankComparesSpec.pre6 enc Try.prog Try.f3 Rows.rankComparesRow.domain false) (Rows.rankComparesSpec.post enc Try.prog Try.f3 false true false false) := by
  refine returnsInHanded_of_change (C := Try.checked) Try.own started (by kernel_rfl) Try.func3
    (ChangeSpec.witness6 (enc := enc) (C := Try.checked) false ⟨#[], #[.slice none 0 0, .slice none 0 0, .slice none 0 0], []⟩ 8 (by kernel_rfl) (by kernel_rfl) (by kernel_rfl) (by kernel_rfl)) ?_
  intro W base args ds gs before hval0 hW hcnd _
  have hval : ∀ (j : Nat) t v, Try.f3.params[j]? = some t → args[j]? = some v → Value.okWide Try.prog W .any base t v := hval0
  have hW' := hW
  obtain ⟨p, q, hA0, hV, rfl, hfz, hnd⟩ := hW
  have hA : DataW.TrodAll enc Try.prog W 0 (fun _ => true) true Try.f3.params.toList args.toList ds p := hA0
  rw [Try.params3] at hA hval
  obtain ⟨v0, vs0, d0, ds0, p0, q0, hargs, rfl, rfl, h0, r0⟩ := trodAll_cons hA
  obtain ⟨v1, vs1, d1, ds1, p1, q1, rfl, rfl, rfl, h1, r1⟩ := trodAll_cons r0
  obtain ⟨v2, vs2, d2, ds2, p2, q2, rfl, rfl, rfl, h2, r2⟩ := trodAll_cons r1
  obtain ⟨rfl, rfl, rfl⟩ := trodAll_nil r2
  obtain rfl : args = #[v0, v1, v2] := by cases args; simp_all
  obtain ⟨a0, len0, cap0, rfl⟩ := okWide_slice Try.underlying22 (hval 0 22 v0 rfl rfl)
  obtain ⟨fuel0, hf0⟩ := h0
  obtain ⟨A_a, len_a, cap_a, a, hcs0, hlc_a, hcm_a, hl_a, g_a, rd_a⟩ := open_flat_list iC (fun _ => True) Try.underlying22 k64_flat k64_cells (by decide) (fun _ => okK64) hf0
  have hcs0' : (Value.slice a0 len0 cap0) = .slice A_a len_a cap_a := by simpa [Value.cells] using hcs0
  injection hcs0' with e1_0 e2_0 e3_0
  subst e1_0; subst e2_0; subst e3_0
  obtain ⟨a1, len1, cap1, rfl⟩ := okWide_slice Try.underlying22 (hval 1 22 v1 rfl rfl)
  obtain ⟨fuel1, hf1⟩ := h1
  obtain ⟨A_b, len_b, cap_b, b, hcs1, hlc_b, hcm_b, hl_b, g_b, rd_b⟩ := open_flat_list iC (fun _ => True) Try.underlying22 k64_flat k64_cells (by decide) (fun _ => okK64) hf1
  have hcs1' : (Value.slice a1 len1 cap1) = .slice A_b len_b cap_b := by simpa [Value.cells] using hcs1
  injection hcs1' with e1_1 e2_1 e3_1
  subst e1_1; subst e2_1; subst e3_1
  obtain ⟨a2, len2, cap2, rfl⟩ := okWide_slice Try.underlying22 (hval 2 22 v2 rfl rfl)
  obtain ⟨fuel2, hf2⟩ := h2
  obtain ⟨A_c, len_c, cap_c, c, hcs2, hlc_c, hcm_c, hl_c, g_c, rd_c⟩ := open_flat_list iC (fun _ => True) Try.underlying22 k64_flat k64_cells (by decide) (fun _ => okK64) hf2
  have hcs2' : (Value.slice a2 len2 cap2) = .slice A_c len_c cap_c := by simpa [Value.cells] using hcs2
  injection hcs2' with e1_2 e2_2 e3_2
  subst e1_2; subst e2_2; subst e3_2
  have key : Calls Try.prog 3 #[.slice a0 len0 cap0, .slice a1 len1 cap1, .slice a2 len2 cap2] W fun e w' => e = .returned (.bool true) ∧ Below W.heap.size W w' := by
    by_cases h : len0 ≤ 20 ∧ len1 ≤ 20 ∧ len2 ≤ 20
    · exact rankCompares_few a0 len0 cap0 a1 len1 cap1 a2 len2 cap2 a b c W rd_a rd_b rd_c h.1 h.2.1 h.2.2
    · exact rankCompares_long a0 len0 cap0 a1 len1 cap1 a2 len2 cap2 W (by omega)
  refine key.mono fun e W' ⟨he, hb⟩ => ⟨_, he, ?_⟩
  exact law_post (tb := 4) Try.laidOut (by kernel_rfl) rfl Try.underlying4 rfl hW' (by obtain ⟨rfl, rfl⟩ := trodVars_none hV; rfl) hb

theorem rankCompares_holds : Rows.RankComparesSaid :=
  OpenClaim.holds_of_wide 3 Try.f3 rfl rfl rfl rfl rfl rfl rfl ⟨rfl, rfl, rfl, rfl, rfl⟩ rfl rfl rfl rfl rfl (by kernel_rfl) Try.func3 (by kernel_rfl)
    (of_decide_eq_true (by kernel_rfl)) (by unfold Func.isWrapper; first | (rw [if_pos (by decide +kernel)]; kernel_rfl) | (rw [if_neg (by decide +kernel)]; exact ⟨rfl, rfl⟩))
    (fun os started H enc _ => rankCompares_lifted os started H enc)

end Go.Proofs.Ytoohfbgbhjadgaa
