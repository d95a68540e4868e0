/-
  TableOwn answers true for every input: a copy goes its own way, and rows that were told stay; no table has nothing.
-/
import Derived.Test.YtkdiongmegnicaaOpenA
import Derived.Test.YtkdiongmegnicaaTabS
namespace Go.Proofs.Ytkdiongmegnicaa
open Go.ChangeShapes Go.WideShapes Go.ChangeAt Go.RowKit Go.Deep

set_option maxRecDepth 100000 in
theorem tableOwn_lifted (os : Os) (started : os.Started) (H : Type) (enc : TypeId × Value → H) :
    ReturnsInHanded {} Try.checked os 5 .any (Rows.tableOwnSpec.pre6 enc Try.prog Try.f5 Rows.tableOwnRow.domain false) (Rows.tableOwnSpec.post enc Try.prog Try.f5 false true false false) := by
  refine returnsInHanded_of_change (C := Try.checked) Try.own started (by kernel_rfl) Try.func5
    (ChangeSpec.witness6 (enc := enc) (C := Try.checked) false ⟨#[], #[.int .i64 0, .slice none 0 0, .slice none 0 0], []⟩ 8 (by kernel_rfl) (by kernel_rfl) (by kernel_rfl) (by kernel_rfl)) ?_
  intro W base args ds gs before hval0 hW hcnd _
  have hval : ∀ (j : Nat) t v, Try.f5.params[j]? = some t → args[j]? = some v → Value.okWide Try.prog W .any base t v := hval0
  have hW' := hW
  obtain ⟨p, q, hA0, hV, rfl, hfz, hnd⟩ := hW
  have hA : DataW.TrodAll enc Try.prog W 0 (fun _ => true) true Try.f5.params.toList args.toList ds p := hA0
  rw [Try.params5] at hA hval
  obtain ⟨v0, vs0, d0, ds0, p0, q0, hargs, rfl, rfl, h0, r0⟩ := trodAll_cons hA
  obtain ⟨v1, vs1, d1, ds1, p1, q1, rfl, rfl, rfl, h1, r1⟩ := trodAll_cons r0
  obtain ⟨v2, vs2, d2, ds2, p2, q2, rfl, rfl, rfl, h2, r2⟩ := trodAll_cons r1
  obtain ⟨rfl, rfl, rfl⟩ := trodAll_nil r2
  obtain rfl : args = #[v0, v1, v2] := by cases args; simp_all
  obtain ⟨a, rfl, rfl, rfl, w_a⟩ := open_int Try.underlying3 (hval 0 3 v0 rfl rfl) h0
  obtain ⟨a1, len1, cap1, rfl⟩ := okWide_slice Try.underlying41 (hval 1 41 v1 rfl rfl)
  obtain ⟨fuel1, hf1⟩ := h1
  obtain ⟨A_l, len_l, cap_l, l, hcs1, hlc_l, hcm_l, hl_l, g_l, rd_l⟩ := open_list_of ActT.cells (fun _ => True) 3 ActT.cells_len (by decide) Try.underlying41 act04_cells.1 open_act04 hf1
  have hcs1' : (Value.slice a1 len1 cap1) = .slice A_l len_l cap_l := by simpa [Value.cells] using hcs1
  injection hcs1' with e1_1 e2_1 e3_1
  subst e1_1; subst e2_1; subst e3_1
  obtain ⟨a2, len2, cap2, rfl⟩ := okWide_slice Try.underlying41 (hval 2 41 v2 rfl rfl)
  obtain ⟨fuel2, hf2⟩ := h2
  obtain ⟨A_m, len_m, cap_m, m, hcs2, hlc_m, hcm_m, hl_m, g_m, rd_m⟩ := open_list_of ActT.cells (fun _ => True) 3 ActT.cells_len (by decide) Try.underlying41 act04_cells.1 open_act04 hf2
  have hcs2' : (Value.slice a2 len2 cap2) = .slice A_m len_m cap_m := by simpa [Value.cells] using hcs2
  injection hcs2' with e1_2 e2_2 e3_2
  subst e1_2; subst e2_2; subst e3_2
  have key : Calls Try.prog 5 #[.int .i64 a, .slice a1 len1 cap1, .slice a2 len2 cap2] W fun e w' => e = .returned (.bool true) ∧ Below W.heap.size W w' := by
    by_cases h : len1 ≤ 40 ∧ len2 ≤ 40
    · exact tableOwn_few a (wf_bd w_a) a1 len1 cap1 a2 len2 cap2 l m W rd_l rd_m h.1 h.2
    · exact tableOwn_long a a1 len1 cap1 a2 len2 cap2 W (by omega)
  refine key.mono fun e W' ⟨he, hb⟩ => ⟨_, he, ?_⟩
  exact law_post (tb := 4) Try.laidOut (by kernel_rfl) rfl Try.underlying4 rfl hW' (by obtain ⟨rfl, rfl⟩ := trodVars_none hV; rfl) hb

theorem tableOwn_holds : Rows.TableOwnSaid :=
  OpenClaim.holds_of_wide 5 Try.f5 rfl rfl rfl rfl rfl rfl rfl ⟨rfl, rfl, rfl, rfl, rfl⟩ rfl rfl rfl rfl rfl (by kernel_rfl) Try.func5 (by kernel_rfl)
    (of_decide_eq_true (by kernel_rfl)) (by unfold Func.isWrapper; first | (rw [if_pos (by decide +kernel)]; kernel_rfl) | (rw [if_neg (by decide +kernel)]; exact ⟨rfl, rfl⟩))
    (fun os started H enc _ => tableOwn_lifted os started H enc)

end Go.Proofs.Ytkdiongmegnicaa
