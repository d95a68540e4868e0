/-
  MoneySums answers true for every input: the sum of any amounts, whatever the sums on the way are; in another order it is the same.
-/
import Derived.Test.YtjkabmijkbpodaaMonS
import Derived.Test.YtjkabmijkbpodaaLaw
namespace Go.Proofs.Ytjkabmijkbpodaa
open Go.ChangeShapes Go.WideShapes Go.ChangeAt Go.RowKit Go.Deep

theorem i64_flat : flatOf Try.prog 3 2 = some [.i64] := by kernel_rfl
theorem i64_cells : Try.prog.cellsOf 2 = 1 := by kernel_rfl
theorem okI64 {zs : List Int} (h : IntsOk [.i64] zs) : ∃ b : Int, intVals [.i64] zs = i64Cells b ∧ inI b := by
  match zs, h with
  | [a], h => exact ⟨a, rfl, wf_bd (h.2 0 _ _ rfl rfl)⟩

set_option maxRecDepth 100000 in
theorem moneySums_lifted (os : Os) (started : os.Started) (H : Type) (enc : TypeId × Value → H) :
    ReturnsInHanded {} Try.checked os 11 .any (Rows.moneySumsSpec.pre6 enc Try.prog Try.f11 Rows.moneySumsRow.domain false) (Rows.moneySumsSpec.post enc Try.prog Try.f11 false true false false) := by
  refine returnsInHanded_of_change (C := Try.checked) Try.own started (by kernel_rfl) Try.func11
    (ChangeSpec.witness6 (enc := enc) (C := Try.checked) false ⟨#[], #[.slice none 0 0, .int .u8 0], []⟩ 8 (by kernel_rfl) (by kernel_rfl) (by kernel_rfl) (by kernel_rfl)) ?_
  intro W base args ds gs before hval0 hW hcnd _
  have hval : ∀ (j : Nat) t v, Try.f11.params[j]? = some t → args[j]? = some v → Value.okWide Try.prog W .any base t v := hval0
  have hW' := hW
  obtain ⟨p, q, hA0, hV, rfl, hfz, hnd⟩ := hW
  have hA : DataW.TrodAll enc Try.prog W 0 (fun _ => true) true Try.f11.params.toList args.toList ds p := hA0
  rw [Try.params11] at hA hval
  obtain ⟨v0, vs0, d0, ds0, p0, q0, hargs, rfl, rfl, h0, r0⟩ := trodAll_cons hA
  obtain ⟨v1, vs1, d1, ds1, p1, q1, rfl, rfl, rfl, h1, r1⟩ := trodAll_cons r0
  obtain ⟨rfl, rfl, rfl⟩ := trodAll_nil r1
  obtain rfl : args = #[v0, v1] := by cases args; simp_all
  obtain ⟨a0, len0, cap0, rfl⟩ := okWide_slice Try.underlying96 (hval 0 96 v0 rfl rfl)
  obtain ⟨fuel0, hf0⟩ := h0
  obtain ⟨A_l, len_l, cap_l, l, hcs0, hlc_l, hcm_l, hl_l, g_l, rd_l⟩ := open_flat_list i64Cells inI Try.underlying96 i64_flat i64_cells (by decide) (fun _ => okI64) hf0
  have hcs0' : (Value.slice a0 len0 cap0) = .slice A_l len_l cap_l := by simpa [Value.cells] using hcs0
  injection hcs0' with e1_0 e2_0 e3_0
  subst e1_0; subst e2_0; subst e3_0
  obtain ⟨a, rfl, rfl, rfl, w_a⟩ := open_int Try.underlying5 (hval 1 5 v1 rfl rfl) h1
  have key : Calls Try.prog 11 #[.slice a0 len0 cap0, .int .u8 a] W fun e w' => e = .returned (.bool true) ∧ Below W.heap.size W w' := by
    have ha := wf_bd_u8 w_a
    by_cases hn : len0 ≤ 200
    · obtain ⟨k, hk⟩ := Int.eq_ofNat_of_zero_le ha.1
      subst hk
      exact moneySums_few a0 len0 cap0 k l W rd_l hn (by omega) g_l
    · exact moneySums_long a0 len0 cap0 a W (by omega)
  refine key.mono fun e W' ⟨he, hb⟩ => ⟨_, he, ?_⟩
  exact law_post (tb := 4) Try.laidOut (by kernel_rfl) rfl Try.underlying4 rfl hW' (by obtain ⟨rfl, rfl⟩ := trodVars_none hV; rfl) hb

theorem moneySums_holds : Rows.MoneySumsSaid :=
  OpenClaim.holds_of_wide 11 Try.f11 rfl rfl rfl rfl rfl rfl rfl ⟨rfl, rfl, rfl, rfl, rfl⟩ rfl rfl rfl rfl rfl (by kernel_rfl) Try.func11 (by kernel_rfl)
    (of_decide_eq_true (by kernel_rfl)) (by unfold Func.isWrapper; first | (rw [if_pos (by decide +kernel)]; kernel_rfl) | (rw [if_neg (by decide +kernel)]; exact ⟨rfl, rfl⟩))
    (fun os started H enc _ => moneySums_lifted os started H enc)

end Go.Proofs.Ytjkabmijkbpodaa
