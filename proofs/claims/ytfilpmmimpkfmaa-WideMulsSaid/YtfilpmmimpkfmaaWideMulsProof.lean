/-
  WideMuls answers true for every input: the product of any two words, and how two products compare.
-/
import Derived.Test.YtfilpmmimpkfmaaWidJ
import Derived.Test.YtfilpmmimpkfmaaLaw
namespace Go.Proofs.Ytfilpmmimpkfmaa
open Go.ChangeShapes Go.WideShapes Go.ChangeAt Go.RowKit Go.Deep

set_option maxRecDepth 100000 in
theorem wideMuls_lifted (os : Os) (started : os.Started) (H : Type) (enc : TypeId × Value → H) :
    ReturnsInHanded {} Try.checked os 3 .any (Rows.wideMulsSpec.pre6 enc Try.prog Try.f3 Rows.wideMulsRow.domain false) (Rows.wideMulsSpec.post enc Try.prog Try.f3 false true false false) := by
  refine returnsInHanded_of_change (C := Try.checked) Try.own started (by kernel_rfl) Try.func3
    (ChangeSpec.witness6 (enc := enc) (C := Try.checked) false ⟨#[], #[.int .u64 0, .int .u64 0, .agg #[.int .u64 0, .int .u64 0]], []⟩ 8 (by kernel_rfl) (by kernel_rfl) (by kernel_rfl) (by kernel_rfl)) ?_
  intro W base args ds gs before hval0 hW hcnd _
  have hval : ∀ (j : Nat) t v, Try.f3.params[j]? = some t → args[j]? = some v → Value.okWide Try.prog W .any base t v := hval0
  have hW' := hW
  obtain ⟨p, q, hA0, hV, rfl, hfz, hnd⟩ := hW
  have hA : DataW.TrodAll enc Try.prog W 0 (fun _ => true) true Try.f3.params.toList args.toList ds p := hA0
  rw [Try.params3] at hA hval
  obtain ⟨v0, vs0, d0, ds0, p0, q0, hargs, rfl, rfl, h0, r0⟩ := trodAll_cons hA
  obtain ⟨v1, vs1, d1, ds1, p1, q1, rfl, rfl, rfl, h1, r1⟩ := trodAll_cons r0
  obtain ⟨v2, vs2, d2, ds2, p2, q2, rfl, rfl, rfl, h2, r2⟩ := trodAll_cons r1
  obtain ⟨rfl, rfl, rfl⟩ := trodAll_nil r2
  obtain rfl : args = #[v0, v1, v2] := by cases args; simp_all
  obtain ⟨a, rfl, rfl, rfl, w_a⟩ := open_int Try.underlying22 (hval 0 22 v0 rfl rfl) h0
  obtain ⟨b, rfl, rfl, rfl, w_b⟩ := open_int Try.underlying22 (hval 1 22 v1 rfl rfl) h1
  obtain ⟨arr2, rfl, hsz2⟩ := okWide_array Try.underlying23 (hval 2 23 v2 rfl rfl)
  obtain ⟨fuel2, hf2⟩ := h2
  obtain ⟨zs2, hcs2, hok2⟩ := flatOf_open 3 23 [.u64, .u64] fuel2 _ _ (by kernel_rfl) hf2
  obtain ⟨x0, x1, rfl⟩ : ∃ a b, zs2 = [a, b] := by
    match zs2, hok2.1 with
    | [a, b], _ => exact ⟨a, b, rfl⟩
  have w_x0 := hok2.2 0 _ _ rfl rfl
  have w_x1 := hok2.2 1 _ _ rfl rfl
  obtain rfl : arr2 = #[.int .u64 x0, .int .u64 x1] := by
    apply Array.ext'; simpa [Value.cells, intVals] using hcs2
  have key : Calls Try.prog 3 #[.int .u64 a, .int .u64 b, .agg #[.int .u64 x0, .int .u64 x1]] W fun e w' => e = .returned (.bool true) ∧ Below W.heap.size W w' := by
    have b1 := wf_bd_u64 w_a
    have b2 := wf_bd_u64 w_b
    have b3 := wf_bd_u64 w_x0
    have b4 := wf_bd_u64 w_x1
    exact wideMuls_any a b x0 x1 b1.1 (by omega) b2.1 (by omega) b3.1 (by omega) b4.1 (by omega) W
  refine key.mono fun e W' ⟨he, hb⟩ => ⟨_, he, ?_⟩
  exact law_post (tb := 4) Try.laidOut (by kernel_rfl) rfl Try.underlying4 rfl hW' (by obtain ⟨rfl, rfl⟩ := trodVars_none hV; rfl) hb

theorem wideMuls_holds : Rows.WideMulsSaid :=
  OpenClaim.holds_of_wide 3 Try.f3 rfl rfl rfl rfl rfl rfl rfl ⟨rfl, rfl, rfl, rfl, rfl⟩ rfl rfl rfl rfl rfl (by kernel_rfl) Try.func3 (by kernel_rfl)
    (of_decide_eq_true (by kernel_rfl)) (by unfold Func.isWrapper; first | (rw [if_pos (by decide +kernel)]; kernel_rfl) | (rw [if_neg (by decide +kernel)]; exact ⟨rfl, rfl⟩))
    (fun os started H enc _ => wideMuls_lifted os started H enc)

end Go.Proofs.Ytfilpmmimpkfmaa
