/-
  WideDivs answers true for every input: how often any word is in any wide number, and what is left; or why that is not told.
-/
import Derived.Test.YtjkabmijkbpodaaWidC
import Derived.Test.YtjkabmijkbpodaaLaw
namespace Go.Proofs.Ytjkabmijkbpodaa
open Go.ChangeShapes Go.WideShapes Go.ChangeAt Go.RowKit Go.Deep

theorem wide_flat : flatOf Try.prog 3 65 = some [.u64, .u64] := by kernel_rfl
theorem wide_under : Try.prog.underlying 65 = some (.struct (Try.prog.fieldsOf 65)) := by kernel_rfl
structure WideV where
  hi : Int
  lo : Int
theorem okWideV {zs : List Int} (h : IntsOk [.u64, .u64] zs) : ∃ t : WideV, intVals [.u64, .u64] zs = [.int .u64 t.hi, .int .u64 t.lo] ∧ (0 ≤ t.hi ∧ t.hi < 18446744073709551616 ∧ 0 ≤ t.lo ∧ t.lo < 18446744073709551616) := by
  match zs, h with
  | [a, b], h =>
    have h1 := wf_bd_u64 (h.2 0 _ _ rfl rfl)
    have h2 := wf_bd_u64 (h.2 1 _ _ rfl rfl)
    exact ⟨⟨a, b⟩, rfl, h1.1, (by simp only; omega), h2.1, (by simp only; omega)⟩

set_option maxRecDepth 100000 in
theorem wideDivs_lifted (os : Os) (started : os.Started) (H : Type) (enc : TypeId × Value → H) :
    ReturnsInHanded {} Try.checked os 7 .any (Rows.wideDivsSpec.pre6 enc Try.prog Try.f7 Rows.wideDivsRow.domain false) (Rows.wideDivsSpec.post enc Try.prog Try.f7 false true false false) := by
  refine returnsInHanded_of_change (C := Try.checked) Try.own started (by kernel_rfl) Try.func7
    (ChangeSpec.witness6 (enc := enc) (C := Try.checked) false ⟨#[], #[.agg #[.int .u64 0, .int .u64 0], .int .u64 0], []⟩ 8 (by kernel_rfl) (by kernel_rfl) (by kernel_rfl) (by kernel_rfl)) ?_
  intro W base args ds gs before hval0 hW hcnd _
  have hval : ∀ (j : Nat) t v, Try.f7.params[j]? = some t → args[j]? = some v → Value.okWide Try.prog W .any base t v := hval0
  have hW' := hW
  obtain ⟨p, q, hA0, hV, rfl, hfz, hnd⟩ := hW
  have hA : DataW.TrodAll enc Try.prog W 0 (fun _ => true) true Try.f7.params.toList args.toList ds p := hA0
  rw [Try.params7] at hA hval
  obtain ⟨v0, vs0, d0, ds0, p0, q0, hargs, rfl, rfl, h0, r0⟩ := trodAll_cons hA
  obtain ⟨v1, vs1, d1, ds1, p1, q1, rfl, rfl, rfl, h1, r1⟩ := trodAll_cons r0
  obtain ⟨rfl, rfl, rfl⟩ := trodAll_nil r1
  obtain rfl : args = #[v0, v1] := by cases args; simp_all
  obtain ⟨arr0, rfl, hsz0⟩ := okWide_struct wide_under (hval 0 65 v0 rfl rfl)
  obtain ⟨fuel0, hf0⟩ := h0
  obtain ⟨zs0, hcs0, hok0⟩ := flatOf_open 3 65 _ fuel0 _ _ wide_flat hf0
  obtain ⟨x, hx0, g_x⟩ := okWideV hok0
  obtain rfl : arr0 = #[.int .u64 x.hi, .int .u64 x.lo] := by
    apply Array.ext'; rw [hx0] at hcs0; simpa [Value.cells] using hcs0
  obtain ⟨c, rfl, rfl, rfl, w_c⟩ := open_int Try.underlying63 (hval 1 63 v1 rfl rfl) h1
  have key : Calls Try.prog 7 #[.agg #[.int .u64 x.hi, .int .u64 x.lo], .int .u64 c] W fun e w' => e = .returned (.bool true) ∧ Below W.heap.size W w' := by
    have hc := wf_bd_u64 w_c
    exact wideDivs_any x.hi x.lo c g_x.1 g_x.2.1 g_x.2.2.1 g_x.2.2.2 hc.1 (by omega) W
  refine key.mono fun e W' ⟨he, hb⟩ => ⟨_, he, ?_⟩
  exact law_post (tb := 4) Try.laidOut (by kernel_rfl) rfl Try.underlying4 rfl hW' (by obtain ⟨rfl, rfl⟩ := trodVars_none hV; rfl) hb

theorem wideDivs_holds : Rows.WideDivsSaid :=
  OpenClaim.holds_of_wide 7 Try.f7 rfl rfl rfl rfl rfl rfl rfl ⟨rfl, rfl, rfl, rfl, rfl⟩ rfl rfl rfl rfl rfl (by kernel_rfl) Try.func7 (by kernel_rfl)
    (of_decide_eq_true (by kernel_rfl)) (by unfold Func.isWrapper; first | (rw [if_pos (by decide +kernel)]; kernel_rfl) | (rw [if_neg (by decide +kernel)]; exact ⟨rfl, rfl⟩))
    (fun os started H enc _ => wideDivs_lifted os started H enc)

end Go.Proofs.Ytjkabmijkbpodaa
