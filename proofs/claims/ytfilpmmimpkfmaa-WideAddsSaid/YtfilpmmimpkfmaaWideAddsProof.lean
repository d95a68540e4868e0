/-
  WideAdds answers true for every input: the sum and the difference of any two wide numbers, or that it is none, and how they compare.
-/
import Derived.Test.YtfilpmmimpkfmaaWidM
import Derived.Test.YtfilpmmimpkfmaaLaw
namespace Go.Proofs.Ytfilpmmimpkfmaa
open Go.ChangeShapes Go.WideShapes Go.ChangeAt Go.RowKit Go.Deep

theorem wide_flat : flatOf Try.prog 3 30 = some [.u64, .u64] := by kernel_rfl
theorem wide_under : Try.prog.underlying 30 = some (.struct (Try.prog.fieldsOf 30)) := by kernel_rfl
structure WideV where
  hi : Int
  lo : Int
theorem okWideV {zs : List Int} (h : IntsOk [.u64, .u64] zs) : ∃ t : WideV, intVals [.u64, .u64] zs = [.int .u64 t.hi, .int .u64 t.lo] ∧ (0 ≤ t.hi ∧ t.hi < 18446744073709551616 ∧ 0 ≤ t.lo ∧ t.lo < 18446744073709551616) := by
  match zs, h with
  | [a, b], h =>
    have h1 := wf_bd_u64 (h.2 0 _ _ rfl rfl)
    have h2 := wf_bd_u64 (h.2 1 _ _ rfl rfl)
    exact ⟨⟨a, b⟩, rfl, h1.1, (by simp only; omega), h2.1, (by simp only; omega)⟩

set_option maxRecDepth 100000 in
theorem wideAdds_lifted (os : Os) (started : os.Started) (H : Type) (enc : TypeId × Value → H) :
    ReturnsInHanded {} Try.checked os 4 .any (Rows.wideAddsSpec.pre6 enc Try.prog Try.f4 Rows.wideAddsRow.domain false) (Rows.wideAddsSpec.post enc Try.prog Try.f4 false true false false) := by
  refine returnsInHanded_of_change (C := Try.checked) Try.own started (by kernel_rfl) Try.func4
    (ChangeSpec.witness6 (enc := enc) (C := Try.checked) false ⟨#[], #[.agg #[.int .u64 0, .int .u64 0], .agg #[.int .u64 0, .int .u64 0]], []⟩ 8 (by kernel_rfl) (by kernel_rfl) (by kernel_rfl) (by kernel_rfl)) ?_
  intro W base args ds gs before hval0 hW hcnd _
  have hval : ∀ (j : Nat) t v, Try.f4.params[j]? = some t → args[j]? = some v → Value.okWide Try.prog W .any base t v := hval0
  have hW' := hW
  obtain ⟨p, q, hA0, hV, rfl, hfz, hnd⟩ := hW
  have hA : DataW.TrodAll enc Try.prog W 0 (fun _ => true) true Try.f4.params.toList args.toList ds p := hA0
  rw [Try.params4] at hA hval
  obtain ⟨v0, vs0, d0, ds0, p0, q0, hargs, rfl, rfl, h0, r0⟩ := trodAll_cons hA
  obtain ⟨v1, vs1, d1, ds1, p1, q1, rfl, rfl, rfl, h1, r1⟩ := trodAll_cons r0
  obtain ⟨rfl, rfl, rfl⟩ := trodAll_nil r1
  obtain rfl : args = #[v0, v1] := by cases args; simp_all
  obtain ⟨arr0, rfl, hsz0⟩ := okWide_struct wide_under (hval 0 30 v0 rfl rfl)
  obtain ⟨fuel0, hf0⟩ := h0
  obtain ⟨zs0, hcs0, hok0⟩ := flatOf_open 3 30 _ fuel0 _ _ wide_flat hf0
  obtain ⟨x, hx0, g_x⟩ := okWideV hok0
  obtain rfl : arr0 = #[.int .u64 x.hi, .int .u64 x.lo] := by
    apply Array.ext'; rw [hx0] at hcs0; simpa [Value.cells] using hcs0
  obtain ⟨arr1, rfl, hsz1⟩ := okWide_struct wide_under (hval 1 30 v1 rfl rfl)
  obtain ⟨fuel1, hf1⟩ := h1
  obtain ⟨zs1, hcs1, hok1⟩ := flatOf_open 3 30 _ fuel1 _ _ wide_flat hf1
  obtain ⟨y, hx1, g_y⟩ := okWideV hok1
  obtain rfl : arr1 = #[.int .u64 y.hi, .int .u64 y.lo] := by
    apply Array.ext'; rw [hx1] at hcs1; simpa [Value.cells] using hcs1
  have key : Calls Try.prog 4 #[.agg #[.int .u64 x.hi, .int .u64 x.lo], .agg #[.int .u64 y.hi, .int .u64 y.lo]] W fun e w' => e = .returned (.bool true) ∧ Below W.heap.size W w' := by
    exact wideAdds_any x.hi x.lo y.hi y.lo g_x.1 g_x.2.1 g_x.2.2.1 g_x.2.2.2 g_y.1 g_y.2.1 g_y.2.2.1 g_y.2.2.2 W
  refine key.mono fun e W' ⟨he, hb⟩ => ⟨_, he, ?_⟩
  exact law_post (tb := 4) Try.laidOut (by kernel_rfl) rfl Try.underlying4 rfl hW' (by obtain ⟨rfl, rfl⟩ := trodVars_none hV; rfl) hb

theorem wideAdds_holds : Rows.WideAddsSaid :=
  OpenClaim.holds_of_wide 4 Try.f4 rfl rfl rfl rfl rfl rfl rfl ⟨rfl, rfl, rfl, rfl, rfl⟩ rfl rfl rfl rfl rfl (by kernel_rfl) Try.func4 (by kernel_rfl)
    (of_decide_eq_true (by kernel_rfl)) (by unfold Func.isWrapper; first | (rw [if_pos (by decide +kernel)]; kernel_rfl) | (rw [if_neg (by decide +kernel)]; exact ⟨rfl, rfl⟩))
    (fun os started H enc _ => wideAdds_lifted os started H enc)

end Go.Proofs.Ytfilpmmimpkfmaa
