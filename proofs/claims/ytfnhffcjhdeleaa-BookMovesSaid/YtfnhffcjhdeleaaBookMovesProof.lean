/-
  BookMoves answers true for every input: what is moved from one account to another, behind any postings; which accounts have a balance.
-/
import Derived.Test.YtfnhffcjhdeleaaBokU
import Derived.Test.YtfnhffcjhdeleaaOpenE
namespace Go.Proofs.Ytfnhffcjhdeleaa
open Go.ChangeShapes Go.WideShapes Go.ChangeAt Go.RowKit Go.Deep

theorem ent_under : Try.prog.underlying 51 = some (.struct (Try.prog.fieldsOf 51)) := by kernel_rfl
theorem okEntV {zs : List Int} (h : IntsOk [.i64, .i64, .i64, .i64] zs) : ∃ t : Ent, intVals [.i64, .i64, .i64, .i64] zs = [.int .i64 t.k, .int .i64 t.m, .int .i64 t.a, .int .i64 t.z] ∧ EntOk t := okEnt h

set_option maxRecDepth 100000 in
theorem bookMoves_lifted (os : Os) (started : os.Started) (H : Type) (enc : TypeId × Value → H) :
    ReturnsInHanded {} Try.checked os 5 .any (Rows.bookMovesSpec.pre6 enc Try.prog Try.f5 Rows.bookMovesRow.domain false) (Rows.bookMovesSpec.post enc Try.prog Try.f5 false true false false) := by
  refine returnsInHanded_of_change (C := Try.checked) Try.own started (by kernel_rfl) Try.func5
    (ChangeSpec.witness6 (enc := enc) (C := Try.checked) false ⟨#[], #[.slice none 0 0, .agg #[.int .i64 0, .int .i64 0, .int .i64 0, .int .i64 0], .agg #[.int .i64 0, .int .i64 0, .int .i64 0, .int .i64 0]], []⟩ 8 (by kernel_rfl) (by kernel_rfl) (by kernel_rfl) (by kernel_rfl)) ?_
  intro W base args ds gs before hval0 hW hcnd _
  have hval : ∀ (j : Nat) t v, Try.f5.params[j]? = some t → args[j]? = some v → Value.okWide Try.prog W .any base t v := hval0
  have hW' := hW
  obtain ⟨p, q, hA0, hV, rfl, hfz, hnd⟩ := hW
  have hA : DataW.TrodAll enc Try.prog W 0 (fun _ => true) true Try.f5.params.toList args.toList ds p := hA0
  rw [Try.params5] at hA hval
  obtain ⟨v0, vs0, d0, ds0, p0, q0, hargs, rfl, rfl, h0, r0⟩ := trodAll_cons hA
  obtain ⟨v1, vs1, d1, ds1, p1, q1, rfl, rfl, rfl, h1, r1⟩ := trodAll_cons r0
  obtain ⟨v2, vs2, d2, ds2, p2, q2, rfl, rfl, rfl, h2, r2⟩ := trodAll_cons r1
  obtain ⟨rfl, rfl, rfl⟩ := trodAll_nil r2
  obtain rfl : args = #[v0, v1, v2] := by cases args; simp_all
  obtain ⟨a0, len0, cap0, rfl⟩ := okWide_slice Try.underlying22 (hval 0 22 v0 rfl rfl)
  obtain ⟨fuel0, hf0⟩ := h0
  obtain ⟨A_ps, len_ps, cap_ps, ps, hcs0, hl_ps, rd_ps, k_ps⟩ := open_posts hf0
  have hcs0' : (Value.slice a0 len0 cap0) = .slice A_ps len_ps cap_ps := by simpa [Value.cells] using hcs0
  injection hcs0' with e1_0 e2_0 e3_0
  subst e1_0; subst e2_0; subst e3_0
  obtain ⟨arr1, rfl, hsz1⟩ := okWide_struct ent_under (hval 1 51 v1 rfl rfl)
  obtain ⟨fuel1, hf1⟩ := h1
  obtain ⟨zs1, hcs1, hok1⟩ := flatOf_open 3 51 _ fuel1 _ _ ent_flat hf1
  obtain ⟨x, hx1, g_x⟩ := okEntV hok1
  obtain rfl : arr1 = #[.int .i64 x.k, .int .i64 x.m, .int .i64 x.a, .int .i64 x.z] := by
    apply Array.ext'; rw [hx1] at hcs1; simpa [Value.cells] using hcs1
  obtain ⟨arr2, rfl, hsz2⟩ := okWide_struct ent_under (hval 2 51 v2 rfl rfl)
  obtain ⟨fuel2, hf2⟩ := h2
  obtain ⟨zs2, hcs2, hok2⟩ := flatOf_open 3 51 _ fuel2 _ _ ent_flat hf2
  obtain ⟨y, hx2, g_y⟩ := okEntV hok2
  obtain rfl : arr2 = #[.int .i64 y.k, .int .i64 y.m, .int .i64 y.a, .int .i64 y.z] := by
    apply Array.ext'; rw [hx2] at hcs2; simpa [Value.cells] using hcs2
  have key : Calls Try.prog 5 #[.slice a0 len0 cap0, .agg #[.int .i64 x.k, .int .i64 x.m, .int .i64 x.a, .int .i64 x.z], .agg #[.int .i64 y.k, .int .i64 y.m, .int .i64 y.a, .int .i64 y.z]] W fun e w' => e = .returned (.bool true) ∧ Below W.heap.size W w' := by
    cases hfew : fewP 20 ps with
    | true => exact bookMoves_few x y g_x g_y a0 len0 cap0 ps W rd_ps k_ps hfew
    | false => exact bookMoves_long x y a0 len0 cap0 ps W rd_ps hfew
  refine key.mono fun e W' ⟨he, hb⟩ => ⟨_, he, ?_⟩
  exact law_post (tb := 4) Try.laidOut (by kernel_rfl) rfl Try.underlying4 rfl hW' (by obtain ⟨rfl, rfl⟩ := trodVars_none hV; rfl) hb

theorem bookMoves_holds : Rows.BookMovesSaid :=
  OpenClaim.holds_of_wide 5 Try.f5 rfl rfl rfl rfl rfl rfl rfl ⟨rfl, rfl, rfl, rfl, rfl⟩ rfl rfl rfl rfl rfl (by kernel_rfl) Try.func5 (by kernel_rfl)
    (of_decide_eq_true (by kernel_rfl)) (by unfold Func.isWrapper; first | (rw [if_pos (by decide +kernel)]; kernel_rfl) | (rw [if_neg (by decide +kernel)]; exact ⟨rfl, rfl⟩))
    (fun os started H enc _ => bookMoves_lifted os started H enc)

end Go.Proofs.Ytfnhffcjhdeleaa
