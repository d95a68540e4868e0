/-
  TimerOrders answers true for every input: in whatever order timers were set, they fire in one order, each once, one by one or all at once.
-/
import Derived.Test.YtndhhnfhookeaaaTioB
import Derived.Test.YtndhhnfhookeaaaLaw
namespace Go.Proofs.Ytndhhnfhookeaaa
open Go.ChangeShapes Go.WideShapes Go.ChangeAt Go.RowKit Go.Deep

theorem tim_flat : flatOf Try.prog 3 29 = some [.i64, .i64, .i64, .i64] := by kernel_rfl
theorem tim_cellsOf : Try.prog.cellsOf 29 = 4 := by kernel_rfl
theorem okTim {zs : List Int} (h : IntsOk [.i64, .i64, .i64, .i64] zs) : ∃ t : Tim, intVals [.i64, .i64, .i64, .i64] zs = t.cells ∧ True := by
  match zs, h with
  | [a, b, c, d], h => exact ⟨⟨a, b, c, d⟩, rfl, trivial⟩

set_option maxRecDepth 100000 in
theorem timerOrders_lifted (os : Os) (started : os.Started) (H : Type) (enc : TypeId × Value → H) :
    ReturnsInHanded {} Try.checked os 3 .any (Rows.timerOrdersSpec.pre6 enc Try.prog Try.f3 Rows.timerOrdersRow.domain false) (Rows.timerOrdersSpec.post enc Try.prog Try.f3 false true false false) := by
  refine returnsInHanded_of_change (C := Try.checked) Try.own started (by kernel_rfl) Try.func3
    (ChangeSpec.witness6 (enc := enc) (C := Try.checked) false ⟨#[], #[.slice none 0 0, .int .u8 0, .int .i64 0], []⟩ 8 (by kernel_rfl) (by kernel_rfl) (by kernel_rfl) (by kernel_rfl)) ?_
  intro W base args ds gs before hval0 hW hcnd _
  have hval : ∀ (j : Nat) t v, Try.f3.params[j]? = some t → args[j]? = some v → Value.okWide Try.prog W .any base t v := hval0
  have hW' := hW
  obtain ⟨p, q, hA0, hV, rfl, hfz, hnd⟩ := hW
  have hA : DataW.TrodAll enc Try.prog W 0 (fun _ => true) true Try.f3.params.toList args.toList ds p := hA0
  rw [Try.params3] at hA hval
  obtain ⟨v0, vs0, d0, ds0, p0, q0, hargs, rfl, rfl, h0, r0⟩ := trodAll_cons hA
  obtain ⟨v1, vs1, d1, ds1, p1, q1, rfl, rfl, rfl, h1, r1⟩ := trodAll_cons r0
  obtain ⟨v2, vs2, d2, ds2, p2, q2, rfl, rfl, rfl, h2, r2⟩ := trodAll_cons r1
  obtain ⟨rfl, rfl, rfl⟩ := trodAll_nil r2
  obtain rfl : args = #[v0, v1, v2] := by cases args; simp_all
  obtain ⟨a0, len0, cap0, rfl⟩ := okWide_slice Try.underlying22 (hval 0 22 v0 rfl rfl)
  obtain ⟨fuel0, hf0⟩ := h0
  obtain ⟨A_l, len_l, cap_l, l, hcs0, hlc_l, hcm_l, hl_l, g_l, rd_l⟩ := open_flat_list Tim.cells (fun _ => True) Try.underlying22 tim_flat tim_cellsOf (by decide) (fun _ => okTim) hf0
  have hcs0' : (Value.slice a0 len0 cap0) = .slice A_l len_l cap_l := by simpa [Value.cells] using hcs0
  injection hcs0' with e1_0 e2_0 e3_0
  subst e1_0; subst e2_0; subst e3_0
  obtain ⟨a, rfl, rfl, rfl, w_a⟩ := open_int Try.underlying5 (hval 1 5 v1 rfl rfl) h1
  obtain ⟨b, rfl, rfl, rfl, w_b⟩ := open_int Try.underlying3 (hval 2 3 v2 rfl rfl) h2
  have key : Calls Try.prog 3 #[.slice a0 len0 cap0, .int .u8 a, .int .i64 b] W fun e w' => e = .returned (.bool true) ∧ Below W.heap.size W w' := by
    have ha := wf_bd_u8 w_a
    by_cases h : len0 ≤ 40
    · obtain ⟨k, hk⟩ := Int.eq_ofNat_of_zero_le ha.1
      subst hk
      exact timerOrders_few a0 len0 cap0 k b l W rd_l h (by omega)
    · exact timerOrders_long a0 len0 cap0 a b W (by omega)
  refine key.mono fun e W' ⟨he, hb⟩ => ⟨_, he, ?_⟩
  exact law_post (tb := 4) Try.laidOut (by kernel_rfl) rfl Try.underlying4 rfl hW' (by obtain ⟨rfl, rfl⟩ := trodVars_none hV; rfl) hb

theorem timerOrders_holds : Rows.TimerOrdersSaid :=
  OpenClaim.holds_of_wide 3 Try.f3 rfl rfl rfl rfl rfl rfl rfl ⟨rfl, rfl, rfl, rfl, rfl⟩ rfl rfl rfl rfl rfl (by kernel_rfl) Try.func3 (by kernel_rfl)
    (of_decide_eq_true (by kernel_rfl)) (by unfold Func.isWrapper; first | (rw [if_pos (by decide +kernel)]; kernel_rfl) | (rw [if_neg (by decide +kernel)]; exact ⟨rfl, rfl⟩))
    (fun os started H enc _ => timerOrders_lifted os started H enc)

end Go.Proofs.Ytndhhnfhookeaaa
