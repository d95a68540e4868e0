/-
  TimerPlays answers true for every input: what any calls of a wheel do, one behind the other: what each tells, and all timers, in their order.
-/
import Derived.Test.YtndhhnfhookeaaaTimZ
import Derived.Test.YtndhhnfhookeaaaLaw
namespace Go.Proofs.Ytndhhnfhookeaaa
open Go.ChangeShapes Go.WideShapes Go.ChangeAt Go.RowKit Go.Deep

theorem act_flat : flatOf Try.prog 3 43 = some [.i64, .i64, .i64, .i64, .i64] := by kernel_rfl
theorem act_cellsOf : Try.prog.cellsOf 43 = 5 := by kernel_rfl
theorem okAct {zs : List Int} (h : IntsOk [.i64, .i64, .i64, .i64, .i64] zs) : ∃ t : ActV, intVals [.i64, .i64, .i64, .i64, .i64] zs = t.cells ∧ True := by
  match zs, h with
  | [a, b, c, d, e], h => exact ⟨⟨a, ⟨b, c, d, e⟩⟩, rfl, trivial⟩

set_option maxRecDepth 100000 in
theorem timerPlays_lifted (os : Os) (started : os.Started) (H : Type) (enc : TypeId × Value → H) :
    ReturnsInHanded {} Try.checked os 4 .any (Rows.timerPlaysSpec.pre6 enc Try.prog Try.f4 Rows.timerPlaysRow.domain false) (Rows.timerPlaysSpec.post enc Try.prog Try.f4 false true false false) := by
  refine returnsInHanded_of_change (C := Try.checked) Try.own started (by kernel_rfl) Try.func4
    (ChangeSpec.witness6 (enc := enc) (C := Try.checked) false ⟨#[], #[.int .i64 0, .slice none 0 0], []⟩ 8 (by kernel_rfl) (by kernel_rfl) (by kernel_rfl) (by kernel_rfl)) ?_
  intro W base args ds gs before hval0 hW hcnd _
  have hval : ∀ (j : Nat) t v, Try.f4.params[j]? = some t → args[j]? = some v → Value.okWide Try.prog W .any base t v := hval0
  have hW' := hW
  obtain ⟨p, q, hA0, hV, rfl, hfz, hnd⟩ := hW
  have hA : DataW.TrodAll enc Try.prog W 0 (fun _ => true) true Try.f4.params.toList args.toList ds p := hA0
  rw [Try.params4] at hA hval
  obtain ⟨v0, vs0, d0, ds0, p0, q0, hargs, rfl, rfl, h0, r0⟩ := trodAll_cons hA
  obtain ⟨v1, vs1, d1, ds1, p1, q1, rfl, rfl, rfl, h1, r1⟩ := trodAll_cons r0
  obtain ⟨rfl, rfl, rfl⟩ := trodAll_nil r1
  obtain rfl : args = #[v0, v1] := by cases args; simp_all
  obtain ⟨a, rfl, rfl, rfl, w_a⟩ := open_int Try.underlying3 (hval 0 3 v0 rfl rfl) h0
  obtain ⟨a1, len1, cap1, rfl⟩ := okWide_slice Try.underlying39 (hval 1 39 v1 rfl rfl)
  obtain ⟨fuel1, hf1⟩ := h1
  obtain ⟨A_l, len_l, cap_l, l, hcs1, hlc_l, hcm_l, hl_l, g_l, rd_l⟩ := open_flat_list ActV.cells (fun _ => True) Try.underlying39 act_flat act_cellsOf (by decide) (fun _ => okAct) hf1
  have hcs1' : (Value.slice a1 len1 cap1) = .slice A_l len_l cap_l := by simpa [Value.cells] using hcs1
  injection hcs1' with e1_1 e2_1 e3_1
  subst e1_1; subst e2_1; subst e3_1
  have key : Calls Try.prog 4 #[.int .i64 a, .slice a1 len1 cap1] W fun e w' => e = .returned (.bool true) ∧ Below W.heap.size W w' := by
    by_cases h : len1 ≤ 60
    · exact timerPlays_few a a1 len1 cap1 l W rd_l h
    · exact timerPlays_long a a1 len1 cap1 W (by omega)
  refine key.mono fun e W' ⟨he, hb⟩ => ⟨_, he, ?_⟩
  exact law_post (tb := 4) Try.laidOut (by kernel_rfl) rfl Try.underlying4 rfl hW' (by obtain ⟨rfl, rfl⟩ := trodVars_none hV; rfl) hb

theorem timerPlays_holds : Rows.TimerPlaysSaid :=
  OpenClaim.holds_of_wide 4 Try.f4 rfl rfl rfl rfl rfl rfl rfl ⟨rfl, rfl, rfl, rfl, rfl⟩ rfl rfl rfl rfl rfl (by kernel_rfl) Try.func4 (by kernel_rfl)
    (of_decide_eq_true (by kernel_rfl)) (by unfold Func.isWrapper; first | (rw [if_pos (by decide +kernel)]; kernel_rfl) | (rw [if_neg (by decide +kernel)]; exact ⟨rfl, rfl⟩))
    (fun os started H enc _ => timerPlays_lifted os started H enc)

end Go.Proofs.Ytndhhnfhookeaaa
