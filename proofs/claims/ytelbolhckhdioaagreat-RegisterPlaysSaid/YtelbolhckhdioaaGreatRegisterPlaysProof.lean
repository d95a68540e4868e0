/-
  RegisterPlays answers true for every input: which trades are accepted, and cancelled, and which there are then, of any house, cycle by cycle.
-/
import Derived.Test.YtelbolhckhdioaaGreatRwB
import Derived.Test.YtelbolhckhdioaaGreatOpenCf
namespace Go.Proofs.YtelbolhckhdioaaGreat
open Go.ChangeShapes Go.WideShapes Go.ChangeAt Go.RowKit Go.Deep

theorem actG_flat : flatOf Tryz.prog 4 51 = some [.i64, .i64, .i64, .i64, .i64, .i64, .i64, .i64] := by kernel_rfl
theorem actG_cellsOf : Tryz.prog.cellsOf 51 = 8 := by kernel_rfl
theorem okActG {zs : List Int} (h : IntsOk [.i64, .i64, .i64, .i64, .i64, .i64, .i64, .i64] zs) : ∃ a : ActG, intVals [.i64, .i64, .i64, .i64, .i64, .i64, .i64, .i64] zs = a.cells ∧ (inI a.t.qty ∧ inI a.t.price) := by
  match zs, h with
  | [k, a, b, c, d, e, f, i], h => exact ⟨⟨k, ⟨a, b, c, d, e, f⟩, i⟩, rfl, wf_bd (h.2 5 _ _ rfl rfl), wf_bd (h.2 6 _ _ rfl rfl)⟩

set_option maxRecDepth 100000 in
theorem registerPlays_lifted (os : Os) (started : os.Started) (H : Type) (enc : TypeId × Value → H) :
    ReturnsInHanded {} Tryz.checked os 3 .any (Rows.registerPlaysSpec.pre6 enc Tryz.prog Tryz.f3 Rows.registerPlaysRow.domain false) (Rows.registerPlaysSpec.post enc Tryz.prog Tryz.f3 false true false false) := by
  refine returnsInHanded_of_change (C := Tryz.checked) Tryz.own started (by kernel_rfl) Tryz.func3
    (ChangeSpec.witness6 (enc := enc) (C := Tryz.checked) false ⟨#[], #[.agg #[.slice none 0 0, .slice none 0 0, .slice none 0 0, .int .i64 0, .int .i64 0, .int .i64 0, .int .i64 0, .int .i64 0], .slice none 0 0, .agg #[.int .i64 0, .int .i64 0]], []⟩ 8 (by kernel_rfl) (by kernel_rfl) (by kernel_rfl) (by kernel_rfl)) ?_
  intro W base args ds gs before hval0 hW hcnd _
  have hval : ∀ (j : Nat) t v, Tryz.f3.params[j]? = some t → args[j]? = some v → Value.okWide Tryz.prog W .any base t v := hval0
  have hW' := hW
  obtain ⟨p, q, hA0, hV, rfl, hfz, hnd⟩ := hW
  have hA : DataW.TrodAll enc Tryz.prog W 0 (fun _ => true) true Tryz.f3.params.toList args.toList ds p := hA0
  rw [Tryz.params3] at hA hval
  obtain ⟨v0, vs0, d0, ds0, p0, q0, hargs, rfl, rfl, h0, r0⟩ := trodAll_cons hA
  obtain ⟨v1, vs1, d1, ds1, p1, q1, rfl, rfl, rfl, h1, r1⟩ := trodAll_cons r0
  obtain ⟨v2, vs2, d2, ds2, p2, q2, rfl, rfl, rfl, h2, r2⟩ := trodAll_cons r1
  obtain ⟨rfl, rfl, rfl⟩ := trodAll_nil r2
  obtain rfl : args = #[v0, v1, v2] := by cases args; simp_all
  obtain ⟨arr0, rfl, hsz0⟩ := okWide_struct cfg_under (hval 0 26 v0 rfl rfl)
  obtain ⟨fuel0, hf0⟩ := h0
  obtain ⟨A1, A2, A3, n1, n2, n3, cp1, cp2, cp3, cf, hcs0, hr1, hr2, hr3, gcf⟩ := open_cfg hf0
  obtain rfl : arr0 = #[.slice A1 n1 cp1, .slice A2 n2 cp2, .slice A3 n3 cp3, .int .i64 cf.line, .int .i64 cf.capital, .int .i64 cf.lead, .int .i64 cf.trades, .int .i64 cf.bids] := by
    apply Array.ext'; simpa [Value.cells] using hcs0
  obtain ⟨a1, len1, cap1, rfl⟩ := okWide_slice Tryz.underlying27 (hval 1 27 v1 rfl rfl)
  obtain ⟨fuel1, hf1⟩ := h1
  obtain ⟨A_ml, len_ml, cap_ml, ml, hcs1, hlc_ml, hcm_ml, hl_ml, g_ml, rd_ml⟩ := open_flat_list ActG.cells (fun a => inI a.t.qty ∧ inI a.t.price) Tryz.underlying27 actG_flat actG_cellsOf (by decide) (fun _ => okActG) hf1
  have hcs1' : (Value.slice a1 len1 cap1) = .slice A_ml len_ml cap_ml := by simpa [Value.cells] using hcs1
  injection hcs1' with e1_1 e2_1 e3_1
  subst e1_1; subst e2_1; subst e3_1
  obtain ⟨arr2, rfl, hsz2⟩ := okWide_array Tryz.underlying28 (hval 2 28 v2 rfl rfl)
  obtain ⟨fuel2, hf2⟩ := h2
  obtain ⟨zs2, hcs2, hok2⟩ := flatOf_open 3 28 [.i64, .i64] fuel2 _ _ (by kernel_rfl) hf2
  obtain ⟨x0, x1, rfl⟩ : ∃ a b, zs2 = [a, b] := by
    match zs2, hok2.1 with
    | [a, b], _ => exact ⟨a, b, rfl⟩
  obtain rfl : arr2 = #[.int .i64 x0, .int .i64 x1] := by
    apply Array.ext'; simpa [Value.cells, intVals] using hcs2
  have key : Calls Tryz.prog 3 #[.agg #[.slice A1 n1 cp1, .slice A2 n2 cp2, .slice A3 n3 cp3, .int .i64 cf.line, .int .i64 cf.capital, .int .i64 cf.lead, .int .i64 cf.trades, .int .i64 cf.bids], .slice a1 len1 cap1, .agg #[.int .i64 x0, .int .i64 x1]] W fun e w' => e = .returned (.bool true) ∧ Below W.heap.size W w' := by
    by_cases hfew : fewB n1 n2 n3 = true ∧ len1 ≤ 60
    · obtain ⟨hfew, hn60⟩ := hfew
      have h20 : n1 ≤ 20 ∧ n2 ≤ 20 ∧ n3 ≤ 20 := by simpa [fewB] using hfew
      have hcf : CfRd W A1 n1 A2 n2 A3 n3 cf := ⟨hr1, hr2, hr3, by omega, by omega, by omega⟩
      by_cases hk8 : wrongK cf = 8
      · exact registerPlays_few A1 A2 A3 n1 n2 n3 cp1 cp2 cp3 cf a1 len1 cap1 x0 x1 ml W hcf rd_ml g_ml hfew hn60 hk8
      · exact registerPlays_wrong A1 A2 A3 n1 n2 n3 cp1 cp2 cp3 cf a1 len1 cap1 x0 x1 W hcf hfew hn60 hk8
    · exact registerPlays_many A1 A2 A3 n1 n2 n3 cp1 cp2 cp3 cf a1 len1 cap1 x0 x1 W hfew
  refine key.mono fun e W' ⟨he, hb⟩ => ⟨_, he, ?_⟩
  exact law_post (tb := 4) Tryz.laidOut (by kernel_rfl) rfl Tryz.underlying4 rfl hW' (by obtain ⟨rfl, rfl⟩ := trodVars_none hV; rfl) hb

theorem registerPlays_holds : Rows.RegisterPlaysSaid :=
  OpenClaim.holds_of_wide 3 Tryz.f3 rfl rfl rfl rfl rfl rfl rfl ⟨rfl, rfl, rfl, rfl, rfl⟩ rfl rfl rfl rfl rfl (by kernel_rfl) Tryz.func3 (by kernel_rfl)
    (of_decide_eq_true (by kernel_rfl)) (by unfold Func.isWrapper; first | (rw [if_pos (by decide +kernel)]; kernel_rfl) | (rw [if_neg (by decide +kernel)]; exact ⟨rfl, rfl⟩))
    (fun os started H enc _ => registerPlays_lifted os started H enc)

end Go.Proofs.YtelbolhckhdioaaGreat
