/-
  TradeLegs answers true for every input: what a trade comes to for both, towards the house; and what any legs come to, for any member, of any asset.
-/
import Derived.Test.YtjkabmijkbpodaaTradC
import Derived.Test.YtjkabmijkbpodaaLaw
namespace Go.Proofs.Ytjkabmijkbpodaa
open Go.ChangeShapes Go.WideShapes Go.ChangeAt Go.RowKit Go.Deep

theorem trade_flat : flatOf Try.prog 3 51 = some [.i64, .i64, .i64, .i64, .i64, .i64] := by kernel_rfl
theorem trade_under : Try.prog.underlying 51 = some (.struct (Try.prog.fieldsOf 51)) := by kernel_rfl
theorem leg_flat : flatOf Try.prog 3 61 = some [.i64, .i64, .i64] := by kernel_rfl
theorem leg_cells : Try.prog.cellsOf 61 = 3 := by kernel_rfl
theorem okTrad {zs : List Int} (h : IntsOk [.i64, .i64, .i64, .i64, .i64, .i64] zs) : ∃ t : Trad, intVals [.i64, .i64, .i64, .i64, .i64, .i64] zs = [.int .i64 t.id, .int .i64 t.buyer, .int .i64 t.seller, .int .i64 t.sec, .int .i64 t.qty, .int .i64 t.price] ∧ (inI t.qty ∧ inI t.price) := by
  match zs, h with
  | [a, b, c, d, e, f], h => exact ⟨⟨a, b, c, d, e, f⟩, rfl, wf_bd (h.2 4 _ _ rfl rfl), wf_bd (h.2 5 _ _ rfl rfl)⟩
theorem okLeg {zs : List Int} (h : IntsOk [.i64, .i64, .i64] zs) : ∃ b : Leg, intVals [.i64, .i64, .i64] zs = b.cells ∧ inI b.amount := by
  match zs, h with
  | [a, b, c], h => exact ⟨⟨a, b, c⟩, rfl, wf_bd (h.2 2 _ _ rfl rfl)⟩

set_option maxRecDepth 100000 in
theorem tradeLegs_lifted (os : Os) (started : os.Started) (H : Type) (enc : TypeId × Value → H) :
    ReturnsInHanded {} Try.checked os 6 .any (Rows.tradeLegsSpec.pre6 enc Try.prog Try.f6 Rows.tradeLegsRow.domain false) (Rows.tradeLegsSpec.post enc Try.prog Try.f6 false true false false) := by
  refine returnsInHanded_of_change (C := Try.checked) Try.own started (by kernel_rfl) Try.func6
    (ChangeSpec.witness6 (enc := enc) (C := Try.checked) false ⟨#[], #[.agg #[.int .i64 0, .int .i64 0, .int .i64 0, .int .i64 0, .int .i64 0, .int .i64 0], .slice none 0 0, .agg #[.int .i64 0, .int .i64 0]], []⟩ 8 (by kernel_rfl) (by kernel_rfl) (by kernel_rfl) (by kernel_rfl)) ?_
  intro W base args ds gs before hval0 hW hcnd _
  have hval : ∀ (j : Nat) t v, Try.f6.params[j]? = some t → args[j]? = some v → Value.okWide Try.prog W .any base t v := hval0
  have hW' := hW
  obtain ⟨p, q, hA0, hV, rfl, hfz, hnd⟩ := hW
  have hA : DataW.TrodAll enc Try.prog W 0 (fun _ => true) true Try.f6.params.toList args.toList ds p := hA0
  rw [Try.params6] at hA hval
  obtain ⟨v0, vs0, d0, ds0, p0, q0, hargs, rfl, rfl, h0, r0⟩ := trodAll_cons hA
  obtain ⟨v1, vs1, d1, ds1, p1, q1, rfl, rfl, rfl, h1, r1⟩ := trodAll_cons r0
  obtain ⟨v2, vs2, d2, ds2, p2, q2, rfl, rfl, rfl, h2, r2⟩ := trodAll_cons r1
  obtain ⟨rfl, rfl, rfl⟩ := trodAll_nil r2
  obtain rfl : args = #[v0, v1, v2] := by cases args; simp_all
  obtain ⟨arr0, rfl, hsz0⟩ := okWide_struct trade_under (hval 0 51 v0 rfl rfl)
  obtain ⟨fuel0, hf0⟩ := h0
  obtain ⟨zs0, hcs0, hok0⟩ := flatOf_open 3 51 _ fuel0 _ _ trade_flat hf0
  obtain ⟨t, hx0, g_t⟩ := okTrad hok0
  obtain rfl : arr0 = #[.int .i64 t.id, .int .i64 t.buyer, .int .i64 t.seller, .int .i64 t.sec, .int .i64 t.qty, .int .i64 t.price] := by
    apply Array.ext'; rw [hx0] at hcs0; simpa [Value.cells] using hcs0
  obtain ⟨a1, len1, cap1, rfl⟩ := okWide_slice Try.underlying52 (hval 1 52 v1 rfl rfl)
  obtain ⟨fuel1, hf1⟩ := h1
  obtain ⟨A_ml, len_ml, cap_ml, ml, hcs1, hlc_ml, hcm_ml, hl_ml, g_ml, rd_ml⟩ := open_flat_list Leg.cells (fun b => inI b.amount) Try.underlying52 leg_flat leg_cells (by decide) (fun _ => okLeg) hf1
  have hcs1' : (Value.slice a1 len1 cap1) = .slice A_ml len_ml cap_ml := by simpa [Value.cells] using hcs1
  injection hcs1' with e1_1 e2_1 e3_1
  subst e1_1; subst e2_1; subst e3_1
  obtain ⟨arr2, rfl, hsz2⟩ := okWide_array Try.underlying53 (hval 2 53 v2 rfl rfl)
  obtain ⟨fuel2, hf2⟩ := h2
  obtain ⟨zs2, hcs2, hok2⟩ := flatOf_open 3 53 [.i64, .i64] fuel2 _ _ (by kernel_rfl) hf2
  obtain ⟨x0, x1, rfl⟩ : ∃ a b, zs2 = [a, b] := by
    match zs2, hok2.1 with
    | [a, b], _ => exact ⟨a, b, rfl⟩
  obtain rfl : arr2 = #[.int .i64 x0, .int .i64 x1] := by
    apply Array.ext'; simpa [Value.cells, intVals] using hcs2
  have key : Calls Try.prog 6 #[.agg #[.int .i64 t.id, .int .i64 t.buyer, .int .i64 t.seller, .int .i64 t.sec, .int .i64 t.qty, .int .i64 t.price], .slice a1 len1 cap1, .agg #[.int .i64 x0, .int .i64 x1]] W fun e w' => e = .returned (.bool true) ∧ Below W.heap.size W w' := by
    by_cases hn : len1 ≤ 40
    · cases hh : legsIn t with
      | true => exact tradeLegs_yes t a1 len1 cap1 ml x0 x1 W g_t.1 g_t.2 hh rd_ml hn g_ml
      | false => exact tradeLegs_no t a1 len1 cap1 ml x0 x1 W g_t.1 g_t.2 hh rd_ml hn g_ml
    · exact tradeLegs_long t a1 len1 cap1 x0 x1 W (by omega)
  refine key.mono fun e W' ⟨he, hb⟩ => ⟨_, he, ?_⟩
  exact law_post (tb := 4) Try.laidOut (by kernel_rfl) rfl Try.underlying4 rfl hW' (by obtain ⟨rfl, rfl⟩ := trodVars_none hV; rfl) hb

theorem tradeLegs_holds : Rows.TradeLegsSaid :=
  OpenClaim.holds_of_wide 6 Try.f6 rfl rfl rfl rfl rfl rfl rfl ⟨rfl, rfl, rfl, rfl, rfl⟩ rfl rfl rfl rfl rfl (by kernel_rfl) Try.func6 (by kernel_rfl)
    (of_decide_eq_true (by kernel_rfl)) (by unfold Func.isWrapper; first | (rw [if_pos (by decide +kernel)]; kernel_rfl) | (rw [if_neg (by decide +kernel)]; exact ⟨rfl, rfl⟩))
    (fun os started H enc _ => tradeLegs_lifted os started H enc)

end Go.Proofs.Ytjkabmijkbpodaa
