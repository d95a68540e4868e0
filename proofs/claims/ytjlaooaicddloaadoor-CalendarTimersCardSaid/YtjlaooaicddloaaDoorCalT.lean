import Derived.Test.YtjlaooaicddloaaDoorCalS
import Derived.StillTailTactics
namespace Go.Proofs.YtjlaooaicddloaaDoor
open Go.RowKit

/-- The next tick among a list's first timers; 0: there is none. -/
def nxt (t : Int) (l : List Timr) : Int := (nextT t (l.map Timr.due)).getD 0
theorem nxt_step {l : List Timr} {k : Nat} {f : Timr} (t : Int) (h : l.take (k + 1) = l.take k ++ [f]) (hp : ∀ y ∈ l, 0 < y.due) :
    nxt t (l.take (k + 1)) = if t < f.due ∧ nxt t (l.take k) = 0 then f.due else nxt t (l.take k) := by
  unfold nxt
  rw [h, List.map_append, List.map_cons, List.map_nil, nextT_snoc]
  cases hx : nextT t ((l.take k).map Timr.due) with
  | none => by_cases c : t < f.due <;> simp [c]
  | some v =>
    have hv := nextT_mem t v _ hx
    obtain ⟨y, hy, rfl⟩ := List.mem_map.1 hv
    have := hp y (List.mem_of_mem_take hy)
    simp only [Option.getD_some]
    rw [if_neg (by omega)]
theorem next_is {cf : Conf} (t : Int) (h8 : wrongK cf = 8) (hp : ∀ y ∈ timersOf cf.cycles, 0 < y.due) : (nextC cf t).getD 0 = nxt t (timersOf cf.cycles) ∧ (nextC cf t).isSome = decide (0 < nxt t (timersOf cf.cycles)) := by
  unfold nxt
  rw [nextC, if_pos h8, ticks_due]
  refine ⟨rfl, ?_⟩
  cases hx : nextT t ((timersOf cf.cycles).map Timr.due) with
  | none => rfl
  | some v =>
    obtain ⟨y, hy, rfl⟩ := List.mem_map.1 (nextT_mem t v _ hx)
    have := hp y hy
    simp [this]
theorem still_val {P : Program} {ops : Array Oper} {w : World} {Q : Act → Prop} {a : Act} {o : Oper} {rest : List Oper} (v : Value) (h1 : Region.wanted o (yielded ops a.tmps) = true) (hv : (execOp a.eval o).run P w = .ok (.value v) w)
    (h : wpStill P ops w Q rest (a.put o.dst v)) : wpStill P ops w Q (o :: rest) a := by
  unfold wpStill
  rw [if_pos h1, Oper.still, hv, Oper.stillUpon_value]
  exact h
theorem still_skip {P : Program} {ops : Array Oper} {w : World} {Q : Act → Prop} {a : Act} {o : Oper} {rest : List Oper} (h1 : Region.wanted o (yielded ops a.tmps) = false)
    (h : wpStill P ops w Q rest (a.put o.dst undef)) : wpStill P ops w Q (o :: rest) a := by
  unfold wpStill
  rw [if_neg (by rw [h1]; simp)]
  exact h
theorem timr_neq (d k : Int) (w : World) : (binOp .neq 41 (.agg #[.int .i64 d, .int .i64 k, .int .i64 0, .int .i64 0]) (.agg #[.int .i64 d, .int .i64 k, .int .i64 0, .int .i64 0])).run Tryd.prog w = .ok (.bool false) w := by
  have u3 := Tryd.underlying3
  have hS : Tryd.prog.underlying 41 = some (.struct (Tryd.prog.fieldsOf 41)) := by kernel_rfl
  have hp : Tryd.prog.stoodInHeld 41 = false := by kernel_rfl
  rw [run_neq_struct, show (10000 : Nat) = 9999 + 1 from rfl, run_equalIn_agg w 9999 41 _ _ hS hp]
  simp only [Program.fieldsOf, Tryd.underlying41]
  go_simp

set_option maxRecDepth 10000 in
set_option maxHeartbeats 8000000 in
theorem calendarTimers_out (A1 A2 A3 : Option Addr) (n1 n2 n3 cp1 cp2 cp3 : Nat) (cf : Conf) (t c : Int) (hc : c < 0 ∨ (n3 : Int) ≤ c) (w : World) (hw : WdOk w) (hr : CfRd w A1 n1 A2 n2 A3 n3 cf) (hf : fewB n1 n2 n3 = true) (h8 : wrongK cf = 8) :
    Calls Tryd.prog 3 #[.agg #[.slice A1 n1 cp1, .slice A2 n2 cp2, .slice A3 n3 cp3, .int .i64 cf.line, .int .i64 cf.capital, .int .i64 cf.lead, .int .i64 cf.trades, .int .i64 cf.bids], .int .i64 t, .int .i64 c] w fun e w' => e = .returned (.bool true) ∧ Below w.heap.size w w' := by
  have Hhf := Lib.hid hf
  clear hf
  have hB0 := (Below.refl w.heap.size w).alloc (Nat.le_refl _) (.cells #[.slice A1 n1 cp1, .slice A2 n2 cp2, .slice A3 n3 cp3, .int .i64 cf.line, .int .i64 cf.capital, .int .i64 cf.lead, .int .i64 cf.trades, .int .i64 cf.bids] 26)
  have hr0 := hr.past hB0
  have bc0 := Blk.new w 26 #[.slice A1 n1 cp1, .slice A2 n2 cp2, .slice A3 n3 cp3, .int .i64 cf.line, .int .i64 cf.capital, .int .i64 cf.lead, .int .i64 cf.trades, .int .i64 cf.bids] w.heap.size rfl
  have hcn := hr.hc
  obtain ⟨K, HK⟩ : ∃ K, Hid (wrongK cf = K) := ⟨_, Lib.hid rfl⟩
  have qk : ((word K).toList == []) = true := by rw [← HK.out, h8, word_empty]; rfl
  have H8 := Lib.hid h8
  have OK := Lib.hid (cycs_of_ok h8)
  have HPOS : Hid (∀ y ∈ timersOf cf.cycles, 0 < y.due) := Lib.hid (fun y hy => by obtain ⟨i, hi, e⟩ := List.mem_iff_getElem.1 hy; exact (timr_due OK.out.1 (i := i) (by rw [List.getElem?_eq_getElem hi, e])).2)
  have HLc := Lib.hid (hr.c.len Cyc.cells_len (by omega))
  obtain ⟨Z, HZ⟩ : ∃ Z, Hid (nxt t (timersOf cf.cycles) = Z) := ⟨_, Lib.hid rfl⟩
  obtain ⟨y, HY⟩ : ∃ y, Hid (decide (0 < Z) = y) := ⟨_, Lib.hid rfl⟩
  have HN1 : Hid ((nextC cf t).getD 0 = Z) := Lib.hid (by rw [(next_is t h8 HPOS.out).1, HZ.out])
  have HN2 : Hid ((nextC cf t).isSome = y) := Lib.hid (by rw [(next_is t h8 HPOS.out).2, HZ.out, HY.out])
  clear h8
  obtain ⟨M, HM⟩ : ∃ M, Hid (4 * n3 = M) := ⟨_, Lib.hid rfl⟩
  have hM : M ≤ 4000 := by have := HM.out; omega
  have T1 := Lib.hid (fun w (h : CfRd w A1 n1 A2 n2 A3 n3 cf) => timers_ok A1 A2 A3 n1 n2 n3 cp1 cp2 cp3 cf w h H8.out)
  rw [HM.out] at T1
  have T2 := Lib.hid (fun w (h : CfRd w A1 n1 A2 n2 A3 n3 cf) => next_any A1 A2 A3 n1 n2 n3 cp1 cp2 cp3 cf t w h)
  rw [HN1.out, HN2.out] at T2
  have T3 := Lib.hid (fun w (h : CfRd w A1 n1 A2 n2 A3 n3 cf) => begin_any A1 A2 A3 n1 n2 n3 cp1 cp2 cp3 cf c w h)
  have HBG : Hid (beginC cf c = (0, 8)) := Lib.hid (by rw [beginC, if_pos H8.out, if_pos (by have := HLc.out; omega)])
  rw [HBG.out] at T3
  have HC := Lib.hid hc
  clear hc
  have T4 := Lib.hid (fun w (h : CfRd w A1 n1 A2 n2 A3 n3 cf) => refWrong_any A1 A2 A3 n1 n2 n3 cp1 cp2 cp3 cf w h)
  rw [HK.out] at T4
  go_enter Tryd.func3, Tryd.ntmps3
  go_wp2_with fail
  refine (few_any A1 A2 A3 n1 n2 n3 cp1 cp2 cp3 cf _).mono ?_
  rw [Hhf.out]
  rintro e w1 ⟨rfl, hb1⟩
  have bc1 := bc0.past hb1
  have hr1 := hr0.past hb1
  have hB1 := Below.past hB0 hb1 hB0.size
  have e0 := (bc1).cell 0
  have e1 := (bc1).cell 1
  have e2 := (bc1).cell 2
  have e3 := (bc1).cell 3
  have e4 := (bc1).cell 4
  have e5 := (bc1).cell 5
  have e6 := (bc1).cell 6
  have e7 := (bc1).cell 7
  simp at e0 e1 e2 e3 e4 e5 e6 e7
  go_wp2_with fail
  refine (T1.out _ hr1).mono ?_
  rintro e w2 ⟨v, rfl, hown, hb2⟩
  obtain ⟨A, cc, rfl⟩ := own_form hown
  have hrd := Rd.of_own hown
  have bc2 := bc1.past hb2
  have hr2 := hr1.past hb2
  have hB2 := Below.next hB1 hb2
  clear e0 e1 e2 e3 e4 e5 e6 e7 hown
  have e0 := (bc2).cell 0
  have e1 := (bc2).cell 1
  have e2 := (bc2).cell 2
  have e3 := (bc2).cell 3
  have e4 := (bc2).cell 4
  have e5 := (bc2).cell 5
  have e6 := (bc2).cell 6
  have e7 := (bc2).cell 7
  simp at e0 e1 e2 e3 e4 e5 e6 e7
  go_wp2_with fail
  refine (T2.out _ hr2).mono ?_
  rintro e w3 ⟨rfl, hb3⟩
  have bc3 := bc2.past hb3
  have hr3 := hr2.past hb3
  have hB3 := Below.next hB2 hb3
  clear e0 e1 e2 e3 e4 e5 e6 e7
  have e0 := (bc3).cell 0
  have e1 := (bc3).cell 1
  have e2 := (bc3).cell 2
  have e3 := (bc3).cell 3
  have e4 := (bc3).cell 4
  have e5 := (bc3).cell 5
  have e6 := (bc3).cell 6
  have e7 := (bc3).cell 7
  simp at e0 e1 e2 e3 e4 e5 e6 e7
  go_wp2_with fail
  refine (T3.out _ hr3).mono ?_
  rintro e w4 ⟨rfl, hb4⟩
  have bc4 := bc3.past hb4
  have hr4 := hr3.past hb4
  have hB4 := Below.next hB3 hb4
  clear e0 e1 e2 e3 e4 e5 e6 e7
  have e0 := (bc4).cell 0
  have e1 := (bc4).cell 1
  have e2 := (bc4).cell 2
  have e3 := (bc4).cell 3
  have e4 := (bc4).cell 4
  have e5 := (bc4).cell 5
  have e6 := (bc4).cell 6
  have e7 := (bc4).cell 7
  simp at e0 e1 e2 e3 e4 e5 e6 e7
  go_wp2_with fail
  refine (T4.out _ hr4).mono ?_
  rintro e w5 ⟨rfl, hb5⟩
  have bc5 := bc4.past hb5
  have hr5 := hr4.past hb5
  have hB5 := Below.next hB4 hb5
  have hrd5 := (((hrd.past hb3).past hb4).past hb5)
  clear e0 e1 e2 e3 e4 e5 e6 e7 bc0 bc1 bc2 bc3 bc4 hr0 hr1 hr2 hr3 hr4 hb1 hb2 hb3 hb4 hb5 hB0 hB1 hB2 hB3 hB4 hrd hr T1 T2 T3 T4 Hhf HN1 HN2
  have e0 := (bc5).cell 0
  have e1 := (bc5).cell 1
  have e2 := (bc5).cell 2
  have e3 := (bc5).cell 3
  have e4 := (bc5).cell 4
  have e5 := (bc5).cell 5
  have e6 := (bc5).cell 6
  have e7 := (bc5).cell 7
  simp at e0 e1 e2 e3 e4 e5 e6 e7
  go_wp2_with fail
  clear e0 e1 e2 e3 e4 e5 e6 e7
  go_loopw [13, 14] (fun nx i wr => ∃ k : Nat, k ≤ M ∧ i = .int .i64 k ∧ nx = .int .i64 (nxt t ((timersOf cf.cycles).take k)) ∧ Below w5.heap.size w5 wr) (fun _ i _ => M - (intOf i).toNat)
  case atStart => exact ⟨0, by omega, rfl, rfl, Below.refl _ _⟩
  case round =>
    obtain ⟨k, hk, rfl, rfl, hb⟩ := hrel
    have HL := Lib.hid (hrd5.len Timr.cells_len (by omega))
    have bc := bc5.past hb
    have hr6 := hr5.past hb
    have hrd6 := hrd5.past hb
    by_cases hlt : k < M
    · clear HZ HY
      have e0 := (bc).cell 0
      have e1 := (bc).cell 1
      have e2 := (bc).cell 2
      have e3 := (bc).cell 3
      have e4 := (bc).cell 4
      have e5 := (bc).cell 5
      have e6 := (bc).cell 6
      have e7 := (bc).cell 7
      simp at e0 e1 e2 e3 e4 e5 e6 e7
      have q1 : decide ((k : Int) < (M : Int)) = true := dct (by omega)
      have hg_f : (timersOf cf.cycles)[k]? = some ((timersOf cf.cycles)[k]'(by have := HL.out; omega)) := List.getElem?_eq_getElem _
      obtain ⟨b_f, off_f, rfl, hbb_f, hc_f⟩ := (hrd6).elem Timr.cells_len hg_f hlt
      have HT_f := Lib.hid (show (timersOf cf.cycles).take (k + 1) = (timersOf cf.cycles).take k ++ [((timersOf cf.cycles)[k]'(by have := HL.out; omega))] from List.take_succ_eq_append_getElem (by have := HL.out; omega))
      have HD_f := Lib.hid (show (timersOf cf.cycles).drop k = ((timersOf cf.cycles)[k]'(by have := HL.out; omega)) :: (timersOf cf.cycles).drop (k + 1) from List.drop_eq_getElem_cons (by have := HL.out; omega))
      have HM_f := Lib.hid (show ((timersOf cf.cycles)[k]'(by have := HL.out; omega)) ∈ (timersOf cf.cycles) from List.getElem_mem _)
      generalize ((timersOf cf.cycles)[k]'(by have := HL.out; omega)) = f at *
      have c0 := hc_f 0 _ rfl
      have c1 := hc_f 1 _ rfl
      have c2 := hc_f 2 _ rfl
      have c3 := hc_f 3 _ rfl
      clear hc_f hg_f
      simp only [Nat.add_zero] at c0
      have HS := Lib.hid (nxt_step t HT_f.out HPOS.out)
      obtain ⟨X, hX⟩ : ∃ X, Hid (nxt t ((timersOf cf.cycles).take k) = X) := ⟨_, Lib.hid rfl⟩
      rw [hX.out] at HS ⊢
      go_wp2_with fail
      have HX : Hid ((timersOf cf.cycles)[k]? = some f) := Lib.hid (by have := congrArg List.head? HD_f.out; simpa [List.head?_drop] using this)
      have HDU := Lib.hid (timr_due OK.out.1 HX.out).1
      have T5 := Lib.hid (fun w (h : CfRd w A1 n1 A2 n2 A3 n3 cf) => refDue_any A1 A2 A3 n1 n2 n3 cp1 cp2 cp3 cf f.due w h)
      rw [HDU.out] at T5
      have b1 : (0 : Int) ≤ (k : Int) := by omega
      have b2 : (k : Int) < (M : Int) := by omega
      go_region_with (go_at_call 10; refine (T5.out _ hr6.drew).mono ?_; rintro e w7 ⟨rfl, hb7⟩)
      all_goals
        have hb8 : Below w5.heap.size w5 w7 := Below.next (by exact hb.drew) (by exact hb7)
        have hlb : b_f < wr.heap.size := by have := hb.size; omega
        have d0 := (hb7.cell (p := ⟨b_f, off_f + k * 4, none⟩) hlb).trans c0
        have d1 := (hb7.cell (p := ⟨b_f, off_f + k * 4 + 1, none⟩) hlb).trans c1
        have d2 := (hb7.cell (p := ⟨b_f, off_f + k * 4 + 2, none⟩) hlb).trans c2
        have d3 := (hb7.cell (p := ⟨b_f, off_f + k * 4 + 3, none⟩) hlb).trans c3
        have hrd7 := hrd5.past hb8
        clear c0 c1 c2 c3 e0 e1 e2 e3 e4 e5 e6 e7 hrd6 hrd5 hr6 hr5 bc bc5 T5 HDU hb7 hb hB5 hw
        go_wp2_with fail
        have hq := timr_neq f.due f.kind
        by_cases hk0 : k = 0
        · have bz : decide (0 < k) = false := dcf (by omega)
          clear hrd7 q1 hk0
          simp only [Act.put, List.getElem_toArray, List.getElem_cons_succ, List.getElem_cons_zero, List.setIfInBounds_toArray, List.set_cons_succ, List.set_cons_zero]
          go_quiet (fail)
          have hb9 := below_drewN hb8 nq
          clear hq
          by_cases ht : t < f.due
          · have q5 := dct ht
            by_cases hx0 : X = 0
            · have q6 : (X == 0) = true := by simp [hx0]
              have HS2 : Hid (nxt t ((timersOf cf.cycles).take (k + 1)) = f.due) := Lib.hid (by rw [HS.out, if_pos ⟨ht, hx0⟩])
              clear hx0 ht
              go_wp2_with fail
              go_roundw
              case rel => exact ⟨k + 1, by omega, by go_num, by rw [HS2.out], hb9⟩
              case measure => simp [intOf]; omega
            · have q6 : (X == 0) = false := by simp [hx0]
              have HS2 : Hid (nxt t ((timersOf cf.cycles).take (k + 1)) = X) := Lib.hid (by rw [HS.out, if_neg (fun c => hx0 c.2)])
              clear hx0 ht
              go_wp2_with fail
              go_roundw
              case rel => exact ⟨k + 1, by omega, by go_num, by rw [HS2.out], hb9⟩
              case measure => simp [intOf]; omega
          · have q5 := dcf ht
            have HS2 : Hid (nxt t ((timersOf cf.cycles).take (k + 1)) = X) := Lib.hid (by rw [HS.out, if_neg (fun c => ht c.1)])
            clear ht
            go_wp2_with fail
            go_roundw
            case rel => exact ⟨k + 1, by omega, by go_num, by rw [HS2.out], hb9⟩
            case measure => simp [intOf]; omega
        · obtain ⟨m, hm⟩ : ∃ m : Nat, Hid (k = m + 1) := ⟨k - 1, Lib.hid (by omega)⟩
          have bz : decide (0 < k) = true := dct (by omega)
          have hltm : m < M := by have := hm.out; omega
          have hg_g : (timersOf cf.cycles)[m]? = some ((timersOf cf.cycles)[m]'(by have := HL.out; omega)) := List.getElem?_eq_getElem _
          obtain ⟨b_g, off_g, hA_g, hbb_g, hc_g⟩ := (hrd7).elem Timr.cells_len hg_g hltm
          have HT_g := Lib.hid (show (timersOf cf.cycles).take (m + 1) = (timersOf cf.cycles).take m ++ [((timersOf cf.cycles)[m]'(by have := HL.out; omega))] from List.take_succ_eq_append_getElem (by have := HL.out; omega))
          have HD_g := Lib.hid (show (timersOf cf.cycles).drop m = ((timersOf cf.cycles)[m]'(by have := HL.out; omega)) :: (timersOf cf.cycles).drop (m + 1) from List.drop_eq_getElem_cons (by have := HL.out; omega))
          have HM_g := Lib.hid (show ((timersOf cf.cycles)[m]'(by have := HL.out; omega)) ∈ (timersOf cf.cycles) from List.getElem_mem _)
          generalize ((timersOf cf.cycles)[m]'(by have := HL.out; omega)) = g at *
          have g0 := hc_g 0 _ rfl
          have g1 := hc_g 1 _ rfl
          have g2 := hc_g 2 _ rfl
          have g3 := hc_g 3 _ rfl
          clear hc_g hg_g
          simp only [Nat.add_zero] at g0
          obtain ⟨rfl, rfl⟩ : b_f = b_g ∧ off_f = off_g := by simpa using hA_g
          have HXg : Hid ((timersOf cf.cycles)[m]? = some g) := Lib.hid (by have := congrArg List.head? HD_g.out; simpa [List.head?_drop] using this)
          have hri := timr_rise OK.out.1 HXg.out (by rw [← hm.out]; exact HX.out)
          have q3 : decide (f.due ≤ g.due) = false := dcf (by omega)
          clear hri hrd7 hA_g hk0 q1
          have b4 : (0 : Int) ≤ (m : Int) := by omega
          have b5 : (m : Int) < (M : Int) := by omega
          have b6 : (k : Int) - 1 = (m : Int) := by have := hm.out; omega
          have b7 : IntKind.i64.wrap ((k : Int) - 1) = (m : Int) := by rw [b6]; exact IntWalk.i64_in _ (by omega)
          simp only [Act.put, List.getElem_toArray, List.getElem_cons_succ, List.getElem_cons_zero, List.setIfInBounds_toArray, List.set_cons_succ, List.set_cons_zero]
          go_quiet (fail)
          have hb9 := below_drewN hb8 nq
          clear b4 b5 b6 b7 q3 g0 g1 g2 g3 hq
          by_cases ht : t < f.due
          · have q5 := dct ht
            by_cases hx0 : X = 0
            · have q6 : (X == 0) = true := by simp [hx0]
              have HS2 : Hid (nxt t ((timersOf cf.cycles).take (k + 1)) = f.due) := Lib.hid (by rw [HS.out, if_pos ⟨ht, hx0⟩])
              clear hx0 ht
              go_wp2_with fail
              go_roundw
              case rel => exact ⟨k + 1, by omega, by go_num, by rw [HS2.out], hb9⟩
              case measure => simp [intOf]; omega
            · have q6 : (X == 0) = false := by simp [hx0]
              have HS2 : Hid (nxt t ((timersOf cf.cycles).take (k + 1)) = X) := Lib.hid (by rw [HS.out, if_neg (fun c => hx0 c.2)])
              clear hx0 ht
              go_wp2_with fail
              go_roundw
              case rel => exact ⟨k + 1, by omega, by go_num, by rw [HS2.out], hb9⟩
              case measure => simp [intOf]; omega
          · have q5 := dcf ht
            have HS2 : Hid (nxt t ((timersOf cf.cycles).take (k + 1)) = X) := Lib.hid (by rw [HS.out, if_neg (fun c => ht c.1)])
            clear ht
            go_wp2_with fail
            go_roundw
            case rel => exact ⟨k + 1, by omega, by go_num, by rw [HS2.out], hb9⟩
            case measure => simp [intOf]; omega
    · obtain rfl : M = k := by omega
      have q1 : decide ((M : Int) < (M : Int)) = false := dcf (by omega)
      have HA : Hid (nxt t ((timersOf cf.cycles).take M) = Z) := Lib.hid (by rw [List.take_of_length_le (by have := HL.out; omega), HZ.out])
      rw [HA.out]
      have q4 : ((M : Int) != 4 * (n3 : Int)) = false := by have := HM.out; simp; omega
      have q5 : decide (0 < Z) = y := HY.out
      have q6 : (Z != Z) = false := by simp
      have q7 : (y != y) = false := by simp
      have hB6 := Below.next hB5 hb
      have e0 := (bc).cell 0
      have e1 := (bc).cell 1
      have e2 := (bc).cell 2
      have e3 := (bc).cell 3
      have e4 := (bc).cell 4
      have e5 := (bc).cell 5
      have e6 := (bc).cell 6
      have e7 := (bc).cell 7
      simp at e0 e1 e2 e3 e4 e5 e6 e7
      clear hk hlt bc5 hr5 hrd5 hrd6
      rcases HC.out with hc | hc
      · have q8 : decide (c < 0) = true := dct hc
        clear hc
        go_wp2_with fail
        refine (awake20 _ (hw.past hB6)).mono ?_
        rintro e w8 ⟨rfl, hb8⟩
        go_wp2_with fail
        go_ret
        exact ⟨rfl, Below.next hB6 hb8⟩
      · have q8 : decide (c < 0) = false := dcf (by omega)
        have q9 : decide ((n3 : Int) ≤ c) = true := dct hc
        clear hc
        go_wp2_with fail
        refine (awake20 _ (hw.past hB6)).mono ?_
        rintro e w8 ⟨rfl, hb8⟩
        go_wp2_with fail
        go_ret
        exact ⟨rfl, Below.next hB6 hb8⟩

set_option maxRecDepth 10000 in
set_option maxHeartbeats 8000000 in
theorem calendarTimers_first (A1 A2 A3 : Option Addr) (n1 n2 n3 cp1 cp2 cp3 : Nat) (cf : Conf) (t : Int) (c : Int) (h0 : Hid (c = 0)) (hn : 0 < n3) (w : World) (hw : WdOk w) (hr : CfRd w A1 n1 A2 n2 A3 n3 cf) (hf : fewB n1 n2 n3 = true) (h8 : wrongK cf = 8) :
    Calls Tryd.prog 3 #[.agg #[.slice A1 n1 cp1, .slice A2 n2 cp2, .slice A3 n3 cp3, .int .i64 cf.line, .int .i64 cf.capital, .int .i64 cf.lead, .int .i64 cf.trades, .int .i64 cf.bids], .int .i64 t, .int .i64 c] w fun e w' => e = .returned (.bool true) ∧ Below w.heap.size w w' := by
  have Hhf := Lib.hid hf
  clear hf
  have hB0 := (Below.refl w.heap.size w).alloc (Nat.le_refl _) (.cells #[.slice A1 n1 cp1, .slice A2 n2 cp2, .slice A3 n3 cp3, .int .i64 cf.line, .int .i64 cf.capital, .int .i64 cf.lead, .int .i64 cf.trades, .int .i64 cf.bids] 26)
  have hr0 := hr.past hB0
  have bc0 := Blk.new w 26 #[.slice A1 n1 cp1, .slice A2 n2 cp2, .slice A3 n3 cp3, .int .i64 cf.line, .int .i64 cf.capital, .int .i64 cf.lead, .int .i64 cf.trades, .int .i64 cf.bids] w.heap.size rfl
  have hcn := hr.hc
  obtain ⟨K, HK⟩ : ∃ K, Hid (wrongK cf = K) := ⟨_, Lib.hid rfl⟩
  have qk : ((word K).toList == []) = true := by rw [← HK.out, h8, word_empty]; rfl
  have H8 := Lib.hid h8
  have OK := Lib.hid (cycs_of_ok h8)
  have HPOS : Hid (∀ y ∈ timersOf cf.cycles, 0 < y.due) := Lib.hid (fun y hy => by obtain ⟨i, hi, e⟩ := List.mem_iff_getElem.1 hy; exact (timr_due OK.out.1 (i := i) (by rw [List.getElem?_eq_getElem hi, e])).2)
  have HLc := Lib.hid (hr.c.len Cyc.cells_len (by omega))
  obtain ⟨Z, HZ⟩ : ∃ Z, Hid (nxt t (timersOf cf.cycles) = Z) := ⟨_, Lib.hid rfl⟩
  obtain ⟨y, HY⟩ : ∃ y, Hid (decide (0 < Z) = y) := ⟨_, Lib.hid rfl⟩
  have HN1 : Hid ((nextC cf t).getD 0 = Z) := Lib.hid (by rw [(next_is t h8 HPOS.out).1, HZ.out])
  have HN2 : Hid ((nextC cf t).isSome = y) := Lib.hid (by rw [(next_is t h8 HPOS.out).2, HZ.out, HY.out])
  clear h8
  obtain ⟨M, HM⟩ : ∃ M, Hid (4 * n3 = M) := ⟨_, Lib.hid rfl⟩
  have hM : M ≤ 4000 := by have := HM.out; omega
  have T1 := Lib.hid (fun w (h : CfRd w A1 n1 A2 n2 A3 n3 cf) => timers_ok A1 A2 A3 n1 n2 n3 cp1 cp2 cp3 cf w h H8.out)
  rw [HM.out] at T1
  have T2 := Lib.hid (fun w (h : CfRd w A1 n1 A2 n2 A3 n3 cf) => next_any A1 A2 A3 n1 n2 n3 cp1 cp2 cp3 cf t w h)
  rw [HN1.out, HN2.out] at T2
  have T3 := Lib.hid (fun w (h : CfRd w A1 n1 A2 n2 A3 n3 cf) => begin_any A1 A2 A3 n1 n2 n3 cp1 cp2 cp3 cf c w h)
  have HBG : Hid (beginC cf c = (0, 0)) := Lib.hid (by rw [h0.out, beginC, if_pos H8.out, if_neg (by have := HLc.out; omega)]; rfl)
  rw [HBG.out] at T3
  have q8 : decide (c < 0) = false := dcf (by have := h0.out; omega)
  have q9 : decide ((n3 : Int) ≤ c) = false := dcf (by have := h0.out; omega)
  have q10 : (c == 0) = true := by rw [h0.out]; rfl
  have q11 : ((0 : Int) == c) = true := by rw [h0.out]; rfl
  have HAT : Hid (refAtC cf 0 = (0, 1)) := Lib.hid (by rw [refAtC, if_neg (by omega)]; exact begin_at (c := 0) OK.out.1 (by have := HLc.out; omega))
  have HBF : Hid (refAtC cf (-1) = (0, 0)) := Lib.hid (by rw [refAtC, if_pos (by omega)])
  have T4 := Lib.hid (fun w (h : CfRd w A1 n1 A2 n2 A3 n3 cf) => refWrong_any A1 A2 A3 n1 n2 n3 cp1 cp2 cp3 cf w h)
  rw [HK.out] at T4
  go_enter Tryd.func3, Tryd.ntmps3
  go_wp2_with fail
  refine (few_any A1 A2 A3 n1 n2 n3 cp1 cp2 cp3 cf _).mono ?_
  rw [Hhf.out]
  rintro e w1 ⟨rfl, hb1⟩
  have bc1 := bc0.past hb1
  have hr1 := hr0.past hb1
  have hB1 := Below.past hB0 hb1 hB0.size
  have e0 := (bc1).cell 0
  have e1 := (bc1).cell 1
  have e2 := (bc1).cell 2
  have e3 := (bc1).cell 3
  have e4 := (bc1).cell 4
  have e5 := (bc1).cell 5
  have e6 := (bc1).cell 6
  have e7 := (bc1).cell 7
  simp at e0 e1 e2 e3 e4 e5 e6 e7
  go_wp2_with fail
  refine (T1.out _ hr1).mono ?_
  rintro e w2 ⟨v, rfl, hown, hb2⟩
  obtain ⟨A, cc, rfl⟩ := own_form hown
  have hrd := Rd.of_own hown
  have bc2 := bc1.past hb2
  have hr2 := hr1.past hb2
  have hB2 := Below.next hB1 hb2
  clear e0 e1 e2 e3 e4 e5 e6 e7 hown
  have e0 := (bc2).cell 0
  have e1 := (bc2).cell 1
  have e2 := (bc2).cell 2
  have e3 := (bc2).cell 3
  have e4 := (bc2).cell 4
  have e5 := (bc2).cell 5
  have e6 := (bc2).cell 6
  have e7 := (bc2).cell 7
  simp at e0 e1 e2 e3 e4 e5 e6 e7
  go_wp2_with fail
  refine (T2.out _ hr2).mono ?_
  rintro e w3 ⟨rfl, hb3⟩
  have bc3 := bc2.past hb3
  have hr3 := hr2.past hb3
  have hB3 := Below.next hB2 hb3
  clear e0 e1 e2 e3 e4 e5 e6 e7
  have e0 := (bc3).cell 0
  have e1 := (bc3).cell 1
  have e2 := (bc3).cell 2
  have e3 := (bc3).cell 3
  have e4 := (bc3).cell 4
  have e5 := (bc3).cell 5
  have e6 := (bc3).cell 6
  have e7 := (bc3).cell 7
  simp at e0 e1 e2 e3 e4 e5 e6 e7
  go_wp2_with fail
  refine (T3.out _ hr3).mono ?_
  rintro e w4 ⟨rfl, hb4⟩
  have bc4 := bc3.past hb4
  have hr4 := hr3.past hb4
  have hB4 := Below.next hB3 hb4
  clear e0 e1 e2 e3 e4 e5 e6 e7
  have e0 := (bc4).cell 0
  have e1 := (bc4).cell 1
  have e2 := (bc4).cell 2
  have e3 := (bc4).cell 3
  have e4 := (bc4).cell 4
  have e5 := (bc4).cell 5
  have e6 := (bc4).cell 6
  have e7 := (bc4).cell 7
  simp at e0 e1 e2 e3 e4 e5 e6 e7
  go_wp2_with fail
  refine (T4.out _ hr4).mono ?_
  rintro e w5 ⟨rfl, hb5⟩
  have bc5 := bc4.past hb5
  have hr5 := hr4.past hb5
  have hB5 := Below.next hB4 hb5
  have hrd5 := (((hrd.past hb3).past hb4).past hb5)
  clear e0 e1 e2 e3 e4 e5 e6 e7 bc0 bc1 bc2 bc3 bc4 hr0 hr1 hr2 hr3 hr4 hb1 hb2 hb3 hb4 hb5 hB0 hB1 hB2 hB3 hB4 hrd hr T1 T2 T3 T4 Hhf HN1 HN2
  have e0 := (bc5).cell 0
  have e1 := (bc5).cell 1
  have e2 := (bc5).cell 2
  have e3 := (bc5).cell 3
  have e4 := (bc5).cell 4
  have e5 := (bc5).cell 5
  have e6 := (bc5).cell 6
  have e7 := (bc5).cell 7
  simp at e0 e1 e2 e3 e4 e5 e6 e7
  go_wp2_with fail
  clear e0 e1 e2 e3 e4 e5 e6 e7
  go_loopw [13, 14] (fun nx i wr => ∃ k : Nat, k ≤ M ∧ i = .int .i64 k ∧ nx = .int .i64 (nxt t ((timersOf cf.cycles).take k)) ∧ Below w5.heap.size w5 wr) (fun _ i _ => M - (intOf i).toNat)
  case atStart => exact ⟨0, by omega, rfl, rfl, Below.refl _ _⟩
  case round =>
    obtain ⟨k, hk, rfl, rfl, hb⟩ := hrel
    have HL := Lib.hid (hrd5.len Timr.cells_len (by omega))
    have bc := bc5.past hb
    have hr6 := hr5.past hb
    have hrd6 := hrd5.past hb
    by_cases hlt : k < M
    · clear HZ HY
      have e0 := (bc).cell 0
      have e1 := (bc).cell 1
      have e2 := (bc).cell 2
      have e3 := (bc).cell 3
      have e4 := (bc).cell 4
      have e5 := (bc).cell 5
      have e6 := (bc).cell 6
      have e7 := (bc).cell 7
      simp at e0 e1 e2 e3 e4 e5 e6 e7
      have q1 : decide ((k : Int) < (M : Int)) = true := dct (by omega)
      have hg_f : (timersOf cf.cycles)[k]? = some ((timersOf cf.cycles)[k]'(by have := HL.out; omega)) := List.getElem?_eq_getElem _
      obtain ⟨b_f, off_f, rfl, hbb_f, hc_f⟩ := (hrd6).elem Timr.cells_len hg_f hlt
      have HT_f := Lib.hid (show (timersOf cf.cycles).take (k + 1) = (timersOf cf.cycles).take k ++ [((timersOf cf.cycles)[k]'(by have := HL.out; omega))] from List.take_succ_eq_append_getElem (by have := HL.out; omega))
      have HD_f := Lib.hid (show (timersOf cf.cycles).drop k = ((timersOf cf.cycles)[k]'(by have := HL.out; omega)) :: (timersOf cf.cycles).drop (k + 1) from List.drop_eq_getElem_cons (by have := HL.out; omega))
      have HM_f := Lib.hid (show ((timersOf cf.cycles)[k]'(by have := HL.out; omega)) ∈ (timersOf cf.cycles) from List.getElem_mem _)
      generalize ((timersOf cf.cycles)[k]'(by have := HL.out; omega)) = f at *
      have c0 := hc_f 0 _ rfl
      have c1 := hc_f 1 _ rfl
      have c2 := hc_f 2 _ rfl
      have c3 := hc_f 3 _ rfl
      clear hc_f hg_f
      simp only [Nat.add_zero] at c0
      have HS := Lib.hid (nxt_step t HT_f.out HPOS.out)
      obtain ⟨X, hX⟩ : ∃ X, Hid (nxt t ((timersOf cf.cycles).take k) = X) := ⟨_, Lib.hid rfl⟩
      rw [hX.out] at HS ⊢
      go_wp2_with fail
      have HX : Hid ((timersOf cf.cycles)[k]? = some f) := Lib.hid (by have := congrArg List.head? HD_f.out; simpa [List.head?_drop] using this)
      have HDU := Lib.hid (timr_due OK.out.1 HX.out).1
      have T5 := Lib.hid (fun w (h : CfRd w A1 n1 A2 n2 A3 n3 cf) => refDue_any A1 A2 A3 n1 n2 n3 cp1 cp2 cp3 cf f.due w h)
      rw [HDU.out] at T5
      have b1 : (0 : Int) ≤ (k : Int) := by omega
      have b2 : (k : Int) < (M : Int) := by omega
      go_region_with (go_at_call 10; refine (T5.out _ hr6.drew).mono ?_; rintro e w7 ⟨rfl, hb7⟩)
      all_goals
        have hb8 : Below w5.heap.size w5 w7 := Below.next (by exact hb.drew) (by exact hb7)
        have hlb : b_f < wr.heap.size := by have := hb.size; omega
        have d0 := (hb7.cell (p := ⟨b_f, off_f + k * 4, none⟩) hlb).trans c0
        have d1 := (hb7.cell (p := ⟨b_f, off_f + k * 4 + 1, none⟩) hlb).trans c1
        have d2 := (hb7.cell (p := ⟨b_f, off_f + k * 4 + 2, none⟩) hlb).trans c2
        have d3 := (hb7.cell (p := ⟨b_f, off_f + k * 4 + 3, none⟩) hlb).trans c3
        have hrd7 := hrd5.past hb8
        clear c0 c1 c2 c3 e0 e1 e2 e3 e4 e5 e6 e7 hrd6 hrd5 hr6 hr5 bc bc5 T5 HDU hb7 hb hB5 hw
        go_wp2_with fail
        have hq := timr_neq f.due f.kind
        by_cases hk0 : k = 0
        · have bz : decide (0 < k) = false := dcf (by omega)
          clear hrd7 q1 hk0
          simp only [Act.put, List.getElem_toArray, List.getElem_cons_succ, List.getElem_cons_zero, List.setIfInBounds_toArray, List.set_cons_succ, List.set_cons_zero]
          go_quiet (fail)
          have hb9 := below_drewN hb8 nq
          clear hq
          by_cases ht : t < f.due
          · have q5 := dct ht
            by_cases hx0 : X = 0
            · have q6 : (X == 0) = true := by simp [hx0]
              have HS2 : Hid (nxt t ((timersOf cf.cycles).take (k + 1)) = f.due) := Lib.hid (by rw [HS.out, if_pos ⟨ht, hx0⟩])
              clear hx0 ht
              go_wp2_with fail
              go_roundw
              case rel => exact ⟨k + 1, by omega, by go_num, by rw [HS2.out], hb9⟩
              case measure => simp [intOf]; omega
            · have q6 : (X == 0) = false := by simp [hx0]
              have HS2 : Hid (nxt t ((timersOf cf.cycles).take (k + 1)) = X) := Lib.hid (by rw [HS.out, if_neg (fun c => hx0 c.2)])
              clear hx0 ht
              go_wp2_with fail
              go_roundw
              case rel => exact ⟨k + 1, by omega, by go_num, by rw [HS2.out], hb9⟩
              case measure => simp [intOf]; omega
          · have q5 := dcf ht
            have HS2 : Hid (nxt t ((timersOf cf.cycles).take (k + 1)) = X) := Lib.hid (by rw [HS.out, if_neg (fun c => ht c.1)])
            clear ht
            go_wp2_with fail
            go_roundw
            case rel => exact ⟨k + 1, by omega, by go_num, by rw [HS2.out], hb9⟩
            case measure => simp [intOf]; omega
        · obtain ⟨m, hm⟩ : ∃ m : Nat, Hid (k = m + 1) := ⟨k - 1, Lib.hid (by omega)⟩
          have bz : decide (0 < k) = true := dct (by omega)
          have hltm : m < M := by have := hm.out; omega
          have hg_g : (timersOf cf.cycles)[m]? = some ((timersOf cf.cycles)[m]'(by have := HL.out; omega)) := List.getElem?_eq_getElem _
          obtain ⟨b_g, off_g, hA_g, hbb_g, hc_g⟩ := (hrd7).elem Timr.cells_len hg_g hltm
          have HT_g := Lib.hid (show (timersOf cf.cycles).take (m + 1) = (timersOf cf.cycles).take m ++ [((timersOf cf.cycles)[m]'(by have := HL.out; omega))] from List.take_succ_eq_append_getElem (by have := HL.out; omega))
          have HD_g := Lib.hid (show (timersOf cf.cycles).drop m = ((timersOf cf.cycles)[m]'(by have := HL.out; omega)) :: (timersOf cf.cycles).drop (m + 1) from List.drop_eq_getElem_cons (by have := HL.out; omega))
          have HM_g := Lib.hid (show ((timersOf cf.cycles)[m]'(by have := HL.out; omega)) ∈ (timersOf cf.cycles) from List.getElem_mem _)
          generalize ((timersOf cf.cycles)[m]'(by have := HL.out; omega)) = g at *
          have g0 := hc_g 0 _ rfl
          have g1 := hc_g 1 _ rfl
          have g2 := hc_g 2 _ rfl
          have g3 := hc_g 3 _ rfl
          clear hc_g hg_g
          simp only [Nat.add_zero] at g0
          obtain ⟨rfl, rfl⟩ : b_f = b_g ∧ off_f = off_g := by simpa using hA_g
          have HXg : Hid ((timersOf cf.cycles)[m]? = some g) := Lib.hid (by have := congrArg List.head? HD_g.out; simpa [List.head?_drop] using this)
          have hri := timr_rise OK.out.1 HXg.out (by rw [← hm.out]; exact HX.out)
          have q3 : decide (f.due ≤ g.due) = false := dcf (by omega)
          clear hri hrd7 hA_g hk0 q1
          have b4 : (0 : Int) ≤ (m : Int) := by omega
          have b5 : (m : Int) < (M : Int) := by omega
          have b6 : (k : Int) - 1 = (m : Int) := by have := hm.out; omega
          have b7 : IntKind.i64.wrap ((k : Int) - 1) = (m : Int) := by rw [b6]; exact IntWalk.i64_in _ (by omega)
          simp only [Act.put, List.getElem_toArray, List.getElem_cons_succ, List.getElem_cons_zero, List.setIfInBounds_toArray, List.set_cons_succ, List.set_cons_zero]
          go_quiet (fail)
          have hb9 := below_drewN hb8 nq
          clear b4 b5 b6 b7 q3 g0 g1 g2 g3 hq
          by_cases ht : t < f.due
          · have q5 := dct ht
            by_cases hx0 : X = 0
            · have q6 : (X == 0) = true := by simp [hx0]
              have HS2 : Hid (nxt t ((timersOf cf.cycles).take (k + 1)) = f.due) := Lib.hid (by rw [HS.out, if_pos ⟨ht, hx0⟩])
              clear hx0 ht
              go_wp2_with fail
              go_roundw
              case rel => exact ⟨k + 1, by omega, by go_num, by rw [HS2.out], hb9⟩
              case measure => simp [intOf]; omega
            · have q6 : (X == 0) = false := by simp [hx0]
              have HS2 : Hid (nxt t ((timersOf cf.cycles).take (k + 1)) = X) := Lib.hid (by rw [HS.out, if_neg (fun c => hx0 c.2)])
              clear hx0 ht
              go_wp2_with fail
              go_roundw
              case rel => exact ⟨k + 1, by omega, by go_num, by rw [HS2.out], hb9⟩
              case measure => simp [intOf]; omega
          · have q5 := dcf ht
            have HS2 : Hid (nxt t ((timersOf cf.cycles).take (k + 1)) = X) := Lib.hid (by rw [HS.out, if_neg (fun c => ht c.1)])
            clear ht
            go_wp2_with fail
            go_roundw
            case rel => exact ⟨k + 1, by omega, by go_num, by rw [HS2.out], hb9⟩
            case measure => simp [intOf]; omega
    · obtain rfl : M = k := by omega
      have q1 : decide ((M : Int) < (M : Int)) = false := dcf (by omega)
      have HA : Hid (nxt t ((timersOf cf.cycles).take M) = Z) := Lib.hid (by rw [List.take_of_length_le (by have := HL.out; omega), HZ.out])
      rw [HA.out]
      have q4 : ((M : Int) != 4 * (n3 : Int)) = false := by have := HM.out; simp; omega
      have q5 : decide (0 < Z) = y := HY.out
      have q6 : (Z != Z) = false := by simp
      have q7 : (y != y) = false := by simp
      have hB6 := Below.next hB5 hb
      have e0 := (bc).cell 0
      have e1 := (bc).cell 1
      have e2 := (bc).cell 2
      have e3 := (bc).cell 3
      have e4 := (bc).cell 4
      have e5 := (bc).cell 5
      have e6 := (bc).cell 6
      have e7 := (bc).cell 7
      simp at e0 e1 e2 e3 e4 e5 e6 e7
      clear hk hlt bc5 hr5 hrd5 hrd6
      have TAT := Lib.hid (fun w (h : CfRd w A1 n1 A2 n2 A3 n3 cf) => refAt_any A1 A2 A3 n1 n2 n3 cp1 cp2 cp3 cf 0 w h H8.out)
      rw [HAT.out] at TAT
      have TBF := Lib.hid (fun w (h : CfRd w A1 n1 A2 n2 A3 n3 cf) => refAt_any A1 A2 A3 n1 n2 n3 cp1 cp2 cp3 cf (-1) w h H8.out)
      rw [HBF.out] at TBF
      go_wp2_with fail
      refine (TAT.out _ hr6).mono ?_
      rintro e w8 ⟨rfl, hb8⟩
      have bc8 := bc.past hb8
      have hr8 := hr6.past hb8
      have hB8 := Below.next hB6 hb8
      clear e0 e1 e2 e3 e4 e5 e6 e7
      have e0 := (bc8).cell 0
      have e1 := (bc8).cell 1
      have e2 := (bc8).cell 2
      have e3 := (bc8).cell 3
      have e4 := (bc8).cell 4
      have e5 := (bc8).cell 5
      have e6 := (bc8).cell 6
      have e7 := (bc8).cell 7
      simp at e0 e1 e2 e3 e4 e5 e6 e7
      go_wp2_with fail
      refine (TBF.out _ hr8).mono ?_
      rintro e w9 ⟨rfl, hb9⟩
      have hB9 := Below.next hB8 hb9
      go_wp2_with fail
      refine (awake20 _ (hw.past hB9)).mono ?_
      rintro e wa ⟨rfl, hba⟩
      go_wp2_with fail
      go_ret
      exact ⟨rfl, Below.next hB9 hba⟩

set_option maxRecDepth 10000 in
set_option maxHeartbeats 8000000 in
theorem calendarTimers_later (A1 A2 A3 : Option Addr) (n1 n2 n3 cp1 cp2 cp3 : Nat) (cf : Conf) (t : Int) (C : Nat) (c : Int) (h0 : Hid (c = ((C + 1 : Nat) : Int))) (hn : C + 1 < n3) (w : World) (hw : WdOk w) (hr : CfRd w A1 n1 A2 n2 A3 n3 cf) (hf : fewB n1 n2 n3 = true) (h8 : wrongK cf = 8) :
    Calls Tryd.prog 3 #[.agg #[.slice A1 n1 cp1, .slice A2 n2 cp2, .slice A3 n3 cp3, .int .i64 cf.line, .int .i64 cf.capital, .int .i64 cf.lead, .int .i64 cf.trades, .int .i64 cf.bids], .int .i64 t, .int .i64 c] w fun e w' => e = .returned (.bool true) ∧ Below w.heap.size w w' := by
  have Hhf := Lib.hid hf
  clear hf
  have hB0 := (Below.refl w.heap.size w).alloc (Nat.le_refl _) (.cells #[.slice A1 n1 cp1, .slice A2 n2 cp2, .slice A3 n3 cp3, .int .i64 cf.line, .int .i64 cf.capital, .int .i64 cf.lead, .int .i64 cf.trades, .int .i64 cf.bids] 26)
  have hr0 := hr.past hB0
  have bc0 := Blk.new w 26 #[.slice A1 n1 cp1, .slice A2 n2 cp2, .slice A3 n3 cp3, .int .i64 cf.line, .int .i64 cf.capital, .int .i64 cf.lead, .int .i64 cf.trades, .int .i64 cf.bids] w.heap.size rfl
  have hcn := hr.hc
  obtain ⟨K, HK⟩ : ∃ K, Hid (wrongK cf = K) := ⟨_, Lib.hid rfl⟩
  have qk : ((word K).toList == []) = true := by rw [← HK.out, h8, word_empty]; rfl
  have H8 := Lib.hid h8
  have OK := Lib.hid (cycs_of_ok h8)
  have HPOS : Hid (∀ y ∈ timersOf cf.cycles, 0 < y.due) := Lib.hid (fun y hy => by obtain ⟨i, hi, e⟩ := List.mem_iff_getElem.1 hy; exact (timr_due OK.out.1 (i := i) (by rw [List.getElem?_eq_getElem hi, e])).2)
  have HLc := Lib.hid (hr.c.len Cyc.cells_len (by omega))
  obtain ⟨Z, HZ⟩ : ∃ Z, Hid (nxt t (timersOf cf.cycles) = Z) := ⟨_, Lib.hid rfl⟩
  obtain ⟨y, HY⟩ : ∃ y, Hid (decide (0 < Z) = y) := ⟨_, Lib.hid rfl⟩
  have HN1 : Hid ((nextC cf t).getD 0 = Z) := Lib.hid (by rw [(next_is t h8 HPOS.out).1, HZ.out])
  have HN2 : Hid ((nextC cf t).isSome = y) := Lib.hid (by rw [(next_is t h8 HPOS.out).2, HZ.out, HY.out])
  clear h8
  obtain ⟨M, HM⟩ : ∃ M, Hid (4 * n3 = M) := ⟨_, Lib.hid rfl⟩
  have hM : M ≤ 4000 := by have := HM.out; omega
  have T1 := Lib.hid (fun w (h : CfRd w A1 n1 A2 n2 A3 n3 cf) => timers_ok A1 A2 A3 n1 n2 n3 cp1 cp2 cp3 cf w h H8.out)
  rw [HM.out] at T1
  have T2 := Lib.hid (fun w (h : CfRd w A1 n1 A2 n2 A3 n3 cf) => next_any A1 A2 A3 n1 n2 n3 cp1 cp2 cp3 cf t w h)
  rw [HN1.out, HN2.out] at T2
  have T3 := Lib.hid (fun w (h : CfRd w A1 n1 A2 n2 A3 n3 cf) => begin_any A1 A2 A3 n1 n2 n3 cp1 cp2 cp3 cf c w h)
  obtain ⟨V, HV⟩ : ∃ V, Hid (closeOf 0 (cf.cycles.take (C + 1)) = V) := ⟨_, Lib.hid rfl⟩
  have HBG : Hid (beginC cf c = (V, 0)) := Lib.hid (by rw [h0.out, beginC, if_pos H8.out, if_neg (by have := HLc.out; omega)]; rw [← HV.out]; rfl)
  rw [HBG.out] at T3
  have q8 : decide (c < 0) = false := dcf (by have := h0.out; omega)
  have q9 : decide ((n3 : Int) ≤ c) = false := dcf (by have := h0.out; omega)
  have hbf := begin_before OK.out.1 (c := C) (by have := HLc.out; omega)
  rw [HV.out] at hbf
  have hV0 : 0 < V := hbf.1
  have hV1 : V ≤ 1000 := by
    have hlt : C < cf.cycles.length := by have := HLc.out; omega
    have a := cyc_at OK.out.1 (List.getElem?_eq_getElem hlt)
    rw [← HV.out, close_succ (List.getElem?_eq_getElem hlt)]; omega
  have q10 : (V == 0) = false := by simp; omega
  have q11 : decide (0 < V) = true := dct hV0
  have q12 : (c == c) = true := by simp
  have q13 : (c - 1 == c - 1) = true := by simp
  have hc1 : 1 ≤ c := by have := h0.out; omega
  have hc2 : c ≤ 1000 := by have := h0.out; omega
  have HAT : Hid (refAtC cf V = (c, 1)) := Lib.hid (by rw [refAtC, if_neg (by omega), ← HV.out, h0.out]; exact begin_at (c := C + 1) OK.out.1 (by have := HLc.out; omega))
  obtain ⟨U, HU⟩ : ∃ U, Hid ((atL cf.cycles 0 (V - 1)).2 = U) := ⟨_, Lib.hid rfl⟩
  have HBF : Hid (refAtC cf (V - 1) = (c - 1, U)) := Lib.hid (by rw [refAtC, if_neg (by omega)]; exact Prod.ext (by rw [hbf.2, h0.out]; simp) HU.out)
  clear hbf
  have T4 := Lib.hid (fun w (h : CfRd w A1 n1 A2 n2 A3 n3 cf) => refWrong_any A1 A2 A3 n1 n2 n3 cp1 cp2 cp3 cf w h)
  rw [HK.out] at T4
  go_enter Tryd.func3, Tryd.ntmps3
  go_wp2_with fail
  refine (few_any A1 A2 A3 n1 n2 n3 cp1 cp2 cp3 cf _).mono ?_
  rw [Hhf.out]
  rintro e w1 ⟨rfl, hb1⟩
  have bc1 := bc0.past hb1
  have hr1 := hr0.past hb1
  have hB1 := Below.past hB0 hb1 hB0.size
  have e0 := (bc1).cell 0
  have e1 := (bc1).cell 1
  have e2 := (bc1).cell 2
  have e3 := (bc1).cell 3
  have e4 := (bc1).cell 4
  have e5 := (bc1).cell 5
  have e6 := (bc1).cell 6
  have e7 := (bc1).cell 7
  simp at e0 e1 e2 e3 e4 e5 e6 e7
  go_wp2_with fail
  refine (T1.out _ hr1).mono ?_
  rintro e w2 ⟨v, rfl, hown, hb2⟩
  obtain ⟨A, cc, rfl⟩ := own_form hown
  have hrd := Rd.of_own hown
  have bc2 := bc1.past hb2
  have hr2 := hr1.past hb2
  have hB2 := Below.next hB1 hb2
  clear e0 e1 e2 e3 e4 e5 e6 e7 hown
  have e0 := (bc2).cell 0
  have e1 := (bc2).cell 1
  have e2 := (bc2).cell 2
  have e3 := (bc2).cell 3
  have e4 := (bc2).cell 4
  have e5 := (bc2).cell 5
  have e6 := (bc2).cell 6
  have e7 := (bc2).cell 7
  simp at e0 e1 e2 e3 e4 e5 e6 e7
  go_wp2_with fail
  refine (T2.out _ hr2).mono ?_
  rintro e w3 ⟨rfl, hb3⟩
  have bc3 := bc2.past hb3
  have hr3 := hr2.past hb3
  have hB3 := Below.next hB2 hb3
  clear e0 e1 e2 e3 e4 e5 e6 e7
  have e0 := (bc3).cell 0
  have e1 := (bc3).cell 1
  have e2 := (bc3).cell 2
  have e3 := (bc3).cell 3
  have e4 := (bc3).cell 4
  have e5 := (bc3).cell 5
  have e6 := (bc3).cell 6
  have e7 := (bc3).cell 7
  simp at e0 e1 e2 e3 e4 e5 e6 e7
  go_wp2_with fail
  refine (T3.out _ hr3).mono ?_
  rintro e w4 ⟨rfl, hb4⟩
  have bc4 := bc3.past hb4
  have hr4 := hr3.past hb4
  have hB4 := Below.next hB3 hb4
  clear e0 e1 e2 e3 e4 e5 e6 e7
  have e0 := (bc4).cell 0
  have e1 := (bc4).cell 1
  have e2 := (bc4).cell 2
  have e3 := (bc4).cell 3
  have e4 := (bc4).cell 4
  have e5 := (bc4).cell 5
  have e6 := (bc4).cell 6
  have e7 := (bc4).cell 7
  simp at e0 e1 e2 e3 e4 e5 e6 e7
  go_wp2_with fail
  refine (T4.out _ hr4).mono ?_
  rintro e w5 ⟨rfl, hb5⟩
  have bc5 := bc4.past hb5
  have hr5 := hr4.past hb5
  have hB5 := Below.next hB4 hb5
  have hrd5 := (((hrd.past hb3).past hb4).past hb5)
  clear e0 e1 e2 e3 e4 e5 e6 e7 bc0 bc1 bc2 bc3 bc4 hr0 hr1 hr2 hr3 hr4 hb1 hb2 hb3 hb4 hb5 hB0 hB1 hB2 hB3 hB4 hrd hr T1 T2 T3 T4 Hhf HN1 HN2
  have e0 := (bc5).cell 0
  have e1 := (bc5).cell 1
  have e2 := (bc5).cell 2
  have e3 := (bc5).cell 3
  have e4 := (bc5).cell 4
  have e5 := (bc5).cell 5
  have e6 := (bc5).cell 6
  have e7 := (bc5).cell 7
  simp at e0 e1 e2 e3 e4 e5 e6 e7
  go_wp2_with fail
  clear e0 e1 e2 e3 e4 e5 e6 e7
  go_loopw [13, 14] (fun nx i wr => ∃ k : Nat, k ≤ M ∧ i = .int .i64 k ∧ nx = .int .i64 (nxt t ((timersOf cf.cycles).take k)) ∧ Below w5.heap.size w5 wr) (fun _ i _ => M - (intOf i).toNat)
  case atStart => exact ⟨0, by omega, rfl, rfl, Below.refl _ _⟩
  case round =>
    obtain ⟨k, hk, rfl, rfl, hb⟩ := hrel
    have HL := Lib.hid (hrd5.len Timr.cells_len (by omega))
    have bc := bc5.past hb
    have hr6 := hr5.past hb
    have hrd6 := hrd5.past hb
    by_cases hlt : k < M
    · clear HZ HY
      have e0 := (bc).cell 0
      have e1 := (bc).cell 1
      have e2 := (bc).cell 2
      have e3 := (bc).cell 3
      have e4 := (bc).cell 4
      have e5 := (bc).cell 5
      have e6 := (bc).cell 6
      have e7 := (bc).cell 7
      simp at e0 e1 e2 e3 e4 e5 e6 e7
      have q1 : decide ((k : Int) < (M : Int)) = true := dct (by omega)
      have hg_f : (timersOf cf.cycles)[k]? = some ((timersOf cf.cycles)[k]'(by have := HL.out; omega)) := List.getElem?_eq_getElem _
      obtain ⟨b_f, off_f, rfl, hbb_f, hc_f⟩ := (hrd6).elem Timr.cells_len hg_f hlt
      have HT_f := Lib.hid (show (timersOf cf.cycles).take (k + 1) = (timersOf cf.cycles).take k ++ [((timersOf cf.cycles)[k]'(by have := HL.out; omega))] from List.take_succ_eq_append_getElem (by have := HL.out; omega))
      have HD_f := Lib.hid (show (timersOf cf.cycles).drop k = ((timersOf cf.cycles)[k]'(by have := HL.out; omega)) :: (timersOf cf.cycles).drop (k + 1) from List.drop_eq_getElem_cons (by have := HL.out; omega))
      have HM_f := Lib.hid (show ((timersOf cf.cycles)[k]'(by have := HL.out; omega)) ∈ (timersOf cf.cycles) from List.getElem_mem _)
      generalize ((timersOf cf.cycles)[k]'(by have := HL.out; omega)) = f at *
      have c0 := hc_f 0 _ rfl
      have c1 := hc_f 1 _ rfl
      have c2 := hc_f 2 _ rfl
      have c3 := hc_f 3 _ rfl
      clear hc_f hg_f
      simp only [Nat.add_zero] at c0
      have HS := Lib.hid (nxt_step t HT_f.out HPOS.out)
      obtain ⟨X, hX⟩ : ∃ X, Hid (nxt t ((timersOf cf.cycles).take k) = X) := ⟨_, Lib.hid rfl⟩
      rw [hX.out] at HS ⊢
      go_wp2_with fail
      have HX : Hid ((timersOf cf.cycles)[k]? = some f) := Lib.hid (by have := congrArg List.head? HD_f.out; simpa [List.head?_drop] using this)
      have HDU := Lib.hid (timr_due OK.out.1 HX.out).1
      have T5 := Lib.hid (fun w (h : CfRd w A1 n1 A2 n2 A3 n3 cf) => refDue_any A1 A2 A3 n1 n2 n3 cp1 cp2 cp3 cf f.due w h)
      rw [HDU.out] at T5
      have b1 : (0 : Int) ≤ (k : Int) := by omega
      have b2 : (k : Int) < (M : Int) := by omega
      go_region_with (go_at_call 10; refine (T5.out _ hr6.drew).mono ?_; rintro e w7 ⟨rfl, hb7⟩)
      all_goals
        have hb8 : Below w5.heap.size w5 w7 := Below.next (by exact hb.drew) (by exact hb7)
        have hlb : b_f < wr.heap.size := by have := hb.size; omega
        have d0 := (hb7.cell (p := ⟨b_f, off_f + k * 4, none⟩) hlb).trans c0
        have d1 := (hb7.cell (p := ⟨b_f, off_f + k * 4 + 1, none⟩) hlb).trans c1
        have d2 := (hb7.cell (p := ⟨b_f, off_f + k * 4 + 2, none⟩) hlb).trans c2
        have d3 := (hb7.cell (p := ⟨b_f, off_f + k * 4 + 3, none⟩) hlb).trans c3
        have hrd7 := hrd5.past hb8
        clear c0 c1 c2 c3 e0 e1 e2 e3 e4 e5 e6 e7 hrd6 hrd5 hr6 hr5 bc bc5 T5 HDU hb7 hb hB5 hw
        go_wp2_with fail
        have hq := timr_neq f.due f.kind
        by_cases hk0 : k = 0
        · have bz : decide (0 < k) = false := dcf (by omega)
          clear hrd7 q1 hk0
          simp only [Act.put, List.getElem_toArray, List.getElem_cons_succ, List.getElem_cons_zero, List.setIfInBounds_toArray, List.set_cons_succ, List.set_cons_zero]
          go_quiet (fail)
          have hb9 := below_drewN hb8 nq
          clear hq
          by_cases ht : t < f.due
          · have q5 := dct ht
            by_cases hx0 : X = 0
            · have q6 : (X == 0) = true := by simp [hx0]
              have HS2 : Hid (nxt t ((timersOf cf.cycles).take (k + 1)) = f.due) := Lib.hid (by rw [HS.out, if_pos ⟨ht, hx0⟩])
              clear hx0 ht
              go_wp2_with fail
              go_roundw
              case rel => exact ⟨k + 1, by omega, by go_num, by rw [HS2.out], hb9⟩
              case measure => simp [intOf]; omega
            · have q6 : (X == 0) = false := by simp [hx0]
              have HS2 : Hid (nxt t ((timersOf cf.cycles).take (k + 1)) = X) := Lib.hid (by rw [HS.out, if_neg (fun c => hx0 c.2)])
              clear hx0 ht
              go_wp2_with fail
              go_roundw
              case rel => exact ⟨k + 1, by omega, by go_num, by rw [HS2.out], hb9⟩
              case measure => simp [intOf]; omega
          · have q5 := dcf ht
            have HS2 : Hid (nxt t ((timersOf cf.cycles).take (k + 1)) = X) := Lib.hid (by rw [HS.out, if_neg (fun c => ht c.1)])
            clear ht
            go_wp2_with fail
            go_roundw
            case rel => exact ⟨k + 1, by omega, by go_num, by rw [HS2.out], hb9⟩
            case measure => simp [intOf]; omega
        · obtain ⟨m, hm⟩ : ∃ m : Nat, Hid (k = m + 1) := ⟨k - 1, Lib.hid (by omega)⟩
          have bz : decide (0 < k) = true := dct (by omega)
          have hltm : m < M := by have := hm.out; omega
          have hg_g : (timersOf cf.cycles)[m]? = some ((timersOf cf.cycles)[m]'(by have := HL.out; omega)) := List.getElem?_eq_getElem _
          obtain ⟨b_g, off_g, hA_g, hbb_g, hc_g⟩ := (hrd7).elem Timr.cells_len hg_g hltm
          have HT_g := Lib.hid (show (timersOf cf.cycles).take (m + 1) = (timersOf cf.cycles).take m ++ [((timersOf cf.cycles)[m]'(by have := HL.out; omega))] from List.take_succ_eq_append_getElem (by have := HL.out; omega))
          have HD_g := Lib.hid (show (timersOf cf.cycles).drop m = ((timersOf cf.cycles)[m]'(by have := HL.out; omega)) :: (timersOf cf.cycles).drop (m + 1) from List.drop_eq_getElem_cons (by have := HL.out; omega))
          have HM_g := Lib.hid (show ((timersOf cf.cycles)[m]'(by have := HL.out; omega)) ∈ (timersOf cf.cycles) from List.getElem_mem _)
          generalize ((timersOf cf.cycles)[m]'(by have := HL.out; omega)) = g at *
          have g0 := hc_g 0 _ rfl
          have g1 := hc_g 1 _ rfl
          have g2 := hc_g 2 _ rfl
          have g3 := hc_g 3 _ rfl
          clear hc_g hg_g
          simp only [Nat.add_zero] at g0
          obtain ⟨rfl, rfl⟩ : b_f = b_g ∧ off_f = off_g := by simpa using hA_g
          have HXg : Hid ((timersOf cf.cycles)[m]? = some g) := Lib.hid (by have := congrArg List.head? HD_g.out; simpa [List.head?_drop] using this)
          have hri := timr_rise OK.out.1 HXg.out (by rw [← hm.out]; exact HX.out)
          have q3 : decide (f.due ≤ g.due) = false := dcf (by omega)
          clear hri hrd7 hA_g hk0 q1
          have b4 : (0 : Int) ≤ (m : Int) := by omega
          have b5 : (m : Int) < (M : Int) := by omega
          have b6 : (k : Int) - 1 = (m : Int) := by have := hm.out; omega
          have b7 : IntKind.i64.wrap ((k : Int) - 1) = (m : Int) := by rw [b6]; exact IntWalk.i64_in _ (by omega)
          simp only [Act.put, List.getElem_toArray, List.getElem_cons_succ, List.getElem_cons_zero, List.setIfInBounds_toArray, List.set_cons_succ, List.set_cons_zero]
          go_quiet (fail)
          have hb9 := below_drewN hb8 nq
          clear b4 b5 b6 b7 q3 g0 g1 g2 g3 hq
          by_cases ht : t < f.due
          · have q5 := dct ht
            by_cases hx0 : X = 0
            · have q6 : (X == 0) = true := by simp [hx0]
              have HS2 : Hid (nxt t ((timersOf cf.cycles).take (k + 1)) = f.due) := Lib.hid (by rw [HS.out, if_pos ⟨ht, hx0⟩])
              clear hx0 ht
              go_wp2_with fail
              go_roundw
              case rel => exact ⟨k + 1, by omega, by go_num, by rw [HS2.out], hb9⟩
              case measure => simp [intOf]; omega
            · have q6 : (X == 0) = false := by simp [hx0]
              have HS2 : Hid (nxt t ((timersOf cf.cycles).take (k + 1)) = X) := Lib.hid (by rw [HS.out, if_neg (fun c => hx0 c.2)])
              clear hx0 ht
              go_wp2_with fail
              go_roundw
              case rel => exact ⟨k + 1, by omega, by go_num, by rw [HS2.out], hb9⟩
              case measure => simp [intOf]; omega
          · have q5 := dcf ht
            have HS2 : Hid (nxt t ((timersOf cf.cycles).take (k + 1)) = X) := Lib.hid (by rw [HS.out, if_neg (fun c => ht c.1)])
            clear ht
            go_wp2_with fail
            go_roundw
            case rel => exact ⟨k + 1, by omega, by go_num, by rw [HS2.out], hb9⟩
            case measure => simp [intOf]; omega
    · obtain rfl : M = k := by omega
      have q1 : decide ((M : Int) < (M : Int)) = false := dcf (by omega)
      have HA : Hid (nxt t ((timersOf cf.cycles).take M) = Z) := Lib.hid (by rw [List.take_of_length_le (by have := HL.out; omega), HZ.out])
      rw [HA.out]
      have q4 : ((M : Int) != 4 * (n3 : Int)) = false := by have := HM.out; simp; omega
      have q5 : decide (0 < Z) = y := HY.out
      have q6 : (Z != Z) = false := by simp
      have q7 : (y != y) = false := by simp
      have hB6 := Below.next hB5 hb
      have e0 := (bc).cell 0
      have e1 := (bc).cell 1
      have e2 := (bc).cell 2
      have e3 := (bc).cell 3
      have e4 := (bc).cell 4
      have e5 := (bc).cell 5
      have e6 := (bc).cell 6
      have e7 := (bc).cell 7
      simp at e0 e1 e2 e3 e4 e5 e6 e7
      clear hk hlt bc5 hr5 hrd5 hrd6
      have TAT := Lib.hid (fun w (h : CfRd w A1 n1 A2 n2 A3 n3 cf) => refAt_any A1 A2 A3 n1 n2 n3 cp1 cp2 cp3 cf V w h H8.out)
      rw [HAT.out] at TAT
      have TBF := Lib.hid (fun w (h : CfRd w A1 n1 A2 n2 A3 n3 cf) => refAt_any A1 A2 A3 n1 n2 n3 cp1 cp2 cp3 cf (V - 1) w h H8.out)
      rw [HBF.out] at TBF
      go_wp2_with fail
      refine (TAT.out _ hr6).mono ?_
      rintro e w8 ⟨rfl, hb8⟩
      have bc8 := bc.past hb8
      have hr8 := hr6.past hb8
      have hB8 := Below.next hB6 hb8
      clear e0 e1 e2 e3 e4 e5 e6 e7
      have e0 := (bc8).cell 0
      have e1 := (bc8).cell 1
      have e2 := (bc8).cell 2
      have e3 := (bc8).cell 3
      have e4 := (bc8).cell 4
      have e5 := (bc8).cell 5
      have e6 := (bc8).cell 6
      have e7 := (bc8).cell 7
      simp at e0 e1 e2 e3 e4 e5 e6 e7
      go_wp2_with fail
      refine (TBF.out _ hr8).mono ?_
      rintro e w9 ⟨rfl, hb9⟩
      have hB9 := Below.next hB8 hb9
      go_wp2_with fail
      refine (awake20 _ (hw.past hB9)).mono ?_
      rintro e wa ⟨rfl, hba⟩
      go_wp2_with fail
      go_ret
      exact ⟨rfl, Below.next hB9 hba⟩

theorem calendarTimers_few (A1 A2 A3 : Option Addr) (n1 n2 n3 cp1 cp2 cp3 : Nat) (cf : Conf) (t c : Int) (w : World) (hw : WdOk w) (hr : CfRd w A1 n1 A2 n2 A3 n3 cf) (hf : fewB n1 n2 n3 = true) :
    Calls Tryd.prog 3 #[.agg #[.slice A1 n1 cp1, .slice A2 n2 cp2, .slice A3 n3 cp3, .int .i64 cf.line, .int .i64 cf.capital, .int .i64 cf.lead, .int .i64 cf.trades, .int .i64 cf.bids], .int .i64 t, .int .i64 c] w fun e w' => e = .returned (.bool true) ∧ Below w.heap.size w w' := by
  by_cases h8 : wrongK cf = 8
  · by_cases hc : c < 0 ∨ (n3 : Int) ≤ c
    · exact calendarTimers_out A1 A2 A3 n1 n2 n3 cp1 cp2 cp3 cf t c hc w hw hr hf h8
    · by_cases h0 : c = 0
      · exact calendarTimers_first A1 A2 A3 n1 n2 n3 cp1 cp2 cp3 cf t c (Lib.hid h0) (by omega) w hw hr hf h8
      · exact calendarTimers_later A1 A2 A3 n1 n2 n3 cp1 cp2 cp3 cf t (c.toNat - 1) c (Lib.hid (by omega)) (by omega) w hw hr hf h8
  · exact calendarTimers_wrong A1 A2 A3 n1 n2 n3 cp1 cp2 cp3 cf t c w hw hr hf h8
end Go.Proofs.YtjlaooaicddloaaDoor
