import Derived.Test.YtjkabmijkbpodabDoorCalG
namespace Go.Proofs.YtjkabmijkbpodabDoor
open Go.RowKit

theorem atC_ok {cf : Conf} (t : Int) (h : wrongK cf = 8) : atC cf t = ((refAtC cf t).1, (refAtC cf t).2, 0) := by
  rw [atC, if_pos h, refAtC]
  by_cases c : t < 0
  · rw [if_pos c, if_pos c]
  · rw [if_neg c, if_neg c]
theorem atC_not {cf : Conf} (t : Int) (h : ¬ wrongK cf = 8) : atC cf t = (0, 0, 1) := by rw [atC, if_neg h]
theorem word_ne {k : Nat} (h : ¬ k = 8) (hl : k ≤ 8) : ((word k).toList == []) = false := by rw [word_empty, decide_eq_false (by omega)]

set_option maxRecDepth 10000 in
set_option maxHeartbeats 4000000 in
theorem calendarTells_few (A1 A2 A3 : Option Addr) (n1 n2 n3 cp1 cp2 cp3 : Nat) (cf : Conf) (t : Int) (w : World) (hw : WdOk w) (hr : CfRd w A1 n1 A2 n2 A3 n3 cf) (hf : fewB n1 n2 n3 = true) :
    Calls Tryd.prog 5 #[.agg #[.slice A1 n1 cp1, .slice A2 n2 cp2, .slice A3 n3 cp3, .int .i64 cf.line, .int .i64 cf.capital, .int .i64 cf.lead, .int .i64 cf.trades, .int .i64 cf.bids], .int .i64 t] w fun e w' => e = .returned (.bool true) ∧ Below w.heap.size w w' := by
  have Hhf := Lib.hid hf
  clear hf
  have hB0 := (Below.refl w.heap.size w).alloc (Nat.le_refl _) (.cells #[.slice A1 n1 cp1, .slice A2 n2 cp2, .slice A3 n3 cp3, .int .i64 cf.line, .int .i64 cf.capital, .int .i64 cf.lead, .int .i64 cf.trades, .int .i64 cf.bids] 26)
  have hr0 := hr.past hB0
  have bc0 := Blk.new w 26 #[.slice A1 n1 cp1, .slice A2 n2 cp2, .slice A3 n3 cp3, .int .i64 cf.line, .int .i64 cf.capital, .int .i64 cf.lead, .int .i64 cf.trades, .int .i64 cf.bids] w.heap.size rfl
  have HL := Lib.hid (hr.c.len Cyc.cells_len (by have := hr.hc; omega))
  have hcn := hr.hc
  by_cases h8 : wrongK cf = 8
  · have HA := Lib.hid (atC_ok t h8)
    have H8 := Lib.hid h8
    obtain ⟨K, HK⟩ : ∃ K, Hid (wrongK cf = K) := ⟨_, Lib.hid rfl⟩
    have qk : ((word K).toList == []) = true := by rw [← HK.out, h8, word_empty]; rfl
    obtain ⟨N, hN⟩ : ∃ x, Hid ((refAtC cf t).1 = x) := ⟨_, Lib.hid rfl⟩
    obtain ⟨S, hS⟩ : ∃ x, Hid ((refAtC cf t).2 = x) := ⟨_, Lib.hid rfl⟩
    have bd := lastC_bd h8
    obtain ⟨L, hL⟩ : ∃ L, Hid (lastC cf = L) := ⟨_, Lib.hid rfl⟩
    rw [hL.out] at bd
    obtain ⟨bd1, bd2⟩ := bd
    have HV : Hid (leftC cf t = leftI L t) := Lib.hid (by rw [leftC, if_pos h8, hL.out])
    obtain ⟨V, hV⟩ : ∃ V, Hid (leftI L t = V) := ⟨_, Lib.hid rfl⟩
    have OK := Lib.hid (cycs_of_ok h8)
    have hn3 : 1 ≤ n3 := by have := OK.out.2.1; have := HL.out; omega
    have qv : (V == V) = true := by simp
    have qn : (N == N) = true := by simp
    have qs : (S == S) = true := by simp
    clear h8
    have T1 := Lib.hid (fun w (h : CfRd w A1 n1 A2 n2 A3 n3 cf) => at_any A1 A2 A3 n1 n2 n3 cp1 cp2 cp3 cf t w h)
    rw [HA.out] at T1
    rw [hN.out, hS.out] at T1
    have T2 := Lib.hid (fun w (h : CfRd w A1 n1 A2 n2 A3 n3 cf) => left_any A1 A2 A3 n1 n2 n3 cp1 cp2 cp3 cf t w h)
    rw [HV.out, hV.out] at T2
    have T3 := Lib.hid (fun w (h : CfRd w A1 n1 A2 n2 A3 n3 cf) => refWrong_any A1 A2 A3 n1 n2 n3 cp1 cp2 cp3 cf w h)
    rw [HK.out] at T3
    have T4 := Lib.hid (fun w (h : CfRd w A1 n1 A2 n2 A3 n3 cf) => refAt_any A1 A2 A3 n1 n2 n3 cp1 cp2 cp3 cf t w h H8.out)
    rw [hN.out, hS.out] at T4
    go_enter Tryd.func5, Tryd.ntmps5
    go_wp2_with fail
    refine (few_any A1 A2 A3 n1 n2 n3 cp1 cp2 cp3 cf _).mono ?_
    rw [Hhf.out]
    rintro e w1 ⟨rfl, hb1⟩
    have bc1 := bc0.past hb1
    have hr1 := hr0.past hb1
    have hB1 := Below.past hB0 hb1 hB0.size
    have e0 := (bc1).cell 0
    have e1 := (bc1).cell 1
    have e2 := (bc1).cell 2
    have e3 := (bc1).cell 3
    have e4 := (bc1).cell 4
    have e5 := (bc1).cell 5
    have e6 := (bc1).cell 6
    have e7 := (bc1).cell 7
    simp at e0 e1 e2 e3 e4 e5 e6 e7
    go_wp2_with fail
    refine (T1.out _ hr1).mono ?_
    rintro e w2 ⟨rfl, hb2⟩
    have bc2 := bc1.past hb2
    have hr2 := hr1.past hb2
    have hB2 := Below.next hB1 hb2
    clear e0 e1 e2 e3 e4 e5 e6 e7
    have e0 := (bc2).cell 0
    have e1 := (bc2).cell 1
    have e2 := (bc2).cell 2
    have e3 := (bc2).cell 3
    have e4 := (bc2).cell 4
    have e5 := (bc2).cell 5
    have e6 := (bc2).cell 6
    have e7 := (bc2).cell 7
    simp at e0 e1 e2 e3 e4 e5 e6 e7
    go_wp2_with fail
    refine (T2.out _ hr2).mono ?_
    rintro e w3 ⟨rfl, hb3⟩
    have bc3 := bc2.past hb3
    have hr3 := hr2.past hb3
    have hB3 := Below.next hB2 hb3
    clear e0 e1 e2 e3 e4 e5 e6 e7
    have e0 := (bc3).cell 0
    have e1 := (bc3).cell 1
    have e2 := (bc3).cell 2
    have e3 := (bc3).cell 3
    have e4 := (bc3).cell 4
    have e5 := (bc3).cell 5
    have e6 := (bc3).cell 6
    have e7 := (bc3).cell 7
    simp at e0 e1 e2 e3 e4 e5 e6 e7
    go_wp2_with fail
    refine (T3.out _ hr3).mono ?_
    rintro e w4 ⟨rfl, hb4⟩
    have bc4 := bc3.past hb4
    have hr4 := hr3.past hb4
    have hB4 := Below.next hB3 hb4
    clear e0 e1 e2 e3 e4 e5 e6 e7
    have e0 := (bc4).cell 0
    have e1 := (bc4).cell 1
    have e2 := (bc4).cell 2
    have e3 := (bc4).cell 3
    have e4 := (bc4).cell 4
    have e5 := (bc4).cell 5
    have e6 := (bc4).cell 6
    have e7 := (bc4).cell 7
    simp at e0 e1 e2 e3 e4 e5 e6 e7
    go_wp2_with fail
    refine (T4.out _ hr4).mono ?_
    rintro e w5 ⟨rfl, hb5⟩
    have bc5 := bc4.past hb5
    have hr5 := hr4.past hb5
    have hB5 := Below.next hB4 hb5
    clear e0 e1 e2 e3 e4 e5 e6 e7
    have e0 := (bc5).cell 0
    have e1 := (bc5).cell 1
    have e2 := (bc5).cell 2
    have e3 := (bc5).cell 3
    have e4 := (bc5).cell 4
    have e5 := (bc5).cell 5
    have e6 := (bc5).cell 6
    have e7 := (bc5).cell 7
    simp at e0 e1 e2 e3 e4 e5 e6 e7
    have hlt : n3 - 1 < n3 := by omega
    have hg_f : cf.cycles[(n3 - 1)]? = some (cf.cycles[(n3 - 1)]'(by have := HL.out; omega)) := List.getElem?_eq_getElem _
    obtain ⟨b_f, off_f, rfl, hbb_f, hc_f⟩ := (hr5.c).elem Cyc.cells_len hg_f hlt
    have HT_f := Lib.hid (show cf.cycles.take ((n3 - 1) + 1) = cf.cycles.take (n3 - 1) ++ [(cf.cycles[(n3 - 1)]'(by have := HL.out; omega))] from List.take_succ_eq_append_getElem (by have := HL.out; omega))
    have HM_f := Lib.hid (show (cf.cycles[(n3 - 1)]'(by have := HL.out; omega)) ∈ cf.cycles from List.getElem_mem _)
    generalize (cf.cycles[(n3 - 1)]'(by have := HL.out; omega)) = f at *
    have c0 := hc_f 0 _ rfl
    have c1 := hc_f 1 _ rfl
    have c2 := hc_f 2 _ rfl
    have c3 := hc_f 3 _ rfl
    clear hc_f hg_f
    simp only [Nat.add_zero] at c0
    have HF : Hid (f.close = L) := Lib.hid (by rw [← hL.out, lastC, ← List.take_of_length_le (i := n3 - 1 + 1) (l := cf.cycles) (by have := HL.out; omega), HT_f.out, closeOf_snoc])
    rw [HF.out] at c3
    by_cases d1 : t ≤ 0
    · have HW : Hid (V = L) := Lib.hid (by rw [← hV.out, leftI, if_pos d1])
      obtain rfl := HW.out
      have q1 : decide (0 < t) = false := dcf (by omega)
      go_wp2_with fail
      refine (awake20 _ (hw.past hB5)).mono ?_
      rintro e w6 ⟨rfl, hb6⟩
      go_wp2_with fail
      all_goals
        go_ret
        exact ⟨rfl, Below.next hB5 hb6⟩
    · have q1 : decide (0 < t) = true := dct (by omega)
      by_cases d2 : t ≤ L
      · have HW : Hid (V = L - t) := Lib.hid (by rw [← hV.out, leftI, if_neg d1, if_pos d2])
        obtain rfl := HW.out
        have q2 : min t L = t := by omega
        have q3 : max (L - t) 0 = L - t := by omega
        go_wp2_with fail
        refine (awake20 _ (hw.past hB5)).mono ?_
        rintro e w6 ⟨rfl, hb6⟩
        go_wp2_with fail
        all_goals
          go_ret
          exact ⟨rfl, Below.next hB5 hb6⟩
      · have HW : Hid (V = 0) := Lib.hid (by rw [← hV.out, leftI, if_neg d1, if_neg d2])
        obtain rfl := HW.out
        have q2 : min t L = L := by omega
        go_wp2_with fail
        refine (awake20 _ (hw.past hB5)).mono ?_
        rintro e w6 ⟨rfl, hb6⟩
        go_wp2_with fail
        all_goals
          go_ret
          exact ⟨rfl, Below.next hB5 hb6⟩
  · have HA := Lib.hid (atC_not t h8)
    have HV : Hid (leftC cf t = 0) := Lib.hid (by rw [leftC, if_neg h8])
    obtain ⟨K, HK⟩ : ∃ K, Hid (wrongK cf = K) := ⟨_, Lib.hid rfl⟩
    have qk : ((word K).toList == []) = false := word_ne (by rw [← HK.out]; exact h8) (by rw [← HK.out]; exact wrongK_le cf)
    clear h8
    have T1 := Lib.hid (fun w (h : CfRd w A1 n1 A2 n2 A3 n3 cf) => at_any A1 A2 A3 n1 n2 n3 cp1 cp2 cp3 cf t w h)
    rw [HA.out] at T1
    have T2 := Lib.hid (fun w (h : CfRd w A1 n1 A2 n2 A3 n3 cf) => left_any A1 A2 A3 n1 n2 n3 cp1 cp2 cp3 cf t w h)
    rw [HV.out] at T2
    have T3 := Lib.hid (fun w (h : CfRd w A1 n1 A2 n2 A3 n3 cf) => refWrong_any A1 A2 A3 n1 n2 n3 cp1 cp2 cp3 cf w h)
    rw [HK.out] at T3
    go_enter Tryd.func5, Tryd.ntmps5
    go_wp2_with fail
    refine (few_any A1 A2 A3 n1 n2 n3 cp1 cp2 cp3 cf _).mono ?_
    rw [Hhf.out]
    rintro e w1 ⟨rfl, hb1⟩
    have bc1 := bc0.past hb1
    have hr1 := hr0.past hb1
    have hB1 := Below.past hB0 hb1 hB0.size
    have e0 := (bc1).cell 0
    have e1 := (bc1).cell 1
    have e2 := (bc1).cell 2
    have e3 := (bc1).cell 3
    have e4 := (bc1).cell 4
    have e5 := (bc1).cell 5
    have e6 := (bc1).cell 6
    have e7 := (bc1).cell 7
    simp at e0 e1 e2 e3 e4 e5 e6 e7
    go_wp2_with fail
    refine (T1.out _ hr1).mono ?_
    rintro e w2 ⟨rfl, hb2⟩
    have bc2 := bc1.past hb2
    have hr2 := hr1.past hb2
    have hB2 := Below.next hB1 hb2
    clear e0 e1 e2 e3 e4 e5 e6 e7
    have e0 := (bc2).cell 0
    have e1 := (bc2).cell 1
    have e2 := (bc2).cell 2
    have e3 := (bc2).cell 3
    have e4 := (bc2).cell 4
    have e5 := (bc2).cell 5
    have e6 := (bc2).cell 6
    have e7 := (bc2).cell 7
    simp at e0 e1 e2 e3 e4 e5 e6 e7
    go_wp2_with fail
    refine (T2.out _ hr2).mono ?_
    rintro e w3 ⟨rfl, hb3⟩
    have bc3 := bc2.past hb3
    have hr3 := hr2.past hb3
    have hB3 := Below.next hB2 hb3
    clear e0 e1 e2 e3 e4 e5 e6 e7
    have e0 := (bc3).cell 0
    have e1 := (bc3).cell 1
    have e2 := (bc3).cell 2
    have e3 := (bc3).cell 3
    have e4 := (bc3).cell 4
    have e5 := (bc3).cell 5
    have e6 := (bc3).cell 6
    have e7 := (bc3).cell 7
    simp at e0 e1 e2 e3 e4 e5 e6 e7
    go_wp2_with fail
    refine (T3.out _ hr3).mono ?_
    rintro e w4 ⟨rfl, hb4⟩
    have hB4 := Below.next hB3 hb4
    go_wp2_with fail
    refine (awake20 _ (hw.past hB4)).mono ?_
    rintro e w6 ⟨rfl, hb6⟩
    go_wp2_with fail
    go_ret
    exact ⟨rfl, Below.next hB4 hb6⟩
end Go.Proofs.YtjkabmijkbpodabDoor
