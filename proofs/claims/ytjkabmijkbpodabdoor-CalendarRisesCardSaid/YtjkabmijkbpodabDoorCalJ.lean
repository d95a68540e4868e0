import Derived.Test.YtjkabmijkbpodabDoorCalI
import Derived.Test.YtjkabmijkbpodabDoorCalH
namespace Go.Proofs.YtjkabmijkbpodabDoor
open Go.RowKit

/-- From one tick to the next, whatever the tick. -/
theorem rises {cf : Conf} (h8 : wrongK cf = 8) (t : Int) : ∃ a b s u M D : Int, refAtC cf t = (a, s) ∧ refAtC cf (t + 1) = (b, u) ∧ dueL (t + 1) cf.cycles = (M, D) ∧ 0 ≤ a ∧ a ≤ 1000 ∧
    ((a = b ∧ ((s = u ∧ ¬ 0 < M ∧ ¬ t + 1 = 0) ∨ (s < u ∧ (0 < M ∨ (¬ 0 < M ∧ t + 1 = 0))))) ∨ (a + 1 = b ∧ 0 < M)) := by
  obtain ⟨h1, h2, h3⟩ := cycs_of_ok h8
  have hM := dueL_cnt (t + 1) cf.cycles
  have hbd := cntL_bd (t + 1) cf.cycles
  by_cases d1 : t + 1 < 0
  · refine ⟨0, 0, 0, 0, (dueL (t + 1) cf.cycles).1, (dueL (t + 1) cf.cycles).2, by rw [refAtC, if_pos (by omega)], by rw [refAtC, if_pos d1], rfl, by omega, by omega, Or.inl ⟨rfl, Or.inl ⟨rfl, ?_, by omega⟩⟩⟩
    rw [hM]
    intro hp
    obtain ⟨j, y, hy, hc⟩ := cntL_pos.1 hp
    have := cntX_pos.1 hc
    have := cyc_at h1 hy
    have := close_nn h1 j
    omega
  · by_cases d2 : t + 1 = 0
    · have e := (Stand.start h1 h2 (0 : Nat)).done
      refine ⟨0, 0, 0, 1, (dueL (t + 1) cf.cycles).1, (dueL (t + 1) cf.cycles).2, by rw [refAtC, if_pos (by omega)], by rw [refAtC, if_neg d1, d2]; exact e, rfl, by omega, by omega, Or.inl ⟨rfl, Or.inr ⟨by omega, ?_⟩⟩⟩
      by_cases hp : 0 < (dueL (t + 1) cf.cycles).1
      · exact Or.inl hp
      · exact Or.inr ⟨hp, d2⟩
    · obtain ⟨k, rfl⟩ := Int.eq_ofNat_of_zero_le (show 0 ≤ t by omega)
      obtain ⟨a, b, s, u, e1, e2, l1, l2, hh⟩ := rises_nn h1 h2 k
      rw [← hM] at hh
      refine ⟨a, b, s, u, (dueL (k + 1) cf.cycles).1, (dueL (k + 1) cf.cycles).2, by rw [refAtC, if_neg (by omega)]; exact e1, by rw [refAtC, if_neg d1]; exact e2, rfl, by omega, by omega, ?_⟩
      rcases hh with ⟨rfl, hsu, hiff⟩ | ⟨rfl, hp⟩
      · refine Or.inl ⟨rfl, ?_⟩
        by_cases hs : s = u
        · exact Or.inl ⟨hs, fun hp => hiff.2 hp hs, d2⟩
        · exact Or.inr ⟨by omega, Or.inl (hiff.1 hs)⟩
      · exact Or.inr ⟨by omega, hp⟩

set_option maxHeartbeats 1000000 in
theorem calendarRises_many (A1 A2 A3 : Option Addr) (n1 n2 n3 cp1 cp2 cp3 : Nat) (cf : Conf) (t : Int) (w : World) (hw : WdOk w) (hf : fewB n1 n2 n3 = false) :
    Calls Tryd.prog 3 #[.agg #[.slice A1 n1 cp1, .slice A2 n2 cp2, .slice A3 n3 cp3, .int .i64 cf.line, .int .i64 cf.capital, .int .i64 cf.lead, .int .i64 cf.trades, .int .i64 cf.bids], .int .i16 t] w fun e w' => e = .returned (.bool true) ∧ Below w.heap.size w w' := by
  have Hhf := Lib.hid hf
  clear hf
  have hB0 := (Below.refl w.heap.size w).alloc (Nat.le_refl _) (.cells #[.slice A1 n1 cp1, .slice A2 n2 cp2, .slice A3 n3 cp3, .int .i64 cf.line, .int .i64 cf.capital, .int .i64 cf.lead, .int .i64 cf.trades, .int .i64 cf.bids] 26)
  go_enter Tryd.func3, Tryd.ntmps3
  go_wp2_with fail
  refine (few_any A1 A2 A3 n1 n2 n3 cp1 cp2 cp3 cf _).mono ?_
  rw [Hhf.out]
  rintro e w1 ⟨rfl, hb1⟩
  have hB1 := Below.past hB0 hb1 hB0.size
  go_wp2_with fail
  refine (awake20 _ (hw.past hB1)).mono ?_
  rintro e w2 ⟨rfl, hb2⟩
  go_wp2_with fail
  go_ret
  exact ⟨rfl, Below.next hB1 hb2⟩

set_option maxRecDepth 10000 in
set_option maxHeartbeats 4000000 in
theorem calendarRises_few (A1 A2 A3 : Option Addr) (n1 n2 n3 cp1 cp2 cp3 : Nat) (cf : Conf) (t : Int) (ht1 : -32768 ≤ t) (ht2 : t ≤ 32767) (w : World) (hw : WdOk w) (hr : CfRd w A1 n1 A2 n2 A3 n3 cf) (hf : fewB n1 n2 n3 = true) :
    Calls Tryd.prog 3 #[.agg #[.slice A1 n1 cp1, .slice A2 n2 cp2, .slice A3 n3 cp3, .int .i64 cf.line, .int .i64 cf.capital, .int .i64 cf.lead, .int .i64 cf.trades, .int .i64 cf.bids], .int .i16 t] w fun e w' => e = .returned (.bool true) ∧ Below w.heap.size w w' := by
  have Hhf := Lib.hid hf
  clear hf
  have hB0 := (Below.refl w.heap.size w).alloc (Nat.le_refl _) (.cells #[.slice A1 n1 cp1, .slice A2 n2 cp2, .slice A3 n3 cp3, .int .i64 cf.line, .int .i64 cf.capital, .int .i64 cf.lead, .int .i64 cf.trades, .int .i64 cf.bids] 26)
  have hr0 := hr.past hB0
  have bc0 := Blk.new w 26 #[.slice A1 n1 cp1, .slice A2 n2 cp2, .slice A3 n3 cp3, .int .i64 cf.line, .int .i64 cf.capital, .int .i64 cf.lead, .int .i64 cf.trades, .int .i64 cf.bids] w.heap.size rfl
  by_cases h8 : wrongK cf = 8
  · obtain ⟨K, HK⟩ : ∃ K, Hid (wrongK cf = K) := ⟨_, Lib.hid rfl⟩
    have qk : ((word K).toList == []) = true := by rw [← HK.out, h8, word_empty]; rfl
    obtain ⟨a, b, s, u, M, D, r1, r2, r3, a0, a1, hh⟩ := rises h8 t
    have HA := Lib.hid (atC_ok t h8)
    have HB := Lib.hid (atC_ok (t + 1) h8)
    rw [r1] at HA
    rw [r2] at HB
    have HD := Lib.hid r3
    have HH := Lib.hid hh
    clear h8 r1 r2 r3 hh
    have T1 := Lib.hid (fun w (h : CfRd w A1 n1 A2 n2 A3 n3 cf) => at_any A1 A2 A3 n1 n2 n3 cp1 cp2 cp3 cf t w h)
    rw [HA.out] at T1
    have T2 := Lib.hid (fun w (h : CfRd w A1 n1 A2 n2 A3 n3 cf) => at_any A1 A2 A3 n1 n2 n3 cp1 cp2 cp3 cf (t + 1) w h)
    rw [HB.out] at T2
    have T3 := Lib.hid (fun w (h : CfRd w A1 n1 A2 n2 A3 n3 cf) => refWrong_any A1 A2 A3 n1 n2 n3 cp1 cp2 cp3 cf w h)
    rw [HK.out] at T3
    have T4 := Lib.hid (fun w (h : CfRd w A1 n1 A2 n2 A3 n3 cf) => refDue_any A1 A2 A3 n1 n2 n3 cp1 cp2 cp3 cf (t + 1) w h)
    rw [HD.out] at T4
    go_enter Tryd.func3, Tryd.ntmps3
    go_wp2_with fail
    refine (few_any A1 A2 A3 n1 n2 n3 cp1 cp2 cp3 cf _).mono ?_
    rw [Hhf.out]
    rintro e w1 ⟨rfl, hb1⟩
    have bc1 := bc0.past hb1
    have hr1 := hr0.past hb1
    have hB1 := Below.past hB0 hb1 hB0.size
    have e0 := (bc1).cell 0
    have e1 := (bc1).cell 1
    have e2 := (bc1).cell 2
    have e3 := (bc1).cell 3
    have e4 := (bc1).cell 4
    have e5 := (bc1).cell 5
    have e6 := (bc1).cell 6
    have e7 := (bc1).cell 7
    simp at e0 e1 e2 e3 e4 e5 e6 e7
    go_wp2_with fail
    refine (T3.out _ hr1).mono ?_
    rintro e w2 ⟨rfl, hb2⟩
    have bc2 := bc1.past hb2
    have hr2 := hr1.past hb2
    have hB2 := Below.next hB1 hb2
    clear e0 e1 e2 e3 e4 e5 e6 e7
    have e0 := (bc2).cell 0
    have e1 := (bc2).cell 1
    have e2 := (bc2).cell 2
    have e3 := (bc2).cell 3
    have e4 := (bc2).cell 4
    have e5 := (bc2).cell 5
    have e6 := (bc2).cell 6
    have e7 := (bc2).cell 7
    simp at e0 e1 e2 e3 e4 e5 e6 e7
    go_wp2_with fail
    refine (T1.out _ hr2).mono ?_
    rintro e w3 ⟨rfl, hb3⟩
    have bc3 := bc2.past hb3
    have hr3 := hr2.past hb3
    have hB3 := Below.next hB2 hb3
    clear e0 e1 e2 e3 e4 e5 e6 e7
    have e0 := (bc3).cell 0
    have e1 := (bc3).cell 1
    have e2 := (bc3).cell 2
    have e3 := (bc3).cell 3
    have e4 := (bc3).cell 4
    have e5 := (bc3).cell 5
    have e6 := (bc3).cell 6
    have e7 := (bc3).cell 7
    simp at e0 e1 e2 e3 e4 e5 e6 e7
    go_wp2_with fail
    refine (T2.out _ hr3).mono ?_
    rintro e w4 ⟨rfl, hb4⟩
    have bc4 := bc3.past hb4
    have hr4 := hr3.past hb4
    have hB4 := Below.next hB3 hb4
    clear e0 e1 e2 e3 e4 e5 e6 e7
    have e0 := (bc4).cell 0
    have e1 := (bc4).cell 1
    have e2 := (bc4).cell 2
    have e3 := (bc4).cell 3
    have e4 := (bc4).cell 4
    have e5 := (bc4).cell 5
    have e6 := (bc4).cell 6
    have e7 := (bc4).cell 7
    simp at e0 e1 e2 e3 e4 e5 e6 e7
    have hw4 := hw.past hB4
    have FIN : ∀ w5 : World, Below w4.heap.size w4 w5 → WdOk w5 ∧ Below w.heap.size w w5 := fun w5 h => ⟨hw4.past h, Below.next hB4 h⟩
    rcases HH.out with ⟨rfl, ⟨rfl, m1, m2⟩ | ⟨m1, m2⟩⟩ | ⟨rfl, m1⟩
    · have q1 : (a == a) = true := by simp
      have q2 : (s == s) = true := by simp
      have q3 : decide (s < s) = false := dcf (by omega)
      have q4 : decide (a < a) = false := dcf (by omega)
      have q5 : decide (0 < M) = false := dcf (by omega)
      have q6 : (t + 1 == 0) = false := by simp; omega
      go_wp2_with fail
      refine (T4.out _ hr4).mono ?_
      rintro e w5 ⟨rfl, hb5⟩
      go_wp2_with fail
      refine (awake20 _ (FIN _ hb5).1).mono ?_
      rintro e w6 ⟨rfl, hb6⟩
      go_wp2_with fail
      go_ret
      exact ⟨rfl, Below.next (FIN _ hb5).2 hb6⟩
    · have q1 : (a == a) = true := by simp
      have q2 : (s == u) = false := by simp; omega
      have q2' : (s != u) = true := by simp; omega
      have q3 : decide (u < s) = false := dcf (by omega)
      have q4 : decide (a < a) = false := dcf (by omega)
      rcases m2 with m2 | ⟨m2, m3⟩
      · have q5 : decide (0 < M) = true := dct m2
        clear m1
        go_wp2_with fail
        refine (T4.out _ hr4).mono ?_
        rintro e w5 ⟨rfl, hb5⟩
        go_wp2_with fail
        refine (awake20 _ (FIN _ hb5).1).mono ?_
        rintro e w6 ⟨rfl, hb6⟩
        go_wp2_with fail
        go_ret
        exact ⟨rfl, Below.next (FIN _ hb5).2 hb6⟩
      · have q5 : decide (0 < M) = false := dcf (by omega)
        have q6 : (t + 1 == 0) = true := by simp; omega
        clear m1 m3
        go_wp2_with fail
        refine (T4.out _ hr4).mono ?_
        rintro e w5 ⟨rfl, hb5⟩
        go_wp2_with fail
        refine (awake20 _ (FIN _ hb5).1).mono ?_
        rintro e w6 ⟨rfl, hb6⟩
        go_wp2_with fail
        go_ret
        exact ⟨rfl, Below.next (FIN _ hb5).2 hb6⟩
    · have q1 : (a == a + 1) = false := by simp; omega
      have q1' : (a != a + 1) = true := by simp; omega
      have q4 : decide (a + 1 < a) = false := dcf (by omega)
      have q6 : decide (a < a + 1) = true := dct (by omega)
      have q7 : (a + 1 == a + 1) = true := by simp
      have q5 : decide (0 < M) = true := dct m1
      go_wp2_with fail
      refine (T4.out _ hr4).mono ?_
      rintro e w5 ⟨rfl, hb5⟩
      go_wp2_with fail
      refine (awake20 _ (FIN _ hb5).1).mono ?_
      rintro e w6 ⟨rfl, hb6⟩
      go_wp2_with fail
      go_ret
      exact ⟨rfl, Below.next (FIN _ hb5).2 hb6⟩
  · obtain ⟨K, HK⟩ : ∃ K, Hid (wrongK cf = K) := ⟨_, Lib.hid rfl⟩
    have qk : ((word K).toList == []) = false := word_ne (by rw [← HK.out]; exact h8) (by rw [← HK.out]; exact wrongK_le cf)
    clear h8
    have T3 := Lib.hid (fun w (h : CfRd w A1 n1 A2 n2 A3 n3 cf) => refWrong_any A1 A2 A3 n1 n2 n3 cp1 cp2 cp3 cf w h)
    rw [HK.out] at T3
    go_enter Tryd.func3, Tryd.ntmps3
    go_wp2_with fail
    refine (few_any A1 A2 A3 n1 n2 n3 cp1 cp2 cp3 cf _).mono ?_
    rw [Hhf.out]
    rintro e w1 ⟨rfl, hb1⟩
    have bc1 := bc0.past hb1
    have hr1 := hr0.past hb1
    have hB1 := Below.past hB0 hb1 hB0.size
    have e0 := (bc1).cell 0
    have e1 := (bc1).cell 1
    have e2 := (bc1).cell 2
    have e3 := (bc1).cell 3
    have e4 := (bc1).cell 4
    have e5 := (bc1).cell 5
    have e6 := (bc1).cell 6
    have e7 := (bc1).cell 7
    simp at e0 e1 e2 e3 e4 e5 e6 e7
    go_wp2_with fail
    refine (T3.out _ hr1).mono ?_
    rintro e w2 ⟨rfl, hb2⟩
    have hB2 := Below.next hB1 hb2
    go_wp2_with fail
    refine (awake20 _ (hw.past hB2)).mono ?_
    rintro e w6 ⟨rfl, hb6⟩
    go_wp2_with fail
    go_ret
    exact ⟨rfl, Below.next hB2 hb6⟩
end Go.Proofs.YtjkabmijkbpodabDoor
