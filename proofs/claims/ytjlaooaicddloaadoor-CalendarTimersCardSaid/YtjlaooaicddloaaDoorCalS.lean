import Derived.Test.YtjlaooaicddloaaDoorCalR
namespace Go.Proofs.YtjlaooaicddloaaDoor
open Go.RowKit

set_option maxRecDepth 10000 in
set_option maxHeartbeats 1000000 in
theorem calendarTimers_many (A1 A2 A3 : Option Addr) (n1 n2 n3 cp1 cp2 cp3 : Nat) (cf : Conf) (t c : Int) (w : World) (hw : WdOk w) (hf : fewB n1 n2 n3 = false) :
    Calls Tryd.prog 3 #[.agg #[.slice A1 n1 cp1, .slice A2 n2 cp2, .slice A3 n3 cp3, .int .i64 cf.line, .int .i64 cf.capital, .int .i64 cf.lead, .int .i64 cf.trades, .int .i64 cf.bids], .int .i64 t, .int .i64 c] w fun e w' => e = .returned (.bool true) ∧ Below w.heap.size w w' := by
  have Hhf := Lib.hid hf
  clear hf
  have hB0 := (Below.refl w.heap.size w).alloc (Nat.le_refl _) (.cells #[.slice A1 n1 cp1, .slice A2 n2 cp2, .slice A3 n3 cp3, .int .i64 cf.line, .int .i64 cf.capital, .int .i64 cf.lead, .int .i64 cf.trades, .int .i64 cf.bids] 26)
  go_enter Tryd.func3, Tryd.ntmps3
  go_wp2_with fail
  refine (few_any A1 A2 A3 n1 n2 n3 cp1 cp2 cp3 cf _).mono ?_
  rw [Hhf.out]
  rintro e w1 ⟨rfl, hb1⟩
  have hB1 := Below.past hB0 hb1 hB0.size
  go_wp2_with fail
  refine (awake20 _ (hw.past hB1)).mono ?_
  rintro e w2 ⟨rfl, hb2⟩
  go_wp2_with fail
  go_ret
  exact ⟨rfl, Below.next hB1 hb2⟩

set_option maxRecDepth 10000 in
set_option maxHeartbeats 2000000 in
theorem calendarTimers_wrong (A1 A2 A3 : Option Addr) (n1 n2 n3 cp1 cp2 cp3 : Nat) (cf : Conf) (t c : Int) (w : World) (hw : WdOk w) (hr : CfRd w A1 n1 A2 n2 A3 n3 cf) (hf : fewB n1 n2 n3 = true) (h8 : ¬ wrongK cf = 8) :
    Calls Tryd.prog 3 #[.agg #[.slice A1 n1 cp1, .slice A2 n2 cp2, .slice A3 n3 cp3, .int .i64 cf.line, .int .i64 cf.capital, .int .i64 cf.lead, .int .i64 cf.trades, .int .i64 cf.bids], .int .i64 t, .int .i64 c] w fun e w' => e = .returned (.bool true) ∧ Below w.heap.size w w' := by
  have Hhf := Lib.hid hf
  clear hf
  have hB0 := (Below.refl w.heap.size w).alloc (Nat.le_refl _) (.cells #[.slice A1 n1 cp1, .slice A2 n2 cp2, .slice A3 n3 cp3, .int .i64 cf.line, .int .i64 cf.capital, .int .i64 cf.lead, .int .i64 cf.trades, .int .i64 cf.bids] 26)
  have hr0 := hr.past hB0
  have bc0 := Blk.new w 26 #[.slice A1 n1 cp1, .slice A2 n2 cp2, .slice A3 n3 cp3, .int .i64 cf.line, .int .i64 cf.capital, .int .i64 cf.lead, .int .i64 cf.trades, .int .i64 cf.bids] w.heap.size rfl
  obtain ⟨K, HK⟩ : ∃ K, Hid (wrongK cf = K) := ⟨_, Lib.hid rfl⟩
  have qk : ((word K).toList == []) = false := word_ne (by rw [← HK.out]; exact h8) (by rw [← HK.out]; exact wrongK_le cf)
  have HN : Hid (nextC cf t = none) := Lib.hid (by rw [nextC, if_neg h8])
  have HBG : Hid (beginC cf c = (0, 1)) := Lib.hid (by rw [beginC, if_neg h8])
  have H8 := Lib.hid h8
  clear h8
  have T1 := Lib.hid (fun w (h : CfRd w A1 n1 A2 n2 A3 n3 cf) => timers_not A1 A2 A3 n1 n2 n3 cp1 cp2 cp3 cf w h H8.out)
  have T2 := Lib.hid (fun w (h : CfRd w A1 n1 A2 n2 A3 n3 cf) => next_any A1 A2 A3 n1 n2 n3 cp1 cp2 cp3 cf t w h)
  rw [HN.out] at T2
  have T3 := Lib.hid (fun w (h : CfRd w A1 n1 A2 n2 A3 n3 cf) => begin_any A1 A2 A3 n1 n2 n3 cp1 cp2 cp3 cf c w h)
  rw [HBG.out] at T3
  have T4 := Lib.hid (fun w (h : CfRd w A1 n1 A2 n2 A3 n3 cf) => refWrong_any A1 A2 A3 n1 n2 n3 cp1 cp2 cp3 cf w h)
  rw [HK.out] at T4
  go_enter Tryd.func3, Tryd.ntmps3
  go_wp2_with fail
  refine (few_any A1 A2 A3 n1 n2 n3 cp1 cp2 cp3 cf _).mono ?_
  rw [Hhf.out]
  rintro e w1 ⟨rfl, hb1⟩
  have bc1 := bc0.past hb1
  have hr1 := hr0.past hb1
  have hB1 := Below.past hB0 hb1 hB0.size
  have e0 := (bc1).cell 0
  have e1 := (bc1).cell 1
  have e2 := (bc1).cell 2
  have e3 := (bc1).cell 3
  have e4 := (bc1).cell 4
  have e5 := (bc1).cell 5
  have e6 := (bc1).cell 6
  have e7 := (bc1).cell 7
  simp at e0 e1 e2 e3 e4 e5 e6 e7
  go_wp2_with fail
  refine (T1.out _ hr1).mono ?_
  rintro e w2 ⟨rfl, hb2⟩
  have bc2 := bc1.past hb2
  have hr2 := hr1.past hb2
  have hB2 := Below.next hB1 hb2
  clear e0 e1 e2 e3 e4 e5 e6 e7
  have e0 := (bc2).cell 0
  have e1 := (bc2).cell 1
  have e2 := (bc2).cell 2
  have e3 := (bc2).cell 3
  have e4 := (bc2).cell 4
  have e5 := (bc2).cell 5
  have e6 := (bc2).cell 6
  have e7 := (bc2).cell 7
  simp at e0 e1 e2 e3 e4 e5 e6 e7
  go_wp2_with fail
  refine (T2.out _ hr2).mono ?_
  rintro e w3 ⟨rfl, hb3⟩
  have bc3 := bc2.past hb3
  have hr3 := hr2.past hb3
  have hB3 := Below.next hB2 hb3
  clear e0 e1 e2 e3 e4 e5 e6 e7
  have e0 := (bc3).cell 0
  have e1 := (bc3).cell 1
  have e2 := (bc3).cell 2
  have e3 := (bc3).cell 3
  have e4 := (bc3).cell 4
  have e5 := (bc3).cell 5
  have e6 := (bc3).cell 6
  have e7 := (bc3).cell 7
  simp at e0 e1 e2 e3 e4 e5 e6 e7
  go_wp2_with fail
  refine (T3.out _ hr3).mono ?_
  rintro e w4 ⟨rfl, hb4⟩
  have bc4 := bc3.past hb4
  have hr4 := hr3.past hb4
  have hB4 := Below.next hB3 hb4
  clear e0 e1 e2 e3 e4 e5 e6 e7
  have e0 := (bc4).cell 0
  have e1 := (bc4).cell 1
  have e2 := (bc4).cell 2
  have e3 := (bc4).cell 3
  have e4 := (bc4).cell 4
  have e5 := (bc4).cell 5
  have e6 := (bc4).cell 6
  have e7 := (bc4).cell 7
  simp at e0 e1 e2 e3 e4 e5 e6 e7
  go_wp2_with fail
  refine (T4.out _ hr4).mono ?_
  rintro e w5 ⟨rfl, hb5⟩
  have hB5 := Below.next hB4 hb5
  go_wp2_with fail
  refine (awake20 _ (hw.past hB5)).mono ?_
  rintro e w6 ⟨rfl, hb6⟩
  go_wp2_with fail
  go_ret
  exact ⟨rfl, Below.next hB5 hb6⟩
end Go.Proofs.YtjlaooaicddloaaDoor
