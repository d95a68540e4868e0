import Derived.Test.YtjkabmijkbpodabDoorCalF
import Derived.Test.YtjkabmijkbpodabDoorCalD
namespace Go.Proofs.YtjkabmijkbpodabDoor
open Go.RowKit

/-- How many ticks there are till the end. -/
def leftI (L t : Int) : Int := if t ≤ 0 then L else if t ≤ L then L - t else 0
def leftC (cf : Conf) (t : Int) : Int := if wrongK cf = 8 then leftI (lastC cf) t else 0
theorem lastC_bd {cf : Conf} (h : wrongK cf = 8) : 0 ≤ lastC cf ∧ lastC cf ≤ 1000 := by
  obtain ⟨h1, h2, h3⟩ := cycs_of_ok h
  have hx : cf.cycles[cf.cycles.length - 1]? = some cf.cycles[cf.cycles.length - 1] := List.getElem?_eq_getElem (by omega)
  have e := close_succ hx
  rw [List.take_of_length_le (by omega)] at e
  have := cyc_at h1 hx
  have := close_nn h1 (cf.cycles.length - 1)
  rw [lastC, e]
  omega

set_option maxRecDepth 10000 in
set_option maxHeartbeats 1000000 in
theorem left_any (A1 A2 A3 : Option Addr) (n1 n2 n3 cp1 cp2 cp3 : Nat) (cf : Conf) (t : Int) (w : World) (hr : CfRd w A1 n1 A2 n2 A3 n3 cf) :
    Calls Tryd.prog 14 #[.agg #[.slice A1 n1 cp1, .slice A2 n2 cp2, .slice A3 n3 cp3, .int .i64 cf.line, .int .i64 cf.capital, .int .i64 cf.lead, .int .i64 cf.trades, .int .i64 cf.bids], .int .i64 t] w fun e w' => e = .returned (.int .i64 (leftC cf t)) ∧ Below w.heap.size w w' := by
  have hB0 := (Below.refl w.heap.size w).alloc (Nat.le_refl _) (.cells #[.slice A1 n1 cp1, .slice A2 n2 cp2, .slice A3 n3 cp3, .int .i64 cf.line, .int .i64 cf.capital, .int .i64 cf.lead, .int .i64 cf.trades, .int .i64 cf.bids] 26)
  have hr0 := hr.past hB0
  have bc0 := Blk.new w 26 #[.slice A1 n1 cp1, .slice A2 n2 cp2, .slice A3 n3 cp3, .int .i64 cf.line, .int .i64 cf.capital, .int .i64 cf.lead, .int .i64 cf.trades, .int .i64 cf.bids] w.heap.size rfl
  obtain ⟨c, hc⟩ : ∃ c, Hid (checkC cf = c) := ⟨_, Lib.hid rfl⟩
  by_cases h8 : wrongK cf = 8
  · obtain rfl : 0 = c := by rw [← hc.out, checkC, if_pos h8]
    have bd := lastC_bd h8
    obtain ⟨L, hL⟩ : ∃ L, Hid (lastC cf = L) := ⟨_, Lib.hid rfl⟩
    rw [hL.out] at bd
    obtain ⟨bd1, bd2⟩ := bd
    have HN : Hid (leftC cf t = leftI L t) := Lib.hid (by rw [leftC, if_pos h8, hL.out])
    rw [HN.out]
    clear h8
    by_cases d1 : t ≤ 0
    · have q1 : max t 0 = 0 := by omega
      have q2 : min 0 L = 0 := by omega
      have HV : Hid (leftI L t = L) := Lib.hid (by rw [leftI, if_pos d1])
      rw [HV.out]
      go_enter Tryd.func14, Tryd.ntmps14
      go_wp2_with fail
      refine (checkC_any A1 A2 A3 n1 n2 n3 cp1 cp2 cp3 cf _ hr0).mono ?_
      rw [hc.out]
      rintro e w1 ⟨rfl, hb1⟩
      have bc1 := bc0.past hb1
      have hB1 := Below.past hB0 hb1 hB0.size
      have e0 := (bc1).cell 0
      have e1 := (bc1).cell 1
      have e2 := (bc1).cell 2
      have e3 := (bc1).cell 3
      have e4 := (bc1).cell 4
      have e5 := (bc1).cell 5
      have e6 := (bc1).cell 6
      have e7 := (bc1).cell 7
      simp at e0 e1 e2 e3 e4 e5 e6 e7
      go_wp2_with fail
      refine (lastC_any A1 A2 A3 n1 n2 n3 cp1 cp2 cp3 cf _ (hr0.past hb1)).mono ?_
      rw [hL.out]
      rintro e w2 ⟨rfl, hb2⟩
      go_wp2_with fail
      all_goals
        go_ret
        exact ⟨ret_int (by omega), Below.next hB1 hb2⟩
    · have q1 : max t 0 = t := by omega
      by_cases d2 : t ≤ L
      · have q2 : min t L = t := by omega
        have HV : Hid (leftI L t = L - t) := Lib.hid (by rw [leftI, if_neg d1, if_pos d2])
        rw [HV.out]
        go_enter Tryd.func14, Tryd.ntmps14
        go_wp2_with fail
        refine (checkC_any A1 A2 A3 n1 n2 n3 cp1 cp2 cp3 cf _ hr0).mono ?_
        rw [hc.out]
        rintro e w1 ⟨rfl, hb1⟩
        have bc1 := bc0.past hb1
        have hB1 := Below.past hB0 hb1 hB0.size
        have e0 := (bc1).cell 0
        have e1 := (bc1).cell 1
        have e2 := (bc1).cell 2
        have e3 := (bc1).cell 3
        have e4 := (bc1).cell 4
        have e5 := (bc1).cell 5
        have e6 := (bc1).cell 6
        have e7 := (bc1).cell 7
        simp at e0 e1 e2 e3 e4 e5 e6 e7
        go_wp2_with fail
        refine (lastC_any A1 A2 A3 n1 n2 n3 cp1 cp2 cp3 cf _ (hr0.past hb1)).mono ?_
        rw [hL.out]
        rintro e w2 ⟨rfl, hb2⟩
        go_wp2_with fail
        all_goals
          go_ret
          exact ⟨ret_int (by omega), Below.next hB1 hb2⟩
      · have q2 : min t L = L := by omega
        have HV : Hid (leftI L t = 0) := Lib.hid (by rw [leftI, if_neg d1, if_neg d2])
        rw [HV.out]
        go_enter Tryd.func14, Tryd.ntmps14
        go_wp2_with fail
        refine (checkC_any A1 A2 A3 n1 n2 n3 cp1 cp2 cp3 cf _ hr0).mono ?_
        rw [hc.out]
        rintro e w1 ⟨rfl, hb1⟩
        have bc1 := bc0.past hb1
        have hB1 := Below.past hB0 hb1 hB0.size
        have e0 := (bc1).cell 0
        have e1 := (bc1).cell 1
        have e2 := (bc1).cell 2
        have e3 := (bc1).cell 3
        have e4 := (bc1).cell 4
        have e5 := (bc1).cell 5
        have e6 := (bc1).cell 6
        have e7 := (bc1).cell 7
        simp at e0 e1 e2 e3 e4 e5 e6 e7
        go_wp2_with fail
        refine (lastC_any A1 A2 A3 n1 n2 n3 cp1 cp2 cp3 cf _ (hr0.past hb1)).mono ?_
        rw [hL.out]
        rintro e w2 ⟨rfl, hb2⟩
        go_wp2_with fail
        all_goals
          go_ret
          exact ⟨ret_int (by omega), Below.next hB1 hb2⟩
  · obtain rfl : 1 = c := by rw [← hc.out, checkC, if_neg h8]
    have HN : Hid (leftC cf t = 0) := Lib.hid (by rw [leftC, if_neg h8])
    rw [HN.out]
    clear h8
    go_enter Tryd.func14, Tryd.ntmps14
    go_wp2_with fail
    refine (checkC_any A1 A2 A3 n1 n2 n3 cp1 cp2 cp3 cf _ hr0).mono ?_
    rw [hc.out]
    rintro e w1 ⟨rfl, hb1⟩
    go_wp2_with fail
    go_ret
    exact ⟨rfl, Below.past hB0 hb1 hB0.size⟩

set_option maxHeartbeats 1000000 in
theorem calendarTells_many (A1 A2 A3 : Option Addr) (n1 n2 n3 cp1 cp2 cp3 : Nat) (cf : Conf) (t : Int) (w : World) (hw : WdOk w) (hf : fewB n1 n2 n3 = false) :
    Calls Tryd.prog 5 #[.agg #[.slice A1 n1 cp1, .slice A2 n2 cp2, .slice A3 n3 cp3, .int .i64 cf.line, .int .i64 cf.capital, .int .i64 cf.lead, .int .i64 cf.trades, .int .i64 cf.bids], .int .i64 t] w fun e w' => e = .returned (.bool true) ∧ Below w.heap.size w w' := by
  have Hhf := Lib.hid hf
  clear hf
  have hB0 := (Below.refl w.heap.size w).alloc (Nat.le_refl _) (.cells #[.slice A1 n1 cp1, .slice A2 n2 cp2, .slice A3 n3 cp3, .int .i64 cf.line, .int .i64 cf.capital, .int .i64 cf.lead, .int .i64 cf.trades, .int .i64 cf.bids] 26)
  go_enter Tryd.func5, Tryd.ntmps5
  go_wp2_with fail
  refine (few_any A1 A2 A3 n1 n2 n3 cp1 cp2 cp3 cf _).mono ?_
  rw [Hhf.out]
  rintro e w1 ⟨rfl, hb1⟩
  have hB1 := Below.past hB0 hb1 hB0.size
  go_wp2_with fail
  refine (awake20 _ (hw.past hB1)).mono ?_
  rintro e w2 ⟨rfl, hb2⟩
  go_wp2_with fail
  go_ret
  exact ⟨rfl, Below.next hB1 hb2⟩
end Go.Proofs.YtjkabmijkbpodabDoor
