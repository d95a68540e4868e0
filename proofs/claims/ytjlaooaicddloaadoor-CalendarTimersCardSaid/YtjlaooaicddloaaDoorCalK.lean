import Derived.Test.YtjlaooaicddloaaDoorCalJ
namespace Go.Proofs.YtjlaooaicddloaaDoor
open Go.RowKit

/-- When a cycle begins. -/
def beginC (cf : Conf) (c : Int) : Int × Int := if wrongK cf = 8 then (if c < 0 ∨ (cf.cycles.length : Int) ≤ c then (0, 8) else (closeOf 0 (cf.cycles.take c.toNat), 0)) else (0, 1)

set_option maxRecDepth 10000 in
set_option maxHeartbeats 1000000 in
theorem begin_any (A1 A2 A3 : Option Addr) (n1 n2 n3 cp1 cp2 cp3 : Nat) (cf : Conf) (c : Int) (w : World) (hr : CfRd w A1 n1 A2 n2 A3 n3 cf) :
    Calls Tryd.prog 8 #[.agg #[.slice A1 n1 cp1, .slice A2 n2 cp2, .slice A3 n3 cp3, .int .i64 cf.line, .int .i64 cf.capital, .int .i64 cf.lead, .int .i64 cf.trades, .int .i64 cf.bids], .int .i64 c] w fun e w' => e = .returned (.tuple #[.int .i64 (beginC cf c).1, .int .i64 (beginC cf c).2]) ∧ Below w.heap.size w w' := by
  have hB0 := (Below.refl w.heap.size w).alloc (Nat.le_refl _) (.cells #[.slice A1 n1 cp1, .slice A2 n2 cp2, .slice A3 n3 cp3, .int .i64 cf.line, .int .i64 cf.capital, .int .i64 cf.lead, .int .i64 cf.trades, .int .i64 cf.bids] 26)
  have hr0 := hr.past hB0
  have bc0 := Blk.new w 26 #[.slice A1 n1 cp1, .slice A2 n2 cp2, .slice A3 n3 cp3, .int .i64 cf.line, .int .i64 cf.capital, .int .i64 cf.lead, .int .i64 cf.trades, .int .i64 cf.bids] w.heap.size rfl
  have HL := Lib.hid (hr.c.len Cyc.cells_len (by have := hr.hc; omega))
  have hcn := hr.hc
  obtain ⟨C, hc⟩ : ∃ c, Hid (checkC cf = c) := ⟨_, Lib.hid rfl⟩
  by_cases h8 : wrongK cf = 8
  · obtain rfl : 0 = C := by rw [← hc.out, checkC, if_pos h8]
    by_cases d1 : c < 0
    · have q1 := dct d1
      have HN : Hid (beginC cf c = (0, 8)) := Lib.hid (by rw [beginC, if_pos h8, if_pos (Or.inl d1)])
      rw [HN.out]
      clear h8
      go_enter Tryd.func8, Tryd.ntmps8
      go_wp2_with fail
      refine (checkC_any A1 A2 A3 n1 n2 n3 cp1 cp2 cp3 cf _ hr0).mono ?_
      rw [hc.out]
      rintro e w1 ⟨rfl, hb1⟩
      have bc1 := bc0.past hb1
      have e0 := (bc1).cell 0
      have e1 := (bc1).cell 1
      have e2 := (bc1).cell 2
      have e3 := (bc1).cell 3
      have e4 := (bc1).cell 4
      have e5 := (bc1).cell 5
      have e6 := (bc1).cell 6
      have e7 := (bc1).cell 7
      simp at e0 e1 e2 e3 e4 e5 e6 e7
      go_wp2_with fail
      go_ret2
      exact ⟨rfl, Below.past hB0 hb1 hB0.size⟩
    · have q1 := dcf d1
      obtain ⟨k, rfl⟩ := Int.eq_ofNat_of_zero_le (show 0 ≤ c by omega)
      by_cases d2 : n3 ≤ k
      · have q2 : decide ((n3 : Int) ≤ k) = true := dct (by omega)
        have HN : Hid (beginC cf k = (0, 8)) := Lib.hid (by rw [beginC, if_pos h8, if_pos (Or.inr (by have := HL.out; omega))])
        rw [HN.out]
        clear h8
        go_enter Tryd.func8, Tryd.ntmps8
        go_wp2_with fail
        refine (checkC_any A1 A2 A3 n1 n2 n3 cp1 cp2 cp3 cf _ hr0).mono ?_
        rw [hc.out]
        rintro e w1 ⟨rfl, hb1⟩
        have bc1 := bc0.past hb1
        have e0 := (bc1).cell 0
        have e1 := (bc1).cell 1
        have e2 := (bc1).cell 2
        have e3 := (bc1).cell 3
        have e4 := (bc1).cell 4
        have e5 := (bc1).cell 5
        have e6 := (bc1).cell 6
        have e7 := (bc1).cell 7
        simp at e0 e1 e2 e3 e4 e5 e6 e7
        go_wp2_with fail
        go_ret2
        exact ⟨rfl, Below.past hB0 hb1 hB0.size⟩
      · have q2 : decide ((n3 : Int) ≤ k) = false := dcf (by omega)
        have HN : Hid (beginC cf k = (closeOf 0 (cf.cycles.take k), 0)) := Lib.hid (by rw [beginC, if_pos h8, if_neg (by have := HL.out; omega)]; rfl)
        rw [HN.out]
        clear h8
        by_cases d3 : k = 0
        · subst d3
          go_enter Tryd.func8, Tryd.ntmps8
          go_wp2_with fail
          refine (checkC_any A1 A2 A3 n1 n2 n3 cp1 cp2 cp3 cf _ hr0).mono ?_
          rw [hc.out]
          rintro e w1 ⟨rfl, hb1⟩
          have bc1 := bc0.past hb1
          have e0 := (bc1).cell 0
          have e1 := (bc1).cell 1
          have e2 := (bc1).cell 2
          have e3 := (bc1).cell 3
          have e4 := (bc1).cell 4
          have e5 := (bc1).cell 5
          have e6 := (bc1).cell 6
          have e7 := (bc1).cell 7
          simp at e0 e1 e2 e3 e4 e5 e6 e7
          go_wp2_with fail
          go_ret2
          exact ⟨r2 rfl rfl, Below.past hB0 hb1 hB0.size⟩
        · obtain ⟨m, rfl⟩ : ∃ m, k = m + 1 := ⟨k - 1, by omega⟩
          have q3 : (((m + 1 : Nat) : Int) == 0) = false := by simp; omega
          go_enter Tryd.func8, Tryd.ntmps8
          go_wp2_with fail
          refine (checkC_any A1 A2 A3 n1 n2 n3 cp1 cp2 cp3 cf _ hr0).mono ?_
          rw [hc.out]
          rintro e w1 ⟨rfl, hb1⟩
          have bc1 := bc0.past hb1
          have hr1 := hr0.past hb1
          have e0 := (bc1).cell 0
          have e1 := (bc1).cell 1
          have e2 := (bc1).cell 2
          have e3 := (bc1).cell 3
          have e4 := (bc1).cell 4
          have e5 := (bc1).cell 5
          have e6 := (bc1).cell 6
          have e7 := (bc1).cell 7
          simp at e0 e1 e2 e3 e4 e5 e6 e7
          have hlt : m < n3 := by omega
          have hg_f : cf.cycles[m]? = some (cf.cycles[m]'(by have := HL.out; omega)) := List.getElem?_eq_getElem _
          obtain ⟨b_f, off_f, rfl, hbb_f, hc_f⟩ := (hr1.c).elem Cyc.cells_len hg_f hlt
          have HT_f := Lib.hid (show cf.cycles.take (m + 1) = cf.cycles.take m ++ [(cf.cycles[m]'(by have := HL.out; omega))] from List.take_succ_eq_append_getElem (by have := HL.out; omega))
          have HM_f := Lib.hid (show (cf.cycles[m]'(by have := HL.out; omega)) ∈ cf.cycles from List.getElem_mem _)
          generalize (cf.cycles[m]'(by have := HL.out; omega)) = f at *
          have c0 := hc_f 0 _ rfl
          have c1 := hc_f 1 _ rfl
          have c2 := hc_f 2 _ rfl
          have c3 := hc_f 3 _ rfl
          clear hc_f hg_f
          simp only [Nat.add_zero] at c0
          have HC : Hid (closeOf 0 (cf.cycles.take (m + 1)) = f.close) := Lib.hid (by rw [HT_f.out, closeOf_snoc])
          go_wp2_with fail
          go_ret2
          exact ⟨r2 (by rw [HC.out]) rfl, Below.past hB0 hb1 hB0.size⟩
  · obtain rfl : 1 = C := by rw [← hc.out, checkC, if_neg h8]
    have HN : Hid (beginC cf c = (0, 1)) := Lib.hid (by rw [beginC, if_neg h8])
    rw [HN.out]
    clear h8
    go_enter Tryd.func8, Tryd.ntmps8
    go_wp2_with fail
    refine (checkC_any A1 A2 A3 n1 n2 n3 cp1 cp2 cp3 cf _ hr0).mono ?_
    rw [hc.out]
    rintro e w1 ⟨rfl, hb1⟩
    go_wp2_with fail
    go_ret2
    exact ⟨rfl, Below.past hB0 hb1 hB0.size⟩

structure Timr where
  due : Int
  kind : Int
def Timr.cells (x : Timr) : List Value := [.int .i64 x.due, .int .i64 x.kind, .int .i64 0, .int .i64 0]
theorem Timr.cells_len (m : Timr) : m.cells.length = 4 := rfl
def Cyc.timers (x : Cyc) : List Timr := [⟨x.cut, 1⟩, ⟨x.fund, 3⟩, ⟨x.buyin, 4⟩, ⟨x.close, 5⟩]
def timersOf (l : List Cyc) : List Timr := l.flatMap Cyc.timers
theorem timr_info : (Tryd.prog.info? 41).map (fun i => (i.zero, i.size, i.bytes)) = some (some (.agg #[.int .i64 0, .int .i64 0, .int .i64 0, .int .i64 0]), 4, 32) := by kernel_rfl

set_option maxRecDepth 10000 in
set_option maxHeartbeats 1000000 in
theorem timers_ok (A1 A2 A3 : Option Addr) (n1 n2 n3 cp1 cp2 cp3 : Nat) (cf : Conf) (w : World) (hr : CfRd w A1 n1 A2 n2 A3 n3 cf) (h8 : wrongK cf = 8) :
    Calls Tryd.prog 6 #[.agg #[.slice A1 n1 cp1, .slice A2 n2 cp2, .slice A3 n3 cp3, .int .i64 cf.line, .int .i64 cf.capital, .int .i64 cf.lead, .int .i64 cf.trades, .int .i64 cf.bids]] w fun e w' => ∃ v, e = .returned (.tuple #[v, .int .i64 0]) ∧ w'.ownsRow w.heap.size 41 4 v (4 * n3) ((timersOf cf.cycles).flatMap Timr.cells) ∧ Below w.heap.size w w' := by
  have hB0 := (Below.refl w.heap.size w).alloc (Nat.le_refl _) (.cells #[.slice A1 n1 cp1, .slice A2 n2 cp2, .slice A3 n3 cp3, .int .i64 cf.line, .int .i64 cf.capital, .int .i64 cf.lead, .int .i64 cf.trades, .int .i64 cf.bids] 26)
  have hr0 := hr.past hB0
  have bc0 := Blk.new w 26 #[.slice A1 n1 cp1, .slice A2 n2 cp2, .slice A3 n3 cp3, .int .i64 cf.line, .int .i64 cf.capital, .int .i64 cf.lead, .int .i64 cf.trades, .int .i64 cf.bids] w.heap.size rfl
  have hn := hr.hc
  have HL := Lib.hid (hr.c.len Cyc.cells_len (by omega))
  obtain ⟨i0, hi0, hz0, hz1, hz2⟩ := info_parts timr_info
  obtain ⟨C, hc⟩ : ∃ c, Hid (checkC cf = c) := ⟨_, Lib.hid rfl⟩
  obtain rfl : 0 = C := by rw [← hc.out, checkC, if_pos h8]
  clear h8
  go_enter Tryd.func6, Tryd.ntmps6
  go_wp2_with fail
  refine (checkC_any A1 A2 A3 n1 n2 n3 cp1 cp2 cp3 cf _ hr0).mono ?_
  rw [hc.out]
  rintro e w1 ⟨rfl, hb1⟩
  have bc1 := bc0.past hb1
  have hB1 := Below.past hB0 hb1 hB0.size
  have e0 := (bc1).cell 0
  have e1 := (bc1).cell 1
  have e2 := (bc1).cell 2
  have e3 := (bc1).cell 3
  have e4 := (bc1).cell 4
  have e5 := (bc1).cell 5
  have e6 := (bc1).cell 6
  have e7 := (bc1).cell 7
  simp at e0 e1 e2 e3 e4 e5 e6 e7
  go_wp2_with fail
  go_loopw [5, 16] (fun v i wr => ∃ k : Nat, k ≤ n3 ∧ i = .int .i64 k ∧ wr.ownsRow w.heap.size 41 4 v (4 * k) ((timersOf (cf.cycles.take k)).flatMap Timr.cells) ∧ Below w.heap.size w wr) (fun _ i _ => n3 - (intOf i).toNat)
  case atStart => exact ⟨0, Nat.zero_le _, rfl, World.ownsRow_nil _ _ _ _, hB1⟩
  case round =>
    obtain ⟨k, hk, rfl, hown, hb⟩ := hrel
    have hs := hb.size
    by_cases hlt : k < n3
    · have hg_f : cf.cycles[k]? = some (cf.cycles[k]'(by have := HL.out; omega)) := List.getElem?_eq_getElem _
      obtain ⟨b_f, off_f, rfl, hbb_f, hc_f⟩ := (hr.c.below hb).elem Cyc.cells_len hg_f hlt
      have HT_f := Lib.hid (show cf.cycles.take (k + 1) = cf.cycles.take k ++ [(cf.cycles[k]'(by have := HL.out; omega))] from List.take_succ_eq_append_getElem (by have := HL.out; omega))
      have HM_f := Lib.hid (show (cf.cycles[k]'(by have := HL.out; omega)) ∈ cf.cycles from List.getElem_mem _)
      generalize (cf.cycles[k]'(by have := HL.out; omega)) = f at *
      have c0 := hc_f 0 _ rfl
      have c1 := hc_f 1 _ rfl
      have c2 := hc_f 2 _ rfl
      have c3 := hc_f 3 _ rfl
      clear hc_f hg_f
      simp only [Nat.add_zero] at c0
      go_wp2_with (at_builtin; refine wpList_append_lit _ _ rfl (.tmp 20) (.tmp 33) 29 rfl w.heap.size 41 i0 _ 4 32 Tryd.underlying29 hi0 hz0 hz1 hz2 rfl (by decide) _ _ _ rfl (hown.alloc _) _ 4 4 rfl (by simp) rfl (by simp [Value.oneCell']) (by omega) (by omega) (by simp; omega) ?_; intro v' w' hown' hg')
      go_roundw
      case rel =>
        refine ⟨k + 1, by omega, by go_num, ?_, ?_⟩
        · rw [HT_f.out]
          simpa [timersOf, Cyc.timers, Timr.cells, Nat.mul_add] using hown'
        · exact below_own ((hb.alloc hs _).alloc (by simp; omega) _) hg' hown (by simp; omega) (Nat.le_refl _)
      case measure => simp [intOf]; omega
    · go_wp2_with fail
      go_ret2
      refine ⟨_, rfl, ?_, hb⟩
      have e : k = n3 := by omega
      rw [← e]
      rw [List.take_of_length_le (by have := HL.out; omega)] at hown
      exact hown

set_option maxHeartbeats 1000000 in
theorem timers_not (A1 A2 A3 : Option Addr) (n1 n2 n3 cp1 cp2 cp3 : Nat) (cf : Conf) (w : World) (hr : CfRd w A1 n1 A2 n2 A3 n3 cf) (h8 : ¬ wrongK cf = 8) :
    Calls Tryd.prog 6 #[.agg #[.slice A1 n1 cp1, .slice A2 n2 cp2, .slice A3 n3 cp3, .int .i64 cf.line, .int .i64 cf.capital, .int .i64 cf.lead, .int .i64 cf.trades, .int .i64 cf.bids]] w fun e w' => e = .returned (.tuple #[.slice none 0 0, .int .i64 1]) ∧ Below w.heap.size w w' := by
  have hB0 := (Below.refl w.heap.size w).alloc (Nat.le_refl _) (.cells #[.slice A1 n1 cp1, .slice A2 n2 cp2, .slice A3 n3 cp3, .int .i64 cf.line, .int .i64 cf.capital, .int .i64 cf.lead, .int .i64 cf.trades, .int .i64 cf.bids] 26)
  have hr0 := hr.past hB0
  obtain ⟨C, hc⟩ : ∃ c, Hid (checkC cf = c) := ⟨_, Lib.hid rfl⟩
  obtain rfl : 1 = C := by rw [← hc.out, checkC, if_neg h8]
  clear h8
  go_enter Tryd.func6, Tryd.ntmps6
  go_wp2_with fail
  refine (checkC_any A1 A2 A3 n1 n2 n3 cp1 cp2 cp3 cf _ hr0).mono ?_
  rw [hc.out]
  rintro e w1 ⟨rfl, hb1⟩
  go_wp2_with fail
  go_ret2
  exact ⟨rfl, Below.past hB0 hb1 hB0.size⟩
end Go.Proofs.YtjlaooaicddloaaDoor
