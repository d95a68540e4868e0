import Derived.Test.YtjkabmijkbpodaaConfH
namespace Go.Proofs.Ytjkabmijkbpodaa
open Go.RowKit

theorem ticks_cells (l : List Cyc) : (ticksOf l).flatMap intCells = l.flatMap Cyc.cells := by
  induction l with
  | nil => rfl
  | cons x l ih => simp only [ticksOf, List.flatMap_cons, List.flatMap_append] at ih ⊢; rw [ih]; rfl

set_option maxRecDepth 100000 in
set_option maxHeartbeats 4000000 in
theorem confMay_few (A1 A2 A3 : Option Addr) (n1 n2 n3 cp1 cp2 cp3 : Nat) (cf : Conf) (w : World) (hr : CfRd w A1 n1 A2 n2 A3 n3 cf) (hf : fewB n1 n2 n3 = true) : Calls Try.prog 4 #[.agg #[.slice A1 n1 cp1, .slice A2 n2 cp2, .slice A3 n3 cp3, .int .i64 cf.line, .int .i64 cf.capital, .int .i64 cf.lead, .int .i64 cf.trades, .int .i64 cf.bids]] w fun e w' => e = .returned (.bool true) ∧ Below w.heap.size w w' := by
  have hn3 := hr.hc
  have HL := Lib.hid (hr.c.len Cyc.cells_len (by omega))
  have Hhf := Lib.hid hf
  clear hf
  have hr0 := hr.alloc (.cells #[.slice A1 n1 cp1, .slice A2 n2 cp2, .slice A3 n3 cp3, .int .i64 cf.line, .int .i64 cf.capital, .int .i64 cf.lead, .int .i64 cf.trades, .int .i64 cf.bids] 38)
  have bx0 := Blk.new w 38 #[.slice A1 n1 cp1, .slice A2 n2 cp2, .slice A3 n3 cp3, .int .i64 cf.line, .int .i64 cf.capital, .int .i64 cf.lead, .int .i64 cf.trades, .int .i64 cf.bids] w.heap.size rfl
  have hB0 := (Below.refl w.heap.size w).alloc (Nat.le_refl _) (.cells #[.slice A1 n1 cp1, .slice A2 n2 cp2, .slice A3 n3 cp3, .int .i64 cf.line, .int .i64 cf.capital, .int .i64 cf.lead, .int .i64 cf.trades, .int .i64 cf.bids] 38)
  obtain ⟨K, HK⟩ : ∃ K, Hid (wrongK cf = K) := ⟨_, rfl⟩
  have hK := wrongK_le cf
  rw [HK.out] at hK
  obtain ⟨C, HC⟩ : ∃ C, Hid (checkC cf = C) := ⟨_, rfl⟩
  go_enter Try.func4, Try.ntmps4
  go_wp2_with fail
  refine (few_any A1 A2 A3 n1 n2 n3 cp1 cp2 cp3 cf _).mono ?_
  rw [Hhf.out]
  rintro e w1 ⟨rfl, hb1⟩
  have bx1 := bx0.past hb1
  have hr1 := hr0.past hb1
  have hB1 := Below.past hB0 hb1 hB0.size
  have e0 := (bx1).cell 0
  have e1 := (bx1).cell 1
  have e2 := (bx1).cell 2
  have e3 := (bx1).cell 3
  have e4 := (bx1).cell 4
  have e5 := (bx1).cell 5
  have e6 := (bx1).cell 6
  have e7 := (bx1).cell 7
  simp at e0 e1 e2 e3 e4 e5 e6 e7
  go_wp2_with fail
  refine (refWrong_any A1 A2 A3 n1 n2 n3 cp1 cp2 cp3 cf _ hr1).mono ?_
  rw [HK.out]
  rintro e w2 ⟨rfl, hb2⟩
  have bx2 := bx1.past hb2
  have hr2 := hr1.past hb2
  have hB2 := Below.past hB1 hb2 hB1.size
  clear e0 e1 e2 e3 e4 e5 e6 e7
  have e0 := (bx2).cell 0
  have e1 := (bx2).cell 1
  have e2 := (bx2).cell 2
  have e3 := (bx2).cell 3
  have e4 := (bx2).cell 4
  have e5 := (bx2).cell 5
  have e6 := (bx2).cell 6
  have e7 := (bx2).cell 7
  simp at e0 e1 e2 e3 e4 e5 e6 e7
  have main : ∀ (q1 : (if K = 8 then (word K).toList = [] else ¬ (word K).toList = [])), True := fun _ => trivial
  clear main
  by_cases h8 : K = 8
  all_goals
    have hw1 : ((word K).toList == []) = decide (8 ≤ K) := word_empty K
    first | rw [decide_eq_true (by omega)] at hw1 | rw [decide_eq_false (by omega)] at hw1
    have hC : Hid (C = if K = 8 then 0 else 1) := by rw [← HC.out, checkC, HK.out]; rfl
    first | rw [if_pos h8] at hC | rw [if_neg h8] at hC
    have hw2 : ((word K).toList.isEmpty) = ((word K).toList == []) := by cases (word K).toList <;> rfl
    rw [hw1] at hw2
    have hw3 : decide ((word K).toList = []) = ((word K).toList == []) := by cases (word K).toList <;> simp
    rw [hw1] at hw3
    simp at hw3
    have Hh8 := Lib.hid h8
    clear h8
    clear hw1
    go_wp2_with fail
    refine (ticks_any A1 A2 A3 n1 n2 n3 cp1 cp2 cp3 cf _ hr2).mono ?_
    rintro e w3 ⟨v, rfl, hown, hb3⟩
    have bx3 := bx2.past hb3
    have hr3 := hr2.past hb3
    have hB3 := Below.past hB2 hb3 hB2.size
    clear e0 e1 e2 e3 e4 e5 e6 e7
    have e0 := (bx3).cell 0
    have e1 := (bx3).cell 1
    have e2 := (bx3).cell 2
    have e3 := (bx3).cell 3
    have e4 := (bx3).cell 4
    have e5 := (bx3).cell 5
    have e6 := (bx3).cell 6
    have e7 := (bx3).cell 7
    simp at e0 e1 e2 e3 e4 e5 e6 e7
    rw [ticks_cells] at hown
    obtain ⟨A, c, rfl⟩ := own_form hown
    have hrl := Rd.of_own hown
    clear hown
    go_wp2_with fail
    refine (wrong_any A1 A2 A3 n1 n2 n3 cp1 cp2 cp3 cf _ hr3).mono ?_
    rw [HK.out]
    rintro e w4 ⟨rfl, hb4⟩
    have bx4 := bx3.past hb4
    have hr4 := hr3.past hb4
    have hrl4 := hrl.past hb4
    have hB4 := Below.past hB3 hb4 hB3.size
    clear e0 e1 e2 e3 e4 e5 e6 e7
    have e0 := (bx4).cell 0
    have e1 := (bx4).cell 1
    have e2 := (bx4).cell 2
    have e3 := (bx4).cell 3
    have e4 := (bx4).cell 4
    have e5 := (bx4).cell 5
    have e6 := (bx4).cell 6
    have e7 := (bx4).cell 7
    simp at e0 e1 e2 e3 e4 e5 e6 e7
    go_wp2_with fail
    refine (checkC_any A1 A2 A3 n1 n2 n3 cp1 cp2 cp3 cf _ hr4).mono ?_
    rw [HC.out, hC.out]
    rintro e w5 ⟨rfl, hb5⟩
    have bx5 := bx4.past hb5
    have hr5 := hr4.past hb5
    have hrl5 := hrl4.past hb5
    have hB5 := Below.past hB4 hb5 hB4.size
    clear e0 e1 e2 e3 e4 e5 e6 e7 hb1 hb2 hb3 hb4 hb5 bx0 bx1 bx2 bx3 bx4 hr0 hr1 hr2 hr3 hr4 hrl hrl4 hB0 hB1 hB2 hB3 hB4
    have e0 := (bx5).cell 0
    have e1 := (bx5).cell 1
    have e2 := (bx5).cell 2
    have e3 := (bx5).cell 3
    have e4 := (bx5).cell 4
    have e5 := (bx5).cell 5
    have e6 := (bx5).cell 6
    have e7 := (bx5).cell 7
    simp at e0 e1 e2 e3 e4 e5 e6 e7
    go_wp2_with fail
    go_loopw [5, 7] (fun s i wr => ∃ k : Nat, k ≤ n3 ∧ i = .int .i64 k ∧ s = .int .i64 (closeOf 0 (cf.cycles.take k)) ∧ Below w5.heap.size w5 wr) (fun _ i _ => n3 - (intOf i).toNat)
    case atStart => exact ⟨0, Nat.zero_le _, rfl, rfl, Below.refl _ _⟩
    case round =>
      obtain ⟨k, hk, rfl, rfl, hb⟩ := hrel
      have hs := hb.size
      have bx6 := bx5.past hb
      clear e0 e1 e2 e3 e4 e5 e6 e7
      have e0 := (bx6).cell 0
      have e1 := (bx6).cell 1
      have e2 := (bx6).cell 2
      have e3 := (bx6).cell 3
      have e4 := (bx6).cell 4
      have e5 := (bx6).cell 5
      have e6 := (bx6).cell 6
      have e7 := (bx6).cell 7
      simp at e0 e1 e2 e3 e4 e5 e6 e7
      by_cases hlt : k < n3
      · obtain ⟨b', off', hA', hb', hc'⟩ := (hrl5.below hb).2 (by omega)
        subst hA'
        have hg_f : cf.cycles[k]? = some (cf.cycles[k]'(by have := HL.out; omega)) := List.getElem?_eq_getElem _
        obtain ⟨b_f, off_f, rfl, hbb_f, hc_f⟩ := (hr5.c.below hb).elem Cyc.cells_len hg_f hlt
        have HT_f := Lib.hid (show cf.cycles.take (k + 1) = cf.cycles.take k ++ [(cf.cycles[k]'(by have := HL.out; omega))] from List.take_succ_eq_append_getElem (by have := HL.out; omega))
        have HM_f := Lib.hid (show (cf.cycles[k]'(by have := HL.out; omega)) ∈ cf.cycles from List.getElem_mem _)
        have HG_f := Lib.hid hg_f
        generalize (cf.cycles[k]'(by have := HL.out; omega)) = f at *
        have c0 := hc_f 0 _ rfl
        have c1 := hc_f 1 _ rfl
        have c2 := hc_f 2 _ rfl
        have c3 := hc_f 3 _ rfl
        clear hc_f hg_f
        simp only [Nat.add_zero] at c0
        have d0 := hc' (k * 4 + 0) _ ((flat_get Cyc.cells 4 Cyc.cells_len _ k f 0 HG_f.out (by omega)).trans rfl)
        have d1 := hc' (k * 4 + 1) _ ((flat_get Cyc.cells 4 Cyc.cells_len _ k f 1 HG_f.out (by omega)).trans rfl)
        have d2 := hc' (k * 4 + 2) _ ((flat_get Cyc.cells 4 Cyc.cells_len _ k f 2 HG_f.out (by omega)).trans rfl)
        have d3 := hc' (k * 4 + 3) _ ((flat_get Cyc.cells 4 Cyc.cells_len _ k f 3 HG_f.out (by omega)).trans rfl)
        clear hc'
        simp only [Nat.add_zero, Nat.mul_comm k 4] at d0 d1 d2 d3
        have d0 := fun o => (World.cell?_alloc_lt wr o ⟨b', off' + 4 * k, none⟩ (by show b' < _; omega)).trans d0
        have d1 := fun o => (World.cell?_alloc_lt wr o ⟨b', off' + (4 * k + 1), none⟩ (by show b' < _; omega)).trans d1
        have d2 := fun o => (World.cell?_alloc_lt wr o ⟨b', off' + (4 * k + 2), none⟩ (by show b' < _; omega)).trans d2
        have d3 := fun o => (World.cell?_alloc_lt wr o ⟨b', off' + (4 * k + 3), none⟩ (by show b' < _; omega)).trans d3
        go_wp2_with fail
        have t0 : IntKind.i64.wrap (4 * (k : Int)) = 4 * (k : Int) := IntWalk.i64_in _ (by omega)
        have t1 : IntKind.i64.wrap (4 * (k : Int) + 1) = 4 * (k : Int) + 1 := IntWalk.i64_in _ (by omega)
        have t2 : IntKind.i64.wrap (4 * (k : Int) + 2) = 4 * (k : Int) + 2 := IntWalk.i64_in _ (by omega)
        have t3 : IntKind.i64.wrap (4 * (k : Int) + 3) = 4 * (k : Int) + 3 := IntWalk.i64_in _ (by omega)
        have u0 : (4 * (k : Int)).toNat = 4 * k := by omega
        have u1 : (4 * (k : Int) + 1).toNat = 4 * k + 1 := by omega
        have u2 : (4 * (k : Int) + 2).toNat = 4 * k + 2 := by omega
        have u3 : (4 * (k : Int) + 3).toNat = 4 * k + 3 := by omega
        have p0 : 0 ≤ 4 * (k : Int) := by omega
        have p1 : 0 ≤ 4 * (k : Int) + 1 := by omega
        have p2 : 0 ≤ 4 * (k : Int) + 2 := by omega
        have p3 : 0 ≤ 4 * (k : Int) + 3 := by omega
        have l0 : 4 * (k : Int) < 4 * (n3 : Int) := by omega
        have l1 : 4 * (k : Int) + 1 < 4 * (n3 : Int) := by omega
        have l2 : 4 * (k : Int) + 2 < 4 * (n3 : Int) := by omega
        have l3 : 4 * (k : Int) + 3 < 4 * (n3 : Int) := by omega
        go_quiet (fail)
        clear t0 t1 t2 t3 u0 u1 u2 u3
        go_wp2_with fail
        go_roundw
        case rel => exact ⟨k + 1, by omega, by go_num, by rw [HT_f.out, closeOf_snoc], below_drewN (hb.alloc hs _) _⟩
        case measure => simp [intOf]; omega
      · have hall : cf.cycles.take k = cf.cycles := List.take_of_length_le (by have := HL.out; omega)
        rw [hall]
        clear hall
        have hL : Hid (lastC cf = closeOf 0 cf.cycles) := rfl
        generalize closeOf 0 cf.cycles = last at *
        go_wp2_with fail
        refine (awake10 _).mono ?_
        rintro e w7 ⟨rfl, hb7⟩
        have bx7 := bx6.past hb7
        have hr7 := (hr5.past hb).past hb7
        clear e0 e1 e2 e3 e4 e5 e6 e7
        have e0 := (bx7).cell 0
        have e1 := (bx7).cell 1
        have e2 := (bx7).cell 2
        have e3 := (bx7).cell 3
        have e4 := (bx7).cell 4
        have e5 := (bx7).cell 5
        have e6 := (bx7).cell 6
        have e7 := (bx7).cell 7
        simp at e0 e1 e2 e3 e4 e5 e6 e7
        go_wp2_with fail
        refine (lastC_any A1 A2 A3 n1 n2 n3 cp1 cp2 cp3 cf _ hr7).mono ?_
        rw [hL.out]
        rintro e w8 ⟨rfl, hb8⟩
        go_wp2_with fail
        go_ret
        exact ⟨by simp, Below.past (Below.past (Below.past hB5 hb hB5.size) hb7 (by have := hB5.size; omega)) hb8 (by have := hB5.size; have := hb7.size; omega)⟩

set_option maxHeartbeats 1000000 in
theorem confMay_many (A1 A2 A3 : Option Addr) (n1 n2 n3 cp1 cp2 cp3 : Nat) (cf : Conf) (w : World) (hf : fewB n1 n2 n3 = false) : Calls Try.prog 4 #[.agg #[.slice A1 n1 cp1, .slice A2 n2 cp2, .slice A3 n3 cp3, .int .i64 cf.line, .int .i64 cf.capital, .int .i64 cf.lead, .int .i64 cf.trades, .int .i64 cf.bids]] w fun e w' => e = .returned (.bool true) ∧ Below w.heap.size w w' := by
  have Hhf := Lib.hid hf
  clear hf
  go_enter Try.func4, Try.ntmps4
  go_wp2_with fail
  refine (few_any A1 A2 A3 n1 n2 n3 cp1 cp2 cp3 cf _).mono ?_
  rw [Hhf.out]
  rintro e w1 ⟨rfl, hb1⟩
  go_wp2_with fail
  refine (awake10 _).mono ?_
  rintro e w2 ⟨rfl, hb2⟩
  go_wp2_with fail
  go_ret
  have hB1 := Below.past ((Below.refl w.heap.size w).alloc (Nat.le_refl _) (.cells #[.slice A1 n1 cp1, .slice A2 n2 cp2, .slice A3 n3 cp3, .int .i64 cf.line, .int .i64 cf.capital, .int .i64 cf.lead, .int .i64 cf.trades, .int .i64 cf.bids] 38)) hb1 (by simp)
  exact ⟨rfl, Below.past hB1 hb2 hB1.size⟩
end Go.Proofs.Ytjkabmijkbpodaa
