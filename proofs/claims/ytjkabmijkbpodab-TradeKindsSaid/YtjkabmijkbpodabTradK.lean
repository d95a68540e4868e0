import Derived.Test.YtjkabmijkbpodabTradM
import Derived.Test.YtjkabmijkbpodabConfD
import Derived.Test.YtjkabmijkbpodabBas2
namespace Go.Proofs.Ytjkabmijkbpodab
open Go.RowKit

theorem checkT_zero {n1 n2 : Nat} {t : Trad} (h : checkT n1 n2 t = 0) : t.buyer ≠ t.seller ∧ 1 ≤ t.sec ∧ 1 ≤ t.qty ∧ 1 ≤ t.price ∧ t.qty ≤ 274877906944 ∧ inI (t.qty * t.price) ∧ t.qty * t.price ≤ 288230376151711744 := by
  unfold checkT at h
  split at h
  · rename_i hw
    split at h
    · rename_i hs
      split at h
      · omega
      · rename_i hq
        split at h
        · omega
        · rename_i hg
          have hs' := hasB_t hs
          have hq' : ¬ t.qty < 1 ∧ ¬ t.price < 1 := by simpa using hq
          unfold whoC at hw
          split at hw
          · split at hw
            · omega
            · rename_i hne
              have hg' : greatB t = false := by simpa using hg
              simp only [greatB, Bool.or_eq_false_iff, decide_eq_false_iff_not] at hg'
              obtain ⟨g1, g2, g3⟩ := hg'
              have hin : inI (t.qty * t.price) := by
                by_cases hi : inI (t.qty * t.price)
                · exact hi
                · have := (amount_out hi).2; rw [this] at g1; simp at g1
              rw [(amount_in hin).1] at g2
              exact ⟨hne, hs'.1, by omega, by omega, by omega, hin, by omega⟩
          · omega
    · omega
  · rename_i hw; exact absurd h hw

theorem owed_four (t : Trad) (hne : t.buyer ≠ t.seller) (hs : 1 ≤ t.sec) :
    owedL (legsOf t) t.buyer 0 = [t.qty * t.price] ∧ owedL (legsOf t) t.buyer t.sec = [-t.qty] ∧ owedL (legsOf t) t.seller 0 = [-(t.qty * t.price)] ∧ owedL (legsOf t) t.seller t.sec = [t.qty] := by
  have h0 : ¬ t.sec = 0 := by omega
  have h0' : ¬ (0 : Int) = t.sec := by omega
  have h1 : ¬ t.seller = t.buyer := fun h => hne h.symm
  refine ⟨?_, ?_, ?_, ?_⟩ <;> simp [owedL, legsOf, h0, h0', h1, hne]

set_option maxHeartbeats 1000000 in
theorem tradeKinds_many (A1 A2 A3 : Option Addr) (n1 n2 n3 cp1 cp2 cp3 : Nat) (cf : Conf) (t : Trad) (w : World) (hf : fewB n1 n2 n3 = false) :
    Calls Try.prog 5 #[.agg #[.slice A1 n1 cp1, .slice A2 n2 cp2, .slice A3 n3 cp3, .int .i64 cf.line, .int .i64 cf.capital, .int .i64 cf.lead, .int .i64 cf.trades, .int .i64 cf.bids], .agg #[.int .i64 t.id, .int .i64 t.buyer, .int .i64 t.seller, .int .i64 t.sec, .int .i64 t.qty, .int .i64 t.price]] w fun e w' => e = .returned (.bool true) ∧ Below w.heap.size w w' := by
  have Hhf := Lib.hid hf
  clear hf
  have hB0 := ((Below.refl w.heap.size w).alloc (Nat.le_refl _) (.cells #[.slice A1 n1 cp1, .slice A2 n2 cp2, .slice A3 n3 cp3, .int .i64 cf.line, .int .i64 cf.capital, .int .i64 cf.lead, .int .i64 cf.trades, .int .i64 cf.bids] 55)).alloc (by simp) (.cells #[.int .i64 t.id, .int .i64 t.buyer, .int .i64 t.seller, .int .i64 t.sec, .int .i64 t.qty, .int .i64 t.price] 57)
  go_enter Try.func5, Try.ntmps5
  go_wp2_with fail
  refine (few_any A1 A2 A3 n1 n2 n3 cp1 cp2 cp3 cf _).mono ?_
  rw [Hhf.out]
  rintro e w1 ⟨rfl, hb1⟩
  have hB1 := Below.past hB0 hb1 hB0.size
  go_wp2_with fail
  refine (awake16 _).mono ?_
  rintro e w2 ⟨rfl, hb2⟩
  go_wp2_with fail
  go_ret
  exact ⟨rfl, Below.past hB1 hb2 hB1.size⟩

set_option maxRecDepth 100000 in
set_option maxHeartbeats 4000000 in
theorem tradeKinds_few (A1 A2 A3 : Option Addr) (n1 n2 n3 cp1 cp2 cp3 : Nat) (cf : Conf) (t : Trad) (w : World) (hr : CfRd w A1 n1 A2 n2 A3 n3 cf) (hq : inI t.qty) (hp : inI t.price) (hf : fewB n1 n2 n3 = true) :
    Calls Try.prog 5 #[.agg #[.slice A1 n1 cp1, .slice A2 n2 cp2, .slice A3 n3 cp3, .int .i64 cf.line, .int .i64 cf.capital, .int .i64 cf.lead, .int .i64 cf.trades, .int .i64 cf.bids], .agg #[.int .i64 t.id, .int .i64 t.buyer, .int .i64 t.seller, .int .i64 t.sec, .int .i64 t.qty, .int .i64 t.price]] w fun e w' => e = .returned (.bool true) ∧ Below w.heap.size w w' := by
  have Hhf := Lib.hid hf
  clear hf
  obtain ⟨W, hW⟩ : ∃ W, Hid ((w.alloc (.cells #[.slice A1 n1 cp1, .slice A2 n2 cp2, .slice A3 n3 cp3, .int .i64 cf.line, .int .i64 cf.capital, .int .i64 cf.lead, .int .i64 cf.trades, .int .i64 cf.bids] 55)).alloc (.cells #[.int .i64 t.id, .int .i64 t.buyer, .int .i64 t.seller, .int .i64 t.sec, .int .i64 t.qty, .int .i64 t.price] 57) = W) := ⟨_, rfl⟩
  have hB0 : Below w.heap.size w W := by rw [← hW.out]; exact ((Below.refl _ _).alloc (Nat.le_refl _) _).alloc (by simp) _
  have hr0 := hr.past hB0
  have bc0 : Blk W w.heap.size 55 #[.slice A1 n1 cp1, .slice A2 n2 cp2, .slice A3 n3 cp3, .int .i64 cf.line, .int .i64 cf.capital, .int .i64 cf.lead, .int .i64 cf.trades, .int .i64 cf.bids] := by
    rw [← hW.out]; exact (Blk.new w _ _ _ rfl).alloc _
  have bt0 : Blk W (w.heap.size + 1) 57 #[.int .i64 t.id, .int .i64 t.buyer, .int .i64 t.seller, .int .i64 t.sec, .int .i64 t.qty, .int .i64 t.price] := by
    rw [← hW.out]; exact Blk.new (w.alloc (.cells #[.slice A1 n1 cp1, .slice A2 n2 cp2, .slice A3 n3 cp3, .int .i64 cf.line, .int .i64 cf.capital, .int .i64 cf.lead, .int .i64 cf.trades, .int .i64 cf.bids] 55)) _ _ _ (by simp)
  obtain ⟨C, hC⟩ : ∃ v, Hid (checkT n1 n2 t = v) := ⟨_, rfl⟩
  go_enter Try.func5, Try.ntmps5
  go_wp2_with fail
  rw [hW.out]
  refine (few_any A1 A2 A3 n1 n2 n3 cp1 cp2 cp3 cf _).mono ?_
  rw [Hhf.out]
  rintro e w1 ⟨rfl, hb1⟩
  have hW1 := hb1
  have bc1 := bc0.past hW1
  have bt1 := bt0.past hW1
  have f0 := (bt1).cell 0
  have f1 := (bt1).cell 1
  have f2 := (bt1).cell 2
  have f3 := (bt1).cell 3
  have f4 := (bt1).cell 4
  have f5 := (bt1).cell 5
  simp at f0 f1 f2 f3 f4 f5
  have e0 := (bc1).cell 0
  have e1 := (bc1).cell 1
  have e2 := (bc1).cell 2
  have e3 := (bc1).cell 3
  have e4 := (bc1).cell 4
  have e5 := (bc1).cell 5
  have e6 := (bc1).cell 6
  have e7 := (bc1).cell 7
  simp at e0 e1 e2 e3 e4 e5 e6 e7
  go_wp2_with fail
  refine (checkT_any A1 A2 A3 n1 n2 n3 cp1 cp2 cp3 cf t _ (hr0.past hW1) hq hp).mono ?_
  rw [hC.out]
  rintro e w2 ⟨rfl, hb2⟩
  have hW2 := Below.next hW1 hb2
  clear e0 e1 e2 e3 e4 e5 e6 e7 f0 f1 f2 f3 f4 f5
  by_cases h : C = 0
  · obtain ⟨hne, hs, q1, p1, q2, hin, v2⟩ := checkT_zero (hC.out.trans h)
    subst h
    obtain ⟨o1, o2, o3, o4⟩ := owed_four t hne hs
    have hv1 : 1 ≤ t.qty * t.price := by have := Int.mul_le_mul q1 p1 (by omega) (by omega); omega
    have HI : Hid (legsIn t = true) := Lib.hid (by simp only [legsIn, Bool.and_eq_true, decide_eq_true_eq]; exact ⟨hin, by unfold inI; omega, by unfold inI; omega⟩)
    have HG : Hid (∀ x ∈ legsOf t, inI x.amount) := Lib.hid (by
      intro x hx
      simp only [legsOf, List.mem_cons, List.not_mem_nil, or_false] at hx
      rcases hx with rfl | rfl | rfl | rfl <;> simp only [inI] <;> omega)
    obtain ⟨v, hv⟩ : ∃ v, Hid (t.qty * t.price = v) := ⟨_, rfl⟩
    rw [hv.out] at o1 o3 hv1 v2
    have P1 : Hid (amount (owedL (legsOf t) t.buyer 0).sum = v ∧ over (owedL (legsOf t) t.buyer 0).sum = 0) := Lib.hid (by rw [o1]; simp only [List.sum_cons, List.sum_nil, Int.add_zero]; exact amount_in (by unfold inI; omega))
    have P2 : Hid (amount (owedL (legsOf t) t.buyer t.sec).sum = -t.qty ∧ over (owedL (legsOf t) t.buyer t.sec).sum = 0) := Lib.hid (by rw [o2]; simp only [List.sum_cons, List.sum_nil, Int.add_zero]; exact amount_in (by unfold inI; omega))
    have P3 : Hid (amount (owedL (legsOf t) t.seller 0).sum = -v ∧ over (owedL (legsOf t) t.seller 0).sum = 0) := Lib.hid (by rw [o3]; simp only [List.sum_cons, List.sum_nil, Int.add_zero]; exact amount_in (by unfold inI; omega))
    have P4 : Hid (amount (owedL (legsOf t) t.seller t.sec).sum = t.qty ∧ over (owedL (legsOf t) t.seller t.sec).sum = 0) := Lib.hid (by rw [o4]; simp only [List.sum_cons, List.sum_nil, Int.add_zero]; exact amount_in (by unfold inI; omega))
    clear o1 o2 o3 o4 hin hne
    have bt2 := bt0.past hW2
    have f0 := (bt2).cell 0
    have f1 := (bt2).cell 1
    have f2 := (bt2).cell 2
    have f3 := (bt2).cell 3
    have f4 := (bt2).cell 4
    have f5 := (bt2).cell 5
    simp at f0 f1 f2 f3 f4 f5
    go_wp2_with fail
    refine (legs_yes t hq hp HI.out _).mono ?_
    rintro e w3 ⟨L, lc, rfl, hrl, hb3⟩
    have hW3 := Below.next hW2 hb3
    have bt3 := bt0.past hW3
    clear f0 f1 f2 f3 f4 f5
    have f0 := (bt3).cell 0
    have f1 := (bt3).cell 1
    have f2 := (bt3).cell 2
    have f3 := (bt3).cell 3
    have f4 := (bt3).cell 4
    have f5 := (bt3).cell 5
    simp at f0 f1 f2 f3 f4 f5
    obtain ⟨lb, off, hA, hlb, hc0⟩ := hrl.elem (k := 0) (a := ⟨t.buyer, 0, t.qty * t.price⟩) Leg.cells_len rfl (by omega)
    obtain ⟨lb', off', hA', _, hc3⟩ := hrl.elem (k := 3) (a := ⟨t.seller, t.sec, t.qty⟩) Leg.cells_len rfl (by omega)
    subst hA
    injection hA' with hA'
    injection hA' with e1 e2
    subst e1 e2
    have l2 := hc0 2 _ rfl
    have l11 := hc3 2 _ rfl
    simp only [hv.out] at l2
    clear hc0 hc3
    go_wp2_with fail
    clear l2 l11
    have P1a := Lib.hid P1.out.1
    have P1b := Lib.hid P1.out.2
    refine (owed_any _ 4 lc (legsOf t) t.buyer 0 _ hrl (by omega) HG.out).mono ?_
    rw [P1a.out, P1b.out]
    rintro e w4 ⟨rfl, hb4⟩
    have hW4 := Below.next hW3 hb4
    replace hrl := hrl.past hb4
    have bt4 := bt0.past hW4
    clear f0 f1 f2 f3 f4 f5
    have f0 := (bt4).cell 0
    have f1 := (bt4).cell 1
    have f2 := (bt4).cell 2
    have f3 := (bt4).cell 3
    have f4 := (bt4).cell 4
    have f5 := (bt4).cell 5
    simp at f0 f1 f2 f3 f4 f5
    have P2a := Lib.hid P2.out.1
    have P2b := Lib.hid P2.out.2
    go_wp2_with fail
    refine (owed_any _ 4 lc (legsOf t) t.buyer t.sec _ hrl (by omega) HG.out).mono ?_
    rw [P2a.out, P2b.out]
    rintro e w5 ⟨rfl, hb5⟩
    have hW5 := Below.next hW4 hb5
    replace hrl := hrl.past hb5
    have bt5 := bt0.past hW5
    clear f0 f1 f2 f3 f4 f5
    have f0 := (bt5).cell 0
    have f1 := (bt5).cell 1
    have f2 := (bt5).cell 2
    have f3 := (bt5).cell 3
    have f4 := (bt5).cell 4
    have f5 := (bt5).cell 5
    simp at f0 f1 f2 f3 f4 f5
    have P3a := Lib.hid P3.out.1
    have P3b := Lib.hid P3.out.2
    go_wp2_with fail
    refine (owed_any _ 4 lc (legsOf t) t.seller 0 _ hrl (by omega) HG.out).mono ?_
    rw [P3a.out, P3b.out]
    rintro e w6 ⟨rfl, hb6⟩
    have hW6 := Below.next hW5 hb6
    replace hrl := hrl.past hb6
    have bt6 := bt0.past hW6
    clear f0 f1 f2 f3 f4 f5
    have f0 := (bt6).cell 0
    have f1 := (bt6).cell 1
    have f2 := (bt6).cell 2
    have f3 := (bt6).cell 3
    have f4 := (bt6).cell 4
    have f5 := (bt6).cell 5
    simp at f0 f1 f2 f3 f4 f5
    have P4a := Lib.hid P4.out.1
    have P4b := Lib.hid P4.out.2
    go_wp2_with fail
    refine (owed_any _ 4 lc (legsOf t) t.seller t.sec _ hrl (by omega) HG.out).mono ?_
    rw [P4a.out, P4b.out]
    rintro e w7 ⟨rfl, hb7⟩
    have hW7 := Below.next hW6 hb7
    replace hrl := hrl.past hb7
    have bt7 := bt0.past hW7
    clear f0 f1 f2 f3 f4 f5
    have f0 := (bt7).cell 0
    have f1 := (bt7).cell 1
    have f2 := (bt7).cell 2
    have f3 := (bt7).cell 3
    have f4 := (bt7).cell 4
    have f5 := (bt7).cell 5
    simp at f0 f1 f2 f3 f4 f5
    go_wp2_with fail
    refine (awake16 _).mono ?_
    rintro e w8 ⟨rfl, hb8⟩
    have hW8 := Below.next hW7 hb8
    have bt8 := bt0.past hW8
    clear f0 f1 f2 f3 f4 f5
    have f0 := (bt8).cell 0
    have f1 := (bt8).cell 1
    have f2 := (bt8).cell 2
    have f3 := (bt8).cell 3
    have f4 := (bt8).cell 4
    have f5 := (bt8).cell 5
    simp at f0 f1 f2 f3 f4 f5
    have a1 : decide (0 < v) = true := dec_t (by omega)
    have a2 : decide (-t.qty < 0) = true := dec_t (by omega)
    go_wp2_with fail
    go_ret
    exact ⟨rfl, Below.next' hB0 hW8 (Nat.le_refl _)⟩
  · have q : (C == 0) = false := by simpa using h
    clear h
    go_wp2_with fail
    refine (awake16 _).mono ?_
    rintro e w3 ⟨rfl, hb3⟩
    go_wp2_with fail
    go_ret
    exact ⟨rfl, Below.next' hB0 (Below.next hW2 hb3) (Nat.le_refl _)⟩
end Go.Proofs.Ytjkabmijkbpodab
