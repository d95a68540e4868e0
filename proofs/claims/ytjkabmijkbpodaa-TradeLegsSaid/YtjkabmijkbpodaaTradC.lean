import Derived.Test.YtjkabmijkbpodaaTradB
namespace Go.Proofs.Ytjkabmijkbpodaa
open Go.RowKit

/-- The sums on the way, over the four legs. -/
def sm0 (v : Int) (k : Nat) : Int := if k = 1 ∨ k = 2 then v else 0
def sm1 (q : Int) (k : Nat) : Int := if k = 2 ∨ k = 3 then -q else 0
def pick2 (k : Nat) (a b : Int) : Int := if k % 2 = 0 then a else b
def legAm (v q : Int) (k : Nat) : Int := if k = 0 then v else if k = 1 then -q else if k = 2 then -v else q

theorem legs_get (t : Trad) (k : Nat) (hk : k < 4) : ∃ f : Leg, (legsOf t)[k]? = some f ∧ f.amount = legAm (t.qty * t.price) t.qty k := by
  obtain rfl | rfl | rfl | rfl : k = 0 ∨ k = 1 ∨ k = 2 ∨ k = 3 := by omega
  all_goals exact ⟨_, rfl, rfl⟩

set_option maxRecDepth 100000 in
set_option maxHeartbeats 4000000 in
theorem tradeLegs_yes (t : Trad) (A : Option Addr) (n c : Nat) (ml : List Leg) (x0 x1 : Int) (w : World) (hq : inI t.qty) (hp : inI t.price) (h : legsIn t = true) (hr : Rd w w.heap.size 3 A n (ml.flatMap Leg.cells)) (hn : n ≤ 40) (hg : ∀ x ∈ ml, inI x.amount) :
    Calls Try.prog 6 #[.agg #[.int .i64 t.id, .int .i64 t.buyer, .int .i64 t.seller, .int .i64 t.sec, .int .i64 t.qty, .int .i64 t.price], .slice A n c, .agg #[.int .i64 x0, .int .i64 x1]] w fun e w' => e = .returned (.bool true) ∧ Below w.heap.size w w' := by
  have hh : inI (t.qty * t.price) ∧ inI (-(t.qty * t.price)) ∧ inI (-t.qty) := by simpa [legsIn] using h
  obtain ⟨h1, h2, h3⟩ := hh
  have q40 : decide ((40 : Int) < n) = false := dec_f (by omega)
  have HH := Lib.hid h
  have HG := Lib.hid hg
  clear h hg
  have hB0 := ((Below.refl w.heap.size w).alloc (Nat.le_refl _) (.cells #[.int .i64 t.id, .int .i64 t.buyer, .int .i64 t.seller, .int .i64 t.sec, .int .i64 t.qty, .int .i64 t.price] 51)).alloc (by simp) (.cells #[.int .i64 x0, .int .i64 x1] 53)
  have bt0 := (Blk.new w 51 #[.int .i64 t.id, .int .i64 t.buyer, .int .i64 t.seller, .int .i64 t.sec, .int .i64 t.qty, .int .i64 t.price] w.heap.size rfl).alloc (.cells #[.int .i64 x0, .int .i64 x1] 53)
  have bx0 := Blk.new (w.alloc (.cells #[.int .i64 t.id, .int .i64 t.buyer, .int .i64 t.seller, .int .i64 t.sec, .int .i64 t.qty, .int .i64 t.price] 51)) 53 #[.int .i64 x0, .int .i64 x1] (w.heap.size + 1) (by simp)
  have hr0 := hr.past hB0
  obtain ⟨on, hon⟩ : ∃ z, Hid (amount (owedL ml x0 x1).sum = z) := ⟨_, rfl⟩
  obtain ⟨oe, hoe⟩ : ∃ z, Hid (over (owedL ml x0 x1).sum = z) := ⟨_, rfl⟩
  go_enter Try.func6, Try.ntmps6
  go_wp2_with fail
  refine (legs_yes t hq hp HH.out _).mono ?_
  rintro e w1 ⟨L, lc, rfl, hrl, hb1⟩
  have bt1 := bt0.past hb1
  have bx1 := bx0.past hb1
  have hr1 := hr0.past hb1
  have hB1 := Below.past hB0 hb1 hB0.size
  have e0 := (bt1).cell 0
  have e1 := (bt1).cell 1
  have e2 := (bt1).cell 2
  have e3 := (bt1).cell 3
  have e4 := (bt1).cell 4
  have e5 := (bt1).cell 5
  simp at e0 e1 e2 e3 e4 e5
  go_wp2_with fail
  refine (refLegs_yes t hq hp HH.out _).mono ?_
  rintro e w2 ⟨M, mc, rfl, hrm, hb2⟩
  have bx2 := bx1.past hb2
  have hr2 := hr1.past hb2
  have hrl2 := hrl.past hb2
  have hB2 := Below.past hB1 hb2 hB1.size
  go_wp2_with fail
  refine (sameLegs L M 4 lc mc (legsOf t) _ hrl2 hrm (by omega)).mono ?_
  rintro e w3 ⟨rfl, hb3⟩
  have bx3 := bx2.past hb3
  have hr3 := hr2.past hb3
  have hrl3 := hrl2.past hb3
  have hB3 := Below.past hB2 hb3 hB2.size
  clear e0 e1 e2 e3 e4 e5
  have e0 := (bx3).cell 0
  have e1 := (bx3).cell 1
  simp at e0 e1
  go_wp2_with fail
  refine (owed_any _ _ _ ml x0 x1 _ hr3 (by omega) HG.out).mono ?_
  rw [hon.out, hoe.out]
  rintro e w4 ⟨rfl, hb4⟩
  have bx4 := bx3.past hb4
  have hr4 := hr3.past hb4
  have hrl4 := hrl3.past hb4
  have hB4 := Below.past hB3 hb4 hB3.size
  clear e0 e1
  have e0 := (bx4).cell 0
  have e1 := (bx4).cell 1
  simp at e0 e1
  go_wp2_with fail
  refine (refOwed_any _ _ _ ml x0 x1 _ hr4 (by omega) HG.out).mono ?_
  rw [hon.out, hoe.out]
  rintro e w5 ⟨rfl, hb5⟩
  have hrl5 := hrl4.past hb5
  have hB5 := Below.past hB4 hb5 hB4.size
  have hs5 := hB5.size
  clear e0 e1 hb1 hb2 hb3 hb4 hb5 bt0 bt1 bx0 bx1 bx2 bx3 bx4 hr0 hr1 hr2 hr3 hr4 hrl hrl2 hrl3 hrl4 hrm hB0 hB1 hB2 hB3 hB4 hr
  obtain ⟨v, hv⟩ : ∃ v, Hid (t.qty * t.price = v) := ⟨_, rfl⟩
  rw [hv.out] at h1 h2
  obtain ⟨v1, v2⟩ := h1
  obtain ⟨v3, v4⟩ := h2
  obtain ⟨u1, u2⟩ := h3
  obtain ⟨q1, q2⟩ := hq
  go_wp2_with fail
  go_loopw [16] (fun i wr => ∃ k : Nat, k ≤ 4 ∧ i = .int .i64 k ∧ Blk wr w5.heap.size 59 #[.int .i64 (sm0 v k), .int .i64 (sm1 t.qty k)] ∧ Below w5.heap.size w5 wr) (fun i _ => 4 - (intOf i).toNat)
  case atStart => exact ⟨0, by omega, rfl, Blk.new w5 _ _ _ rfl, (Below.refl _ _).alloc (Nat.le_refl _) _⟩
  case round =>
    obtain ⟨k, hk, rfl, hS, hb⟩ := hrel
    have hs := hb.size
    by_cases hlt : k < 4
    · obtain ⟨f, hf, hfa⟩ := legs_get t k hlt
      obtain ⟨b', off', hA', hbb, hc⟩ := (hrl5.below hb).elem Leg.cells_len hf hlt
      subst hA'
      have c2 := hc 2 _ rfl
      rw [hfa, hv.out] at c2
      clear hc hf hfa
      have y0 : wr.cell? ⟨w5.heap.size, 0, none⟩ = some (.int .i64 (sm0 v k)) := hS.cell 0
      have y1 : wr.cell? ⟨w5.heap.size, 1, none⟩ = some (.int .i64 (sm1 t.qty k)) := hS.cell 1
      have z0 := hS.frozen 0
      have z1 := hS.frozen 1
      obtain rfl | rfl | rfl | rfl : k = 0 ∨ k = 1 ∨ k = 2 ∨ k = 3 := by omega
      · simp [sm0, sm1, legAm] at c2 y0 y1
        go_wp2_with fail
        go_region
        go_wp2_with fail
        go_roundw
        case rel =>
          refine ⟨1, by omega, rfl, ?_, (hb.setCell (by exact Nat.le_refl _) _).drew⟩
          have hp := hS.put 0 (.int .i64 v)
          simpa [sm0, sm1, Blk, World.drew] using hp
        case measure => simp [intOf]
      · simp [sm0, sm1, legAm] at c2 y0 y1
        go_wp2_with fail
        go_region
        go_wp2_with fail
        go_roundw
        case rel =>
          refine ⟨2, by omega, rfl, ?_, (hb.setCell (by exact Nat.le_refl _) _).drew⟩
          have hp := hS.put 1 (.int .i64 (-t.qty))
          simpa [sm0, sm1, Blk, World.drew] using hp
        case measure => simp [intOf]
      · simp [sm0, sm1, legAm] at c2 y0 y1
        go_wp2_with fail
        go_region
        go_wp2_with fail
        go_roundw
        case rel =>
          refine ⟨3, by omega, rfl, ?_, (hb.setCell (by exact Nat.le_refl _) _).drew⟩
          have hp := hS.put 0 (.int .i64 0)
          rw [show v + -v = 0 by omega]
          simpa [sm0, sm1, Blk, World.drew] using hp
        case measure => simp [intOf]
      · simp [sm0, sm1, legAm] at c2 y0 y1
        go_wp2_with fail
        go_region
        go_wp2_with fail
        go_roundw
        case rel =>
          refine ⟨4, by omega, rfl, ?_, (hb.setCell (by exact Nat.le_refl _) _).drew⟩
          have hp := hS.put 1 (.int .i64 0)
          rw [show -t.qty + t.qty = 0 by omega]
          simpa [sm0, sm1, Blk, World.drew] using hp
        case measure => simp [intOf]
    · obtain rfl : 4 = k := by omega
      have y0 : Blk wr w5.heap.size 59 #[.int .i64 0, .int .i64 0] := by simpa [sm0, sm1] using hS
      go_wp2_with fail
      refine (awake16 _).mono ?_
      rintro e w6 ⟨rfl, hb6⟩
      have y6 := y0.past hb6
      have e0 := (y6).cell 0
      have e1 := (y6).cell 1
      simp at e0 e1
      go_wp2_with fail
      go_ret
      exact ⟨rfl, Below.past (Below.past hB5 hb (by omega)) hb6 (by omega)⟩

set_option maxRecDepth 100000 in
set_option maxHeartbeats 4000000 in
theorem tradeLegs_no (t : Trad) (A : Option Addr) (n c : Nat) (ml : List Leg) (x0 x1 : Int) (w : World) (hq : inI t.qty) (hp : inI t.price) (h : legsIn t = false) (hr : Rd w w.heap.size 3 A n (ml.flatMap Leg.cells)) (hn : n ≤ 40) (hg : ∀ x ∈ ml, inI x.amount) :
    Calls Try.prog 6 #[.agg #[.int .i64 t.id, .int .i64 t.buyer, .int .i64 t.seller, .int .i64 t.sec, .int .i64 t.qty, .int .i64 t.price], .slice A n c, .agg #[.int .i64 x0, .int .i64 x1]] w fun e w' => e = .returned (.bool true) ∧ Below w.heap.size w w' := by
  have q40 : decide ((40 : Int) < n) = false := dec_f (by omega)
  have HH := Lib.hid h
  have HG := Lib.hid hg
  clear h hg
  have hB0 := ((Below.refl w.heap.size w).alloc (Nat.le_refl _) (.cells #[.int .i64 t.id, .int .i64 t.buyer, .int .i64 t.seller, .int .i64 t.sec, .int .i64 t.qty, .int .i64 t.price] 51)).alloc (by simp) (.cells #[.int .i64 x0, .int .i64 x1] 53)
  have bt0 := (Blk.new w 51 #[.int .i64 t.id, .int .i64 t.buyer, .int .i64 t.seller, .int .i64 t.sec, .int .i64 t.qty, .int .i64 t.price] w.heap.size rfl).alloc (.cells #[.int .i64 x0, .int .i64 x1] 53)
  have bx0 := Blk.new (w.alloc (.cells #[.int .i64 t.id, .int .i64 t.buyer, .int .i64 t.seller, .int .i64 t.sec, .int .i64 t.qty, .int .i64 t.price] 51)) 53 #[.int .i64 x0, .int .i64 x1] (w.heap.size + 1) (by simp)
  have hr0 := hr.past hB0
  obtain ⟨on, hon⟩ : ∃ z, Hid (amount (owedL ml x0 x1).sum = z) := ⟨_, rfl⟩
  obtain ⟨oe, hoe⟩ : ∃ z, Hid (over (owedL ml x0 x1).sum = z) := ⟨_, rfl⟩
  go_enter Try.func6, Try.ntmps6
  go_wp2_with fail
  refine (legs_no t hq hp HH.out _).mono ?_
  rintro e w1 ⟨rfl, hb1⟩
  have bt1 := bt0.past hb1
  have bx1 := bx0.past hb1
  have hr1 := hr0.past hb1
  have hB1 := Below.past hB0 hb1 hB0.size
  have e0 := (bt1).cell 0
  have e1 := (bt1).cell 1
  have e2 := (bt1).cell 2
  have e3 := (bt1).cell 3
  have e4 := (bt1).cell 4
  have e5 := (bt1).cell 5
  simp at e0 e1 e2 e3 e4 e5
  go_wp2_with fail
  refine (refLegs_no t hq hp HH.out _).mono ?_
  rintro e w2 ⟨rfl, hb2⟩
  have bx2 := bx1.past hb2
  have hr2 := hr1.past hb2
  have hB2 := Below.past hB1 hb2 hB1.size
  go_wp2_with fail
  refine (sameLegs none none 0 0 0 [] _ (Rd.nil ..) (Rd.nil ..) (by omega)).mono ?_
  rintro e w3 ⟨rfl, hb3⟩
  have bx3 := bx2.past hb3
  have hr3 := hr2.past hb3
  have hB3 := Below.past hB2 hb3 hB2.size
  clear e0 e1 e2 e3 e4 e5
  have e0 := (bx3).cell 0
  have e1 := (bx3).cell 1
  simp at e0 e1
  go_wp2_with fail
  refine (owed_any _ _ _ ml x0 x1 _ hr3 (by omega) HG.out).mono ?_
  rw [hon.out, hoe.out]
  rintro e w4 ⟨rfl, hb4⟩
  have bx4 := bx3.past hb4
  have hr4 := hr3.past hb4
  have hB4 := Below.past hB3 hb4 hB3.size
  clear e0 e1
  have e0 := (bx4).cell 0
  have e1 := (bx4).cell 1
  simp at e0 e1
  go_wp2_with fail
  refine (refOwed_any _ _ _ ml x0 x1 _ hr4 (by omega) HG.out).mono ?_
  rw [hon.out, hoe.out]
  rintro e w5 ⟨rfl, hb5⟩
  have hB5 := Below.past hB4 hb5 hB4.size
  go_wp2_with fail
  refine (awake16 _).mono ?_
  rintro e w6 ⟨rfl, hb6⟩
  go_wp2_with fail
  go_ret
  exact ⟨rfl, Below.past hB5 hb6 hB5.size⟩

set_option maxHeartbeats 1000000 in
theorem tradeLegs_long (t : Trad) (A : Option Addr) (n c : Nat) (x0 x1 : Int) (w : World) (hn : 40 < n) :
    Calls Try.prog 6 #[.agg #[.int .i64 t.id, .int .i64 t.buyer, .int .i64 t.seller, .int .i64 t.sec, .int .i64 t.qty, .int .i64 t.price], .slice A n c, .agg #[.int .i64 x0, .int .i64 x1]] w fun e w' => e = .returned (.bool true) ∧ Below w.heap.size w w' := by
  have q40 : decide ((40 : Int) < n) = true := dec_t (by omega)
  have hB0 := ((Below.refl w.heap.size w).alloc (Nat.le_refl _) (.cells #[.int .i64 t.id, .int .i64 t.buyer, .int .i64 t.seller, .int .i64 t.sec, .int .i64 t.qty, .int .i64 t.price] 51)).alloc (by simp) (.cells #[.int .i64 x0, .int .i64 x1] 53)
  go_enter Try.func6, Try.ntmps6
  go_wp2_with fail
  refine (awake16 _).mono ?_
  rintro e w6 ⟨rfl, hb6⟩
  go_wp2_with fail
  go_ret
  exact ⟨rfl, Below.past hB0 hb6 hB0.size⟩
end Go.Proofs.Ytjkabmijkbpodaa
