import Derived.Test.YtelbolhckhdioaaConfM
import Derived.Test.YtelbolhckhdioaaTradB
namespace Go.Proofs.Ytelbolhckhdioaa
open Go.RowKit

/-- Is a trade too great? -/
def greatB (t : Trad) : Bool := decide (over (t.qty * t.price) ≠ 0) || (decide (288230376151711744 < amount (t.qty * t.price)) || decide (274877906944 < t.qty))

set_option maxHeartbeats 1000000 in
theorem great_any (t : Trad) (hq : inI t.qty) (hp : inI t.price) (w : World) :
    Calls Try.prog 130 #[.agg #[.int .i64 t.id, .int .i64 t.buyer, .int .i64 t.seller, .int .i64 t.sec, .int .i64 t.qty, .int .i64 t.price]] w fun e w' => e = .returned (.bool (greatB t)) ∧ Below w.heap.size w w' := by
  obtain ⟨v, hv⟩ : ∃ v, Hid (amount (t.qty * t.price) = v) := ⟨_, rfl⟩
  obtain ⟨o, ho⟩ : ∃ v, Hid (over (t.qty * t.price) = v) := ⟨_, rfl⟩
  have hB0 := (Below.refl w.heap.size w).alloc (Nat.le_refl _) (.cells #[.int .i64 t.id, .int .i64 t.buyer, .int .i64 t.seller, .int .i64 t.sec, .int .i64 t.qty, .int .i64 t.price] 87)
  have bx0 := Blk.new w 87 #[.int .i64 t.id, .int .i64 t.buyer, .int .i64 t.seller, .int .i64 t.sec, .int .i64 t.qty, .int .i64 t.price] w.heap.size rfl
  obtain ⟨g, hg⟩ : ∃ g, Hid (greatB t = g) := ⟨_, rfl⟩
  have hgo : g = (decide (o ≠ 0) || (decide (288230376151711744 < v) || decide (274877906944 < t.qty))) := by rw [← hg.out, greatB, hv.out, ho.out]
  rw [hg.out]
  by_cases h1 : o = 0
  · by_cases h2 : 288230376151711744 < v
    · obtain rfl : g = true := by simp [hgo, h2]
      clear hgo
      have q2 := dec_t h2
      go_enter Try.func130, Try.ntmps130
      go_wp2_with fail
      refine (value_any t hq hp _).mono ?_
      rw [hv.out, ho.out]
      rintro e w1 ⟨rfl, hb1⟩
      subst h1
      go_wp2_with fail
      go_ret
      exact ⟨rfl, Below.past hB0 hb1 hB0.size⟩
    · by_cases h3 : 274877906944 < t.qty
      · obtain rfl : g = true := by simp [hgo, h3]
        clear hgo
        have q2 := dec_f h2
        have q3 := dec_t h3
        go_enter Try.func130, Try.ntmps130
        go_wp2_with fail
        refine (value_any t hq hp _).mono ?_
        rw [hv.out, ho.out]
        rintro e w1 ⟨rfl, hb1⟩
        have bx1 := bx0.past hb1
        have e0 := (bx1).cell 0
        have e1 := (bx1).cell 1
        have e2 := (bx1).cell 2
        have e3 := (bx1).cell 3
        have e4 := (bx1).cell 4
        have e5 := (bx1).cell 5
        simp at e0 e1 e2 e3 e4 e5
        subst h1
        go_wp2_with fail
        go_ret
        exact ⟨rfl, Below.past hB0 hb1 hB0.size⟩
      · obtain rfl : g = false := by simp [hgo, h1]; omega
        clear hgo
        have q2 := dec_f h2
        have q3 := dec_f h3
        go_enter Try.func130, Try.ntmps130
        go_wp2_with fail
        refine (value_any t hq hp _).mono ?_
        rw [hv.out, ho.out]
        rintro e w1 ⟨rfl, hb1⟩
        have bx1 := bx0.past hb1
        have e0 := (bx1).cell 0
        have e1 := (bx1).cell 1
        have e2 := (bx1).cell 2
        have e3 := (bx1).cell 3
        have e4 := (bx1).cell 4
        have e5 := (bx1).cell 5
        simp at e0 e1 e2 e3 e4 e5
        subst h1
        go_wp2_with fail
        go_ret
        exact ⟨rfl, Below.past hB0 hb1 hB0.size⟩
  · obtain rfl : g = true := by simp [hgo, h1]
    clear hgo
    go_enter Try.func130, Try.ntmps130
    go_wp2_with fail
    refine (value_any t hq hp _).mono ?_
    rw [hv.out, ho.out]
    rintro e w1 ⟨rfl, hb1⟩
    have q1 : (o == 0) = false := by simpa using h1
    go_wp2_with fail
    go_ret
    exact ⟨rfl, Below.past hB0 hb1 hB0.size⟩

theorem member_ok (A1 A2 A3 : Option Addr) (n1 n2 n3 cp1 cp2 cp3 : Nat) (cf : Conf) (i : Int) (w : World) (hr : CfRd w A1 n1 A2 n2 A3 n3 cf) (h1 : 1 ≤ i) (h2 : i ≤ n1) :
    Calls Try.prog 151 #[.agg #[.slice A1 n1 cp1, .slice A2 n2 cp2, .slice A3 n3 cp3, .int .i64 cf.line, .int .i64 cf.capital, .int .i64 cf.lead, .int .i64 cf.trades, .int .i64 cf.bids], .int .i64 i] w fun e w' => ∃ a b : Int, e = .returned (.tuple #[.agg #[.int .i64 a, .int .i64 b], .int .i64 0]) ∧ Below w.heap.size w w' := by
  have hl := hr.m.len Memb.cells_len (by omega)
  have hx : cf.members[(i - 1).toNat]? = some (cf.members[(i - 1).toNat]'(by omega)) := List.getElem?_eq_getElem _
  refine (member_yes A1 A2 A3 n1 n2 n3 cp1 cp2 cp3 cf i w hr h1 h2 _ hx).mono ?_
  rintro e w' ⟨rfl, hb⟩
  exact ⟨_, _, rfl, hb⟩
theorem sec_ok (A1 A2 A3 : Option Addr) (n1 n2 n3 cp1 cp2 cp3 : Nat) (cf : Conf) (i : Int) (w : World) (hr : CfRd w A1 n1 A2 n2 A3 n3 cf) (h1 : 1 ≤ i) (h2 : i ≤ n2) :
    Calls Try.prog 129 #[.agg #[.slice A1 n1 cp1, .slice A2 n2 cp2, .slice A3 n3 cp3, .int .i64 cf.line, .int .i64 cf.capital, .int .i64 cf.lead, .int .i64 cf.trades, .int .i64 cf.bids], .int .i64 i] w fun e w' => ∃ a b : Int, e = .returned (.tuple #[.agg #[.int .i64 a, .int .i64 b], .int .i64 0]) ∧ Below w.heap.size w w' := by
  have hl := hr.s.len Secu.cells_len (by omega)
  have hx : cf.secs[(i - 1).toNat]? = some (cf.secs[(i - 1).toNat]'(by omega)) := List.getElem?_eq_getElem _
  refine (sec_yes A1 A2 A3 n1 n2 n3 cp1 cp2 cp3 cf i w hr h1 h2 _ hx).mono ?_
  rintro e w' ⟨rfl, hb⟩
  exact ⟨_, _, rfl, hb⟩

def hasB (n : Nat) (i : Int) : Bool := decide (1 ≤ i) && decide (i ≤ n)
theorem hasB_t {n : Nat} {i : Int} (h : hasB n i = true) : 1 ≤ i ∧ i ≤ n := by simpa [hasB] using h
theorem hasB_f {n : Nat} {i : Int} (h : hasB n i = false) : i < 1 ∨ (n : Int) < i := by simp [hasB] at h; omega
def whoC (n : Nat) (t : Trad) : Int := if (hasB n t.buyer && hasB n t.seller) = true then (if t.buyer = t.seller then 1 else 0) else 9

set_option maxHeartbeats 1000000 in
theorem who_any (A1 A2 A3 : Option Addr) (n1 n2 n3 cp1 cp2 cp3 : Nat) (cf : Conf) (t : Trad) (w : World) (hr : CfRd w A1 n1 A2 n2 A3 n3 cf) :
    Calls Try.prog 128 #[.agg #[.slice A1 n1 cp1, .slice A2 n2 cp2, .slice A3 n3 cp3, .int .i64 cf.line, .int .i64 cf.capital, .int .i64 cf.lead, .int .i64 cf.trades, .int .i64 cf.bids], .agg #[.int .i64 t.id, .int .i64 t.buyer, .int .i64 t.seller, .int .i64 t.sec, .int .i64 t.qty, .int .i64 t.price]] w fun e w' => e = .returned (.int .i64 (whoC n1 t)) ∧ Below w.heap.size w w' := by
  obtain ⟨W, hW⟩ : ∃ W, Hid (((w.alloc (.cells #[.slice A1 n1 cp1, .slice A2 n2 cp2, .slice A3 n3 cp3, .int .i64 cf.line, .int .i64 cf.capital, .int .i64 cf.lead, .int .i64 cf.trades, .int .i64 cf.bids] 78)).alloc (.cells #[.int .i64 t.id, .int .i64 t.buyer, .int .i64 t.seller, .int .i64 t.sec, .int .i64 t.qty, .int .i64 t.price] 87)).alloc (.cells #[.int .i64 t.buyer, .int .i64 t.seller] 3) = W) := ⟨_, rfl⟩
  have hB0 : Below w.heap.size w W := by rw [← hW.out]; exact (((Below.refl _ _).alloc (Nat.le_refl _) _).alloc (by simp) _).alloc (by simp; omega) _
  have hs0 : W.heap.size = w.heap.size + 3 := by rw [← hW.out]; simp
  have hr0 := hr.past hB0
  have bc0 : Blk W w.heap.size 78 #[.slice A1 n1 cp1, .slice A2 n2 cp2, .slice A3 n3 cp3, .int .i64 cf.line, .int .i64 cf.capital, .int .i64 cf.lead, .int .i64 cf.trades, .int .i64 cf.bids] := by
    rw [← hW.out]; exact ((Blk.new w _ _ _ rfl).alloc _).alloc _
  have bt0 : Blk W (w.heap.size + 1) 87 #[.int .i64 t.id, .int .i64 t.buyer, .int .i64 t.seller, .int .i64 t.sec, .int .i64 t.qty, .int .i64 t.price] := by
    rw [← hW.out]; exact (Blk.new (w.alloc (.cells #[.slice A1 n1 cp1, .slice A2 n2 cp2, .slice A3 n3 cp3, .int .i64 cf.line, .int .i64 cf.capital, .int .i64 cf.lead, .int .i64 cf.trades, .int .i64 cf.bids] 78)) _ _ _ (by simp)).alloc _
  have bl0 : Blk W (w.heap.size + 2) 3 #[.int .i64 t.buyer, .int .i64 t.seller] := by
    rw [← hW.out]; exact Blk.new _ _ _ _ (by simp)
  go_enter Try.func128, Try.ntmps128
  go_wp2_with fail
  rw [hW.out]
  go_loopw [15] (fun i wr => ∃ k : Nat, k ≤ 2 ∧ i = .int .i64 k ∧ Hid ((1 ≤ k → hasB n1 t.buyer = true) ∧ (2 ≤ k → hasB n1 t.seller = true)) ∧ Below W.heap.size W wr) (fun i _ => 2 - (intOf i).toNat)
  case atStart => exact ⟨0, by omega, rfl, Lib.hid ⟨fun h => absurd h (by omega), fun h => absurd h (by omega)⟩, Below.refl _ _⟩
  case round =>
    obtain ⟨k, hk, rfl, hok, hb⟩ := hrel
    have hs := hb.size
    have hr1 := hr0.past hb
    have bc1 := bc0.past hb
    have bt1 := bt0.past hb
    have bl1 := bl0.past hb
    have e0 := (bc1).cell 0
    have e1 := (bc1).cell 1
    have e2 := (bc1).cell 2
    have e3 := (bc1).cell 3
    have e4 := (bc1).cell 4
    have e5 := (bc1).cell 5
    have e6 := (bc1).cell 6
    have e7 := (bc1).cell 7
    simp at e0 e1 e2 e3 e4 e5 e6 e7
    have f0 := (bt1).cell 0
    have f1 := (bt1).cell 1
    have f2 := (bt1).cell 2
    have f3 := (bt1).cell 3
    have f4 := (bt1).cell 4
    have f5 := (bt1).cell 5
    simp at f0 f1 f2 f3 f4 f5
    have g0 := (bl1).cell 0
    have g1 := (bl1).cell 1
    simp at g0 g1
    have hB1 := Below.past hB0 hb hB0.size
    obtain rfl | rfl | rfl : k = 0 ∨ k = 1 ∨ k = 2 := by omega
    · by_cases h : hasB n1 t.buyer = true
      · go_wp2_with fail
        refine (member_ok A1 A2 A3 n1 n2 n3 cp1 cp2 cp3 cf t.buyer _ hr1 (hasB_t h).1 (hasB_t h).2).mono ?_
        rintro e w2 ⟨a, b, rfl, hb2⟩
        go_wp2_with fail
        go_roundw
        case rel => exact ⟨1, by omega, rfl, Lib.hid ⟨fun _ => h, fun h => absurd h (by omega)⟩, (Below.past hb hb2 hs).alloc (by have := hb2.size; omega) _⟩
        case measure => simp [intOf]
      · have h : hasB n1 t.buyer = false := by simpa using h
        have HN : Hid (whoC n1 t = 9) := Lib.hid (by simp [whoC, h])
        go_wp2_with fail
        refine (member_no A1 A2 A3 n1 n2 n3 cp1 cp2 cp3 cf t.buyer _ (hasB_f h)).mono ?_
        rintro e w2 ⟨rfl, hb2⟩
        go_wp2_with fail
        go_ret
        rw [HN.out]
        exact ⟨rfl, (Below.past hB1 hb2 hB1.size).alloc (by have := hB1.size; have := hb2.size; omega) _⟩
    · by_cases h : hasB n1 t.seller = true
      · go_wp2_with fail
        refine (member_ok A1 A2 A3 n1 n2 n3 cp1 cp2 cp3 cf t.seller _ hr1 (hasB_t h).1 (hasB_t h).2).mono ?_
        rintro e w2 ⟨a, b, rfl, hb2⟩
        go_wp2_with fail
        go_roundw
        case rel => exact ⟨2, by omega, rfl, Lib.hid ⟨fun _ => hok.out.1 (by omega), fun _ => h⟩, (Below.past hb hb2 hs).alloc (by have := hb2.size; omega) _⟩
        case measure => simp [intOf]
      · have h : hasB n1 t.seller = false := by simpa using h
        have HN : Hid (whoC n1 t = 9) := Lib.hid (by simp [whoC, h])
        go_wp2_with fail
        refine (member_no A1 A2 A3 n1 n2 n3 cp1 cp2 cp3 cf t.seller _ (hasB_f h)).mono ?_
        rintro e w2 ⟨rfl, hb2⟩
        go_wp2_with fail
        go_ret
        rw [HN.out]
        exact ⟨rfl, (Below.past hB1 hb2 hB1.size).alloc (by have := hB1.size; have := hb2.size; omega) _⟩
    · have o1 := hok.out.1 (by omega)
      have o2 := hok.out.2 (by omega)
      by_cases h : t.buyer = t.seller
      · have HN : Hid (whoC n1 t = 1) := Lib.hid (by simp [whoC, o1, o2, h])
        have q : (t.buyer == t.seller) = true := by simpa using h
        clear h
        go_wp2_with fail
        go_ret
        rw [HN.out]
        exact ⟨rfl, hB1⟩
      · have HN : Hid (whoC n1 t = 0) := Lib.hid (by simp [whoC, o1, o2, h])
        have q : (t.buyer == t.seller) = false := by simpa using h
        clear h
        go_wp2_with fail
        go_ret
        rw [HN.out]
        exact ⟨rfl, hB1⟩

/-- What is wrong with a trade, first. -/
def checkT (n1 n2 : Nat) (t : Trad) : Int :=
  if whoC n1 t = 0 then (if hasB n2 t.sec = true then (if (decide (t.qty < 1) || decide (t.price < 1)) = true then 1 else if greatB t = true then 2 else 0) else 10) else whoC n1 t

set_option maxHeartbeats 1000000 in
theorem checkT_any (A1 A2 A3 : Option Addr) (n1 n2 n3 cp1 cp2 cp3 : Nat) (cf : Conf) (t : Trad) (w : World) (hr : CfRd w A1 n1 A2 n2 A3 n3 cf) (hq : inI t.qty) (hp : inI t.price) :
    Calls Try.prog 95 #[.agg #[.slice A1 n1 cp1, .slice A2 n2 cp2, .slice A3 n3 cp3, .int .i64 cf.line, .int .i64 cf.capital, .int .i64 cf.lead, .int .i64 cf.trades, .int .i64 cf.bids], .agg #[.int .i64 t.id, .int .i64 t.buyer, .int .i64 t.seller, .int .i64 t.sec, .int .i64 t.qty, .int .i64 t.price]] w fun e w' => e = .returned (.int .i64 (checkT n1 n2 t)) ∧ Below w.heap.size w w' := by
  have hB0 : Below w.heap.size w ((w.alloc (.cells #[.slice A1 n1 cp1, .slice A2 n2 cp2, .slice A3 n3 cp3, .int .i64 cf.line, .int .i64 cf.capital, .int .i64 cf.lead, .int .i64 cf.trades, .int .i64 cf.bids] 78)).alloc (.cells #[.int .i64 t.id, .int .i64 t.buyer, .int .i64 t.seller, .int .i64 t.sec, .int .i64 t.qty, .int .i64 t.price] 87)) := ((Below.refl _ _).alloc (Nat.le_refl _) _).alloc (by simp) _
  have hr0 := hr.past hB0
  have bc0 := (Blk.new w 78 #[.slice A1 n1 cp1, .slice A2 n2 cp2, .slice A3 n3 cp3, .int .i64 cf.line, .int .i64 cf.capital, .int .i64 cf.lead, .int .i64 cf.trades, .int .i64 cf.bids] w.heap.size rfl).alloc (.cells #[.int .i64 t.id, .int .i64 t.buyer, .int .i64 t.seller, .int .i64 t.sec, .int .i64 t.qty, .int .i64 t.price] 87)
  have bt0 := Blk.new (w.alloc (.cells #[.slice A1 n1 cp1, .slice A2 n2 cp2, .slice A3 n3 cp3, .int .i64 cf.line, .int .i64 cf.capital, .int .i64 cf.lead, .int .i64 cf.trades, .int .i64 cf.bids] 78)) 87 #[.int .i64 t.id, .int .i64 t.buyer, .int .i64 t.seller, .int .i64 t.sec, .int .i64 t.qty, .int .i64 t.price] (w.heap.size + 1) (by simp)
  obtain ⟨v, hv⟩ : ∃ v, Hid (checkT n1 n2 t = v) := ⟨_, rfl⟩
  obtain ⟨u, hu⟩ : ∃ v, Hid (whoC n1 t = v) := ⟨_, rfl⟩
  have hc : Hid ((if u = 0 then (if hasB n2 t.sec = true then (if (decide (t.qty < 1) || decide (t.price < 1)) = true then 1 else if greatB t = true then 2 else 0) else 10) else u) = v) := Lib.hid (by rw [← hu.out, ← hv.out]; rfl)
  rw [hv.out]
  go_enter Try.func95, Try.ntmps95
  go_wp2_with fail
  refine (who_any A1 A2 A3 n1 n2 n3 cp1 cp2 cp3 cf t _ hr0).mono ?_
  rw [hu.out]
  rintro e w1 ⟨rfl, hb1⟩
  have hr1 := hr0.past hb1
  have bc1 := bc0.past hb1
  have bt1 := bt0.past hb1
  have hB1 := Below.past hB0 hb1 hB0.size
  have e0 := (bc1).cell 0
  have e1 := (bc1).cell 1
  have e2 := (bc1).cell 2
  have e3 := (bc1).cell 3
  have e4 := (bc1).cell 4
  have e5 := (bc1).cell 5
  have e6 := (bc1).cell 6
  have e7 := (bc1).cell 7
  simp at e0 e1 e2 e3 e4 e5 e6 e7
  have f0 := (bt1).cell 0
  have f1 := (bt1).cell 1
  have f2 := (bt1).cell 2
  have f3 := (bt1).cell 3
  have f4 := (bt1).cell 4
  have f5 := (bt1).cell 5
  simp at f0 f1 f2 f3 f4 f5
  by_cases h1 : u = 0
  · subst h1
    by_cases h2 : hasB n2 t.sec = true
    · obtain ⟨s1, s2⟩ := hasB_t h2
      go_wp2_with fail
      refine (sec_ok A1 A2 A3 n1 n2 n3 cp1 cp2 cp3 cf t.sec _ hr1 s1 s2).mono ?_
      rintro e w2 ⟨a, b, rfl, hb2⟩
      have bt2 := bt1.past hb2
      have hs2 : w.heap.size + 2 ≤ w2.heap.size := by have x1 := hb1.size; have x2 := hb2.size; simp at x1 x2; omega
      have hB2 := Below.past hB1 hb2 hB1.size
      clear e0 e1 e2 e3 e4 e5 e6 e7 f0 f1 f2 f3 f4 f5
      have bt3 := bt2.alloc (.cells #[.int .i64 a, .int .i64 b] 137)
      have hB3 := hB2.alloc hB2.size (.cells #[.int .i64 a, .int .i64 b] 137)
      have f0 : ∀ o : Obj, (w2.alloc o).cell? ⟨w.heap.size + 1, 0, none⟩ = some (.int .i64 t.id) := fun o => (bt2.alloc o).cell 0
      have f1 : ∀ o : Obj, (w2.alloc o).cell? ⟨w.heap.size + 1, 1, none⟩ = some (.int .i64 t.buyer) := fun o => (bt2.alloc o).cell 1
      have f2 : ∀ o : Obj, (w2.alloc o).cell? ⟨w.heap.size + 1, 2, none⟩ = some (.int .i64 t.seller) := fun o => (bt2.alloc o).cell 2
      have f3 : ∀ o : Obj, (w2.alloc o).cell? ⟨w.heap.size + 1, 3, none⟩ = some (.int .i64 t.sec) := fun o => (bt2.alloc o).cell 3
      have f4 : ∀ o : Obj, (w2.alloc o).cell? ⟨w.heap.size + 1, 4, none⟩ = some (.int .i64 t.qty) := fun o => (bt2.alloc o).cell 4
      have f5 : ∀ o : Obj, (w2.alloc o).cell? ⟨w.heap.size + 1, 5, none⟩ = some (.int .i64 t.price) := fun o => (bt2.alloc o).cell 5
      by_cases h3 : t.qty < 1
      · have q3 := dec_t h3
        have HN : Hid (1 = v) := Lib.hid (by rw [← hc.out]; simp [h2, h3])
        go_wp2_with fail
        go_ret
        rw [← HN.out]
        exact ⟨rfl, hB3⟩
      · have q3 := dec_f h3
        by_cases h4 : t.price < 1
        · have q4 := dec_t h4
          have HN : Hid (1 = v) := Lib.hid (by rw [← hc.out]; simp [h2, h4])
          go_wp2_with fail
          go_ret
          rw [← HN.out]
          exact ⟨rfl, hB3⟩
        · have q4 := dec_f h4
          have HN : Hid ((if greatB t = true then (2 : Int) else 0) = v) := Lib.hid (by rw [← hc.out]; simp [h2, h3, h4])
          obtain ⟨g, hg⟩ : ∃ g, Hid (greatB t = g) := ⟨_, rfl⟩
          rw [hg.out] at HN
          clear h3 h4
          go_wp2_with fail
          refine (great_any t hq hp _).mono ?_
          rw [hg.out]
          rintro e w4 ⟨rfl, hb4⟩
          cases g
          · go_wp2_with fail
            go_ret
            rw [← HN.out]
            exact ⟨rfl, Below.past hB3 hb4 hB3.size⟩
          · go_wp2_with fail
            go_ret
            rw [← HN.out]
            exact ⟨rfl, Below.past hB3 hb4 hB3.size⟩
    · have h2 : hasB n2 t.sec = false := by simpa using h2
      have HN : Hid (10 = v) := Lib.hid (by rw [← hc.out]; simp [h2])
      go_wp2_with fail
      refine (sec_no A1 A2 A3 n1 n2 n3 cp1 cp2 cp3 cf t.sec _ (hasB_f h2)).mono ?_
      rintro e w2 ⟨rfl, hb2⟩
      have hB2 := Below.past hB1 hb2 hB1.size
      go_wp2_with fail
      go_ret
      rw [← HN.out]
      exact ⟨rfl, hB2.alloc hB2.size _⟩
  · have HN : Hid (u = v) := Lib.hid (by rw [← hc.out, if_neg h1])
    have q : (u == 0) = false := by simpa using h1
    go_wp2_with fail
    go_ret
    rw [← HN.out]
    exact ⟨rfl, hB1⟩
end Go.Proofs.Ytelbolhckhdioaa
