import Derived.Test.YtelbolhckhdioaaGreatTradM
namespace Go.Proofs.YtelbolhckhdioaaGreat
open Go.RowKit

set_option maxHeartbeats 2000000 in
theorem refCheckT_any (A1 A2 A3 : Option Addr) (n1 n2 n3 cp1 cp2 cp3 : Nat) (cf : Conf) (t : Trad) (w : World) (hq : inI t.qty) (hp : inI t.price) :
    Calls Tryz.prog 46 #[.agg #[.slice A1 n1 cp1, .slice A2 n2 cp2, .slice A3 n3 cp3, .int .i64 cf.line, .int .i64 cf.capital, .int .i64 cf.lead, .int .i64 cf.trades, .int .i64 cf.bids], .agg #[.int .i64 t.id, .int .i64 t.buyer, .int .i64 t.seller, .int .i64 t.sec, .int .i64 t.qty, .int .i64 t.price]] w fun e w' => e = .returned (.int .i64 (checkT n1 n2 t)) ∧ Below w.heap.size w w' := by
  have hB0 : Below w.heap.size w ((w.alloc (.cells #[.slice A1 n1 cp1, .slice A2 n2 cp2, .slice A3 n3 cp3, .int .i64 cf.line, .int .i64 cf.capital, .int .i64 cf.lead, .int .i64 cf.trades, .int .i64 cf.bids] 26)).alloc (.cells #[.int .i64 t.id, .int .i64 t.buyer, .int .i64 t.seller, .int .i64 t.sec, .int .i64 t.qty, .int .i64 t.price] 38)) := ((Below.refl _ _).alloc (Nat.le_refl _) _).alloc (by simp) _
  have bt0 := Blk.new (w.alloc (.cells #[.slice A1 n1 cp1, .slice A2 n2 cp2, .slice A3 n3 cp3, .int .i64 cf.line, .int .i64 cf.capital, .int .i64 cf.lead, .int .i64 cf.trades, .int .i64 cf.bids] 26)) 38 #[.int .i64 t.id, .int .i64 t.buyer, .int .i64 t.seller, .int .i64 t.sec, .int .i64 t.qty, .int .i64 t.price] (w.heap.size + 1) (by simp)
  by_cases a1 : t.buyer < 1
  · have HN : Hid (checkT n1 n2 t = 9) := Lib.hid (by have hz : hasB n1 t.buyer = false := (by simp [hasB]; omega); simp [checkT, whoC, hz])
    have q1 := dec_t a1
    go_enter Tryz.func46, Tryz.ntmps46
    go_wp2_with fail
    go_ret
    rw [HN.out]; exact ⟨rfl, hB0⟩
  have q1 := dec_f a1
  by_cases a2 : (n1 : Int) < t.buyer
  · have HN : Hid (checkT n1 n2 t = 9) := Lib.hid (by have hz : hasB n1 t.buyer = false := (by simp [hasB]; omega); simp [checkT, whoC, hz])
    have q2 := dec_t a2
    go_enter Tryz.func46, Tryz.ntmps46
    go_wp2_with fail
    go_ret
    rw [HN.out]; exact ⟨rfl, hB0⟩
  have q2 := dec_f a2
  by_cases a3 : t.seller < 1
  · have HN : Hid (checkT n1 n2 t = 9) := Lib.hid (by have hz : hasB n1 t.seller = false := (by simp [hasB]; omega); simp [checkT, whoC, hz])
    have q3 := dec_t a3
    go_enter Tryz.func46, Tryz.ntmps46
    go_wp2_with fail
    go_ret
    rw [HN.out]; exact ⟨rfl, hB0⟩
  have q3 := dec_f a3
  by_cases a4 : (n1 : Int) < t.seller
  · have HN : Hid (checkT n1 n2 t = 9) := Lib.hid (by have hz : hasB n1 t.seller = false := (by simp [hasB]; omega); simp [checkT, whoC, hz])
    have q4 := dec_t a4
    go_enter Tryz.func46, Tryz.ntmps46
    go_wp2_with fail
    go_ret
    rw [HN.out]; exact ⟨rfl, hB0⟩
  have q4 := dec_f a4
  have b1 : hasB n1 t.buyer = true := by simp [hasB]; omega
  have b2 : hasB n1 t.seller = true := by simp [hasB]; omega
  by_cases a5 : t.buyer = t.seller
  · have HN : Hid (checkT n1 n2 t = 1) := Lib.hid (by rw [a5] at b1; simp [checkT, whoC, b1, a5])
    have q5 : (t.buyer == t.seller) = true := by simpa using a5
    clear a5
    go_enter Tryz.func46, Tryz.ntmps46
    go_wp2_with fail
    go_ret
    rw [HN.out]; exact ⟨rfl, hB0⟩
  have q5 : (t.buyer == t.seller) = false := by simpa using a5
  have w0 : Hid (whoC n1 t = 0) := Lib.hid (by simp [whoC, b1, b2, a5])
  clear a1 a2 a3 a4 a5 b1 b2
  by_cases a6 : t.sec < 1
  · have HN : Hid (checkT n1 n2 t = 10) := Lib.hid (by have hz : hasB n2 t.sec = false := (by simp [hasB]; omega); simp [checkT, w0.out, hz])
    have q6 := dec_t a6
    go_enter Tryz.func46, Tryz.ntmps46
    go_wp2_with fail
    go_ret
    rw [HN.out]; exact ⟨rfl, hB0⟩
  have q6 := dec_f a6
  by_cases a7 : (n2 : Int) < t.sec
  · have HN : Hid (checkT n1 n2 t = 10) := Lib.hid (by have hz : hasB n2 t.sec = false := (by simp [hasB]; omega); simp [checkT, w0.out, hz])
    have q7 := dec_t a7
    go_enter Tryz.func46, Tryz.ntmps46
    go_wp2_with fail
    go_ret
    rw [HN.out]; exact ⟨rfl, hB0⟩
  have q7 := dec_f a7
  have b3 : Hid (hasB n2 t.sec = true) := Lib.hid (by simp [hasB]; omega)
  clear a6 a7
  by_cases a8 : t.qty ≤ 0
  · have HN : Hid (checkT n1 n2 t = 1) := Lib.hid (by have hz : t.qty < 1 := (by omega); simp [checkT, w0.out, b3.out, hz])
    have q8 := dec_t a8
    go_enter Tryz.func46, Tryz.ntmps46
    go_wp2_with fail
    go_ret
    rw [HN.out]; exact ⟨rfl, hB0⟩
  have q8 := dec_f a8
  by_cases a9 : t.price ≤ 0
  · have HN : Hid (checkT n1 n2 t = 1) := Lib.hid (by have hz : t.price < 1 := (by omega); simp [checkT, w0.out, b3.out, hz])
    have q9 := dec_t a9
    go_enter Tryz.func46, Tryz.ntmps46
    go_wp2_with fail
    go_ret
    rw [HN.out]; exact ⟨rfl, hB0⟩
  have q9 := dec_f a9
  obtain ⟨v, hv⟩ : ∃ v, Hid (amount (t.qty * t.price) = v) := ⟨_, rfl⟩
  obtain ⟨o, ho⟩ : ∃ v, Hid (over (t.qty * t.price) = v) := ⟨_, rfl⟩
  have HC : Hid (checkT n1 n2 t = if (decide (o ≠ 0) || (decide (288230376151711744 < v) || decide (274877906944 < t.qty))) = true then 2 else 0) := Lib.hid (by
    have x1 : ¬ t.qty < 1 := by omega
    have x2 : ¬ t.price < 1 := by omega
    have x3 : greatB t = (decide (o ≠ 0) || (decide (288230376151711744 < v) || decide (274877906944 < t.qty))) := by rw [greatB, hv.out, ho.out]
    rw [← x3, checkT, w0.out, if_pos rfl, if_pos b3.out, if_neg (by simp [x1, x2])])
  clear a8 a9
  by_cases a10 : 274877906944 < t.qty
  · have HN : Hid (checkT n1 n2 t = 2) := Lib.hid (by rw [HC.out]; simp [a10])
    have q10 := dec_t a10
    go_enter Tryz.func46, Tryz.ntmps46
    go_wp2_with fail
    refine (refMul_any _ _ hq hp _).mono ?_
    rw [hv.out, ho.out]
    rintro e w1 ⟨rfl, hb1⟩
    have bt1 := bt0.past hb1
    have f0 := (bt1).cell 0
    have f1 := (bt1).cell 1
    have f2 := (bt1).cell 2
    have f3 := (bt1).cell 3
    have f4 := (bt1).cell 4
    have f5 := (bt1).cell 5
    simp at f0 f1 f2 f3 f4 f5
    go_wp2_with fail
    go_ret
    rw [HN.out]; exact ⟨rfl, Below.past hB0 hb1 hB0.size⟩
  have q10 := dec_f a10
  by_cases a11 : o = 0
  · by_cases a12 : 288230376151711744 < v
    · have HN : Hid (checkT n1 n2 t = 2) := Lib.hid (by rw [HC.out]; simp [a12])
      have q12 := dec_t a12
      go_enter Tryz.func46, Tryz.ntmps46
      go_wp2_with fail
      refine (refMul_any _ _ hq hp _).mono ?_
      rw [hv.out, ho.out]
      rintro e w1 ⟨rfl, hb1⟩
      have bt1 := bt0.past hb1
      have f0 := (bt1).cell 0
      have f1 := (bt1).cell 1
      have f2 := (bt1).cell 2
      have f3 := (bt1).cell 3
      have f4 := (bt1).cell 4
      have f5 := (bt1).cell 5
      simp at f0 f1 f2 f3 f4 f5
      subst a11
      go_wp2_with fail
      go_ret
      rw [HN.out]; exact ⟨rfl, Below.past hB0 hb1 hB0.size⟩
    · have HN : Hid (checkT n1 n2 t = 0) := Lib.hid (by rw [HC.out]; simp [a10, a11, a12])
      have q12 := dec_f a12
      go_enter Tryz.func46, Tryz.ntmps46
      go_wp2_with fail
      refine (refMul_any _ _ hq hp _).mono ?_
      rw [hv.out, ho.out]
      rintro e w1 ⟨rfl, hb1⟩
      have bt1 := bt0.past hb1
      have f0 := (bt1).cell 0
      have f1 := (bt1).cell 1
      have f2 := (bt1).cell 2
      have f3 := (bt1).cell 3
      have f4 := (bt1).cell 4
      have f5 := (bt1).cell 5
      simp at f0 f1 f2 f3 f4 f5
      subst a11
      go_wp2_with fail
      go_ret
      rw [HN.out]; exact ⟨rfl, Below.past hB0 hb1 hB0.size⟩
  · have HN : Hid (checkT n1 n2 t = 2) := Lib.hid (by rw [HC.out]; simp [a11])
    have q11 : (o == 0) = false := by simpa using a11
    go_enter Tryz.func46, Tryz.ntmps46
    go_wp2_with fail
    refine (refMul_any _ _ hq hp _).mono ?_
    rw [hv.out, ho.out]
    rintro e w1 ⟨rfl, hb1⟩
    have bt1 := bt0.past hb1
    have f0 := (bt1).cell 0
    have f1 := (bt1).cell 1
    have f2 := (bt1).cell 2
    have f3 := (bt1).cell 3
    have f4 := (bt1).cell 4
    have f5 := (bt1).cell 5
    simp at f0 f1 f2 f3 f4 f5
    go_wp2_with fail
    go_ret
    rw [HN.out]; exact ⟨rfl, Below.past hB0 hb1 hB0.size⟩
end Go.Proofs.YtelbolhckhdioaaGreat
