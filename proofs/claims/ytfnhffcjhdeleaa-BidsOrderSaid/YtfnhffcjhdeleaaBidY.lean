import Derived.Test.YtfnhffcjhdeleaaBidX
import Derived.Test.YtfnhffcjhdeleaaBidH
namespace Go.Proofs.Ytfnhffcjhdeleaa
open Go.RowKit

set_option maxHeartbeats 2000000 in
set_option maxRecDepth 100000 in
theorem bidsOrder_many (A1 A2 A3 : Option Addr) (n1 n2 n3 cp1 cp2 cp3 : Nat) (cf : Conf) (A : Option Addr) (n c : Nat) (x0 x1 : Int) (w : World) (hf : ¬ (fewB n1 n2 n3 = true ∧ wrongK cf = 8 ∧ n ≤ 30)) (hcr : fewB n1 n2 n3 = true → CfRd w A1 n1 A2 n2 A3 n3 cf) :
    Calls Try.prog 11 #[.agg #[.slice A1 n1 cp1, .slice A2 n2 cp2, .slice A3 n3 cp3, .int .i64 cf.line, .int .i64 cf.capital, .int .i64 cf.lead, .int .i64 cf.trades, .int .i64 cf.bids], .slice A n c, .agg #[.int .i64 x0, .int .i64 x1]] w fun e w' => e = .returned (.bool true) ∧ Below w.heap.size w w' := by
  obtain ⟨W, hW⟩ : ∃ W, Hid ((w.alloc (.cells #[.slice A1 n1 cp1, .slice A2 n2 cp2, .slice A3 n3 cp3, .int .i64 cf.line, .int .i64 cf.capital, .int .i64 cf.lead, .int .i64 cf.trades, .int .i64 cf.bids] 89)).alloc (.cells #[.int .i64 x0, .int .i64 x1] 100) = W) := ⟨_, Lib.hid rfl⟩
  have hB0 : Below w.heap.size w W := by rw [← hW.out]; exact ((Below.refl _ _).alloc (Nat.le_refl _) _).alloc (by simp) _
  have bc0 : Blk W w.heap.size 89 #[.slice A1 n1 cp1, .slice A2 n2 cp2, .slice A3 n3 cp3, .int .i64 cf.line, .int .i64 cf.capital, .int .i64 cf.lead, .int .i64 cf.trades, .int .i64 cf.bids] := by
    rw [← hW.out]; exact (Blk.new w _ _ _ rfl).alloc _
  have HCB := Lib.hid bc0
  have e0 := (bc0).cell 0
  have e1 := (bc0).cell 1
  have e2 := (bc0).cell 2
  have e3 := (bc0).cell 3
  have e4 := (bc0).cell 4
  have e5 := (bc0).cell 5
  have e6 := (bc0).cell 6
  have e7 := (bc0).cell 7
  simp at e0 e1 e2 e3 e4 e5 e6 e7
  clear bc0
  obtain ⟨v, hv⟩ : ∃ v, Hid (fewB n1 n2 n3 = v) := ⟨_, Lib.hid rfl⟩
  obtain ⟨K, HK⟩ : ∃ K, Hid (wrongK cf = K) := ⟨_, Lib.hid rfl⟩
  have h8' := wrongK_le cf
  rw [HK.out] at h8'
  have HF := Lib.hid hf
  have HCR := Lib.hid hcr
  clear hf hcr
  go_enter Try.func11, Try.ntmps11
  go_upto_region 1 with fail
  rw [hW.out]
  go_wp2_with fail
  refine (few_any A1 A2 A3 n1 n2 n3 cp1 cp2 cp3 cf _).mono ?_
  rw [hv.out]
  rintro e w1 ⟨rfl, hb1⟩
  have hb2 := Below.past hB0 hb1 hB0.size
  have hs2 := hb2.size
  have hfin := HF.out
  rw [hv.out, HK.out] at hfin
  cases v with
  | false =>
    clear hfin e0 e1 e2 e3 e4 e5 e6 e7
    go_wp2_with fail
    refine (awake24 _).mono ?_
    rintro e w3 ⟨rfl, hb3⟩
    have hb4 := Below.past hb2 hb3 hs2
    go_wp2_with fail
    go_ret
    exact ⟨rfl, hb4⟩
  | true =>
    have HW := Lib.hid (refWrong_any A1 A2 A3 n1 n2 n3 cp1 cp2 cp3 cf w1 ((HCR.out hv.out).past (Below.past hB0 hb1 hB0.size)))
    rw [HK.out] at HW
    have bc1 := HCB.out.past hb1
    clear e0 e1 e2 e3 e4 e5 e6 e7
    have e0 := (bc1).cell 0
    have e1 := (bc1).cell 1
    have e2 := (bc1).cell 2
    have e3 := (bc1).cell 3
    have e4 := (bc1).cell 4
    have e5 := (bc1).cell 5
    have e6 := (bc1).cell 6
    have e7 := (bc1).cell 7
    simp at e0 e1 e2 e3 e4 e5 e6 e7
    clear bc1
    go_wp2_with fail
    refine HW.out.mono ?_
    rintro e w5 ⟨rfl, hb5⟩
    have hb6 := Below.past hb2 hb5 hs2
    have hs6 := hb6.size
    clear e0 e1 e2 e3 e4 e5 e6 e7
    by_cases h8 : K = 8
    · subst h8
      have hw1 : (word 8).toList = [] := by have h := word_empty 8; simpa using h
      have hw2 : (word 8) = ⟨#[]⟩ := rfl
      have q1 : (30 : Int) < (n : Int) := by
        have : ¬ n ≤ 30 := fun h => hfin ⟨by simp, by simp, h⟩
        omega
      clear hfin
      go_wp2_with fail
      refine (awake24 _).mono ?_
      rintro e w3 ⟨rfl, hb3⟩
      have hb4 := Below.past hb6 hb3 hs6
      go_wp2_with fail
      go_ret
      exact ⟨rfl, hb4⟩
    · have hw1 : ((word K).toList == []) = false := by rw [word_empty, decide_eq_false (by omega)]
      have hw2 : ((word K).toList.isEmpty) = ((word K).toList == []) := by cases (word K).toList <;> rfl
      rw [hw1] at hw2
      have hw3 : decide ((word K).toList = []) = ((word K).toList == []) := by cases (word K).toList <;> simp
      rw [hw1] at hw3
      simp at hw3
      clear hw1 h8 h8' hfin
      go_wp2_with fail
      refine (awake24 _).mono ?_
      rintro e w3 ⟨rfl, hb3⟩
      have hb4 := Below.past hb6 hb3 hs6
      go_wp2_with fail
      go_ret
      exact ⟨rfl, hb4⟩
end Go.Proofs.Ytfnhffcjhdeleaa
