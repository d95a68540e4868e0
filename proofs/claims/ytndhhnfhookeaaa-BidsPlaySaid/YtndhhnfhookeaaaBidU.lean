import Derived.Test.YtndhhnfhookeaaaBidT
namespace Go.Proofs.Ytndhhnfhookeaaa
open Go.RowKit

set_option maxHeartbeats 2000000 in
set_option maxRecDepth 100000 in
theorem bidsPlay_wrong (A1 A2 A3 : Option Addr) (n1 n2 n3 cp1 cp2 cp3 : Nat) (cf : Conf) (a0 : Option Addr) (m0 k0 : Nat) (a1 : Option Addr) (m1 k1 : Nat) (sec : Int) (w : World) (hr : CfRd w A1 n1 A2 n2 A3 n3 cf) (hf : fewB n1 n2 n3 = true) (hm0 : m0 ≤ 50) (hm1 : m1 ≤ 50) (hc : checkC cf ≠ 0) :
    Calls Try.prog 12 #[.agg #[.slice A1 n1 cp1, .slice A2 n2 cp2, .slice A3 n3 cp3, .int .i64 cf.line, .int .i64 cf.capital, .int .i64 cf.lead, .int .i64 cf.trades, .int .i64 cf.bids], .agg #[.slice a0 m0 k0, .slice a1 m1 k1], .int .i64 sec] w fun e w' => e = .returned (.bool true) ∧ Below w.heap.size w w' := by
  have hc1 : checkC cf = 1 := by unfold checkC at hc ⊢; split at hc <;> simp_all
  have h8 : ¬ wrongK cf = 8 := fun h => hc (by unfold checkC; rw [if_pos h])
  have h8' := wrongK_le cf
  have HNC := Lib.hid hc
  have HC1 := Lib.hid hc1
  have HF := Lib.hid hf
  obtain ⟨K, HK⟩ : ∃ K, Hid (wrongK cf = K) := ⟨_, Lib.hid rfl⟩
  rw [HK.out] at h8 h8'
  clear hc hc1 hf
  obtain ⟨W, hW⟩ : ∃ W, Hid ((w.alloc (.cells #[.slice A1 n1 cp1, .slice A2 n2 cp2, .slice A3 n3 cp3, .int .i64 cf.line, .int .i64 cf.capital, .int .i64 cf.lead, .int .i64 cf.trades, .int .i64 cf.bids] 51)).alloc (.cells #[.slice a0 m0 k0, .slice a1 m1 k1] 104) = W) := ⟨_, Lib.hid rfl⟩
  have hB0 : Below w.heap.size w W := by rw [← hW.out]; exact ((Below.refl _ _).alloc (Nat.le_refl _) _).alloc (by simp) _
  have bc0 : Blk W w.heap.size 51 #[.slice A1 n1 cp1, .slice A2 n2 cp2, .slice A3 n3 cp3, .int .i64 cf.line, .int .i64 cf.capital, .int .i64 cf.lead, .int .i64 cf.trades, .int .i64 cf.bids] := by
    rw [← hW.out]; exact (Blk.new w _ _ _ rfl).alloc _
  have bl0 : Blk W (w.heap.size + 1) 104 #[.slice a0 m0 k0, .slice a1 m1 k1] := by
    rw [← hW.out]; exact Blk.new (w.alloc (.cells #[.slice A1 n1 cp1, .slice A2 n2 cp2, .slice A3 n3 cp3, .int .i64 cf.line, .int .i64 cf.capital, .int .i64 cf.lead, .int .i64 cf.trades, .int .i64 cf.bids] 51)) _ _ _ (by simp)
  have HR0 := Lib.hid (hr.past hB0)
  have e0 := bc0.cell 0
  have e1 := bc0.cell 1
  have e2 := bc0.cell 2
  have e3 := bc0.cell 3
  have e4 := bc0.cell 4
  have e5 := bc0.cell 5
  have e6 := bc0.cell 6
  have e7 := bc0.cell 7
  simp at e0 e1 e2 e3 e4 e5 e6 e7
  have HL := Lib.hid bl0
  have HCB := Lib.hid bc0
  clear bc0 bl0 hr
  have hw1 : ((word K).toList == []) = false := by rw [word_empty, decide_eq_false (by omega)]
  have hw2 : ((word K).toList.isEmpty) = ((word K).toList == []) := by cases (word K).toList <;> rfl
  rw [hw1] at hw2
  have hw3 : decide ((word K).toList = []) = ((word K).toList == []) := by cases (word K).toList <;> simp
  rw [hw1] at hw3
  simp at hw3
  clear hw1 h8 h8'
  have q0 : ¬ (50 : Int) < (m0 : Int) := by omega
  have q1 : ¬ (50 : Int) < (m1 : Int) := by omega
  go_enter Try.func12, Try.ntmps12
  go_upto_region 1 with fail
  rw [hW.out]
  go_wp2_with fail
  refine (few_any A1 A2 A3 n1 n2 n3 cp1 cp2 cp3 cf _).mono ?_
  rw [HF.out]
  rintro e w1 ⟨rfl, hb1⟩
  have hb2 := Below.past hB0 hb1 hB0.size
  have hs2 := hb2.size
  have bl1 := HL.out.past hb1
  have bc1 := HCB.out.past hb1
  have HN := Lib.hid (newB_no A1 A2 A3 n1 n2 n3 cp1 cp2 cp3 cf w1 (HR0.out.past hb1) HNC.out)
  rw [HC1.out] at HN
  have HR1 := Lib.hid (HR0.out.past hb1)
  have l0 := bl1.cell 0
  have l1 := bl1.cell 1
  simp at l0 l1
  clear e0 e1 e2 e3 e4 e5 e6 e7
  have e0 := (bc1).cell 0
  have e1 := (bc1).cell 1
  have e2 := (bc1).cell 2
  have e3 := (bc1).cell 3
  have e4 := (bc1).cell 4
  have e5 := (bc1).cell 5
  have e6 := (bc1).cell 6
  have e7 := (bc1).cell 7
  simp at e0 e1 e2 e3 e4 e5 e6 e7
  have HC1' := Lib.hid bc1
  clear bc1 bl1
  go_wp2_with fail
  refine HN.out.mono ?_
  rintro e w3 ⟨rfl, hb3⟩
  have hb4 := Below.past hb2 hb3 hs2
  have hs4 := hb4.size
  have bc3 := HC1'.out.past hb3
  have HW := Lib.hid (refWrong_any A1 A2 A3 n1 n2 n3 cp1 cp2 cp3 cf w3 (HR1.out.past hb3))
  rw [HK.out] at HW
  clear e0 e1 e2 e3 e4 e5 e6 e7 l0 l1
  have e0 := (bc3).cell 0
  have e1 := (bc3).cell 1
  have e2 := (bc3).cell 2
  have e3 := (bc3).cell 3
  have e4 := (bc3).cell 4
  have e5 := (bc3).cell 5
  have e6 := (bc3).cell 6
  have e7 := (bc3).cell 7
  simp at e0 e1 e2 e3 e4 e5 e6 e7
  clear bc3
  go_wp2_with fail
  refine HW.out.mono ?_
  rintro e w5 ⟨rfl, hb5⟩
  have hb6 := Below.past hb4 hb5 hs4
  have hs6 := hb6.size
  clear e0 e1 e2 e3 e4 e5 e6 e7
  go_wp2_with fail
  refine (addB_nil ⟨0, 0, 0, 0, 0⟩ _).mono ?_
  rintro e w7 ⟨rfl, hb7⟩
  have hb8 := Below.past hb6 hb7 hs6
  have hs8 := hb8.size
  go_wp2_with fail
  refine (awake24 _).mono ?_
  rintro e w9 ⟨rfl, hb9⟩
  have hb10 := Below.past hb8 hb9 hs8
  have hs10 := hb10.size
  go_wp2_with fail
  refine (allB_nil _).mono ?_
  rintro e w11 ⟨rfl, rfl⟩
  go_wp2_with fail
  refine (secB_nil _ _).mono ?_
  rintro e w12 ⟨rfl, hb12⟩
  have hb13 := Below.past hb10 hb12 hs10
  go_wp2_with fail
  refine (clearB_nil _).mono ?_
  rintro e w14 ⟨rfl, rfl⟩
  go_wp2_with fail
  refine (copyB_nil _).mono ?_
  rintro e w15 ⟨rfl, rfl⟩
  go_wp2_with fail
  go_ret
  exact ⟨rfl, hb13⟩
end Go.Proofs.Ytndhhnfhookeaaa
