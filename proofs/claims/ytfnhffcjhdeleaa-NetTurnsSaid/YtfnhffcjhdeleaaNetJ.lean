import Derived.Test.YtfnhffcjhdeleaaNetI
namespace Go.Proofs.Ytfnhffcjhdeleaa
open Go.RowKit Go.ChangeShapes

theorem netR_len (M S : Nat) (legs : List Leg) (hM : M ≤ 20) (hS : S ≤ 20) : (netR M S legs).length ≤ 500 := by
  unfold netR
  split
  · unfold netsL
    split
    · have := outL_len legs (gridS M S)
      unfold outL at this
      refine Nat.le_trans this ?_
      rw [gridS_len]
      have : M * (S + 1) ≤ 20 * 21 := Nat.mul_le_mul (by omega) (by omega)
      omega
    · simp
  · simp

set_option maxHeartbeats 2000000 in
set_option maxRecDepth 100000 in
theorem netSums_many (A1 A2 A3 : Option Addr) (n1 n2 n3 cp1 cp2 cp3 : Nat) (cf : Conf) (A : Option Addr) (n c : Nat) (w : World) (hf : ¬ (fewB n1 n2 n3 = true ∧ n ≤ 60)) :
    Calls Try.prog 9 #[.agg #[.slice A1 n1 cp1, .slice A2 n2 cp2, .slice A3 n3 cp3, .int .i64 cf.line, .int .i64 cf.capital, .int .i64 cf.lead, .int .i64 cf.trades, .int .i64 cf.bids], .slice A n c] w fun e w' => e = .returned (.bool true) ∧ Below w.heap.size w w' := by
  obtain ⟨W, hW⟩ : ∃ W, Hid (w.alloc (.cells #[.slice A1 n1 cp1, .slice A2 n2 cp2, .slice A3 n3 cp3, .int .i64 cf.line, .int .i64 cf.capital, .int .i64 cf.lead, .int .i64 cf.trades, .int .i64 cf.bids] 89) = W) := ⟨_, Lib.hid rfl⟩
  have hB0 : Below w.heap.size w W := by rw [← hW.out]; exact (Below.refl _ _).alloc (Nat.le_refl _) _
  have bc0 : Blk W w.heap.size 89 #[.slice A1 n1 cp1, .slice A2 n2 cp2, .slice A3 n3 cp3, .int .i64 cf.line, .int .i64 cf.capital, .int .i64 cf.lead, .int .i64 cf.trades, .int .i64 cf.bids] := by
    rw [← hW.out]; exact Blk.new w _ _ _ rfl
  have e0 := (bc0).cell 0
  have e1 := (bc0).cell 1
  have e2 := (bc0).cell 2
  have e3 := (bc0).cell 3
  have e4 := (bc0).cell 4
  have e5 := (bc0).cell 5
  have e6 := (bc0).cell 6
  have e7 := (bc0).cell 7
  simp at e0 e1 e2 e3 e4 e5 e6 e7
  clear bc0
  obtain ⟨v, hv⟩ : ∃ v, Hid (fewB n1 n2 n3 = v) := ⟨_, Lib.hid rfl⟩
  rw [hv.out] at hf
  have HF := Lib.hid hf
  clear hf
  go_enter Try.func9, Try.ntmps9
  go_upto_region 1 with fail
  rw [hW.out]
  go_wp2_with fail
  refine (few_any A1 A2 A3 n1 n2 n3 cp1 cp2 cp3 cf _).mono ?_
  rw [hv.out]
  rintro e w1 ⟨rfl, hb1⟩
  have HB2 := Lib.hid (Below.past hB0 hb1 hB0.size)
  clear hb1
  cases v with
  | false =>
    go_wp2_with fail
    refine (awake18 _).mono ?_
    rintro e w3 ⟨rfl, hb3⟩
    have HB4 := Lib.hid (Below.past HB2.out hb3 HB2.out.size)
    clear hb3
    go_wp2_with fail
    go_ret
    exact ⟨rfl, HB4.out⟩
  | true =>
    have q0 : (60 : Int) < (n : Int) := by
      have : ¬ n ≤ 60 := fun h => HF.out ⟨rfl, h⟩
      omega
    go_wp2_with fail
    refine (awake18 _).mono ?_
    rintro e w3 ⟨rfl, hb3⟩
    have HB4 := Lib.hid (Below.past HB2.out hb3 HB2.out.size)
    clear hb3
    go_wp2_with fail
    go_ret
    exact ⟨rfl, HB4.out⟩

set_option maxHeartbeats 4000000 in
set_option maxRecDepth 100000 in
theorem netSums_few (A1 A2 A3 : Option Addr) (n1 n2 n3 cp1 cp2 cp3 : Nat) (cf : Conf) (A : Option Addr) (n c : Nat) (legs : List Leg) (w : World) (hr : CfRd w A1 n1 A2 n2 A3 n3 cf) (hrl : Rd w w.heap.size 3 A n (legs.flatMap Leg.cells)) (hg : ∀ x ∈ legs, inI x.amount) (hf : fewB n1 n2 n3 = true) (hn : n ≤ 60) (h20 : n1 ≤ 20 ∧ n2 ≤ 20) :
    Calls Try.prog 9 #[.agg #[.slice A1 n1 cp1, .slice A2 n2 cp2, .slice A3 n3 cp3, .int .i64 cf.line, .int .i64 cf.capital, .int .i64 cf.lead, .int .i64 cf.trades, .int .i64 cf.bids], .slice A n c] w fun e w' => e = .returned (.bool true) ∧ Below w.heap.size w w' := by
  obtain ⟨hm20, hs20⟩ := h20
  have HF := Lib.hid hf
  clear hf
  obtain ⟨W, hW⟩ : ∃ W, Hid (w.alloc (.cells #[.slice A1 n1 cp1, .slice A2 n2 cp2, .slice A3 n3 cp3, .int .i64 cf.line, .int .i64 cf.capital, .int .i64 cf.lead, .int .i64 cf.trades, .int .i64 cf.bids] 89) = W) := ⟨_, Lib.hid rfl⟩
  have hB0 : Below w.heap.size w W := by rw [← hW.out]; exact (Below.refl _ _).alloc (Nat.le_refl _) _
  have bc0 : Blk W w.heap.size 89 #[.slice A1 n1 cp1, .slice A2 n2 cp2, .slice A3 n3 cp3, .int .i64 cf.line, .int .i64 cf.capital, .int .i64 cf.lead, .int .i64 cf.trades, .int .i64 cf.bids] := by
    rw [← hW.out]; exact Blk.new w _ _ _ rfl
  have HC0 := Lib.hid bc0
  have HR0 := Lib.hid (hr.past hB0)
  have HL0 := Lib.hid (hrl.past hB0)
  have e0 := (bc0).cell 0
  have e1 := (bc0).cell 1
  have e2 := (bc0).cell 2
  have e3 := (bc0).cell 3
  have e4 := (bc0).cell 4
  have e5 := (bc0).cell 5
  have e6 := (bc0).cell 6
  have e7 := (bc0).cell 7
  simp at e0 e1 e2 e3 e4 e5 e6 e7
  clear bc0 hr hrl
  have q0 : ¬ (60 : Int) < (n : Int) := by omega
  obtain ⟨K, hK⟩ : ∃ K, Hid (netK n1 n2 legs = K) := ⟨_, Lib.hid rfl⟩
  have hlen := netR_len n1 n2 legs hm20 hs20
  have q1 : (K == K) = true := by simp
  go_enter Try.func9, Try.ntmps9
  go_upto_region 1 with fail
  rw [hW.out]
  go_wp2_with fail
  refine (few_any A1 A2 A3 n1 n2 n3 cp1 cp2 cp3 cf _).mono ?_
  rw [HF.out]
  rintro e w1 ⟨rfl, hb1⟩
  have HD1 := Lib.hid hb1
  have bc1 := HC0.out.past HD1.out
  have HN := Lib.hid (nets_any A1 A2 A3 n1 n2 n3 cp1 cp2 cp3 cf A n c legs w1 (HR0.out.past HD1.out) (HL0.out.past HD1.out) (by omega) hg)
  rw [hK.out] at HN
  clear e0 e1 e2 e3 e4 e5 e6 e7 hb1
  have e0 := (bc1).cell 0
  have e1 := (bc1).cell 1
  have e2 := (bc1).cell 2
  have e3 := (bc1).cell 3
  have e4 := (bc1).cell 4
  have e5 := (bc1).cell 5
  have e6 := (bc1).cell 6
  have e7 := (bc1).cell 7
  simp at e0 e1 e2 e3 e4 e5 e6 e7
  clear bc1
  go_wp2_with fail
  refine HN.out.mono ?_
  rintro e w2 ⟨v2, rfl, ho2, hb2⟩
  obtain ⟨A2', c2, rfl⟩ := own_form ho2
  have HD2 := Lib.hid (Below.next HD1.out hb2)
  have HO2 := Lib.hid (Rd.of_own ho2)
  have bc2 := HC0.out.past HD2.out
  have HM := Lib.hid (refNets_any A1 A2 A3 n1 n2 n3 cp1 cp2 cp3 cf A n c legs w2 (HR0.out.past HD2.out) (HL0.out.past HD2.out) (by omega) hg hm20 hs20)
  rw [hK.out] at HM
  clear e0 e1 e2 e3 e4 e5 e6 e7 hb2 ho2
  have e0 := (bc2).cell 0
  have e1 := (bc2).cell 1
  have e2 := (bc2).cell 2
  have e3 := (bc2).cell 3
  have e4 := (bc2).cell 4
  have e5 := (bc2).cell 5
  have e6 := (bc2).cell 6
  have e7 := (bc2).cell 7
  simp at e0 e1 e2 e3 e4 e5 e6 e7
  clear bc2
  go_wp2_with fail
  refine HM.out.mono ?_
  rintro e w3 ⟨v3, rfl, ho3, hb3⟩
  obtain ⟨A3', c3, rfl⟩ := own_form ho3
  have HD3 := Lib.hid (Below.next HD2.out hb3)
  have HO3 := Lib.hid (Rd.of_own ho3)
  have HO2' := Lib.hid (HO2.out.past hb3)
  clear e0 e1 e2 e3 e4 e5 e6 e7 hb3 ho3
  go_wp2_with fail
  refine (awake18 _).mono ?_
  rintro e w4 ⟨rfl, hb4⟩
  have HD4 := Lib.hid (Below.next HD3.out hb4)
  have HS := Lib.hid (sameLegs A2' A3' _ c2 c3 (netR n1 n2 legs) w4 (HO2'.out.past hb4) (HO3.out.past hb4) (by omega))
  clear hb4
  go_wp2_with fail
  refine HS.out.mono ?_
  rintro e w5 ⟨rfl, hb5⟩
  have HD5 := Lib.hid (Below.next HD4.out hb5)
  clear hb5
  go_wp2_with fail
  go_ret
  exact ⟨rfl, Below.next' hB0 HD5.out (Nat.le_refl _)⟩
end Go.Proofs.Ytfnhffcjhdeleaa
