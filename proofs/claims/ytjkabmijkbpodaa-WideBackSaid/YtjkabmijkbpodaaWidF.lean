import Derived.Test.YtjkabmijkbpodaaWidE
import Derived.Test.YtjkabmijkbpodaaEqArr
namespace Go.Proofs.Ytjkabmijkbpodaa
open Go.RowKit

theorem of_high (c : Int) (c0 : 0 ≤ c) (c1 : c < 18446744073709551616) (w : World) :
    Calls Try.prog 34 #[.int .u64 c, .int .u64 0] w fun e w' => e = .returned (.agg (arr8 (dig (c * 18446744073709551616)))) ∧ Below w.heap.size w w' := by
  have := of_any c 0 c0 c1 (by omega) (by omega) w
  rwa [Int.add_zero] at this

set_option maxRecDepth 100000 in
set_option maxHeartbeats 2000000 in
theorem wideBack_any (a b c : Int) (a0 : 0 ≤ a) (a1 : a < 18446744073709551616) (b0 : 0 ≤ b) (b1 : b < 18446744073709551616) (c0 : 0 ≤ c) (c1 : c < 18446744073709551616) (w : World) :
    Calls Try.prog 8 #[.int .u64 a, .int .u64 b, .int .u64 c] w fun e w' => e = .returned (.bool true) ∧ Below w.heap.size w w' := by
  have M := muldiv_any a b c a0 a1 b0 b1 c0 c1
  have R := refWMul_any a b a0 a1 b0 b1
  have p0 : 0 ≤ a * b := Int.mul_nonneg a0 b0
  have p1 : a * b ≤ 18446744073709551615 * 18446744073709551615 := Int.mul_le_mul (by omega) (by omega) b0 (by omega)
  obtain ⟨P, hP⟩ : ∃ P, Hid (a * b = P) := ⟨_, Lib.hid rfl⟩
  rw [hP.out] at M R p0 p1
  have PA : Hid (arr8 (dig P) = #[.int .u64 (dig P 0), .int .u64 (dig P 1), .int .u64 (dig P 2), .int .u64 (dig P 3), .int .u64 (dig P 4), .int .u64 (dig P 5), .int .u64 (dig P 6), .int .u64 (dig P 7)]) := Lib.hid rfl
  have HM := Lib.hid M
  have HR := Lib.hid R
  clear M R
  by_cases hc : c = 0
  · have q1 : (c == 0) = true := by simp [hc]
    have e1 : Hid (dvQ P c = 0) := Lib.hid (by simp [dvQ, hc])
    have e2 : Hid (dvR P c = 0) := Lib.hid (by simp [dvR, hc])
    have e3 : Hid (dvE P c = 1) := Lib.hid (by simp [dvE, hc])
    clear hc
    go_enter Try.func8, Try.ntmps8
    go_wp2_with fail
    refine (HM.out _).mono ?_
    rw [e1.out, e2.out, e3.out]
    rintro e w1 ⟨rfl, hb1⟩
    go_wp2_with fail
    refine (HR.out _).mono ?_
    rw [PA.out]
    rintro e w2 ⟨rfl, hb2⟩
    have hB2 := Below.next hb1 hb2
    go_wp2_with fail
    refine (awake02 _).mono ?_
    rintro e w3 ⟨rfl, hb3⟩
    go_wp2_with fail
    go_ret
    exact ⟨rfl, Below.past (hB2.alloc hB2.size _) hb3 (by have := hB2.size; simp; omega)⟩
  · have q1 : (c == 0) = false := by simp [hc]
    by_cases hq : P / c < 18446744073709551616
    · obtain ⟨q, hQ⟩ : ∃ q, Hid (P / c = q) := ⟨_, Lib.hid rfl⟩
      obtain ⟨r, hR⟩ : ∃ q, Hid (P % c = q) := ⟨_, Lib.hid rfl⟩
      have e1 : Hid (dvQ P c = q) := Lib.hid (by rw [dvQ, if_neg hc, if_pos hq, hQ.out])
      have e2 : Hid (dvR P c = r) := Lib.hid (by rw [dvR, if_neg hc, if_pos hq, hR.out])
      have e3 : Hid (dvE P c = 0) := Lib.hid (by rw [dvE, if_neg hc, if_pos hq])
      have q0 : 0 ≤ q := by rw [← hQ.out]; exact Int.ediv_nonneg p0 c0
      have q2 : q < 18446744073709551616 := by rw [← hQ.out]; exact hq
      have r0 : 0 ≤ r := by rw [← hR.out]; exact Int.emod_nonneg _ (by omega)
      have r1 : r < c := by rw [← hR.out]; exact Int.emod_lt_of_pos _ (by omega)
      have hqc : q * c + r = P := by rw [← hQ.out, ← hR.out, Int.mul_comm]; exact Int.mul_ediv_add_emod P c
      have m0 : 0 ≤ q * c := Int.mul_nonneg q0 c0
      have M2 := refWMul_any q c q0 q2 c0 c1
      obtain ⟨T, hT⟩ : ∃ T, Hid (q * c = T) := ⟨_, Lib.hid rfl⟩
      rw [hT.out] at hqc m0 M2
      have O2 := of_low r r0 (by omega)
      have P2 := fun w => refPlus_any T r w m0 (by omega) r0 (by omega)
      rw [hqc, decide_eq_true (show P < 340282366920938463463374607431768211456 by omega)] at P2
      have HM2 := Lib.hid M2
      have HO2 := Lib.hid O2
      have HP2 := Lib.hid P2
      have hrc := dec_t r1
      clear M2 O2 P2 hqc hc hq
      go_enter Try.func8, Try.ntmps8
      go_wp2_with fail
      refine (HM.out _).mono ?_
      rw [e1.out, e2.out, e3.out]
      rintro e w1 ⟨rfl, hb1⟩
      go_wp2_with fail
      refine (HR.out _).mono ?_
      rw [PA.out]
      rintro e w2 ⟨rfl, hb2⟩
      have hB2 := Below.next hb1 hb2
      have bp2 := Blk.new w2 70 (arr8 (dig P)) w2.heap.size rfl
      have hB2' := hB2.alloc hB2.size (.cells (arr8 (dig P)) 70)
      have hs2 := hB2.size
      rw [PA.out] at bp2 hB2'
      go_wp2_with fail
      refine (HM2.out _).mono ?_
      rintro e w3 ⟨rfl, hb3⟩
      have bp3 := bp2.past hb3
      have hB3 := Below.past hB2' hb3 (by simp; omega)
      go_wp2_with fail
      refine (HO2.out _).mono ?_
      rintro e w4 ⟨rfl, hb4⟩
      have bp4 := bp3.past hb4
      have hB4 := Below.next hB3 hb4
      go_wp2_with fail
      refine (HP2.out _).mono ?_
      rw [PA.out]
      rintro e w5 ⟨rfl, hb5⟩
      have bp5 := bp4.past hb5
      have hB5 := Below.next hB4 hb5
      have bk5 := Blk.new w5 70 (arr8 (dig P)) w5.heap.size rfl
      have bp6 := bp5.alloc (.cells (arr8 (dig P)) 70)
      have hB6 := hB5.alloc hB5.size (.cells (arr8 (dig P)) 70)
      have hs5 := hB5.size
      rw [PA.out] at bk5 bp6 hB6
      go_wp2_with fail
      refine (awake02 _).mono ?_
      rintro e w7 ⟨rfl, hb7⟩
      have bp7 := bp6.past hb7
      have bk7 := bk5.past hb7
      have hB7 := Below.past hB6 hb7 (by simp; omega)
      rw [← PA.out] at bp7 bk7
      have e0 := (bp7.cell 0).trans (arr8_get _ 0 (by omega))
      have e1 := (bp7.cell 1).trans (arr8_get _ 1 (by omega))
      have e2 := (bp7.cell 2).trans (arr8_get _ 2 (by omega))
      have e3 := (bp7.cell 3).trans (arr8_get _ 3 (by omega))
      have e4 := (bp7.cell 4).trans (arr8_get _ 4 (by omega))
      have e5 := (bp7.cell 5).trans (arr8_get _ 5 (by omega))
      have e6 := (bp7.cell 6).trans (arr8_get _ 6 (by omega))
      have e7 := (bp7.cell 7).trans (arr8_get _ 7 (by omega))
      have k0 := (bk7.cell 0).trans (arr8_get _ 0 (by omega))
      have k1 := (bk7.cell 1).trans (arr8_get _ 1 (by omega))
      have k2 := (bk7.cell 2).trans (arr8_get _ 2 (by omega))
      have k3 := (bk7.cell 3).trans (arr8_get _ 3 (by omega))
      have k4 := (bk7.cell 4).trans (arr8_get _ 4 (by omega))
      have k5 := (bk7.cell 5).trans (arr8_get _ 5 (by omega))
      have k6 := (bk7.cell 6).trans (arr8_get _ 6 (by omega))
      have k7 := (bk7.cell 7).trans (arr8_get _ 7 (by omega))
      have heq := fun w => eql_arr8 (dig P) w
      simp only [arr8] at heq
      go_wp2_with fail
      go_ret
      exact ⟨rfl, hB7⟩
    · have e1 : Hid (dvQ P c = 0) := Lib.hid (by rw [dvQ, if_neg hc, if_neg hq])
      have e2 : Hid (dvR P c = 0) := Lib.hid (by rw [dvR, if_neg hc, if_neg hq])
      have e3 : Hid (dvE P c = 2) := Lib.hid (by rw [dvE, if_neg hc, if_neg hq])
      have hge : c * 18446744073709551616 ≤ P := by
        have := (Int.le_ediv_iff_mul_le (show 0 < c by omega)).1 (show 18446744073709551616 ≤ P / c by omega)
        omega
      have O2 := of_high c c0 c1
      obtain ⟨C, hC⟩ : ∃ C, Hid (c * 18446744073709551616 = C) := ⟨_, Lib.hid rfl⟩
      have C0 : 0 ≤ C := by rw [← hC.out]; omega
      have C1 : C < 340282366920938463463374607431768211456 := by rw [← hC.out]; omega
      rw [hC.out] at O2 hge
      have K2 := fun w => refCmp_any P C w p0 (by omega) C0 C1
      obtain ⟨v, hv⟩ : ∃ v, Hid (cmpI P C = v) := ⟨_, Lib.hid rfl⟩
      have v0 : decide (0 ≤ v) = true := dec_t (by rw [← hv.out, cmpI, if_neg (by omega)]; split <;> omega)
      rw [hv.out] at K2
      have HO2 := Lib.hid O2
      have HK2 := Lib.hid K2
      clear O2 K2 hc hq
      go_enter Try.func8, Try.ntmps8
      go_wp2_with fail
      refine (HM.out _).mono ?_
      rw [e1.out, e2.out, e3.out]
      rintro e w1 ⟨rfl, hb1⟩
      go_wp2_with fail
      refine (HR.out _).mono ?_
      rw [PA.out]
      rintro e w2 ⟨rfl, hb2⟩
      have hB2 := Below.next hb1 hb2
      have bp2 := Blk.new w2 70 (arr8 (dig P)) w2.heap.size rfl
      have hB2' := hB2.alloc hB2.size (.cells (arr8 (dig P)) 70)
      have hs2 := hB2.size
      rw [PA.out] at hB2' bp2
      go_wp2_with fail
      obtain ⟨W, hW⟩ : ∃ W, Hid (w2.alloc (.cells #[.int .u64 (dig P 0), .int .u64 (dig P 1), .int .u64 (dig P 2), .int .u64 (dig P 3), .int .u64 (dig P 4), .int .u64 (dig P 5), .int .u64 (dig P 6), .int .u64 (dig P 7)] 70) = W) := ⟨_, Lib.hid rfl⟩
      rw [hW.out] at hB2' bp2 ⊢
      rw [← PA.out] at bp2
      have KP : ∀ w', Below W.heap.size W w' → (w'.cell? ⟨w2.heap.size, 0, none⟩ = some (.int .u64 (dig P 0)) ∧ w'.cell? ⟨w2.heap.size, 1, none⟩ = some (.int .u64 (dig P 1)) ∧ w'.cell? ⟨w2.heap.size, 2, none⟩ = some (.int .u64 (dig P 2)) ∧ w'.cell? ⟨w2.heap.size, 3, none⟩ = some (.int .u64 (dig P 3)) ∧ w'.cell? ⟨w2.heap.size, 4, none⟩ = some (.int .u64 (dig P 4)) ∧ w'.cell? ⟨w2.heap.size, 5, none⟩ = some (.int .u64 (dig P 5)) ∧ w'.cell? ⟨w2.heap.size, 6, none⟩ = some (.int .u64 (dig P 6)) ∧ w'.cell? ⟨w2.heap.size, 7, none⟩ = some (.int .u64 (dig P 7)) ∧ Below W.heap.size W w') := fun w' h => ⟨((bp2.past h).cell 0).trans (arr8_get _ 0 (by omega)), ((bp2.past h).cell 1).trans (arr8_get _ 1 (by omega)), ((bp2.past h).cell 2).trans (arr8_get _ 2 (by omega)), ((bp2.past h).cell 3).trans (arr8_get _ 3 (by omega)), ((bp2.past h).cell 4).trans (arr8_get _ 4 (by omega)), ((bp2.past h).cell 5).trans (arr8_get _ 5 (by omega)), ((bp2.past h).cell 6).trans (arr8_get _ 6 (by omega)), ((bp2.past h).cell 7).trans (arr8_get _ 7 (by omega)), h⟩
      have hW0 := Below.refl W.heap.size W
      obtain ⟨x0, x1, x2, x3, x4, x5, x6, x7, _⟩ := KP _ hW0
      have HK := Lib.hid KP
      clear KP
      rw [PA.out] at HK2
      go_region_held3 (fun w' => w'.cell? ⟨w2.heap.size, 0, none⟩ = some (.int .u64 (dig P 0)) ∧ w'.cell? ⟨w2.heap.size, 1, none⟩ = some (.int .u64 (dig P 1)) ∧ w'.cell? ⟨w2.heap.size, 2, none⟩ = some (.int .u64 (dig P 2)) ∧ w'.cell? ⟨w2.heap.size, 3, none⟩ = some (.int .u64 (dig P 3)) ∧ w'.cell? ⟨w2.heap.size, 4, none⟩ = some (.int .u64 (dig P 4)) ∧ w'.cell? ⟨w2.heap.size, 5, none⟩ = some (.int .u64 (dig P 5)) ∧ w'.cell? ⟨w2.heap.size, 6, none⟩ = some (.int .u64 (dig P 6)) ∧ w'.cell? ⟨w2.heap.size, 7, none⟩ = some (.int .u64 (dig P 7)) ∧ Below W.heap.size W w') ((go_split_ands; refine HK.out _ ?_; first | assumption | exact Below.drew (by assumption) | exact Below.next (by assumption) (by assumption))) (first
        | (go_at_call 35; go_split_ands; refine (awake02 _).mono ?_; rintro e w4 ⟨rfl, hb4⟩)
        | (go_at_call 34; go_split_ands; refine (HO2.out _).mono ?_; rintro e w4 ⟨rfl, hb4⟩)
        | (go_at_call 38; go_split_ands; refine (HK2.out _).mono ?_; rintro e w4 ⟨rfl, hb4⟩))
      all_goals
        go_split_ands
        have hW4 : Below W.heap.size W w4 := by assumption
        go_wp2_with fail
        go_ret
        exact ⟨rfl, Below.past hB2' hW4 hB2'.size⟩
end Go.Proofs.Ytjkabmijkbpodaa
