import Derived.Test.YtjkabmijkbpodaaWidA
import Derived.Test.YtjkabmijkbpodaaWidP
namespace Go.Proofs.Ytjkabmijkbpodaa
open Go.RowKit

theorem and_one (z : Int) (h0 : 0 ≤ z) (h1 : z < 18446744073709551616) : bits .and .u64 z 1 = z % 2 := by go_bits2

theorem ret3 {a b c a' b' c' : Int} {k k' k'' : IntKind} (h1 : a = a') (h2 : b = b') (h3 : c = c') : Ending.returned (.tuple #[.int k a, .int k' b, .int k'' c]) = .returned (.tuple #[.int k a', .int k' b', .int k'' c']) := by rw [h1, h2, h3]

set_option maxRecDepth 100000 in
set_option maxHeartbeats 2000000 in
theorem refDiv_any (N c : Int) (n0 : 0 ≤ N) (n1 : N < 340282366920938463463374607431768211456) (c0 : 0 ≤ c) (c1 : c < 18446744073709551616) (w : World) :
    Calls Try.prog 33 #[.agg (arr8 (dig N)), .int .u64 c] w fun e w' => e = .returned (.tuple #[.int .u64 (dvQ N c), .int .u64 (dvR N c), .int .i64 (dvE N c)]) ∧ Below w.heap.size w w' := by
  have hB0 := (Below.refl w.heap.size w).alloc (Nat.le_refl _) (.cells (arr8 (dig N)) 70)
  have bx := Blk.new w 70 (arr8 (dig N)) w.heap.size rfl
  by_cases hc : c = 0
  · have q1 : (c == 0) = true := by simp [hc]
    have HQ : Hid (dvQ N c = 0 ∧ dvR N c = 0 ∧ dvE N c = 1) := Lib.hid (by simp [dvQ, dvR, dvE, hc])
    clear hc
    go_enter Try.func33, Try.ntmps33
    go_wp2_with fail
    go_ret3
    exact ⟨ret3 HQ.out.1.symm HQ.out.2.1.symm HQ.out.2.2.symm, hB0⟩
  · have q1 : (c == 0) = false := by simp [hc]
    have hcp : 0 < c := by omega
    have h128 : Hid (N / 2 ^ 128 = 0) := Lib.hid (Int.ediv_eq_zero_of_lt n0 n1)
    have HC := Lib.hid hc
    clear hc
    obtain ⟨W, hW⟩ : ∃ W, Hid (w.alloc (.cells (arr8 (dig N)) 70) = W) := ⟨_, Lib.hid rfl⟩
    rw [hW.out] at bx hB0
    go_enter Try.func33, Try.ntmps33
    go_wp2_with fail
    rw [hW.out]
    go_loop [7, 8, 9] (fun q r i => ∃ (k : Nat) (z Q R : Int), k ≤ 128 ∧ q = .int .u64 Q ∧ r = .int .u64 R ∧ i = .int .i64 z ∧ z ≤ (k : Int) - 1 ∧ (k : Int) - 1 ≤ z ∧ Hid (Q = N / 2 ^ k / c) ∧ Hid (R = N / 2 ^ k % c) ∧ 0 ≤ Q ∧ Q < 18446744073709551616 ∧ 0 ≤ R ∧ R < c) (fun _ _ i => (intOf i + 1).toNat)
    case atStart => exact ⟨128, 127, 0, 0, by omega, rfl, rfl, rfl, by omega, by omega, Lib.hid (by rw [h128.out]; simp), Lib.hid (by rw [h128.out]; simp), by omega, by omega, by omega, by omega⟩
    case round =>
      obtain ⟨k, z, Q, R, hk, rfl, rfl, rfl, z0, z1, hQ, hR, q0, q2, r0, r2⟩ := hrel
      by_cases hlt : 1 ≤ k
      · obtain ⟨t, rfl⟩ := Int.eq_ofNat_of_zero_le (show 0 ≤ z by omega)
        obtain rfl : k = t + 1 := by omega
        have q3 : decide (0 ≤ (t : Int)) = true := dec_t (by omega)
        obtain ⟨b, hb⟩ : ∃ b, Hid (N / 2 ^ t % 2 = b) := ⟨_, Lib.hid rfl⟩
        have b0 : 0 ≤ b := by rw [← hb.out]; omega
        have b1 : b ≤ 1 := by rw [← hb.out]; omega
        have HP : Hid (N / 2 ^ t = 2 * (N / 2 ^ (t + 1)) + b) := Lib.hid (by rw [← hb.out]; have := half_step N (t + 1) (by omega); rwa [Nat.add_sub_cancel] at this)
        have HS := div_step (N / 2 ^ (t + 1)) c b hcp b0 b1
        rw [← hQ.out, ← hR.out] at HS
        have cb := (bx.cell (t / 16)).trans (arr8_get _ _ (by omega))
        have db := dig_bd N (t / 16)
        have hz := bit_at N t
        rw [hb.out] at hz
        have zz0 : 0 ≤ dig N (t / 16) / 2 ^ (t % 16) := Int.ediv_nonneg db.1 (Int.pow_nonneg (by omega))
        have zz1 : dig N (t / 16) / 2 ^ (t % 16) ≤ dig N (t / 16) := Int.ediv_le_self _ db.1
        have eb : bits .and .u64 (dig N (t / 16) / 2 ^ (t % 16)) 1 = b := by rw [and_one _ zz0 (by omega), hz]
        obtain ⟨dd, hdd⟩ : ∃ d, Hid (dig N (t / 16) = d) := ⟨_, Lib.hid rfl⟩
        rw [hdd.out] at cb eb
        clear db hz zz0 zz1
        have n1' : ((t : Int) / 16).toNat = t / 16 := by omega
        have n2' : ((t : Int) % 16).toNat = t % 16 := by omega
        have n3' : 0 ≤ (t : Int) / 16 := by omega
        have n4' : (t : Int) / 16 < 8 := by omega
        have n5' : 0 ≤ (t : Int) % 16 := by omega
        obtain ⟨m1, hm1⟩ : ∃ m, Hid (IntKind.u64.wrap (R * 2) = m) := ⟨_, Lib.hid rfl⟩
        obtain ⟨m2, hm2⟩ : ∃ m, Hid (IntKind.u64.wrap (m1 + b) = m) := ⟨_, Lib.hid rfl⟩
        have HM : Hid (m2 = (R * 2 + b) % 18446744073709551616) := Lib.hid (by rw [← hm2.out, ← hm1.out]; simp only [IntKind.wrap_u64]; omega)
        have e1 := hm1.out
        have e2 := hm2.out
        by_cases hge : c ≤ 2 * R + b
        · replace HS := Lib.hid (HS.1 hge)
          obtain ⟨R', hR'⟩ : ∃ r, Hid (2 * R + b - c = r) := ⟨_, Lib.hid rfl⟩
          rw [hR'.out] at HS
          have e3 : IntKind.u64.wrap (m2 - c) = R' := by rw [HM.out, ← hR'.out, IntKind.wrap_u64]; omega
          have x0 : 0 ≤ R' := by rw [← hR'.out]; omega
          have x1 : R' < c := by rw [← hR'.out]; omega
          by_cases hh : R < 9223372036854775808
          · have e6 : R / 9223372036854775808 = 0 := by omega
            have e7 : decide (c ≤ m2) = true := dec_t (by rw [HM.out]; omega)
            by_cases hq : Q < 9223372036854775808
            · have e4 : Q / 9223372036854775808 = 0 := by omega
              have e5 : IntKind.u64.wrap (Q * 2) = Q * 2 := IntWalk.u64_in _ (by omega)
              go_wp2_with fail
              go_round
              case rel => exact ⟨t, (t : Int) - 1, Q * 2 + 1, R', by omega, by first | rfl | (simp), rfl, by first | rfl | go_num, by omega, by omega, Lib.hid (by rw [← HP.out] at HS; have := HS.out.1; omega), Lib.hid (by rw [← HP.out] at HS; exact HS.out.2.symm), by omega, by omega, by omega, by omega⟩
              case measure => simp [intOf] <;> omega
            · have e4 : Q / 9223372036854775808 = 1 := by omega
              have HO : Hid (dvQ N c = 0 ∧ dvR N c = 0 ∧ dvE N c = 2) := Lib.hid (by
                have := over_step N c n0 hcp (t + 1) (by omega) (by rw [← hQ.out]; omega)
                unfold dvQ dvR dvE
                rw [if_neg HC.out, if_neg HC.out, if_neg HC.out, if_neg (by omega), if_neg (by omega), if_neg (by omega)]
                exact ⟨rfl, rfl, rfl⟩)
              go_wp2_with fail
              go_ret3
              exact ⟨ret3 HO.out.1.symm HO.out.2.1.symm HO.out.2.2.symm, hB0⟩
          · have e6 : R / 9223372036854775808 = 1 := by omega
            by_cases hq : Q < 9223372036854775808
            · have e4 : Q / 9223372036854775808 = 0 := by omega
              have e5 : IntKind.u64.wrap (Q * 2) = Q * 2 := IntWalk.u64_in _ (by omega)
              go_wp2_with fail
              go_round
              case rel => exact ⟨t, (t : Int) - 1, Q * 2 + 1, R', by omega, by first | rfl | (simp), rfl, by first | rfl | go_num, by omega, by omega, Lib.hid (by rw [← HP.out] at HS; have := HS.out.1; omega), Lib.hid (by rw [← HP.out] at HS; exact HS.out.2.symm), by omega, by omega, by omega, by omega⟩
              case measure => simp [intOf] <;> omega
            · have e4 : Q / 9223372036854775808 = 1 := by omega
              have HO : Hid (dvQ N c = 0 ∧ dvR N c = 0 ∧ dvE N c = 2) := Lib.hid (by
                have := over_step N c n0 hcp (t + 1) (by omega) (by rw [← hQ.out]; omega)
                unfold dvQ dvR dvE
                rw [if_neg HC.out, if_neg HC.out, if_neg HC.out, if_neg (by omega), if_neg (by omega), if_neg (by omega)]
                exact ⟨rfl, rfl, rfl⟩)
              go_wp2_with fail
              go_ret3
              exact ⟨ret3 HO.out.1.symm HO.out.2.1.symm HO.out.2.2.symm, hB0⟩
        · replace HS := Lib.hid (HS.2 (by omega))
          obtain ⟨R', hR'⟩ : ∃ r, Hid (2 * R + b = r) := ⟨_, Lib.hid rfl⟩
          rw [hR'.out] at HS
          have e3 : m2 = R' := by rw [HM.out, ← hR'.out]; omega
          have x0 : 0 ≤ R' := by rw [← hR'.out]; omega
          have x1 : R' < c := by rw [← hR'.out]; omega
          subst e3
          have e6 : R / 9223372036854775808 = 0 := by omega
          have e7 : decide (c ≤ m2) = false := dec_f (by omega)
          by_cases hq : Q < 9223372036854775808
          · have e4 : Q / 9223372036854775808 = 0 := by omega
            have e5 : IntKind.u64.wrap (Q * 2) = Q * 2 := IntWalk.u64_in _ (by omega)
            go_wp2_with fail
            go_round
            case rel => exact ⟨t, (t : Int) - 1, Q * 2 + 0, m2, by omega, by first | rfl | (simp), rfl, by first | rfl | go_num, by omega, by omega, Lib.hid (by rw [← HP.out] at HS; have := HS.out.1; omega), Lib.hid (by rw [← HP.out] at HS; exact HS.out.2.symm), by omega, by omega, by omega, by omega⟩
            case measure => simp [intOf] <;> omega
          · have e4 : Q / 9223372036854775808 = 1 := by omega
            have HO : Hid (dvQ N c = 0 ∧ dvR N c = 0 ∧ dvE N c = 2) := Lib.hid (by
              have := over_step N c n0 hcp (t + 1) (by omega) (by rw [← hQ.out]; omega)
              unfold dvQ dvR dvE
              rw [if_neg HC.out, if_neg HC.out, if_neg HC.out, if_neg (by omega), if_neg (by omega), if_neg (by omega)]
              exact ⟨rfl, rfl, rfl⟩)
            go_wp2_with fail
            go_ret3
            exact ⟨ret3 HO.out.1.symm HO.out.2.1.symm HO.out.2.2.symm, hB0⟩
      · obtain rfl : k = 0 := by omega
        obtain rfl : z = -1 := by omega
        have hQ0 : Q = N / c := by have := hQ.out; simpa using this
        have hR0 : R = N % c := by have := hR.out; simpa using this
        have HQ : Hid (dvQ N c = Q ∧ dvR N c = R ∧ dvE N c = 0) := Lib.hid (by
          unfold dvQ dvR dvE
          rw [if_neg HC.out, if_neg HC.out, if_neg HC.out, ← hQ0, ← hR0, if_pos q2, if_pos q2, if_pos q2]
          exact ⟨rfl, rfl, rfl⟩)
        clear hQ0 hR0
        go_wp2_with fail
        go_ret3
        exact ⟨ret3 HQ.out.1.symm HQ.out.2.1.symm HQ.out.2.2.symm, hB0⟩
end Go.Proofs.Ytjkabmijkbpodaa
