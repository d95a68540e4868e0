import Derived.Test.YtfilpmmimpkfmaaWidB
namespace Go.Proofs.Ytfilpmmimpkfmaa
open Go.RowKit

theorem div64_any (hi lo y : Int) (h0 : 0 ≤ hi) (h1 : hi < y) (l0 : 0 ≤ lo) (l1 : lo < 18446744073709551616) (y1 : y < 18446744073709551616) (w : World) :
    Calls Try.prog 110 #[.int .u64 hi, .int .u64 lo, .int .u64 y] w fun e w' => e = .returned (.tuple #[.int .u64 ((hi * 18446744073709551616 + lo) / y), .int .u64 ((hi * 18446744073709551616 + lo) % y)]) ∧ Below w.heap.size w w' := by
  by_cases hz : hi = 0
  · subst hz
    rw [Int.zero_mul, Int.zero_add]
    exact div64_zero lo y l0 l1 (by omega) y1 w
  · exact (div64_more hi lo y (by omega) h1 l0 l1 y1 w).mono fun e w' ⟨he, hw⟩ => ⟨he, hw ▸ Below.refl _ _⟩

set_option maxHeartbeats 1000000 in
theorem wmul_any (a b : Int) (a0 : 0 ≤ a) (a1 : a < 18446744073709551616) (b0 : 0 ≤ b) (b1 : b < 18446744073709551616) (w : World) :
    Calls Try.prog 17 #[.int .u64 a, .int .u64 b] w fun e w' => e = .returned (.agg #[.int .u64 (a * b / 18446744073709551616), .int .u64 (a * b % 18446744073709551616)]) ∧ Below w.heap.size w w' := by
  obtain ⟨h, hh⟩ : ∃ h, Hid (a * b / 18446744073709551616 = h) := ⟨_, Lib.hid rfl⟩
  obtain ⟨l, hl⟩ : ∃ h, Hid (a * b % 18446744073709551616 = h) := ⟨_, Lib.hid rfl⟩
  rw [hh.out, hl.out]
  go_enter Try.func17, Try.ntmps17
  go_wp2_with fail
  refine (mul64_any a b a0 a1 b0 b1 _).mono ?_
  rw [hh.out, hl.out]
  rintro e w' ⟨rfl, rfl⟩
  go_wp2_with fail
  refine bodyPost_ret (v := .agg #[.int .u64 h, .int .u64 l]) (by simp [results, Try.results17, go_sem]) rfl ⟨rfl, ?_⟩
  exact (Below.refl _ _).alloc (Nat.le_refl _) _

set_option maxHeartbeats 1000000 in
theorem wdiv_any (hi lo c : Int) (h0 : 0 ≤ hi) (h1 : hi < 18446744073709551616) (l0 : 0 ≤ lo) (l1 : lo < 18446744073709551616) (c0 : 0 ≤ c) (c1 : c < 18446744073709551616) (w : World) :
    Calls Try.prog 96 #[.agg #[.int .u64 hi, .int .u64 lo], .int .u64 c] w fun e w' => e = .returned (.tuple #[.int .u64 (dvQ (hi * 18446744073709551616 + lo) c), .int .u64 (dvR (hi * 18446744073709551616 + lo) c), .int .i64 (dvE (hi * 18446744073709551616 + lo) c)]) ∧ Below w.heap.size w w' := by
  obtain ⟨N, hN⟩ : ∃ N, Hid (hi * 18446744073709551616 + lo = N) := ⟨_, Lib.hid rfl⟩
  rw [hN.out]
  have hB0 := (Below.refl w.heap.size w).alloc (Nat.le_refl _) (.cells #[.int .u64 hi, .int .u64 lo] 30)
  by_cases hc : c = 0
  · have q1 : (c == 0) = true := by simp [hc]
    have HQ : Hid (dvQ N c = 0 ∧ dvR N c = 0 ∧ dvE N c = 1) := Lib.hid (by simp [dvQ, dvR, dvE, hc])
    clear hc
    go_enter Try.func96, Try.ntmps96
    go_wp2_with fail
    go_ret3
    exact ⟨ret3 HQ.out.1.symm HQ.out.2.1.symm HQ.out.2.2.symm, hB0⟩
  · have q1 : (c == 0) = false := by simp [hc]
    by_cases hge : c ≤ hi
    · have q2 := dec_t hge
      have HQ : Hid (dvQ N c = 0 ∧ dvR N c = 0 ∧ dvE N c = 2) := Lib.hid (by
        have : 18446744073709551616 ≤ N / c := by
          rw [Int.le_ediv_iff_mul_le (by omega), ← hN.out]
          omega
        unfold dvQ dvR dvE
        rw [if_neg hc, if_neg hc, if_neg hc, if_neg (by omega), if_neg (by omega), if_neg (by omega)]
        exact ⟨rfl, rfl, rfl⟩)
      clear hc
      go_enter Try.func96, Try.ntmps96
      go_wp2_with fail
      go_ret3
      exact ⟨ret3 HQ.out.1.symm HQ.out.2.1.symm HQ.out.2.2.symm, hB0⟩
    · have q2 := dec_f hge
      have HQ : Hid (dvQ N c = N / c ∧ dvR N c = N % c ∧ dvE N c = 0) := Lib.hid (by
        have : N / c < 18446744073709551616 := by
          apply Int.ediv_lt_of_lt_mul (by omega)
          rw [← hN.out]
          omega
        unfold dvQ dvR dvE
        rw [if_neg hc, if_neg hc, if_neg hc, if_pos this, if_pos this, if_pos this]
        exact ⟨rfl, rfl, rfl⟩)
      have D := Lib.hid (div64_any hi lo c h0 (by omega) l0 l1 c1)
      rw [hN.out] at D
      clear hc
      go_enter Try.func96, Try.ntmps96
      go_wp2_with fail
      refine (D.out _).mono ?_
      rintro e w1 ⟨rfl, hb1⟩
      go_wp2_with fail
      go_ret3
      exact ⟨ret3 HQ.out.1.symm HQ.out.2.1.symm HQ.out.2.2.symm, Below.past hB0 hb1 hB0.size⟩

theorem words_back (p : Int) : p / 18446744073709551616 * 18446744073709551616 + p % 18446744073709551616 = p := by omega

set_option maxHeartbeats 1000000 in
theorem muldiv_any (a b c : Int) (a0 : 0 ≤ a) (a1 : a < 18446744073709551616) (b0 : 0 ≤ b) (b1 : b < 18446744073709551616) (c0 : 0 ≤ c) (c1 : c < 18446744073709551616) (w : World) :
    Calls Try.prog 64 #[.int .u64 a, .int .u64 b, .int .u64 c] w fun e w' => e = .returned (.tuple #[.int .u64 (dvQ (a * b) c), .int .u64 (dvR (a * b) c), .int .i64 (dvE (a * b) c)]) ∧ Below w.heap.size w w' := by
  have M := wmul_any a b a0 a1 b0 b1
  have hp0 : 0 ≤ a * b := Int.mul_nonneg a0 b0
  have hp1 : a * b ≤ 18446744073709551615 * 18446744073709551615 := Int.mul_le_mul (by omega) (by omega) b0 (by omega)
  obtain ⟨P, hP⟩ : ∃ P, Hid (a * b = P) := ⟨_, Lib.hid rfl⟩
  rw [hP.out] at M hp0 hp1 ⊢
  have D := wdiv_any (P / 18446744073709551616) (P % 18446744073709551616) c (by omega) (by omega) (by omega) (by omega) c0 c1
  rw [words_back P] at D
  obtain ⟨h, hh⟩ : ∃ h, Hid (P / 18446744073709551616 = h) := ⟨_, Lib.hid rfl⟩
  obtain ⟨l, hl⟩ : ∃ h, Hid (P % 18446744073709551616 = h) := ⟨_, Lib.hid rfl⟩
  rw [hh.out, hl.out] at D M
  have HM := Lib.hid M
  have HD := Lib.hid D
  clear D M
  obtain ⟨x, hx⟩ : ∃ h, Hid (dvQ P c = h) := ⟨_, Lib.hid rfl⟩
  obtain ⟨y, hy⟩ : ∃ h, Hid (dvR P c = h) := ⟨_, Lib.hid rfl⟩
  obtain ⟨z, hz⟩ : ∃ h, Hid (dvE P c = h) := ⟨_, Lib.hid rfl⟩
  rw [hx.out, hy.out, hz.out] at HD ⊢
  go_enter Try.func64, Try.ntmps64
  go_wp2_with fail
  refine (HM.out _).mono ?_
  rintro e w1 ⟨rfl, hb1⟩
  go_wp2_with fail
  refine (HD.out _).mono ?_
  rintro e w2 ⟨rfl, hb2⟩
  go_wp2_with fail
  go_ret3
  exact ⟨rfl, Below.next hb1 hb2⟩

set_option maxHeartbeats 1000000 in
theorem awake02 (w : World) : Calls Try.prog 15 #[] w fun e w' => e = .returned (.bool true) ∧ Below w.heap.size w w' := by
  have e1 : Hid (dvQ (9223372036854775808 * 6) 4 = 13835058055282163712) := Lib.hid (by decide)
  have e2 : Hid (dvR (9223372036854775808 * 6) 4 = 0) := Lib.hid (by decide)
  have e3 : Hid (dvE (9223372036854775808 * 6) 4 = 0) := Lib.hid (by decide)
  go_enter Try.func15, Try.ntmps15
  go_wp2_with fail
  refine (muldiv_any 9223372036854775808 6 4 (by omega) (by omega) (by omega) (by omega) (by omega) (by omega) _).mono ?_
  rw [e1.out, e2.out, e3.out]
  rintro e w1 ⟨rfl, hb1⟩
  go_wp2_with fail
  go_ret
  exact ⟨rfl, hb1⟩

end Go.Proofs.Ytfilpmmimpkfmaa
