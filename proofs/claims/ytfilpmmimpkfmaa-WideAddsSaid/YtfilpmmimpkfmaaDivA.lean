import Derived.Test.YtfilpmmimpkfmaaKnuQ
import Derived.Test.YtfilpmmimpkfmaaMonA
import Derived.Test.YtfilpmmimpkfmaaBas2
import Derived.Test.YtfilpmmimpkfmaaShelf
namespace Go.Proofs.Ytfilpmmimpkfmaa
open Go.RowKit

theorem lz_any (x : Int) (h0 : 0 ≤ x) (h1 : x < 18446744073709551616) (w : World) :
    Calls Try.prog 116 #[.int .u64 x] w fun e w' => e = .returned (.int .i64 (64 - (Lib.bitLen x.toNat : Int))) ∧ w = w' :=
  (Try.bits_LeadingZeros64 x w h0 (by omega)).mono fun _ _ ⟨he, hw⟩ => ⟨he, hw.symm⟩

set_option maxHeartbeats 1000000 in
theorem div64_zero (lo y : Int) (l0 : 0 ≤ lo) (l1 : lo < 18446744073709551616) (y0 : 0 < y) (y1 : y < 18446744073709551616) (w : World) :
    Calls Try.prog 110 #[.int .u64 0, .int .u64 lo, .int .u64 y] w fun e w' => e = .returned (.tuple #[.int .u64 (lo / y), .int .u64 (lo % y)]) ∧ Below w.heap.size w w' := by
  have q1 : (y == 0) = false := by simp; omega
  have q2 : decide (y ≤ 0) = false := dec_f (by omega)
  have hq0 : 0 ≤ lo / y := Int.ediv_nonneg l0 (by omega)
  have hq1 : lo / y ≤ lo := Int.ediv_le_self _ l0
  have hr0 : 0 ≤ lo % y := Int.emod_nonneg _ (by omega)
  have hr1 : lo % y < y := Int.emod_lt_of_pos _ y0
  have e1 : lo.tdiv y = lo / y := Int.tdiv_eq_ediv_of_nonneg l0
  have e2 : lo.tmod y = lo % y := Int.tmod_eq_emod_of_nonneg l0
  have e3 : IntKind.u64.wrap (lo / y) = lo / y := IntWalk.u64_in _ (by omega)
  have e4 : IntKind.u64.wrap (lo % y) = lo % y := IntWalk.u64_in _ (by omega)
  go_enter Try.func110, Try.ntmps110
  go_wp2_with fail
  go_quiet (fail)
  go_wp2_with fail
  go_ret2
  exact ⟨rfl, below_drewN (Below.refl _ _) _⟩

set_option maxRecDepth 100000 in
set_option maxHeartbeats 4000000 in
theorem div64_more (hi lo yo : Int) (h0 : 0 < hi) (h1 : hi < yo) (l0 : 0 ≤ lo) (l1 : lo < 18446744073709551616) (hy : yo < 18446744073709551616) (w : World) :
    Calls Try.prog 110 #[.int .u64 hi, .int .u64 lo, .int .u64 yo] w fun e w' => e = .returned (.tuple #[.int .u64 ((hi * 18446744073709551616 + lo) / yo), .int .u64 ((hi * 18446744073709551616 + lo) % yo)]) ∧ w = w' := by
  have q1 : (yo == 0) = false := by simp; omega
  have q2 : decide (yo ≤ hi) = false := dec_f (by omega)
  have q3 : (hi == 0) = false := by simp; omega
  obtain ⟨s, D, E, s63, hs, hD, hE, hDE, d1, e1, Y1, Y2, P0, P1, Z0, Z1, hor⟩ := norm64 hi lo yo (by omega) h1 l0 l1 hy
  obtain ⟨Y, hY⟩ : ∃ Y, Hid (yo * D = Y) := ⟨_, Lib.hid rfl⟩
  obtain ⟨P, hP⟩ : ∃ Y, Hid (hi * D = Y) := ⟨_, Lib.hid rfl⟩
  obtain ⟨Z, hZ⟩ : ∃ Y, Hid (lo / E = Y) := ⟨_, Lib.hid rfl⟩
  obtain ⟨b, hb⟩ : ∃ Y, Hid (lo * D % 18446744073709551616 = Y) := ⟨_, Lib.hid rfl⟩
  rw [hY.out] at Y1 Y2 P1
  rw [hP.out] at P0 P1 hor
  rw [hZ.out] at Z0 Z1 hor
  obtain ⟨a, hA⟩ : ∃ a, Hid (P + Z = a) := ⟨_, Lib.hid rfl⟩
  rw [hA.out] at hor
  have a0 : 0 ≤ a := by rw [← hA.out]; omega
  have a1 : a < Y := by rw [← hA.out]; omega
  obtain ⟨y1, hy1⟩ : ∃ a, Hid (Y / 4294967296 = a) := ⟨_, Lib.hid rfl⟩
  obtain ⟨y0, hy0⟩ : ∃ a, Hid (Y % 4294967296 = a) := ⟨_, Lib.hid rfl⟩
  obtain ⟨b1, hb1⟩ : ∃ a, Hid (b / 4294967296 = a) := ⟨_, Lib.hid rfl⟩
  obtain ⟨b0, hb0⟩ : ∃ a, Hid (b % 4294967296 = a) := ⟨_, Lib.hid rfl⟩
  have bb0 : 0 ≤ b := by rw [← hb.out]; omega
  have bb1 : b < 18446744073709551616 := by rw [← hb.out]; omega
  have HbB : Hid (b1 * 4294967296 + b0 = lo * D % 18446744073709551616) := Lib.hid (by rw [hb.out, ← hb1.out, ← hb0.out]; omega)
  have b1l : 0 ≤ b1 := by rw [← hb1.out]; omega
  have b1h : b1 < 4294967296 := by rw [← hb1.out]; omega
  have b0l : 0 ≤ b0 := by rw [← hb0.out]; omega
  have b0h : b0 < 4294967296 := by rw [← hb0.out]; omega
  have K1 : Kn a b1 Y y1 y0 := ⟨by rw [← hy1.out, ← hy0.out]; omega, by rw [← hy1.out]; omega, by rw [← hy1.out]; omega, by rw [← hy0.out]; omega, by rw [← hy0.out]; omega, a0, a1, b1l, b1h⟩
  have y1l := K1.y1l
  have y1h := K1.y1h
  have y0l := K1.y0l
  have y0h := K1.y0h
  obtain ⟨f1, f2, f3, f4⟩ := K1.first
  obtain ⟨qh, hqh⟩ : ∃ a', Hid (a / y1 = a') := ⟨_, Lib.hid rfl⟩
  rw [hqh.out] at f1 f2 f3 f4
  have rl := Int.emod_nonneg a (show y1 ≠ 0 by omega)
  have rh := Int.emod_lt_of_pos a (show 0 < y1 by omega)
  obtain ⟨rr, hrr⟩ : ∃ a', Hid (a % y1 = a') := ⟨_, Lib.hid rfl⟩
  rw [hrr.out] at f4 rl rh
  have U1l := K1.ul
  have U1h := K1.uh
  have Q1l := K1.ql
  have Q1h := K1.qh
  have S1 := Lib.hid K1.spec
  obtain ⟨Q1, hQ1⟩ : ∃ q, Hid (knQ a b1 Y = q) := ⟨_, Lib.hid rfl⟩
  obtain ⟨U1, hU1⟩ : ∃ q, Hid (knU a b1 Y = q) := ⟨_, Lib.hid rfl⟩
  rw [hQ1.out] at Q1l Q1h
  rw [hU1.out] at U1l U1h
  rw [hQ1.out, hU1.out] at S1
  have K2 : Kn U1 b0 Y y1 y0 := ⟨K1.hy, K1.y1l, K1.y1h, K1.y0l, K1.y0h, U1l, U1h, b0l, b0h⟩
  have U0l := K2.ul
  have U0h := K2.uh
  have Q0l := K2.ql
  have Q0h := K2.qh
  have S0 := Lib.hid K2.spec
  obtain ⟨Q0, hQ0⟩ : ∃ q, Hid (knQ U1 b0 Y = q) := ⟨_, Lib.hid rfl⟩
  obtain ⟨U0, hU0⟩ : ∃ q, Hid (knU U1 b0 Y = q) := ⟨_, Lib.hid rfl⟩
  rw [hQ0.out] at Q0l Q0h
  rw [hU0.out] at U0l U0h
  rw [hQ0.out, hU0.out] at S0
  have HR := Lib.hid (knuth_all hi lo yo D E hDE.out d1 e1 (by omega) h1 l0 Q1 Q0 U1 U0 b1 b0 HbB.out (by rw [hY.out, hP.out, hZ.out, hA.out]; exact S1.out) (by rw [hY.out]; exact S0.out) U0l (by rw [hY.out]; exact U0h))
  obtain ⟨m1, hm1⟩ : ∃ m, Hid (IntKind.u64.wrap (a * 4294967296) = m) := ⟨_, Lib.hid rfl⟩
  obtain ⟨m2, hm2⟩ : ∃ m, Hid (IntKind.u64.wrap (m1 + b1) = m) := ⟨_, Lib.hid rfl⟩
  obtain ⟨m3, hm3⟩ : ∃ m, Hid (IntKind.u64.wrap (Q1 * Y) = m) := ⟨_, Lib.hid rfl⟩
  have hm4 : Hid (IntKind.u64.wrap (m2 - m3) = U1) := Lib.hid (by
    have e := S1.out
    rw [← hm2.out, ← hm1.out, ← hm3.out]
    simp only [IntKind.wrap_u64]
    generalize Q1 * Y = QY at *
    omega)
  obtain ⟨n1, hn1⟩ : ∃ m, Hid (IntKind.u64.wrap (Q1 * 4294967296) = m) := ⟨_, Lib.hid rfl⟩
  have hn2 : Hid (IntKind.u64.wrap (n1 + Q0) = Q1 * 4294967296 + Q0) := Lib.hid (by rw [← hn1.out]; simp only [IntKind.wrap_u64]; omega)
  obtain ⟨n3, hn3⟩ : ∃ m, Hid (IntKind.u64.wrap (U1 * 4294967296) = m) := ⟨_, Lib.hid rfl⟩
  obtain ⟨n4, hn4⟩ : ∃ m, Hid (IntKind.u64.wrap (n3 + b0) = m) := ⟨_, Lib.hid rfl⟩
  obtain ⟨n5, hn5⟩ : ∃ m, Hid (IntKind.u64.wrap (Q0 * Y) = m) := ⟨_, Lib.hid rfl⟩
  have hn6 : Hid (IntKind.u64.wrap (n4 - n5) = U0) := Lib.hid (by
    have e := S0.out
    rw [← hn4.out, ← hn3.out, ← hn5.out]
    simp only [IntKind.wrap_u64]
    generalize Q0 * Y = QY at *
    omega)
  go_enter Try.func110, Try.ntmps110
  go_wp2_with fail
  refine (lz_any yo (by omega) (by omega) _).mono ?_
  rw [hs.out]
  rintro e w' ⟨rfl, rfl⟩
  have w1 : IntKind.u64.wrap (yo * 2 ^ s) = Y := by rw [hD.out, hY.out]; exact IntWalk.u64_in _ (by omega)
  have w2 : IntKind.u64.wrap (hi * 2 ^ s) = P := by rw [hD.out, hP.out]; exact IntWalk.u64_in _ (by omega)
  have w3 : IntKind.u64.wrap (lo * 2 ^ s) = b := by rw [hD.out, IntKind.wrap_u64, hb.out]
  have w4 : lo / 2 ^ (64 - s) = Z := by rw [hE.out, hZ.out]
  have w5 : (64 - (s : Int)).toNat = 64 - s := by omega
  have w6 : bits .and .u64 Y 4294967295 = y0 := by rw [and_low32 Y (by omega) (by omega), hy0.out]
  have w7 : bits .and .u64 b 4294967295 = b0 := by rw [and_low32 b (by omega) (by omega), hb0.out]
  have w8 := hor.out
  have w9 := hy1.out
  have w10 := hb1.out
  go_wp2_with fail
  have hmm : a - rr = qh * y1 := by omega
  have hnn := Int.mul_nonneg f3 (show 0 ≤ y1 by omega)
  have w12 : IntKind.u64.wrap (qh * y1) = a - rr := by rw [← hmm]; exact IntWalk.u64_in _ (by omega)
  have w13 : IntKind.u64.wrap (a - (a - rr)) = rr := by rw [IntWalk.u64_in _ (by omega)]; omega
  rw [hqh.out, w12, w13]
  clear hmm hnn w1 w2 w3 w4 w5 w6 w7 w8 w9 w10 w12 w13
  go_loop [15, 16] (fun x z => ∃ q r : Int, x = .int .u64 q ∧ z = .int .u64 r ∧ Hid (r = a - q * y1) ∧ Hid (knQ a b1 Y ≤ q) ∧ 0 ≤ q ∧ q ≤ 4294967297 ∧ 0 ≤ r ∧ r < 4294967296) (fun x _ => (intOf x).toNat)
  case atStart => exact ⟨qh, rr, rfl, rfl, Lib.hid (by omega), Lib.hid f1, f3, f2, rl, by omega⟩
  case round =>
    clear f1 f2 f3 f4 rl rh hqh hrr
    obtain ⟨q, r, rfl, rfl, hr, hle, q0, q1', r0, r1⟩ := hrel
    have HX1 : Hid (∀ q' r' : Int, q' = q - 1 → r' = r + y1 → r' = a - q' * y1) := Lib.hid (by intro q' r' h1 h2; rw [h1, h2, hr.out, Int.sub_mul]; omega)
    by_cases t1 : 4294967296 ≤ q
    · have p1 := dec_t t1
      have HQ := Lib.hid (Kn.dec1 K1 t1)
      by_cases t3 : 4294967296 ≤ r + y1
      · have p3 := dec_t t3
        have HE : Hid (q - 1 = knQ a b1 Y) := Lib.hid (Kn.brk K1 (HX1.out _ _ rfl rfl) HQ.out (by omega) (by omega) t3)
        have k1 : IntKind.u64.wrap (a * 4294967296) = m1 := hm1.out
        have k2 : IntKind.u64.wrap (m1 + b1) = m2 := hm2.out
        have k3 : IntKind.u64.wrap ((q - 1) * Y) = m3 := by rw [HE.out, hQ1.out]; exact hm3.out
        have k4 : IntKind.u64.wrap (m2 - m3) = U1 := hm4.out
        have hqQ : Hid ((q - 1) = Q1) := Lib.hid (by rw [HE.out, hQ1.out])
        go_wp2_with fail
        rw [hqQ.out]
        clear k1 k2 k3 k4 hqQ HE hr q0 q1' r0 r1 t1 p1 HX1 hle
        obtain ⟨f1, f2, f3, f4⟩ := K2.first
        obtain ⟨qh, hqh⟩ : ∃ a', Hid (U1 / y1 = a') := ⟨_, Lib.hid rfl⟩
        rw [hqh.out] at f1 f2 f3 f4
        have rl := Int.emod_nonneg U1 (show y1 ≠ 0 by omega)
        have rh := Int.emod_lt_of_pos U1 (show 0 < y1 by omega)
        obtain ⟨rr, hrr⟩ : ∃ a', Hid (U1 % y1 = a') := ⟨_, Lib.hid rfl⟩
        rw [hrr.out] at f4 rl rh
        have hmm : U1 - rr = qh * y1 := by omega
        have hnn := Int.mul_nonneg f3 (show 0 ≤ y1 by omega)
        have w12 : IntKind.u64.wrap (qh * y1) = U1 - rr := by rw [← hmm]; exact IntWalk.u64_in _ (by omega)
        have w13 : IntKind.u64.wrap (U1 - (U1 - rr)) = rr := by rw [IntWalk.u64_in _ (by omega)]; omega
        rw [hqh.out, w12, w13]
        clear hmm hnn w12 w13
        go_loop [18, 16] (fun x z => ∃ q r : Int, x = .int .u64 q ∧ z = .int .u64 r ∧ Hid (r = U1 - q * y1) ∧ Hid (knQ U1 b0 Y ≤ q) ∧ 0 ≤ q ∧ q ≤ 4294967297 ∧ 0 ≤ r ∧ r < 4294967296) (fun x _ => (intOf x).toNat)
        case atStart => exact ⟨qh, rr, rfl, rfl, Lib.hid (by omega), Lib.hid f1, f3, f2, rl, by omega⟩
        case round =>
          clear f1 f2 f3 f4 rl rh hqh hrr
          obtain ⟨q, r, rfl, rfl, hr, hle, q0, q1', r0, r1⟩ := hrel
          have HX1 : Hid (∀ q' r' : Int, q' = q - 1 → r' = r + y1 → r' = U1 - q' * y1) := Lib.hid (by intro q' r' h1 h2; rw [h1, h2, hr.out, Int.sub_mul]; omega)
          by_cases t1 : 4294967296 ≤ q
          · have p1 := dec_t t1
            have HQ := Lib.hid (Kn.dec1 K2 t1)
            by_cases t3 : 4294967296 ≤ r + y1
            · have p3 := dec_t t3
              have HE : Hid (q - 1 = knQ U1 b0 Y) := Lib.hid (Kn.brk K2 (HX1.out _ _ rfl rfl) HQ.out (by omega) (by omega) t3)
              have j1 : IntKind.u64.wrap (Q1 * 4294967296) = n1 := hn1.out
              have j2 : IntKind.u64.wrap (n1 + (q - 1)) = Q1 * 4294967296 + Q0 := by rw [HE.out, hQ0.out]; exact hn2.out
              have j3 : IntKind.u64.wrap (U1 * 4294967296) = n3 := hn3.out
              have j4 : IntKind.u64.wrap (n3 + b0) = n4 := hn4.out
              have j5 : IntKind.u64.wrap ((q - 1) * Y) = n5 := by rw [HE.out, hQ0.out]; exact hn5.out
              have j6 : IntKind.u64.wrap (n4 - n5) = U0 := hn6.out
              have j7 : U0 / 2 ^ s = U0 / D := by rw [hD.out]
              go_wp2_with fail
              go_ret2
              exact ⟨ret2 HR.out.1.symm HR.out.2.symm, rfl⟩

            · have p3 := dec_f t3
              go_wp2_with fail
              go_round
              case rel => exact ⟨q - 1, r + y1, rfl, rfl, Lib.hid (HX1.out _ _ rfl rfl), HQ, by omega, by omega, by omega, by omega⟩
              case measure => simp [intOf]; omega
          · have p1 := dec_f t1
            have hm : q * y0 ≤ 4294967295 * 4294967295 := Int.mul_le_mul (by omega) (by omega) (by omega) (by omega)
            have hm0 : 0 ≤ q * y0 := Int.mul_nonneg q0 y0l
            have v1 : IntKind.u64.wrap (q * y0) = q * y0 := IntWalk.u64_in _ (by omega)
            by_cases t2 : 4294967296 * r + b0 < q * y0
            · have p2 := dec_t t2
              have HQ := Lib.hid (Kn.dec2 K2 hr.out t2)
              have hq1 : 1 ≤ q := by
                rcases (show q = 0 ∨ 1 ≤ q by omega) with h | h
                · subst h; rw [Int.zero_mul] at t2; omega
                · exact h
              by_cases t3 : 4294967296 ≤ r + y1
              · have p3 := dec_t t3
                have HE : Hid (q - 1 = knQ U1 b0 Y) := Lib.hid (Kn.brk K2 (HX1.out _ _ rfl rfl) HQ.out (by omega) (by omega) t3)
                have j1 : IntKind.u64.wrap (Q1 * 4294967296) = n1 := hn1.out
                have j2 : IntKind.u64.wrap (n1 + (q - 1)) = Q1 * 4294967296 + Q0 := by rw [HE.out, hQ0.out]; exact hn2.out
                have j3 : IntKind.u64.wrap (U1 * 4294967296) = n3 := hn3.out
                have j4 : IntKind.u64.wrap (n3 + b0) = n4 := hn4.out
                have j5 : IntKind.u64.wrap ((q - 1) * Y) = n5 := by rw [HE.out, hQ0.out]; exact hn5.out
                have j6 : IntKind.u64.wrap (n4 - n5) = U0 := hn6.out
                have j7 : U0 / 2 ^ s = U0 / D := by rw [hD.out]
                go_wp2_with fail
                go_ret2
                exact ⟨ret2 HR.out.1.symm HR.out.2.symm, rfl⟩

              · have p3 := dec_f t3
                go_wp2_with fail
                go_round
                case rel => exact ⟨q - 1, r + y1, rfl, rfl, Lib.hid (HX1.out _ _ rfl rfl), HQ, by omega, by omega, by omega, by omega⟩
                case measure => simp [intOf]; omega
            · have p2 := dec_f t2
              have HE : Hid (q = knQ U1 b0 Y) := Lib.hid (Kn.stop K2 hr.out hle.out (by omega))
              have j1 : IntKind.u64.wrap (Q1 * 4294967296) = n1 := hn1.out
              have j2 : IntKind.u64.wrap (n1 + q) = Q1 * 4294967296 + Q0 := by rw [HE.out, hQ0.out]; exact hn2.out
              have j3 : IntKind.u64.wrap (U1 * 4294967296) = n3 := hn3.out
              have j4 : IntKind.u64.wrap (n3 + b0) = n4 := hn4.out
              have j5 : IntKind.u64.wrap (q * Y) = n5 := by rw [HE.out, hQ0.out]; exact hn5.out
              have j6 : IntKind.u64.wrap (n4 - n5) = U0 := hn6.out
              have j7 : U0 / 2 ^ s = U0 / D := by rw [hD.out]
              go_wp2_with fail
              go_ret2
              exact ⟨ret2 HR.out.1.symm HR.out.2.symm, rfl⟩

      · have p3 := dec_f t3
        go_wp2_with fail
        go_round
        case rel => exact ⟨q - 1, r + y1, rfl, rfl, Lib.hid (HX1.out _ _ rfl rfl), HQ, by omega, by omega, by omega, by omega⟩
        case measure => simp [intOf]; omega
    · have p1 := dec_f t1
      have hm : q * y0 ≤ 4294967295 * 4294967295 := Int.mul_le_mul (by omega) (by omega) (by omega) (by omega)
      have hm0 : 0 ≤ q * y0 := Int.mul_nonneg q0 y0l
      have v1 : IntKind.u64.wrap (q * y0) = q * y0 := IntWalk.u64_in _ (by omega)
      by_cases t2 : 4294967296 * r + b1 < q * y0
      · have p2 := dec_t t2
        have HQ := Lib.hid (Kn.dec2 K1 hr.out t2)
        have hq1 : 1 ≤ q := by
          rcases (show q = 0 ∨ 1 ≤ q by omega) with h | h
          · subst h; rw [Int.zero_mul] at t2; omega
          · exact h
        by_cases t3 : 4294967296 ≤ r + y1
        · have p3 := dec_t t3
          have HE : Hid (q - 1 = knQ a b1 Y) := Lib.hid (Kn.brk K1 (HX1.out _ _ rfl rfl) HQ.out (by omega) (by omega) t3)
          have k1 : IntKind.u64.wrap (a * 4294967296) = m1 := hm1.out
          have k2 : IntKind.u64.wrap (m1 + b1) = m2 := hm2.out
          have k3 : IntKind.u64.wrap ((q - 1) * Y) = m3 := by rw [HE.out, hQ1.out]; exact hm3.out
          have k4 : IntKind.u64.wrap (m2 - m3) = U1 := hm4.out
          have hqQ : Hid ((q - 1) = Q1) := Lib.hid (by rw [HE.out, hQ1.out])
          go_wp2_with fail
          rw [hqQ.out]
          clear k1 k2 k3 k4 hqQ HE hr q0 q1' r0 r1 t1 p1 HX1 hle
          obtain ⟨f1, f2, f3, f4⟩ := K2.first
          obtain ⟨qh, hqh⟩ : ∃ a', Hid (U1 / y1 = a') := ⟨_, Lib.hid rfl⟩
          rw [hqh.out] at f1 f2 f3 f4
          have rl := Int.emod_nonneg U1 (show y1 ≠ 0 by omega)
          have rh := Int.emod_lt_of_pos U1 (show 0 < y1 by omega)
          obtain ⟨rr, hrr⟩ : ∃ a', Hid (U1 % y1 = a') := ⟨_, Lib.hid rfl⟩
          rw [hrr.out] at f4 rl rh
          have hmm : U1 - rr = qh * y1 := by omega
          have hnn := Int.mul_nonneg f3 (show 0 ≤ y1 by omega)
          have w12 : IntKind.u64.wrap (qh * y1) = U1 - rr := by rw [← hmm]; exact IntWalk.u64_in _ (by omega)
          have w13 : IntKind.u64.wrap (U1 - (U1 - rr)) = rr := by rw [IntWalk.u64_in _ (by omega)]; omega
          rw [hqh.out, w12, w13]
          clear hmm hnn w12 w13
          go_loop [18, 16] (fun x z => ∃ q r : Int, x = .int .u64 q ∧ z = .int .u64 r ∧ Hid (r = U1 - q * y1) ∧ Hid (knQ U1 b0 Y ≤ q) ∧ 0 ≤ q ∧ q ≤ 4294967297 ∧ 0 ≤ r ∧ r < 4294967296) (fun x _ => (intOf x).toNat)
          case atStart => exact ⟨qh, rr, rfl, rfl, Lib.hid (by omega), Lib.hid f1, f3, f2, rl, by omega⟩
          case round =>
            clear f1 f2 f3 f4 rl rh hqh hrr
            obtain ⟨q, r, rfl, rfl, hr, hle, q0, q1', r0, r1⟩ := hrel
            have HX1 : Hid (∀ q' r' : Int, q' = q - 1 → r' = r + y1 → r' = U1 - q' * y1) := Lib.hid (by intro q' r' h1 h2; rw [h1, h2, hr.out, Int.sub_mul]; omega)
            by_cases t1 : 4294967296 ≤ q
            · have p1 := dec_t t1
              have HQ := Lib.hid (Kn.dec1 K2 t1)
              by_cases t3 : 4294967296 ≤ r + y1
              · have p3 := dec_t t3
                have HE : Hid (q - 1 = knQ U1 b0 Y) := Lib.hid (Kn.brk K2 (HX1.out _ _ rfl rfl) HQ.out (by omega) (by omega) t3)
                have j1 : IntKind.u64.wrap (Q1 * 4294967296) = n1 := hn1.out
                have j2 : IntKind.u64.wrap (n1 + (q - 1)) = Q1 * 4294967296 + Q0 := by rw [HE.out, hQ0.out]; exact hn2.out
                have j3 : IntKind.u64.wrap (U1 * 4294967296) = n3 := hn3.out
                have j4 : IntKind.u64.wrap (n3 + b0) = n4 := hn4.out
                have j5 : IntKind.u64.wrap ((q - 1) * Y) = n5 := by rw [HE.out, hQ0.out]; exact hn5.out
                have j6 : IntKind.u64.wrap (n4 - n5) = U0 := hn6.out
                have j7 : U0 / 2 ^ s = U0 / D := by rw [hD.out]
                go_wp2_with fail
                go_ret2
                exact ⟨ret2 HR.out.1.symm HR.out.2.symm, rfl⟩

              · have p3 := dec_f t3
                go_wp2_with fail
                go_round
                case rel => exact ⟨q - 1, r + y1, rfl, rfl, Lib.hid (HX1.out _ _ rfl rfl), HQ, by omega, by omega, by omega, by omega⟩
                case measure => simp [intOf]; omega
            · have p1 := dec_f t1
              have hm : q * y0 ≤ 4294967295 * 4294967295 := Int.mul_le_mul (by omega) (by omega) (by omega) (by omega)
              have hm0 : 0 ≤ q * y0 := Int.mul_nonneg q0 y0l
              have v1 : IntKind.u64.wrap (q * y0) = q * y0 := IntWalk.u64_in _ (by omega)
              by_cases t2 : 4294967296 * r + b0 < q * y0
              · have p2 := dec_t t2
                have HQ := Lib.hid (Kn.dec2 K2 hr.out t2)
                have hq1 : 1 ≤ q := by
                  rcases (show q = 0 ∨ 1 ≤ q by omega) with h | h
                  · subst h; rw [Int.zero_mul] at t2; omega
                  · exact h
                by_cases t3 : 4294967296 ≤ r + y1
                · have p3 := dec_t t3
                  have HE : Hid (q - 1 = knQ U1 b0 Y) := Lib.hid (Kn.brk K2 (HX1.out _ _ rfl rfl) HQ.out (by omega) (by omega) t3)
                  have j1 : IntKind.u64.wrap (Q1 * 4294967296) = n1 := hn1.out
                  have j2 : IntKind.u64.wrap (n1 + (q - 1)) = Q1 * 4294967296 + Q0 := by rw [HE.out, hQ0.out]; exact hn2.out
                  have j3 : IntKind.u64.wrap (U1 * 4294967296) = n3 := hn3.out
                  have j4 : IntKind.u64.wrap (n3 + b0) = n4 := hn4.out
                  have j5 : IntKind.u64.wrap ((q - 1) * Y) = n5 := by rw [HE.out, hQ0.out]; exact hn5.out
                  have j6 : IntKind.u64.wrap (n4 - n5) = U0 := hn6.out
                  have j7 : U0 / 2 ^ s = U0 / D := by rw [hD.out]
                  go_wp2_with fail
                  go_ret2
                  exact ⟨ret2 HR.out.1.symm HR.out.2.symm, rfl⟩

                · have p3 := dec_f t3
                  go_wp2_with fail
                  go_round
                  case rel => exact ⟨q - 1, r + y1, rfl, rfl, Lib.hid (HX1.out _ _ rfl rfl), HQ, by omega, by omega, by omega, by omega⟩
                  case measure => simp [intOf]; omega
              · have p2 := dec_f t2
                have HE : Hid (q = knQ U1 b0 Y) := Lib.hid (Kn.stop K2 hr.out hle.out (by omega))
                have j1 : IntKind.u64.wrap (Q1 * 4294967296) = n1 := hn1.out
                have j2 : IntKind.u64.wrap (n1 + q) = Q1 * 4294967296 + Q0 := by rw [HE.out, hQ0.out]; exact hn2.out
                have j3 : IntKind.u64.wrap (U1 * 4294967296) = n3 := hn3.out
                have j4 : IntKind.u64.wrap (n3 + b0) = n4 := hn4.out
                have j5 : IntKind.u64.wrap (q * Y) = n5 := by rw [HE.out, hQ0.out]; exact hn5.out
                have j6 : IntKind.u64.wrap (n4 - n5) = U0 := hn6.out
                have j7 : U0 / 2 ^ s = U0 / D := by rw [hD.out]
                go_wp2_with fail
                go_ret2
                exact ⟨ret2 HR.out.1.symm HR.out.2.symm, rfl⟩

        · have p3 := dec_f t3
          go_wp2_with fail
          go_round
          case rel => exact ⟨q - 1, r + y1, rfl, rfl, Lib.hid (HX1.out _ _ rfl rfl), HQ, by omega, by omega, by omega, by omega⟩
          case measure => simp [intOf]; omega
      · have p2 := dec_f t2
        have HE : Hid (q = knQ a b1 Y) := Lib.hid (Kn.stop K1 hr.out hle.out (by omega))
        have k1 : IntKind.u64.wrap (a * 4294967296) = m1 := hm1.out
        have k2 : IntKind.u64.wrap (m1 + b1) = m2 := hm2.out
        have k3 : IntKind.u64.wrap (q * Y) = m3 := by rw [HE.out, hQ1.out]; exact hm3.out
        have k4 : IntKind.u64.wrap (m2 - m3) = U1 := hm4.out
        have hqQ : Hid (q = Q1) := Lib.hid (by rw [HE.out, hQ1.out])
        go_wp2_with fail
        rw [hqQ.out]
        clear k1 k2 k3 k4 hqQ HE hr q0 q1' r0 r1 t1 p1 HX1 hle
        obtain ⟨f1, f2, f3, f4⟩ := K2.first
        obtain ⟨qh, hqh⟩ : ∃ a', Hid (U1 / y1 = a') := ⟨_, Lib.hid rfl⟩
        rw [hqh.out] at f1 f2 f3 f4
        have rl := Int.emod_nonneg U1 (show y1 ≠ 0 by omega)
        have rh := Int.emod_lt_of_pos U1 (show 0 < y1 by omega)
        obtain ⟨rr, hrr⟩ : ∃ a', Hid (U1 % y1 = a') := ⟨_, Lib.hid rfl⟩
        rw [hrr.out] at f4 rl rh
        have hmm : U1 - rr = qh * y1 := by omega
        have hnn := Int.mul_nonneg f3 (show 0 ≤ y1 by omega)
        have w12 : IntKind.u64.wrap (qh * y1) = U1 - rr := by rw [← hmm]; exact IntWalk.u64_in _ (by omega)
        have w13 : IntKind.u64.wrap (U1 - (U1 - rr)) = rr := by rw [IntWalk.u64_in _ (by omega)]; omega
        rw [hqh.out, w12, w13]
        clear hmm hnn w12 w13
        go_loop [18, 16] (fun x z => ∃ q r : Int, x = .int .u64 q ∧ z = .int .u64 r ∧ Hid (r = U1 - q * y1) ∧ Hid (knQ U1 b0 Y ≤ q) ∧ 0 ≤ q ∧ q ≤ 4294967297 ∧ 0 ≤ r ∧ r < 4294967296) (fun x _ => (intOf x).toNat)
        case atStart => exact ⟨qh, rr, rfl, rfl, Lib.hid (by omega), Lib.hid f1, f3, f2, rl, by omega⟩
        case round =>
          clear f1 f2 f3 f4 rl rh hqh hrr
          obtain ⟨q, r, rfl, rfl, hr, hle, q0, q1', r0, r1⟩ := hrel
          have HX1 : Hid (∀ q' r' : Int, q' = q - 1 → r' = r + y1 → r' = U1 - q' * y1) := Lib.hid (by intro q' r' h1 h2; rw [h1, h2, hr.out, Int.sub_mul]; omega)
          by_cases t1 : 4294967296 ≤ q
          · have p1 := dec_t t1
            have HQ := Lib.hid (Kn.dec1 K2 t1)
            by_cases t3 : 4294967296 ≤ r + y1
            · have p3 := dec_t t3
              have HE : Hid (q - 1 = knQ U1 b0 Y) := Lib.hid (Kn.brk K2 (HX1.out _ _ rfl rfl) HQ.out (by omega) (by omega) t3)
              have j1 : IntKind.u64.wrap (Q1 * 4294967296) = n1 := hn1.out
              have j2 : IntKind.u64.wrap (n1 + (q - 1)) = Q1 * 4294967296 + Q0 := by rw [HE.out, hQ0.out]; exact hn2.out
              have j3 : IntKind.u64.wrap (U1 * 4294967296) = n3 := hn3.out
              have j4 : IntKind.u64.wrap (n3 + b0) = n4 := hn4.out
              have j5 : IntKind.u64.wrap ((q - 1) * Y) = n5 := by rw [HE.out, hQ0.out]; exact hn5.out
              have j6 : IntKind.u64.wrap (n4 - n5) = U0 := hn6.out
              have j7 : U0 / 2 ^ s = U0 / D := by rw [hD.out]
              go_wp2_with fail
              go_ret2
              exact ⟨ret2 HR.out.1.symm HR.out.2.symm, rfl⟩

            · have p3 := dec_f t3
              go_wp2_with fail
              go_round
              case rel => exact ⟨q - 1, r + y1, rfl, rfl, Lib.hid (HX1.out _ _ rfl rfl), HQ, by omega, by omega, by omega, by omega⟩
              case measure => simp [intOf]; omega
          · have p1 := dec_f t1
            have hm : q * y0 ≤ 4294967295 * 4294967295 := Int.mul_le_mul (by omega) (by omega) (by omega) (by omega)
            have hm0 : 0 ≤ q * y0 := Int.mul_nonneg q0 y0l
            have v1 : IntKind.u64.wrap (q * y0) = q * y0 := IntWalk.u64_in _ (by omega)
            by_cases t2 : 4294967296 * r + b0 < q * y0
            · have p2 := dec_t t2
              have HQ := Lib.hid (Kn.dec2 K2 hr.out t2)
              have hq1 : 1 ≤ q := by
                rcases (show q = 0 ∨ 1 ≤ q by omega) with h | h
                · subst h; rw [Int.zero_mul] at t2; omega
                · exact h
              by_cases t3 : 4294967296 ≤ r + y1
              · have p3 := dec_t t3
                have HE : Hid (q - 1 = knQ U1 b0 Y) := Lib.hid (Kn.brk K2 (HX1.out _ _ rfl rfl) HQ.out (by omega) (by omega) t3)
                have j1 : IntKind.u64.wrap (Q1 * 4294967296) = n1 := hn1.out
                have j2 : IntKind.u64.wrap (n1 + (q - 1)) = Q1 * 4294967296 + Q0 := by rw [HE.out, hQ0.out]; exact hn2.out
                have j3 : IntKind.u64.wrap (U1 * 4294967296) = n3 := hn3.out
                have j4 : IntKind.u64.wrap (n3 + b0) = n4 := hn4.out
                have j5 : IntKind.u64.wrap ((q - 1) * Y) = n5 := by rw [HE.out, hQ0.out]; exact hn5.out
                have j6 : IntKind.u64.wrap (n4 - n5) = U0 := hn6.out
                have j7 : U0 / 2 ^ s = U0 / D := by rw [hD.out]
                go_wp2_with fail
                go_ret2
                exact ⟨ret2 HR.out.1.symm HR.out.2.symm, rfl⟩

              · have p3 := dec_f t3
                go_wp2_with fail
                go_round
                case rel => exact ⟨q - 1, r + y1, rfl, rfl, Lib.hid (HX1.out _ _ rfl rfl), HQ, by omega, by omega, by omega, by omega⟩
                case measure => simp [intOf]; omega
            · have p2 := dec_f t2
              have HE : Hid (q = knQ U1 b0 Y) := Lib.hid (Kn.stop K2 hr.out hle.out (by omega))
              have j1 : IntKind.u64.wrap (Q1 * 4294967296) = n1 := hn1.out
              have j2 : IntKind.u64.wrap (n1 + q) = Q1 * 4294967296 + Q0 := by rw [HE.out, hQ0.out]; exact hn2.out
              have j3 : IntKind.u64.wrap (U1 * 4294967296) = n3 := hn3.out
              have j4 : IntKind.u64.wrap (n3 + b0) = n4 := hn4.out
              have j5 : IntKind.u64.wrap (q * Y) = n5 := by rw [HE.out, hQ0.out]; exact hn5.out
              have j6 : IntKind.u64.wrap (n4 - n5) = U0 := hn6.out
              have j7 : U0 / 2 ^ s = U0 / D := by rw [hD.out]
              go_wp2_with fail
              go_ret2
              exact ⟨ret2 HR.out.1.symm HR.out.2.symm, rfl⟩
end Go.Proofs.Ytfilpmmimpkfmaa
