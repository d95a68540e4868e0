/-
  Plain: sums and comparisons of numbers of eight digits.
-/
import Derived.Test.YtfilpmmimpkfmaaMonE
namespace Go.Proofs.Ytfilpmmimpkfmaa

theorem dig_all8 (x : Int) (h0 : 0 ≤ x) (h1 : x < 340282366920938463463374607431768211456) : x = dig x 0 + 65536 * dig x 1 + 4294967296 * dig x 2 + 281474976710656 * dig x 3 + 18446744073709551616 * dig x 4 + 1208925819614629174706176 * dig x 5 + 79228162514264337593543950336 * dig x 6 + 5192296858534827628530496329220096 * dig x 7 := by
  unfold dig
  simp only [show (65536 : Int) ^ 0 = 1 from rfl, show (65536 : Int) ^ 1 = 65536 from rfl, show (65536 : Int) ^ 2 = 4294967296 from rfl, show (65536 : Int) ^ 3 = 281474976710656 from rfl, show (65536 : Int) ^ 4 = 18446744073709551616 from rfl, show (65536 : Int) ^ 5 = 1208925819614629174706176 from rfl, show (65536 : Int) ^ 6 = 79228162514264337593543950336 from rfl, show (65536 : Int) ^ 7 = 5192296858534827628530496329220096 from rfl]
  omega

/-- The columns of a sum. -/
def sumD (x y : Int) : Nat → Int := fun j => dig x j + dig y j
def mixS (x y : Int) (k : Nat) : Nat → Int := fun j => if j < k then edig (sumD x y) j else 0
theorem sumD_bd (x y : Int) (j : Nat) : 0 ≤ sumD x y j ∧ sumD x y j ≤ 131070 := by have := dig_bd x j; have := dig_bd y j; unfold sumD; omega

theorem sum_digits (x y : Int) (x0 : 0 ≤ x) (x1 : x < 340282366920938463463374607431768211456) (y0 : 0 ≤ y) (y1 : y < 340282366920938463463374607431768211456) :
    arr8 (edig (sumD x y)) = arr8 (dig (x + y)) ∧ carr (sumD x y) 8 = (x + y) / 340282366920938463463374607431768211456 := by
  have ex := dig_all8 x x0 x1
  have ey := dig_all8 y y0 y1
  have hb := sumD_bd x y
  have s0 : sumD x y 0 = dig x 0 + dig y 0 := rfl
  have s1 : sumD x y 1 = dig x 1 + dig y 1 := rfl
  have s2 : sumD x y 2 = dig x 2 + dig y 2 := rfl
  have s3 : sumD x y 3 = dig x 3 + dig y 3 := rfl
  have s4 : sumD x y 4 = dig x 4 + dig y 4 := rfl
  have s5 : sumD x y 5 = dig x 5 + dig y 5 := rfl
  have s6 : sumD x y 6 = dig x 6 + dig y 6 := rfl
  have s7 : sumD x y 7 = dig x 7 + dig y 7 := rfl
  have hxy : x + y = sumD x y 0 + 65536 * sumD x y 1 + 4294967296 * sumD x y 2 + 281474976710656 * sumD x y 3 + 18446744073709551616 * sumD x y 4 + 1208925819614629174706176 * sumD x y 5 + 79228162514264337593543950336 * sumD x y 6 + 5192296858534827628530496329220096 * sumD x y 7 := by
    rw [s0, s1, s2, s3, s4, s5, s6, s7]; omega
  clear s0 s1 s2 s3 s4 s5 s6 s7 ex ey
  have b0 := hb 0; have b1 := hb 1; have b2 := hb 2; have b3 := hb 3; have b4 := hb 4; have b5 := hb 5; have b6 := hb 6; have b7 := hb 7
  generalize x + y = S at *
  generalize sumD x y = D at *
  have k0 : carr D 0 = 0 := rfl
  have k1 : carr D 1 = (D 0 + carr D 0) / 65536 := rfl
  have k2 : carr D 2 = (D 1 + carr D 1) / 65536 := rfl
  have k3 : carr D 3 = (D 2 + carr D 2) / 65536 := rfl
  have k4 : carr D 4 = (D 3 + carr D 3) / 65536 := rfl
  have k5 : carr D 5 = (D 4 + carr D 4) / 65536 := rfl
  have k6 : carr D 6 = (D 5 + carr D 5) / 65536 := rfl
  have k7 : carr D 7 = (D 6 + carr D 6) / 65536 := rfl
  have k8 : carr D 8 = (D 7 + carr D 7) / 65536 := rfl
  have key : S = edig D 0 + 65536 * edig D 1 + 4294967296 * edig D 2 + 281474976710656 * edig D 3 + 18446744073709551616 * edig D 4 + 1208925819614629174706176 * edig D 5 + 79228162514264337593543950336 * edig D 6 + 5192296858534827628530496329220096 * edig D 7 + 340282366920938463463374607431768211456 * carr D 8 := by
    unfold edig
    generalize carr D 0 = r0 at *
    generalize carr D 1 = r1 at *
    generalize carr D 2 = r2 at *
    generalize carr D 3 = r3 at *
    generalize carr D 4 = r4 at *
    generalize carr D 5 = r5 at *
    generalize carr D 6 = r6 at *
    generalize carr D 7 = r7 at *
    generalize carr D 8 = r8 at *
    omega
  have e := edig_bd D
  have e0 := e 0; have e1 := e 1; have e2 := e 2; have e3 := e 3; have e4 := e 4; have e5 := e 5; have e6 := e 6; have e7 := e 7
  clear k0 k1 k2 k3 k4 k5 k6 k7 k8 hxy e hb b0 b1 b2 b3 b4 b5 b6 b7
  constructor
  · refine arr8_congr _ _ fun j hj => ?_
    unfold dig
    obtain rfl | rfl | rfl | rfl | rfl | rfl | rfl | rfl : j = 0 ∨ j = 1 ∨ j = 2 ∨ j = 3 ∨ j = 4 ∨ j = 5 ∨ j = 6 ∨ j = 7 := by omega
    all_goals
      simp only [show (65536 : Int) ^ 0 = 1 from rfl, show (65536 : Int) ^ 1 = 65536 from rfl, show (65536 : Int) ^ 2 = 4294967296 from rfl, show (65536 : Int) ^ 3 = 281474976710656 from rfl, show (65536 : Int) ^ 4 = 18446744073709551616 from rfl, show (65536 : Int) ^ 5 = 1208925819614629174706176 from rfl, show (65536 : Int) ^ 6 = 79228162514264337593543950336 from rfl, show (65536 : Int) ^ 7 = 5192296858534827628530496329220096 from rfl]
      omega
  · omega

/-- How two compare. -/
def cmpI (x y : Int) : Int := if x < y then -1 else if y < x then 1 else 0

theorem part_step (x : Int) (t : Nat) : x / 65536 ^ t = 65536 * (x / 65536 ^ (t + 1)) + dig x t := by
  unfold dig
  rw [Int.pow_succ, ← Int.ediv_ediv_of_nonneg (Int.pow_nonneg (by omega))]
  omega
theorem part_lt (x y : Int) (t : Nat) (h : x / 65536 ^ t < y / 65536 ^ t) : x < y := by
  rcases (show x < y ∨ y ≤ x by omega) with h1 | h1
  · exact h1
  · have := Int.ediv_le_ediv (c := 65536 ^ t) (Int.pow_pos (by omega)) h1
    omega
end Go.Proofs.Ytfilpmmimpkfmaa
