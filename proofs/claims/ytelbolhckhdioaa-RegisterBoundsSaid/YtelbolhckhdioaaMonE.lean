import Derived.Test.YtelbolhckhdioaaMonD
namespace Go.Proofs.Ytelbolhckhdioaa
open Go.RowKit

theorem and_low16 (z : Int) (h0 : 0 ≤ z) (h1 : z < 18446744073709551616) : bits .and .u64 z 65535 = z % 65536 := by go_bits2
theorem and_dig (x : Int) (i : Nat) (hx0 : 0 ≤ x) (hx : x < 18446744073709551616) : bits .and .u64 (x / 2 ^ (16 * i)) 65535 = dig x i := by
  rw [Int.pow_mul, show (2 : Int) ^ 16 = 65536 from rfl]
  have h1 : 0 ≤ x / 65536 ^ i := Int.ediv_nonneg hx0 (Int.pow_nonneg (by omega))
  have h2 : x / 65536 ^ i ≤ x := Int.ediv_le_self _ hx0
  rw [and_low16 _ h1 (by omega)]; rfl
/-- Eight words in a variable. -/
def arr8 (D : Nat → Int) : Array Value := #[.int .u64 (D 0), .int .u64 (D 1), .int .u64 (D 2), .int .u64 (D 3), .int .u64 (D 4), .int .u64 (D 5), .int .u64 (D 6), .int .u64 (D 7)]
theorem arr8_get (D : Nat → Int) (j : Nat) (h : j < 8) : (arr8 D)[j]? = some (.int .u64 (D j)) := by
  obtain rfl | rfl | rfl | rfl | rfl | rfl | rfl | rfl : j = 0 ∨ j = 1 ∨ j = 2 ∨ j = 3 ∨ j = 4 ∨ j = 5 ∨ j = 6 ∨ j = 7 := by omega
  all_goals rfl
theorem arr8_set (D : Nat → Int) (j : Nat) (v : Int) (h : j < 8) : (arr8 D).setIfInBounds j (.int .u64 v) = arr8 (upd D j v) := by
  obtain rfl | rfl | rfl | rfl | rfl | rfl | rfl | rfl : j = 0 ∨ j = 1 ∨ j = 2 ∨ j = 3 ∨ j = 4 ∨ j = 5 ∨ j = 6 ∨ j = 7 := by omega
  all_goals rfl
theorem arr8_congr (D E : Nat → Int) (h : ∀ j, j < 8 → D j = E j) : arr8 D = arr8 E := by
  simp [arr8, h 0, h 1, h 2, h 3, h 4, h 5, h 6, h 7]

end Go.Proofs.Ytelbolhckhdioaa
