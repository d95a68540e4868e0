/-
  Plain: one step of the long division of a number of three half words by one of two (Knuth's D), in whole numbers.
-/
import Derived.WalkKit
namespace Go.Proofs.Ytfilpmmimpkfmaa

/-- What is known of a step: y = y1 B + y0, with its highest bit set; a is below y. -/
structure Kn (a b y y1 y0 : Int) : Prop where
  hy : y = y1 * 4294967296 + y0
  y1l : 2147483648 ≤ y1
  y1h : y1 < 4294967296
  y0l : 0 ≤ y0
  y0h : y0 < 4294967296
  al : 0 ≤ a
  ah : a < y
  bl : 0 ≤ b
  bh : b < 4294967296

def knQ (a b y : Int) : Int := (a * 4294967296 + b) / y
def knU (a b y : Int) : Int := (a * 4294967296 + b) % y

theorem Kn.spec' {a b y : Int} : knQ a b y * y + knU a b y = a * 4294967296 + b := by
  have := Int.mul_ediv_add_emod (a * 4294967296 + b) y
  rw [Int.mul_comm] at this
  exact this
section
variable {a b y y1 y0 : Int} (h : Kn a b y y1 y0)
include h
theorem Kn.yp : 0 < y := by have := h.hy; have := h.y1l; have := h.y0l; omega
theorem Kn.spec : knQ a b y * y + knU a b y = a * 4294967296 + b := by have _ := h; exact Kn.spec'
theorem Kn.ul : 0 ≤ knU a b y := Int.emod_nonneg _ (by have := h.yp; omega)
theorem Kn.uh : knU a b y < y := Int.emod_lt_of_pos _ h.yp
theorem Kn.ql : 0 ≤ knQ a b y := Int.ediv_nonneg (by have := h.al; have := h.bl; omega) (by have := h.yp; omega)
theorem Kn.qh : knQ a b y < 4294967296 := by
  apply Int.ediv_lt_of_lt_mul h.yp
  have h1 := h.ah
  have h2 := h.bh
  rw [Int.mul_comm]
  have : (a + 1) * 4294967296 ≤ y * 4294967296 := Int.mul_le_mul_of_nonneg_right (by omega) (by omega)
  omega
/-- The product is above what is divided just if the number is above the quotient. -/
theorem Kn.above {q : Int} (hq : a * 4294967296 + b < q * y) : knQ a b y ≤ q - 1 := by
  have hs := h.spec
  have hu := h.ul
  rcases (show knQ a b y < q ∨ q ≤ knQ a b y by omega) with h1 | h1
  · omega
  · have := Int.mul_le_mul_of_nonneg_right h1 (show 0 ≤ y by have := h.yp; omega)
    omega
theorem Kn.not_above {q : Int} (hq : q * y ≤ a * 4294967296 + b) : q ≤ knQ a b y := by
  have hs := h.spec
  have hu := h.uh
  rcases (show knQ a b y < q ∨ q ≤ knQ a b y by omega) with h1 | h1
  · have h2 := Int.mul_le_mul_of_nonneg_right (show knQ a b y + 1 ≤ q by omega) (show 0 ≤ y by have := h.yp; omega)
    rw [Int.add_mul, Int.one_mul] at h2
    omega
  · exact h1
theorem Kn.prod {q r : Int} (hr : r = a - q * y1) : q * y = a * 4294967296 - r * 4294967296 + q * y0 := by
  rw [h.hy, hr, Int.mul_add, ← Int.mul_assoc, Int.sub_mul]
  omega
/-- The first guess. -/
theorem Kn.first : knQ a b y ≤ a / y1 ∧ a / y1 ≤ 4294967297 ∧ 0 ≤ a / y1 ∧ a - a / y1 * y1 = a % y1 := by
  have y1p : 0 < y1 := by have := h.y1l; omega
  refine ⟨?_, ?_, Int.ediv_nonneg h.al (by omega), ?_⟩
  · rw [Int.le_ediv_iff_mul_le y1p]
    have hs := h.spec
    have hu := h.ul
    have e : knQ a b y * y = knQ a b y * y1 * 4294967296 + knQ a b y * y0 := by rw [h.hy, Int.mul_add, Int.mul_assoc]
    have := Int.mul_nonneg h.ql h.y0l
    have := h.bh
    omega
  · have h1 : a / y1 < 4294967298 := by
      apply Int.ediv_lt_of_lt_mul y1p
      have := h.ah
      have := h.hy
      have := h.y1l
      have := h.y0h
      rw [Int.mul_comm]
      omega
    omega
  · have := Int.mul_ediv_add_emod a y1
    rw [Int.mul_comm] at this
    omega
/-- It is too great: it is B or more. -/
theorem Kn.dec1 {q : Int} (hq : 4294967296 ≤ q) : knQ a b y ≤ q - 1 := by have := h.qh; omega
/-- It is too great: the test says so. -/
theorem Kn.dec2 {q r : Int} (hr : r = a - q * y1) (ht : 4294967296 * r + b < q * y0) : knQ a b y ≤ q - 1 := by
  apply h.above
  rw [h.prod hr]
  omega
/-- The test says no: it is right. -/
theorem Kn.stop {q r : Int} (hr : r = a - q * y1) (hle : knQ a b y ≤ q) (ht : q * y0 ≤ 4294967296 * r + b) : q = knQ a b y := by
  have : q ≤ knQ a b y := by
    apply h.not_above
    rw [h.prod hr]
    omega
  omega
/-- What is left has become too great: it is right. -/
theorem Kn.brk {q r : Int} (hr : r = a - q * y1) (hle : knQ a b y ≤ q) (hq : q ≤ 4294967296) (h0 : 0 ≤ q) (hb : 4294967296 ≤ r) : q = knQ a b y := by
  apply h.stop hr hle
  have h1 : q * y0 ≤ 4294967296 * 4294967296 := Int.mul_le_mul hq (by have := h.y0h; omega) h.y0l (by omega)
  have := h.bl
  omega
end
end Go.Proofs.Ytfilpmmimpkfmaa
