import Derived.Test.YtelbolhckhdioaaMonC
namespace Go.Proofs.Ytelbolhckhdioaa
open Go.RowKit

/-! ### Products by schoolbook, in digits of 2^16: plain numbers -/
def dig (x : Int) (i : Nat) : Int := x / 65536 ^ i % 65536
theorem dig_bd (x : Int) (i : Nat) : 0 ≤ dig x i ∧ dig x i ≤ 65535 := by unfold dig; omega
theorem dig_all (x : Int) (h0 : 0 ≤ x) (h1 : x < 18446744073709551616) : x = dig x 0 + 65536 * dig x 1 + 4294967296 * dig x 2 + 281474976710656 * dig x 3 := by
  unfold dig
  simp only [show (65536 : Int) ^ 0 = 1 from rfl, show (65536 : Int) ^ 1 = 65536 from rfl, show (65536 : Int) ^ 2 = 4294967296 from rfl, show (65536 : Int) ^ 3 = 281474976710656 from rfl]
  omega
def upd (D : Nat → Int) (j : Nat) (v : Int) : Nat → Int := fun m => if m = j then v else D m
/-- The columns, when t products have been put to them. -/
def conv (x y : Int) : Nat → Nat → Int
  | 0 => fun _ => 0
  | t + 1 => upd (conv x y t) (t / 4 + t % 4) (conv x y t (t / 4 + t % 4) + dig x (t / 4) * dig y (t % 4))
theorem digmul_bd (x y : Int) (i k : Nat) : 0 ≤ dig x i * dig y k ∧ dig x i * dig y k ≤ 4294836225 := by
  obtain ⟨h1, h2⟩ := dig_bd x i
  obtain ⟨h3, h4⟩ := dig_bd y k
  refine ⟨Int.mul_nonneg h1 h3, ?_⟩
  have := Int.mul_le_mul h2 h4 h3 (by omega : (0 : Int) ≤ 65535)
  omega
theorem conv_bd (x y : Int) (t : Nat) : ∀ j, 0 ≤ conv x y t j ∧ conv x y t j ≤ 4294836225 * (t : Int) := by
  induction t with
  | zero => intro j; simp [conv]
  | succ t ih =>
    intro j
    have h := digmul_bd x y (t / 4) (t % 4)
    have h2 := ih (t / 4 + t % 4)
    have h3 := ih j
    rw [conv, upd]
    split <;> omega
def carr (D : Nat → Int) : Nat → Int
  | 0 => 0
  | j + 1 => (D j + carr D j) / 65536
def edig (D : Nat → Int) (j : Nat) : Int := (D j + carr D j) % 65536
theorem carr_bd (D : Nat → Int) (h : ∀ j, 0 ≤ D j ∧ D j ≤ 68717379600) : ∀ j, 0 ≤ carr D j ∧ carr D j ≤ 68717379600
  | 0 => by simp [carr]
  | j + 1 => by have := carr_bd D h j; have := h j; rw [carr]; omega
theorem edig_bd (D : Nat → Int) (j : Nat) : 0 ≤ edig D j ∧ edig D j ≤ 65535 := by unfold edig; omega
/-- The array while carries go on: below i it is done. -/
def mixD (D : Nat → Int) (i : Nat) : Nat → Int := fun j => if j < i then edig D j else D j

theorem schoolbook (x y : Int) (hx0 : 0 ≤ x) (hx : x < 18446744073709551616) (hy0 : 0 ≤ y) (hy : y < 18446744073709551616) :
    x * y = edig (conv x y 16) 0 + 65536 * edig (conv x y 16) 1 + 4294967296 * edig (conv x y 16) 2 + 281474976710656 * edig (conv x y 16) 3 + 18446744073709551616 * edig (conv x y 16) 4 + 1208925819614629174706176 * edig (conv x y 16) 5 + 79228162514264337593543950336 * edig (conv x y 16) 6 + 5192296858534827628530496329220096 * edig (conv x y 16) 7 := by
  have ex := dig_all x hx0 hx
  have ey := dig_all y hy0 hy
  have hp0 : 0 ≤ x * y := Int.mul_nonneg hx0 hy0
  have hp : x * y ≤ 18446744073709551615 * 18446744073709551615 := Int.mul_le_mul (by omega) (by omega) hy0 (by omega)
  have c0 : conv x y 16 0 = dig x 0 * dig y 0 := by simp [conv, upd]
  have c1 : conv x y 16 1 = dig x 0 * dig y 1 + dig x 1 * dig y 0 := by simp [conv, upd]
  have c2 : conv x y 16 2 = dig x 0 * dig y 2 + dig x 1 * dig y 1 + dig x 2 * dig y 0 := by simp [conv, upd]
  have c3 : conv x y 16 3 = dig x 0 * dig y 3 + dig x 1 * dig y 2 + dig x 2 * dig y 1 + dig x 3 * dig y 0 := by simp [conv, upd]
  have c4 : conv x y 16 4 = dig x 1 * dig y 3 + dig x 2 * dig y 2 + dig x 3 * dig y 1 := by simp [conv, upd]
  have c5 : conv x y 16 5 = dig x 2 * dig y 3 + dig x 3 * dig y 2 := by simp [conv, upd]
  have c6 : conv x y 16 6 = dig x 3 * dig y 3 := by simp [conv, upd]
  have c7 : conv x y 16 7 = 0 := by simp [conv, upd]
  have hxy : x * y = conv x y 16 0 + 65536 * conv x y 16 1 + 4294967296 * conv x y 16 2 + 281474976710656 * conv x y 16 3 + 18446744073709551616 * conv x y 16 4 + 1208925819614629174706176 * conv x y 16 5 + 79228162514264337593543950336 * conv x y 16 6 := by
    rw [c0, c1, c2, c3, c4, c5, c6]
    generalize dig x 0 = x0 at *
    generalize dig x 1 = x1 at *
    generalize dig x 2 = x2 at *
    generalize dig x 3 = x3 at *
    generalize dig y 0 = y0 at *
    generalize dig y 1 = y1 at *
    generalize dig y 2 = y2 at *
    generalize dig y 3 = y3 at *
    rw [ex, ey]
    grind
  have hb := fun j => conv_bd x y 16 j
  generalize conv x y 16 = D at *
  have b0 := hb 0; have b1 := hb 1; have b2 := hb 2; have b3 := hb 3; have b4 := hb 4; have b5 := hb 5; have b6 := hb 6; have b7 := hb 7
  clear hb c0 c1 c2 c3 c4 c5 c6 ex ey
  rw [hxy] at hp hp0 ⊢
  unfold edig
  have k0 : carr D 0 = 0 := rfl
  have k1 : carr D 1 = (D 0 + carr D 0) / 65536 := rfl
  have k2 : carr D 2 = (D 1 + carr D 1) / 65536 := rfl
  have k3 : carr D 3 = (D 2 + carr D 2) / 65536 := rfl
  have k4 : carr D 4 = (D 3 + carr D 3) / 65536 := rfl
  have k5 : carr D 5 = (D 4 + carr D 4) / 65536 := rfl
  have k6 : carr D 6 = (D 5 + carr D 5) / 65536 := rfl
  have k7 : carr D 7 = (D 6 + carr D 6) / 65536 := rfl
  generalize carr D 0 = r0 at *
  generalize carr D 1 = r1 at *
  generalize carr D 2 = r2 at *
  generalize carr D 3 = r3 at *
  generalize carr D 4 = r4 at *
  generalize carr D 5 = r5 at *
  generalize carr D 6 = r6 at *
  generalize carr D 7 = r7 at *
  generalize D 0 = d0 at *
  generalize D 1 = d1 at *
  generalize D 2 = d2 at *
  generalize D 3 = d3 at *
  generalize D 4 = d4 at *
  generalize D 5 = d5 at *
  generalize D 6 = d6 at *
  generalize D 7 = d7 at *
  omega
end Go.Proofs.Ytelbolhckhdioaa
