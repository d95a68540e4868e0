/-
  Plain: two words divided by one, by two such steps behind a shift.
-/
import Derived.Test.YtfilpmmimpkfmaaKnuP
import Derived.Lib.ItoaNum
import Derived.Lib.Hide
import Derived.Laws.BitsAllLaws
namespace Go.Proofs.Ytfilpmmimpkfmaa
open Go.RowKit

theorem or_add (x z : Int) (s : Nat) (hs : s ≤ 63) (h1 : 0 ≤ x) (h2 : x * 2 ^ s < 18446744073709551616) (h3 : 0 ≤ z) (h4 : z < 2 ^ s) : bits .or .u64 (x * 2 ^ s) z = x * 2 ^ s + z := by
  obtain ⟨X, rfl⟩ := Int.eq_ofNat_of_zero_le h1
  obtain ⟨Z, rfl⟩ := Int.eq_ofNat_of_zero_le h3
  have hp : ((2 : Int) ^ s) = ((2 ^ s : Nat) : Int) := by simp
  rw [hp] at h2 h4 ⊢
  have h4' : Z < 2 ^ s := by omega
  have hle : (2 : Nat) ^ s ≤ 2 ^ 63 := Nat.pow_le_pow_right (by omega) hs
  have h2' : X * 2 ^ s < 18446744073709551616 := by
    have : (((X * 2 ^ s : Nat)) : Int) < 18446744073709551616 := by rw [Int.natCast_mul]; exact h2
    omega
  have := u64_or_nat (X * 2 ^ s) Z h2' (by omega)
  rw [Int.natCast_mul] at this
  rw [this]
  have e : X * 2 ^ s ||| Z = X * 2 ^ s + Z := by
    rw [Nat.mul_comm, Nat.two_pow_add_eq_or_of_lt h4']
  rw [e, Int.natCast_add, Int.natCast_mul]

theorem norm64 (hi lo yo : Int) (h0 : 0 ≤ hi) (h1 : hi < yo) (l0 : 0 ≤ lo) (l1 : lo < 18446744073709551616) (hy : yo < 18446744073709551616) :
    ∃ (s : Nat) (D E : Int), s ≤ 63 ∧ Hid ((64 - (Lib.bitLen yo.toNat : Int)) = s) ∧ Hid ((2 : Int) ^ s = D) ∧ Hid ((2 : Int) ^ (64 - s) = E) ∧ Hid (D * E = 18446744073709551616) ∧ 1 ≤ D ∧ 1 ≤ E ∧
      9223372036854775808 ≤ yo * D ∧ yo * D < 18446744073709551616 ∧ 0 ≤ hi * D ∧ hi * D + D ≤ yo * D ∧ 0 ≤ lo / E ∧ lo / E < D ∧ Hid (bits .or .u64 (hi * D) (lo / E) = hi * D + lo / E) := by
  obtain ⟨Y, rfl⟩ := Int.eq_ofNat_of_zero_le (show 0 ≤ yo by omega)
  obtain ⟨b1, b2, b3⟩ := Lib.bitLenAux_bounds 64 Y (by omega) (by omega)
  have b4 : Lib.bitLenAux 64 Y ≤ 64 := Lib.bitLen_le Y 64 (by omega) (by omega)
  have hbe : Lib.bitLen Y = Lib.bitLenAux 64 Y := rfl
  rw [← hbe] at b1 b2 b3 b4
  obtain ⟨s, hs⟩ : ∃ s, s = 64 - Lib.bitLen Y := ⟨_, rfl⟩
  have hbl : Lib.bitLen Y = 64 - s := by omega
  rw [hbl] at b2 b3
  have hE : ((2 : Int) ^ (64 - s)) = ((2 ^ (64 - s) : Nat) : Int) := by simp
  have hD : ((2 : Int) ^ s) = ((2 ^ s : Nat) : Int) := by simp
  have hDE : (2 ^ s : Nat) * 2 ^ (64 - s) = 18446744073709551616 := by rw [← Nat.pow_add, show s + (64 - s) = 64 by omega]
  have hDE2 : (2 ^ s : Nat) * 2 ^ (64 - s - 1) = 9223372036854775808 := by rw [← Nat.pow_add, show s + (64 - s - 1) = 63 by omega]
  have d1 : 1 ≤ (2 ^ s : Nat) := Nat.one_le_two_pow
  have e1 : 1 ≤ (2 ^ (64 - s) : Nat) := Nat.one_le_two_pow
  have f1 : 9223372036854775808 ≤ Y * 2 ^ s := by
    rw [← hDE2, Nat.mul_comm]; exact Nat.mul_le_mul_right _ b2
  have f2 : Y * 2 ^ s < 18446744073709551616 := by
    rw [← hDE, Nat.mul_comm (2 ^ s)]; exact Nat.mul_lt_mul_of_pos_right b3 (by omega)
  have hbound : hi * ((2 ^ s : Nat) : Int) + ((2 ^ s : Nat) : Int) ≤ (Y : Int) * ((2 ^ s : Nat) : Int) := by
    have := Int.mul_le_mul_of_nonneg_right (show hi + 1 ≤ (Y : Int) by omega) (show (0 : Int) ≤ ((2 ^ s : Nat) : Int) by omega)
    rw [Int.add_mul, Int.one_mul] at this
    exact this
  have hYD : (Y : Int) * ((2 ^ s : Nat) : Int) < 18446744073709551616 := by
    have : (((Y * 2 ^ s : Nat)) : Int) < 18446744073709551616 := by omega
    rwa [Int.natCast_mul] at this
  have q0 : 0 ≤ lo / ((2 ^ (64 - s) : Nat) : Int) := Int.ediv_nonneg l0 (by omega)
  have q1 : lo / ((2 ^ (64 - s) : Nat) : Int) < ((2 ^ s : Nat) : Int) := by
    apply Int.ediv_lt_of_lt_mul (by omega)
    have : (((2 ^ s : Nat) * 2 ^ (64 - s) : Nat) : Int) = 18446744073709551616 := by rw [hDE]; rfl
    rw [Int.natCast_mul] at this
    omega
  have hnn : 0 ≤ hi * ((2 ^ s : Nat) : Int) := Int.mul_nonneg h0 (by omega)
  refine ⟨s, ((2 ^ s : Nat) : Int), ((2 ^ (64 - s) : Nat) : Int), by omega, Lib.hid (by simp only [Int.toNat_natCast]; omega), Lib.hid hD, Lib.hid hE, Lib.hid ?_, by omega, by omega, ?_, hYD, hnn, hbound, q0, q1, Lib.hid ?_⟩
  · rw [← Int.natCast_mul, hDE]; rfl
  · have : (9223372036854775808 : Int) ≤ ((Y * 2 ^ s : Nat) : Int) := by omega
    rwa [Int.natCast_mul] at this
  · have := or_add hi (lo / ((2 ^ (64 - s) : Nat) : Int)) s (by omega) h0 (by rw [hD]; omega) q0 (by rw [hD]; exact q1)
    rw [hD] at this
    exact this

/-- What two steps come to. -/
theorem knuth_all (hi lo yo D E : Int) (hDE : D * E = 18446744073709551616) (d1 : 1 ≤ D) (e1 : 1 ≤ E) (h0 : 0 ≤ hi) (h1 : hi < yo) (l0 : 0 ≤ lo) (q1 q0 u1 u0 b1 b0 : Int)
    (hb : b1 * 4294967296 + b0 = lo * D % 18446744073709551616)
    (s1 : q1 * (yo * D) + u1 = (hi * D + lo / E) * 4294967296 + b1) (s0 : q0 * (yo * D) + u0 = u1 * 4294967296 + b0) (ul : 0 ≤ u0) (uh : u0 < yo * D) :
    (hi * 18446744073709551616 + lo) / yo = q1 * 4294967296 + q0 ∧ (hi * 18446744073709551616 + lo) % yo = u0 / D := by
  have hlo : lo * D / 18446744073709551616 = lo / E := by
    rw [← hDE, Int.mul_comm D E, Int.mul_ediv_mul_of_pos_left _ _ (by omega)]
  have hsp := Int.mul_ediv_add_emod (lo * D) 18446744073709551616
  rw [hlo] at hsp
  -- all times D
  have key : (q1 * 4294967296 + q0) * (yo * D) + u0 = (hi * 18446744073709551616 + lo) * D := by
    have e1 : (q1 * 4294967296 + q0) * (yo * D) = q1 * (yo * D) * 4294967296 + q0 * (yo * D) := by rw [Int.add_mul, Int.mul_right_comm]
    have e2 : (hi * 18446744073709551616 + lo) * D = hi * D * 18446744073709551616 + lo * D := by rw [Int.add_mul, Int.mul_right_comm]
    rw [e1, e2]
    omega
  have key2 : u0 = (hi * 18446744073709551616 + lo - (q1 * 4294967296 + q0) * yo) * D := by
    rw [Int.sub_mul, Int.mul_assoc (q1 * 4294967296 + q0)]
    omega
  obtain ⟨R, hR⟩ : ∃ R, R = hi * 18446744073709551616 + lo - (q1 * 4294967296 + q0) * yo := ⟨_, rfl⟩
  rw [← hR] at key2
  have r0 : 0 ≤ R := by
    rcases (show R < 0 ∨ 0 ≤ R by omega) with h | h
    · have := Int.mul_le_mul_of_nonneg_right (show R ≤ -1 by omega) (show (0 : Int) ≤ D by omega)
      omega
    · exact h
  have r1 : R < yo := by
    rcases (show R < yo ∨ yo ≤ R by omega) with h | h
    · exact h
    · have := Int.mul_le_mul_of_nonneg_right h (show (0 : Int) ≤ D by omega)
      omega
  have hu : u0 / D = R := by rw [key2]; exact Int.mul_ediv_cancel _ (by omega)
  have hq : (hi * 18446744073709551616 + lo) / yo = q1 * 4294967296 + q0 ∧ (hi * 18446744073709551616 + lo) % yo = R := by
    have e : hi * 18446744073709551616 + lo = R + yo * (q1 * 4294967296 + q0) := by rw [hR, Int.mul_comm yo]; omega
    rw [e]
    refine ⟨?_, ?_⟩
    · rw [Int.add_mul_ediv_left _ _ (by omega), Int.ediv_eq_zero_of_lt r0 r1]; omega
    · rw [Int.add_mul_emod_self_left, Int.emod_eq_of_lt r0 r1]
  rw [hu]
  exact hq
end Go.Proofs.Ytfilpmmimpkfmaa
