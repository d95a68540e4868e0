import Derived.WalkKit
namespace Go.Proofs.Ytjkabmijkbpodab
/-- ^b -/
theorem bits_not (b : Int) (h1 : -9223372036854775808 ≤ b) (h2 : b ≤ 9223372036854775807) : bits .xor .i64 (-1) b = -b - 1 := by
  have e : (((BitVec.ofInt 64 (-1) ^^^ BitVec.ofInt 64 b).toNat : Nat) : Int) = 18446744073709551615 - b % 18446744073709551616 := by
    have e1 : BitVec.ofInt 64 (-1) = BitVec.allOnes 64 := by decide
    rw [e1, BitVec.allOnes_xor, BitVec.toNat_not, BitVec.toNat_ofInt]
    have hm : 0 ≤ b % 18446744073709551616 ∧ b % 18446744073709551616 < 18446744073709551616 := by omega
    have e2 : ((2 ^ 64 : Nat) : Int) = 18446744073709551616 := by decide
    rw [e2]
    omega
  show IntKind.i64.wrap (((BitVec.ofInt 64 (-1) ^^^ BitVec.ofInt 64 b).toNat : Nat) : Int) = _
  rw [e, IntKind.wrap_i64]
  omega
end Go.Proofs.Ytjkabmijkbpodab
