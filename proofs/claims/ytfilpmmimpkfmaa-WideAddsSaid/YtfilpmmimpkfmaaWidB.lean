import Derived.Test.YtfilpmmimpkfmaaWidA
import Derived.Test.YtfilpmmimpkfmaaWidP
namespace Go.Proofs.Ytfilpmmimpkfmaa
open Go.RowKit

theorem and_one (z : Int) (h0 : 0 ≤ z) (h1 : z < 18446744073709551616) : bits .and .u64 z 1 = z % 2 := by go_bits2

theorem ret3 {a b c a' b' c' : Int} {k k' k'' : IntKind} (h1 : a = a') (h2 : b = b') (h3 : c = c') : Ending.returned (.tuple #[.int k a, .int k' b, .int k'' c]) = .returned (.tuple #[.int k a', .int k' b', .int k'' c']) := by rw [h1, h2, h3]

end Go.Proofs.Ytfilpmmimpkfmaa
