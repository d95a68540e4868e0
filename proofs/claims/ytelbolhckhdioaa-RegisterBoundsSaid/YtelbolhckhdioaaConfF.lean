import Derived.Test.YtelbolhckhdioaaConfE
namespace Go.Proofs.Ytelbolhckhdioaa
open Go.RowKit

theorem nearI_is (n lo hi : Int) (h : lo ≤ hi) : (nearI n lo hi ≤ n ∨ nearI n lo hi = lo) ∧ (n ≤ nearI n lo hi ∨ nearI n lo hi = hi) := by unfold nearI; split <;> (try split) <;> omega

end Go.Proofs.Ytelbolhckhdioaa
