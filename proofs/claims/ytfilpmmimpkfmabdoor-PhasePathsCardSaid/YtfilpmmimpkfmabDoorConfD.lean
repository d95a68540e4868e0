import Derived.Test.YtfilpmmimpkfmabDoorConfC
namespace Go.Proofs.YtfilpmmimpkfmabDoor
open Go.RowKit

theorem word_empty (k : Nat) : ((word k).toList == []) = decide (8 ≤ k) := by
  match k with
  | 0 | 1 | 2 | 3 | 4 | 5 | 6 | 7 => simp [word, ByteArray.toList_eq]
  | k + 8 => simp [word, ByteArray.toList_eq]

def checkC (cf : Conf) : Int := if wrongK cf = 8 then 0 else 1
theorem wrongK_le (cf : Conf) : wrongK cf ≤ 8 := by
  unfold wrongK; repeat' split
  all_goals omega

def lastC (cf : Conf) : Int := closeOf 0 cf.cycles

def fewB (n1 n2 n3 : Nat) : Bool := decide (n1 ≤ 20) && (decide (n2 ≤ 20) && decide (n3 ≤ 20))

def nearI (n lo hi : Int) : Int := if n < lo then lo else if hi < n then hi else n
theorem nearI_bd (n lo hi : Int) (h : lo ≤ hi) : lo ≤ nearI n lo hi ∧ nearI n lo hi ≤ hi := by unfold nearI; split <;> (try split) <;> omega

end Go.Proofs.YtfilpmmimpkfmabDoor
