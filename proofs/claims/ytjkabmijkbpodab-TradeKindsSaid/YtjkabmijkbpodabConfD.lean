import Derived.Test.YtjkabmijkbpodabConfC
namespace Go.Proofs.Ytjkabmijkbpodab
open Go.RowKit

theorem word_empty (k : Nat) : ((word k).toList == []) = decide (8 ≤ k) := by
  match k with
  | 0 | 1 | 2 | 3 | 4 | 5 | 6 | 7 => simp [word, ByteArray.toList_eq]
  | k + 8 => simp [word, ByteArray.toList_eq]

def checkC (cf : Conf) : Int := if wrongK cf = 8 then 0 else 1
theorem wrongK_le (cf : Conf) : wrongK cf ≤ 8 := by
  unfold wrongK; repeat' split
  all_goals omega

def lastC (cf : Conf) : Int := closeOf 0 cf.cycles

def fewB (n1 n2 n3 : Nat) : Bool := decide (n1 ≤ 20) && (decide (n2 ≤ 20) && decide (n3 ≤ 20))

set_option maxHeartbeats 400000 in
theorem few_any (A1 A2 A3 : Option Addr) (n1 n2 n3 cp1 cp2 cp3 : Nat) (cf : Conf) (w : World) :
    Calls Try.prog 25 #[.agg #[.slice A1 n1 cp1, .slice A2 n2 cp2, .slice A3 n3 cp3, .int .i64 cf.line, .int .i64 cf.capital, .int .i64 cf.lead, .int .i64 cf.trades, .int .i64 cf.bids]] w fun e w' => e = .returned (.bool (fewB n1 n2 n3)) ∧ Below w.heap.size w w' := by
  by_cases h1 : n1 ≤ 20 <;> by_cases h2 : n2 ≤ 20 <;> by_cases h3 : n3 ≤ 20
  all_goals
    go_enter Try.func25, Try.ntmps25
    go_wp2_with fail
    go_ret
    exact ⟨by simp [fewB, h1, h2, h3] <;> omega, (Below.refl _ _).alloc (Nat.le_refl _) _⟩

def nearI (n lo hi : Int) : Int := if n < lo then lo else if hi < n then hi else n
theorem nearI_bd (n lo hi : Int) (h : lo ≤ hi) : lo ≤ nearI n lo hi ∧ nearI n lo hi ≤ hi := by unfold nearI; split <;> (try split) <;> omega

end Go.Proofs.Ytjkabmijkbpodab
