import Derived.Test.YtehemhpfdajbdaaDoorBase
namespace Go.Proofs.YtehemhpfdajbdaaDoor
open Go.RowKit

/-- Over one call more, from one heap's end on. -/
theorem Below.next {a b c : World} (h : Below a.heap.size a b) (k : Below b.heap.size b c) : Below a.heap.size a c := Below.past h k h.size
theorem Below.next' {B : Nat} {a b c : World} (h : Below B a b) (k : Below b.heap.size b c) (hB : B ≤ a.heap.size) : Below B a c := Below.past h k (Nat.le_trans hB h.size)
end Go.Proofs.YtehemhpfdajbdaaDoor
