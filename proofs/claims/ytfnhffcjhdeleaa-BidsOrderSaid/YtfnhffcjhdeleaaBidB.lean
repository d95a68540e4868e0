import Derived.Test.YtfnhffcjhdeleaaBidA
import Derived.Maps.AppendAt
import Derived.Deep.RegionLaw
import Derived.IntWalk
namespace Go.Proofs.Ytfnhffcjhdeleaa
open Go.RowKit

/-! ### The document's check -/
structure CommB where
  kind : Int
  id : Int
  member : Int
  other : Int
  sec : Int
  qty : Int
  price : Int
end Go.Proofs.Ytfnhffcjhdeleaa
