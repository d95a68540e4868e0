import Derived.Test.YtelbolhckhdioaaBase
namespace Go.Proofs.Ytelbolhckhdioaa
/-- A hold: its account, its asset, its amount. -/
structure HoldV where
  k : Int
  m : Int
  a : Int
  z : Int
end Go.Proofs.Ytelbolhckhdioaa
