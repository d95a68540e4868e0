/-
  No cell of these rows narrows 'for every input' (looked for: loops, veiled, ifaces, maps, wideKeys, modest, calm, conditions, laid).
  DERIVED. THE GIVEN ROWS OF THIS SEAT. 9 by the template 'for every input the law returns true; each argument reads behind the call as it read before'; 0 by the template 'total and deterministic' (their statements: YtjkabmijkbpodaaTotals.lean).
  GIVEN WITH THE SEED: the statements are not yours to turn. If you find one false, say at which input.
  Laid BY PROGRAM, IN A SANDBOX (cutbox-rows.mjs): the forced cells as the released guide's own fill.sh prints them over the translation f17a89498d12de2f… (all of the seat's roots in one cut). By AI agents, Wed Nov 11 2026. No macro, syntax, notation, axiom, sorry.
-/
import Derived.Test.YtjkabmijkbpodaaChecked
import GoSem.Claim
import GoSem.ClaimJoined
import GoSem.ClaimMapViews
import Derived.JoinedTies
import Derived.KernelRfl
namespace Go.Proofs.Ytjkabmijkbpodaa
/- THE CELL 'sum', in the pinned program and in every row, IS THE sha256 OF THE DUMP (.gsa) THAT YtjkabmijkbpodaaProg.lean LOADS. Nothing in Lean hashes anything: it is a label: what it is worth is what the hold of that sum in a sandbox is worth. -/
noncomputable def Try.pinned : Pinned := { name := "ytjkabmijkbpodaa", sum := "f17a89498d12de2f774ec74e3a90fba44a27abf5dc65cfef2977b441b3712300", checked := Try.checked }
namespace Rows
def none {H : Type} : Left H := { results := [], args := [] }

/-- 'complinelaw25.AuctionBounds': WHATEVER THE INPUT: true; the input reads as it did. -/
def auctionBoundsSpec : ChangeSpec := { name := "auctionBounds", fn := fun _ => fun
  | [d1, d2, d3] => { results := [.lit (.bool true)], args := [d1, d2, d3] }
  | _ => none }
def auctionBoundsRow : OpenClaim := { program := "ytjkabmijkbpodaa", sum := "f17a89498d12de2f774ec74e3a90fba44a27abf5dc65cfef2977b441b3712300", func := "compline/complinelaw25.AuctionBounds", spec := "auctionBounds", unfollowed := true, recurses := true, apart := false }
def AuctionBoundsSaid : Prop := auctionBoundsRow.holds Try.pinned (OpenSpec.ofChange auctionBoundsSpec)

/-- ITS FALSE NEIGHBOUR: 'it returns false'. Refute it at one input. -/
def auctionBoundsWrong : ChangeSpec := { name := "auctionBounds", fn := fun _ => fun
  | [d1, d2, d3] => { results := [.lit (.bool false)], args := [d1, d2, d3] }
  | _ => none }
def AuctionBoundsWrongFalsely : Prop := auctionBoundsRow.holds Try.pinned (OpenSpec.ofChange auctionBoundsWrong)

/-- 'complinelaw10.ConfMay': WHATEVER THE INPUT: true; the input reads as it did. -/
def confMaySpec : ChangeSpec := { name := "confMay", fn := fun _ => fun
  | [d] => { results := [.lit (.bool true)], args := [d] }
  | _ => none }
def confMayRow : OpenClaim := { program := "ytjkabmijkbpodaa", sum := "f17a89498d12de2f774ec74e3a90fba44a27abf5dc65cfef2977b441b3712300", func := "compline/complinelaw10.ConfMay", spec := "confMay", unfollowed := true, recurses := true, apart := false }
def ConfMaySaid : Prop := confMayRow.holds Try.pinned (OpenSpec.ofChange confMaySpec)

/-- ITS FALSE NEIGHBOUR: 'it returns false'. Refute it at one input. -/
def confMayWrong : ChangeSpec := { name := "confMay", fn := fun _ => fun
  | [d] => { results := [.lit (.bool false)], args := [d] }
  | _ => none }
def ConfMayWrongFalsely : Prop := confMayRow.holds Try.pinned (OpenSpec.ofChange confMayWrong)

/-- 'complinelaw10.ConfPlain': WHATEVER THE INPUT: true; the input reads as it did. -/
def confPlainSpec : ChangeSpec := { name := "confPlain", fn := fun _ => fun
  | [d1, d2, d3] => { results := [.lit (.bool true)], args := [d1, d2, d3] }
  | _ => none }
def confPlainRow : OpenClaim := { program := "ytjkabmijkbpodaa", sum := "f17a89498d12de2f774ec74e3a90fba44a27abf5dc65cfef2977b441b3712300", func := "compline/complinelaw10.ConfPlain", spec := "confPlain", unfollowed := true, recurses := true, apart := false }
def ConfPlainSaid : Prop := confPlainRow.holds Try.pinned (OpenSpec.ofChange confPlainSpec)

/-- ITS FALSE NEIGHBOUR: 'it returns false'. Refute it at one input. -/
def confPlainWrong : ChangeSpec := { name := "confPlain", fn := fun _ => fun
  | [d1, d2, d3] => { results := [.lit (.bool false)], args := [d1, d2, d3] }
  | _ => none }
def ConfPlainWrongFalsely : Prop := confPlainRow.holds Try.pinned (OpenSpec.ofChange confPlainWrong)

/-- 'complinelaw16.TradeLegs': WHATEVER THE INPUT: true; the input reads as it did. -/
def tradeLegsSpec : ChangeSpec := { name := "tradeLegs", fn := fun _ => fun
  | [d1, d2, d3] => { results := [.lit (.bool true)], args := [d1, d2, d3] }
  | _ => none }
def tradeLegsRow : OpenClaim := { program := "ytjkabmijkbpodaa", sum := "f17a89498d12de2f774ec74e3a90fba44a27abf5dc65cfef2977b441b3712300", func := "compline/complinelaw16.TradeLegs", spec := "tradeLegs", inPlace := ["math/bits.Add64"], unfollowed := true, recurses := true, apart := false }
def TradeLegsSaid : Prop := tradeLegsRow.holds Try.pinned (OpenSpec.ofChange tradeLegsSpec)

/-- ITS FALSE NEIGHBOUR: 'it returns false'. Refute it at one input. -/
def tradeLegsWrong : ChangeSpec := { name := "tradeLegs", fn := fun _ => fun
  | [d1, d2, d3] => { results := [.lit (.bool false)], args := [d1, d2, d3] }
  | _ => none }
def TradeLegsWrongFalsely : Prop := tradeLegsRow.holds Try.pinned (OpenSpec.ofChange tradeLegsWrong)

/-- 'complinelaw02.WideDivs': WHATEVER THE INPUT: true; the input reads as it did. -/
def wideDivsSpec : ChangeSpec := { name := "wideDivs", fn := fun _ => fun
  | [d1, d2] => { results := [.lit (.bool true)], args := [d1, d2] }
  | _ => none }
def wideDivsRow : OpenClaim := { program := "ytjkabmijkbpodaa", sum := "f17a89498d12de2f774ec74e3a90fba44a27abf5dc65cfef2977b441b3712300", func := "compline/complinelaw02.WideDivs", spec := "wideDivs", named := ["math/bits.divideError", "math/bits.overflowError"], apart := false }
def WideDivsSaid : Prop := wideDivsRow.holds Try.pinned (OpenSpec.ofChange wideDivsSpec)

/-- ITS FALSE NEIGHBOUR: 'it returns false'. Refute it at one input. -/
def wideDivsWrong : ChangeSpec := { name := "wideDivs", fn := fun _ => fun
  | [d1, d2] => { results := [.lit (.bool false)], args := [d1, d2] }
  | _ => none }
def WideDivsWrongFalsely : Prop := wideDivsRow.holds Try.pinned (OpenSpec.ofChange wideDivsWrong)

/-- 'complinelaw02.WideBack': WHATEVER THE INPUT: true; the input reads as it did. -/
def wideBackSpec : ChangeSpec := { name := "wideBack", fn := fun _ => fun
  | [d1, d2, d3] => { results := [.lit (.bool true)], args := [d1, d2, d3] }
  | _ => none }
def wideBackRow : OpenClaim := { program := "ytjkabmijkbpodaa", sum := "f17a89498d12de2f774ec74e3a90fba44a27abf5dc65cfef2977b441b3712300", func := "compline/complinelaw02.WideBack", spec := "wideBack", named := ["math/bits.divideError", "math/bits.overflowError"], apart := false }
def WideBackSaid : Prop := wideBackRow.holds Try.pinned (OpenSpec.ofChange wideBackSpec)

/-- ITS FALSE NEIGHBOUR: 'it returns false'. Refute it at one input. -/
def wideBackWrong : ChangeSpec := { name := "wideBack", fn := fun _ => fun
  | [d1, d2, d3] => { results := [.lit (.bool false)], args := [d1, d2, d3] }
  | _ => none }
def WideBackWrongFalsely : Prop := wideBackRow.holds Try.pinned (OpenSpec.ofChange wideBackWrong)

/-- 'complinelaw10.ConfHas': WHATEVER THE INPUT: true; the input reads as it did. -/
def confHasSpec : ChangeSpec := { name := "confHas", fn := fun _ => fun
  | [d1, d2] => { results := [.lit (.bool true)], args := [d1, d2] }
  | _ => none }
def confHasRow : OpenClaim := { program := "ytjkabmijkbpodaa", sum := "f17a89498d12de2f774ec74e3a90fba44a27abf5dc65cfef2977b441b3712300", func := "compline/complinelaw10.ConfHas", spec := "confHas", unfollowed := true, recurses := true, apart := false }
def ConfHasSaid : Prop := confHasRow.holds Try.pinned (OpenSpec.ofChange confHasSpec)

/-- ITS FALSE NEIGHBOUR: 'it returns false'. Refute it at one input. -/
def confHasWrong : ChangeSpec := { name := "confHas", fn := fun _ => fun
  | [d1, d2] => { results := [.lit (.bool false)], args := [d1, d2] }
  | _ => none }
def ConfHasWrongFalsely : Prop := confHasRow.holds Try.pinned (OpenSpec.ofChange confHasWrong)

/-- 'complinelaw16.TradeMay': WHATEVER THE INPUT: true; the input reads as it did. -/
def tradeMaySpec : ChangeSpec := { name := "tradeMay", fn := fun _ => fun
  | [d1, d2, d3] => { results := [.lit (.bool true)], args := [d1, d2, d3] }
  | _ => none }
def tradeMayRow : OpenClaim := { program := "ytjkabmijkbpodaa", sum := "f17a89498d12de2f774ec74e3a90fba44a27abf5dc65cfef2977b441b3712300", func := "compline/complinelaw16.TradeMay", spec := "tradeMay", apart := false }
def TradeMaySaid : Prop := tradeMayRow.holds Try.pinned (OpenSpec.ofChange tradeMaySpec)

/-- ITS FALSE NEIGHBOUR: 'it returns false'. Refute it at one input. -/
def tradeMayWrong : ChangeSpec := { name := "tradeMay", fn := fun _ => fun
  | [d1, d2, d3] => { results := [.lit (.bool false)], args := [d1, d2, d3] }
  | _ => none }
def TradeMayWrongFalsely : Prop := tradeMayRow.holds Try.pinned (OpenSpec.ofChange tradeMayWrong)

/-- 'complinelaw01.MoneySums': WHATEVER THE INPUT: true; the input reads as it did. -/
def moneySumsSpec : ChangeSpec := { name := "moneySums", fn := fun _ => fun
  | [d1, d2] => { results := [.lit (.bool true)], args := [d1, d2] }
  | _ => none }
def moneySumsRow : OpenClaim := { program := "ytjkabmijkbpodaa", sum := "f17a89498d12de2f774ec74e3a90fba44a27abf5dc65cfef2977b441b3712300", func := "compline/complinelaw01.MoneySums", spec := "moneySums", inPlace := ["math/bits.Add64", "internal/abi.NoEscape", "internal/bytealg.MakeNoZero"], unfollowed := true, recurses := true, apart := false }
def MoneySumsSaid : Prop := moneySumsRow.holds Try.pinned (OpenSpec.ofChange moneySumsSpec)

/-- ITS FALSE NEIGHBOUR: 'it returns false'. Refute it at one input. -/
def moneySumsWrong : ChangeSpec := { name := "moneySums", fn := fun _ => fun
  | [d1, d2] => { results := [.lit (.bool false)], args := [d1, d2] }
  | _ => none }
def MoneySumsWrongFalsely : Prop := moneySumsRow.holds Try.pinned (OpenSpec.ofChange moneySumsWrong)

/- THE SECOND FORM. 'bulk': how many values and letters a reading holds, each counted each time it is reached (what is shared counts as often as it is met; a slice's spare places count too). A statement '..UptoSaid' is the law's where the arguments, and the package variables that the reading takes, are together of bulk at most 1048576: NARROWER than '..Said'. Prove '..Said' where nothing that the law and all that it calls make is longer than what came in: it says more and counts as full. Else prove '..UptoSaid'. A law counts once. -/
mutual
def uptoBulk {H : Type} : DataW H → Nat
  | .lit (.string bytes) => bytes.length + 1
  | .lit _ => 1
  | .nil => 1
  | .ptr d => uptoBulk d + 1
  | .slice elems spare => uptoBulkAll elems + uptoBulkAll spare + 1
  | .agg parts => uptoBulkAll parts + 1
  | .iface _ d => uptoBulk d + 1
  | .map entries => uptoBulkEntries entries + 1
  | .held _ => 1
def uptoBulkAll {H : Type} : List (DataW H) → Nat
  | [] => 0
  | d :: r => uptoBulk d + uptoBulkAll r
def uptoBulkEntries {H : Type} : List (Lit × DataW H) → Nat
  | [] => 0
  | x :: r => uptoBulkEntry x + uptoBulkEntries r
def uptoBulkEntry {H : Type} : Lit × DataW H → Nat
  | (.string bytes, d) => bytes.length + uptoBulk d + 1
  | (_, d) => uptoBulk d + 1
 end
def uptoSmall : (H : Type) → List (DataW H) → Bool := fun _ ds => decide (uptoBulkAll ds ≤ 1048576)
def OpenSpec.upto (s : _root_.Go.ChangeSpec) : _root_.Go.OpenSpec := { _root_.Go.OpenSpec.ofChange s with cond := some uptoSmall }

/-- 'complinelaw25.AuctionBounds', WHERE WHAT IT READS IS OF BULK AT MOST 1048576: true; the input reads as it did. -/
def auctionBoundsUptoRow : OpenClaim := { program := "ytjkabmijkbpodaa", sum := "f17a89498d12de2f774ec74e3a90fba44a27abf5dc65cfef2977b441b3712300", func := "compline/complinelaw25.AuctionBounds", spec := "auctionBounds", unfollowed := true, recurses := true, apart := false, narrowed := true }
def AuctionBoundsUptoSaid : Prop := auctionBoundsUptoRow.holds Try.pinned (OpenSpec.upto auctionBoundsSpec)

/-- 'complinelaw10.ConfMay', WHERE WHAT IT READS IS OF BULK AT MOST 1048576: true; the input reads as it did. -/
def confMayUptoRow : OpenClaim := { program := "ytjkabmijkbpodaa", sum := "f17a89498d12de2f774ec74e3a90fba44a27abf5dc65cfef2977b441b3712300", func := "compline/complinelaw10.ConfMay", spec := "confMay", unfollowed := true, recurses := true, apart := false, narrowed := true }
def ConfMayUptoSaid : Prop := confMayUptoRow.holds Try.pinned (OpenSpec.upto confMaySpec)

/-- 'complinelaw10.ConfPlain', WHERE WHAT IT READS IS OF BULK AT MOST 1048576: true; the input reads as it did. -/
def confPlainUptoRow : OpenClaim := { program := "ytjkabmijkbpodaa", sum := "f17a89498d12de2f774ec74e3a90fba44a27abf5dc65cfef2977b441b3712300", func := "compline/complinelaw10.ConfPlain", spec := "confPlain", unfollowed := true, recurses := true, apart := false, narrowed := true }
def ConfPlainUptoSaid : Prop := confPlainUptoRow.holds Try.pinned (OpenSpec.upto confPlainSpec)

/-- 'complinelaw16.TradeLegs', WHERE WHAT IT READS IS OF BULK AT MOST 1048576: true; the input reads as it did. -/
def tradeLegsUptoRow : OpenClaim := { program := "ytjkabmijkbpodaa", sum := "f17a89498d12de2f774ec74e3a90fba44a27abf5dc65cfef2977b441b3712300", func := "compline/complinelaw16.TradeLegs", spec := "tradeLegs", inPlace := ["math/bits.Add64"], unfollowed := true, recurses := true, apart := false, narrowed := true }
def TradeLegsUptoSaid : Prop := tradeLegsUptoRow.holds Try.pinned (OpenSpec.upto tradeLegsSpec)

/-- 'complinelaw02.WideDivs', WHERE WHAT IT READS IS OF BULK AT MOST 1048576: true; the input reads as it did. -/
def wideDivsUptoRow : OpenClaim := { program := "ytjkabmijkbpodaa", sum := "f17a89498d12de2f774ec74e3a90fba44a27abf5dc65cfef2977b441b3712300", func := "compline/complinelaw02.WideDivs", spec := "wideDivs", named := ["math/bits.divideError", "math/bits.overflowError"], apart := false, narrowed := true }
def WideDivsUptoSaid : Prop := wideDivsUptoRow.holds Try.pinned (OpenSpec.upto wideDivsSpec)

/-- 'complinelaw02.WideBack', WHERE WHAT IT READS IS OF BULK AT MOST 1048576: true; the input reads as it did. -/
def wideBackUptoRow : OpenClaim := { program := "ytjkabmijkbpodaa", sum := "f17a89498d12de2f774ec74e3a90fba44a27abf5dc65cfef2977b441b3712300", func := "compline/complinelaw02.WideBack", spec := "wideBack", named := ["math/bits.divideError", "math/bits.overflowError"], apart := false, narrowed := true }
def WideBackUptoSaid : Prop := wideBackUptoRow.holds Try.pinned (OpenSpec.upto wideBackSpec)

/-- 'complinelaw10.ConfHas', WHERE WHAT IT READS IS OF BULK AT MOST 1048576: true; the input reads as it did. -/
def confHasUptoRow : OpenClaim := { program := "ytjkabmijkbpodaa", sum := "f17a89498d12de2f774ec74e3a90fba44a27abf5dc65cfef2977b441b3712300", func := "compline/complinelaw10.ConfHas", spec := "confHas", unfollowed := true, recurses := true, apart := false, narrowed := true }
def ConfHasUptoSaid : Prop := confHasUptoRow.holds Try.pinned (OpenSpec.upto confHasSpec)

/-- 'complinelaw16.TradeMay', WHERE WHAT IT READS IS OF BULK AT MOST 1048576: true; the input reads as it did. -/
def tradeMayUptoRow : OpenClaim := { program := "ytjkabmijkbpodaa", sum := "f17a89498d12de2f774ec74e3a90fba44a27abf5dc65cfef2977b441b3712300", func := "compline/complinelaw16.TradeMay", spec := "tradeMay", apart := false, narrowed := true }
def TradeMayUptoSaid : Prop := tradeMayUptoRow.holds Try.pinned (OpenSpec.upto tradeMaySpec)

/-- 'complinelaw01.MoneySums', WHERE WHAT IT READS IS OF BULK AT MOST 1048576: true; the input reads as it did. -/
def moneySumsUptoRow : OpenClaim := { program := "ytjkabmijkbpodaa", sum := "f17a89498d12de2f774ec74e3a90fba44a27abf5dc65cfef2977b441b3712300", func := "compline/complinelaw01.MoneySums", spec := "moneySums", inPlace := ["math/bits.Add64", "internal/abi.NoEscape", "internal/bytealg.MakeNoZero"], unfollowed := true, recurses := true, apart := false, narrowed := true }
def MoneySumsUptoSaid : Prop := moneySumsUptoRow.holds Try.pinned (OpenSpec.upto moneySumsSpec)

end Rows
end Go.Proofs.Ytjkabmijkbpodaa
