/-
  No cell of these rows narrows 'for every input' (looked for: loops, veiled, ifaces, maps, wideKeys, modest, calm, conditions, laid).
  DERIVED. THE GIVEN ROWS OF THIS SEAT. 8 by the template 'for every input the law returns true; each argument reads behind the call as it read before'; 0 by the template 'total and deterministic' (their statements: YtjkabmijkbpodabTotals.lean).
  GIVEN WITH THE SEED: the statements are not yours to turn. If you find one false, say at which input.
  Laid BY PROGRAM, IN A SANDBOX (cutbox-rows.mjs): the forced cells as the released guide's own fill.sh prints them over the translation a83a82df0a785faf… (all of the seat's roots in one cut). By AI agents, Wed Nov 11 2026. No macro, syntax, notation, axiom, sorry.
-/
import Derived.Test.YtjkabmijkbpodabChecked
import GoSem.Claim
import GoSem.ClaimJoined
import GoSem.ClaimMapViews
import Derived.JoinedTies
import Derived.KernelRfl
namespace Go.Proofs.Ytjkabmijkbpodab
/- THE CELL 'sum', in the pinned program and in every row, IS THE sha256 OF THE DUMP (.gsa) THAT YtjkabmijkbpodabProg.lean LOADS. Nothing in Lean hashes anything: it is a label: what it is worth is what the hold of that sum in a sandbox is worth. -/
noncomputable def Try.pinned : Pinned := { name := "ytjkabmijkbpodab", sum := "a83a82df0a785fafa9bfb945f64f5a6646caf251e08ac3310f5940836b880170", checked := Try.checked }
namespace Rows
def none {H : Type} : Left H := { results := [], args := [] }

/-- 'complinelaw25.AuctionRuns': WHATEVER THE INPUT: true; the input reads as it did. -/
def auctionRunsSpec : ChangeSpec := { name := "auctionRuns", fn := fun _ => fun
  | [d1, d2, d3] => { results := [.lit (.bool true)], args := [d1, d2, d3] }
  | _ => none }
def auctionRunsRow : OpenClaim := { program := "ytjkabmijkbpodab", sum := "a83a82df0a785fafa9bfb945f64f5a6646caf251e08ac3310f5940836b880170", func := "compline/complinelaw25.AuctionRuns", spec := "auctionRuns", inPlace := ["math/bits.Add64"], unfollowed := true, recurses := true, apart := false }
def AuctionRunsSaid : Prop := auctionRunsRow.holds Try.pinned (OpenSpec.ofChange auctionRunsSpec)

/-- ITS FALSE NEIGHBOUR: 'it returns false'. Refute it at one input. -/
def auctionRunsWrong : ChangeSpec := { name := "auctionRuns", fn := fun _ => fun
  | [d1, d2, d3] => { results := [.lit (.bool false)], args := [d1, d2, d3] }
  | _ => none }
def AuctionRunsWrongFalsely : Prop := auctionRunsRow.holds Try.pinned (OpenSpec.ofChange auctionRunsWrong)

/-- 'complinelaw02.WideMuls': WHATEVER THE INPUT: true; the input reads as it did. -/
def wideMulsSpec : ChangeSpec := { name := "wideMuls", fn := fun _ => fun
  | [d1, d2, d3] => { results := [.lit (.bool true)], args := [d1, d2, d3] }
  | _ => none }
def wideMulsRow : OpenClaim := { program := "ytjkabmijkbpodab", sum := "a83a82df0a785fafa9bfb945f64f5a6646caf251e08ac3310f5940836b880170", func := "compline/complinelaw02.WideMuls", spec := "wideMuls", named := ["math/bits.divideError", "math/bits.overflowError"], apart := false }
def WideMulsSaid : Prop := wideMulsRow.holds Try.pinned (OpenSpec.ofChange wideMulsSpec)

/-- ITS FALSE NEIGHBOUR: 'it returns false'. Refute it at one input. -/
def wideMulsWrong : ChangeSpec := { name := "wideMuls", fn := fun _ => fun
  | [d1, d2, d3] => { results := [.lit (.bool false)], args := [d1, d2, d3] }
  | _ => none }
def WideMulsWrongFalsely : Prop := wideMulsRow.holds Try.pinned (OpenSpec.ofChange wideMulsWrong)

/-- 'complinelaw16.TradeKinds': WHATEVER THE INPUT: true; the input reads as it did. -/
def tradeKindsSpec : ChangeSpec := { name := "tradeKinds", fn := fun _ => fun
  | [d1, d2] => { results := [.lit (.bool true)], args := [d1, d2] }
  | _ => none }
def tradeKindsRow : OpenClaim := { program := "ytjkabmijkbpodab", sum := "a83a82df0a785fafa9bfb945f64f5a6646caf251e08ac3310f5940836b880170", func := "compline/complinelaw16.TradeKinds", spec := "tradeKinds", inPlace := ["math/bits.Add64"], unfollowed := true, recurses := true, apart := false }
def TradeKindsSaid : Prop := tradeKindsRow.holds Try.pinned (OpenSpec.ofChange tradeKindsSpec)

/-- ITS FALSE NEIGHBOUR: 'it returns false'. Refute it at one input. -/
def tradeKindsWrong : ChangeSpec := { name := "tradeKinds", fn := fun _ => fun
  | [d1, d2] => { results := [.lit (.bool false)], args := [d1, d2] }
  | _ => none }
def TradeKindsWrongFalsely : Prop := tradeKindsRow.holds Try.pinned (OpenSpec.ofChange tradeKindsWrong)

/-- 'complinelaw01.MoneyAdds': WHATEVER THE INPUT: true; the input reads as it did. -/
def moneyAddsSpec : ChangeSpec := { name := "moneyAdds", fn := fun _ => fun
  | [d1, d2] => { results := [.lit (.bool true)], args := [d1, d2] }
  | _ => none }
def moneyAddsRow : OpenClaim := { program := "ytjkabmijkbpodab", sum := "a83a82df0a785fafa9bfb945f64f5a6646caf251e08ac3310f5940836b880170", func := "compline/complinelaw01.MoneyAdds", spec := "moneyAdds", inPlace := ["math/bits.Add64", "internal/abi.NoEscape", "internal/bytealg.MakeNoZero"], unfollowed := true, recurses := true, apart := false }
def MoneyAddsSaid : Prop := moneyAddsRow.holds Try.pinned (OpenSpec.ofChange moneyAddsSpec)

/-- ITS FALSE NEIGHBOUR: 'it returns false'. Refute it at one input. -/
def moneyAddsWrong : ChangeSpec := { name := "moneyAdds", fn := fun _ => fun
  | [d1, d2] => { results := [.lit (.bool false)], args := [d1, d2] }
  | _ => none }
def MoneyAddsWrongFalsely : Prop := moneyAddsRow.holds Try.pinned (OpenSpec.ofChange moneyAddsWrong)

/-- 'complinelaw01.MoneyMuls': WHATEVER THE INPUT: true; the input reads as it did. -/
def moneyMulsSpec : ChangeSpec := { name := "moneyMuls", fn := fun _ => fun
  | [d1, d2] => { results := [.lit (.bool true)], args := [d1, d2] }
  | _ => none }
def moneyMulsRow : OpenClaim := { program := "ytjkabmijkbpodab", sum := "a83a82df0a785fafa9bfb945f64f5a6646caf251e08ac3310f5940836b880170", func := "compline/complinelaw01.MoneyMuls", spec := "moneyMuls", inPlace := ["math/bits.Add64", "internal/abi.NoEscape", "internal/bytealg.MakeNoZero"], unfollowed := true, recurses := true, apart := false }
def MoneyMulsSaid : Prop := moneyMulsRow.holds Try.pinned (OpenSpec.ofChange moneyMulsSpec)

/-- ITS FALSE NEIGHBOUR: 'it returns false'. Refute it at one input. -/
def moneyMulsWrong : ChangeSpec := { name := "moneyMuls", fn := fun _ => fun
  | [d1, d2] => { results := [.lit (.bool false)], args := [d1, d2] }
  | _ => none }
def MoneyMulsWrongFalsely : Prop := moneyMulsRow.holds Try.pinned (OpenSpec.ofChange moneyMulsWrong)

/-- 'complinelaw02.WideAdds': WHATEVER THE INPUT: true; the input reads as it did. -/
def wideAddsSpec : ChangeSpec := { name := "wideAdds", fn := fun _ => fun
  | [d1, d2] => { results := [.lit (.bool true)], args := [d1, d2] }
  | _ => none }
def wideAddsRow : OpenClaim := { program := "ytjkabmijkbpodab", sum := "a83a82df0a785fafa9bfb945f64f5a6646caf251e08ac3310f5940836b880170", func := "compline/complinelaw02.WideAdds", spec := "wideAdds", inPlace := ["math/bits.Add64", "math/bits.Sub64"], named := ["math/bits.divideError", "math/bits.overflowError"], apart := false }
def WideAddsSaid : Prop := wideAddsRow.holds Try.pinned (OpenSpec.ofChange wideAddsSpec)

/-- ITS FALSE NEIGHBOUR: 'it returns false'. Refute it at one input. -/
def wideAddsWrong : ChangeSpec := { name := "wideAdds", fn := fun _ => fun
  | [d1, d2] => { results := [.lit (.bool false)], args := [d1, d2] }
  | _ => none }
def WideAddsWrongFalsely : Prop := wideAddsRow.holds Try.pinned (OpenSpec.ofChange wideAddsWrong)

/-- 'complinelaw01.MoneyTexts': WHATEVER THE INPUT: true; the input reads as it did. -/
def moneyTextsSpec : ChangeSpec := { name := "moneyTexts", fn := fun _ => fun
  | [d] => { results := [.lit (.bool true)], args := [d] }
  | _ => none }
def moneyTextsRow : OpenClaim := { program := "ytjkabmijkbpodab", sum := "a83a82df0a785fafa9bfb945f64f5a6646caf251e08ac3310f5940836b880170", func := "compline/complinelaw01.MoneyTexts", spec := "moneyTexts", inPlace := ["internal/abi.NoEscape", "internal/bytealg.MakeNoZero", "internal/bytealg.IndexByteString", "internal/bytealg.IndexString", "math/bits.Add64"], unfollowed := true, recurses := true, named := ["internal/bytealg.MaxLen"], apart := false }
def MoneyTextsSaid : Prop := moneyTextsRow.holds Try.pinned (OpenSpec.ofChange moneyTextsSpec)

/-- ITS FALSE NEIGHBOUR: 'it returns false'. Refute it at one input. -/
def moneyTextsWrong : ChangeSpec := { name := "moneyTexts", fn := fun _ => fun
  | [d] => { results := [.lit (.bool false)], args := [d] }
  | _ => none }
def MoneyTextsWrongFalsely : Prop := moneyTextsRow.holds Try.pinned (OpenSpec.ofChange moneyTextsWrong)

/-- 'complinelaw01.MoneyParses': WHATEVER THE INPUT: true; the input reads as it did. -/
def moneyParsesSpec : ChangeSpec := { name := "moneyParses", fn := fun _ => fun
  | [d] => { results := [.lit (.bool true)], args := [d] }
  | _ => none }
def moneyParsesRow : OpenClaim := { program := "ytjkabmijkbpodab", sum := "a83a82df0a785fafa9bfb945f64f5a6646caf251e08ac3310f5940836b880170", func := "compline/complinelaw01.MoneyParses", spec := "moneyParses", inPlace := ["math/bits.Add64", "internal/abi.NoEscape", "internal/bytealg.MakeNoZero", "internal/bytealg.IndexByteString", "internal/bytealg.IndexString"], unfollowed := true, recurses := true, named := ["internal/bytealg.MaxLen"], apart := false }
def MoneyParsesSaid : Prop := moneyParsesRow.holds Try.pinned (OpenSpec.ofChange moneyParsesSpec)

/-- ITS FALSE NEIGHBOUR: 'it returns false'. Refute it at one input. -/
def moneyParsesWrong : ChangeSpec := { name := "moneyParses", fn := fun _ => fun
  | [d] => { results := [.lit (.bool false)], args := [d] }
  | _ => none }
def MoneyParsesWrongFalsely : Prop := moneyParsesRow.holds Try.pinned (OpenSpec.ofChange moneyParsesWrong)

/- THE SECOND FORM. 'bulk': how many values and letters a reading holds, each counted each time it is reached (what is shared counts as often as it is met; a slice's spare places count too). A statement '..UptoSaid' is the law's where the arguments, and the package variables that the reading takes, are together of bulk at most 1048576: NARROWER than '..Said'. Prove '..Said' where nothing that the law and all that it calls make is longer than what came in: it says more and counts as full. Else prove '..UptoSaid'. A law counts once. -/
mutual
def uptoBulk {H : Type} : DataW H → Nat
  | .lit (.string bytes) => bytes.length + 1
  | .lit _ => 1
  | .nil => 1
  | .ptr d => uptoBulk d + 1
  | .slice elems spare => uptoBulkAll elems + uptoBulkAll spare + 1
  | .agg parts => uptoBulkAll parts + 1
  | .iface _ d => uptoBulk d + 1
  | .map entries => uptoBulkEntries entries + 1
  | .held _ => 1
def uptoBulkAll {H : Type} : List (DataW H) → Nat
  | [] => 0
  | d :: r => uptoBulk d + uptoBulkAll r
def uptoBulkEntries {H : Type} : List (Lit × DataW H) → Nat
  | [] => 0
  | x :: r => uptoBulkEntry x + uptoBulkEntries r
def uptoBulkEntry {H : Type} : Lit × DataW H → Nat
  | (.string bytes, d) => bytes.length + uptoBulk d + 1
  | (_, d) => uptoBulk d + 1
 end
def uptoSmall : (H : Type) → List (DataW H) → Bool := fun _ ds => decide (uptoBulkAll ds ≤ 1048576)
def OpenSpec.upto (s : _root_.Go.ChangeSpec) : _root_.Go.OpenSpec := { _root_.Go.OpenSpec.ofChange s with cond := some uptoSmall }

/-- 'complinelaw25.AuctionRuns', WHERE WHAT IT READS IS OF BULK AT MOST 1048576: true; the input reads as it did. -/
def auctionRunsUptoRow : OpenClaim := { program := "ytjkabmijkbpodab", sum := "a83a82df0a785fafa9bfb945f64f5a6646caf251e08ac3310f5940836b880170", func := "compline/complinelaw25.AuctionRuns", spec := "auctionRuns", inPlace := ["math/bits.Add64"], unfollowed := true, recurses := true, apart := false, narrowed := true }
def AuctionRunsUptoSaid : Prop := auctionRunsUptoRow.holds Try.pinned (OpenSpec.upto auctionRunsSpec)

/-- 'complinelaw02.WideMuls', WHERE WHAT IT READS IS OF BULK AT MOST 1048576: true; the input reads as it did. -/
def wideMulsUptoRow : OpenClaim := { program := "ytjkabmijkbpodab", sum := "a83a82df0a785fafa9bfb945f64f5a6646caf251e08ac3310f5940836b880170", func := "compline/complinelaw02.WideMuls", spec := "wideMuls", named := ["math/bits.divideError", "math/bits.overflowError"], apart := false, narrowed := true }
def WideMulsUptoSaid : Prop := wideMulsUptoRow.holds Try.pinned (OpenSpec.upto wideMulsSpec)

/-- 'complinelaw16.TradeKinds', WHERE WHAT IT READS IS OF BULK AT MOST 1048576: true; the input reads as it did. -/
def tradeKindsUptoRow : OpenClaim := { program := "ytjkabmijkbpodab", sum := "a83a82df0a785fafa9bfb945f64f5a6646caf251e08ac3310f5940836b880170", func := "compline/complinelaw16.TradeKinds", spec := "tradeKinds", inPlace := ["math/bits.Add64"], unfollowed := true, recurses := true, apart := false, narrowed := true }
def TradeKindsUptoSaid : Prop := tradeKindsUptoRow.holds Try.pinned (OpenSpec.upto tradeKindsSpec)

/-- 'complinelaw01.MoneyAdds', WHERE WHAT IT READS IS OF BULK AT MOST 1048576: true; the input reads as it did. -/
def moneyAddsUptoRow : OpenClaim := { program := "ytjkabmijkbpodab", sum := "a83a82df0a785fafa9bfb945f64f5a6646caf251e08ac3310f5940836b880170", func := "compline/complinelaw01.MoneyAdds", spec := "moneyAdds", inPlace := ["math/bits.Add64", "internal/abi.NoEscape", "internal/bytealg.MakeNoZero"], unfollowed := true, recurses := true, apart := false, narrowed := true }
def MoneyAddsUptoSaid : Prop := moneyAddsUptoRow.holds Try.pinned (OpenSpec.upto moneyAddsSpec)

/-- 'complinelaw01.MoneyMuls', WHERE WHAT IT READS IS OF BULK AT MOST 1048576: true; the input reads as it did. -/
def moneyMulsUptoRow : OpenClaim := { program := "ytjkabmijkbpodab", sum := "a83a82df0a785fafa9bfb945f64f5a6646caf251e08ac3310f5940836b880170", func := "compline/complinelaw01.MoneyMuls", spec := "moneyMuls", inPlace := ["math/bits.Add64", "internal/abi.NoEscape", "internal/bytealg.MakeNoZero"], unfollowed := true, recurses := true, apart := false, narrowed := true }
def MoneyMulsUptoSaid : Prop := moneyMulsUptoRow.holds Try.pinned (OpenSpec.upto moneyMulsSpec)

/-- 'complinelaw02.WideAdds', WHERE WHAT IT READS IS OF BULK AT MOST 1048576: true; the input reads as it did. -/
def wideAddsUptoRow : OpenClaim := { program := "ytjkabmijkbpodab", sum := "a83a82df0a785fafa9bfb945f64f5a6646caf251e08ac3310f5940836b880170", func := "compline/complinelaw02.WideAdds", spec := "wideAdds", inPlace := ["math/bits.Add64", "math/bits.Sub64"], named := ["math/bits.divideError", "math/bits.overflowError"], apart := false, narrowed := true }
def WideAddsUptoSaid : Prop := wideAddsUptoRow.holds Try.pinned (OpenSpec.upto wideAddsSpec)

/-- 'complinelaw01.MoneyTexts', WHERE WHAT IT READS IS OF BULK AT MOST 1048576: true; the input reads as it did. -/
def moneyTextsUptoRow : OpenClaim := { program := "ytjkabmijkbpodab", sum := "a83a82df0a785fafa9bfb945f64f5a6646caf251e08ac3310f5940836b880170", func := "compline/complinelaw01.MoneyTexts", spec := "moneyTexts", inPlace := ["internal/abi.NoEscape", "internal/bytealg.MakeNoZero", "internal/bytealg.IndexByteString", "internal/bytealg.IndexString", "math/bits.Add64"], unfollowed := true, recurses := true, named := ["internal/bytealg.MaxLen"], apart := false, narrowed := true }
def MoneyTextsUptoSaid : Prop := moneyTextsUptoRow.holds Try.pinned (OpenSpec.upto moneyTextsSpec)

/-- 'complinelaw01.MoneyParses', WHERE WHAT IT READS IS OF BULK AT MOST 1048576: true; the input reads as it did. -/
def moneyParsesUptoRow : OpenClaim := { program := "ytjkabmijkbpodab", sum := "a83a82df0a785fafa9bfb945f64f5a6646caf251e08ac3310f5940836b880170", func := "compline/complinelaw01.MoneyParses", spec := "moneyParses", inPlace := ["math/bits.Add64", "internal/abi.NoEscape", "internal/bytealg.MakeNoZero", "internal/bytealg.IndexByteString", "internal/bytealg.IndexString"], unfollowed := true, recurses := true, named := ["internal/bytealg.MaxLen"], apart := false, narrowed := true }
def MoneyParsesUptoSaid : Prop := moneyParsesUptoRow.holds Try.pinned (OpenSpec.upto moneyParsesSpec)

end Rows
end Go.Proofs.Ytjkabmijkbpodab
