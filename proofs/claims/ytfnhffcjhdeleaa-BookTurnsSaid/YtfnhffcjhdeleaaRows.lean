/-
  No cell of these rows narrows 'for every input' (looked for: loops, veiled, ifaces, maps, wideKeys, modest, calm, conditions, laid).
  DERIVED. THE GIVEN ROWS OF THIS SEAT. 11 by the template 'for every input the law returns true; each argument reads behind the call as it read before'; 0 by the template 'total and deterministic' (their statements: YtfnhffcjhdeleaaTotals.lean).
  GIVEN WITH THE SEED: the statements are not yours to turn. If you find one false, say at which input.
  Laid BY PROGRAM, IN A SANDBOX (cutbox-rows.mjs): the forced cells as the released guide's own fill.sh prints them over the translation efcd6317247a594b… (all of the seat's roots in one cut). By AI agents, Wed Nov 11 2026. No macro, syntax, notation, axiom, sorry.
-/
import Derived.Test.YtfnhffcjhdeleaaChecked
import GoSem.Claim
import GoSem.ClaimJoined
import GoSem.ClaimMapViews
import Derived.JoinedTies
import Derived.KernelRfl
namespace Go.Proofs.Ytfnhffcjhdeleaa
/- THE CELL 'sum', in the pinned program and in every row, IS THE sha256 OF THE DUMP (.gsa) THAT YtfnhffcjhdeleaaProg.lean LOADS. Nothing in Lean hashes anything: it is a label: what it is worth is what the hold of that sum in a sandbox is worth. -/
noncomputable def Try.pinned : Pinned := { name := "ytfnhffcjhdeleaa", sum := "efcd6317247a594ba156b862c0fbf935330bc0d5e122893961289e0307200136", checked := Try.checked }
namespace Rows
def none {H : Type} : Left H := { results := [], args := [] }

/-- 'complinelaw14.BookBalances': WHATEVER THE INPUT: true; the input reads as it did. -/
def bookBalancesSpec : ChangeSpec := { name := "bookBalances", fn := fun _ => fun
  | [d1, d2] => { results := [.lit (.bool true)], args := [d1, d2] }
  | _ => none }
def bookBalancesRow : OpenClaim := { program := "ytfnhffcjhdeleaa", sum := "efcd6317247a594ba156b862c0fbf935330bc0d5e122893961289e0307200136", func := "compline/complinelaw14.BookBalances", spec := "bookBalances", inPlace := ["math/bits.Add64"], unfollowed := true, recurses := true, plainKeys := false, apart := false }
def BookBalancesSaid : Prop := bookBalancesRow.holds Try.pinned (OpenSpec.ofChange bookBalancesSpec)

/-- ITS FALSE NEIGHBOUR: 'it returns false'. Refute it at one input. -/
def bookBalancesWrong : ChangeSpec := { name := "bookBalances", fn := fun _ => fun
  | [d1, d2] => { results := [.lit (.bool false)], args := [d1, d2] }
  | _ => none }
def BookBalancesWrongFalsely : Prop := bookBalancesRow.holds Try.pinned (OpenSpec.ofChange bookBalancesWrong)

/-- 'complinelaw14.BookPosts': WHATEVER THE INPUT: true; the input reads as it did. -/
def bookPostsSpec : ChangeSpec := { name := "bookPosts", fn := fun _ => fun
  | [d1, d2, d3] => { results := [.lit (.bool true)], args := [d1, d2, d3] }
  | _ => none }
def bookPostsRow : OpenClaim := { program := "ytfnhffcjhdeleaa", sum := "efcd6317247a594ba156b862c0fbf935330bc0d5e122893961289e0307200136", func := "compline/complinelaw14.BookPosts", spec := "bookPosts", inPlace := ["math/bits.Add64"], unfollowed := true, recurses := true, plainKeys := false, apart := false }
def BookPostsSaid : Prop := bookPostsRow.holds Try.pinned (OpenSpec.ofChange bookPostsSpec)

/-- ITS FALSE NEIGHBOUR: 'it returns false'. Refute it at one input. -/
def bookPostsWrong : ChangeSpec := { name := "bookPosts", fn := fun _ => fun
  | [d1, d2, d3] => { results := [.lit (.bool false)], args := [d1, d2, d3] }
  | _ => none }
def BookPostsWrongFalsely : Prop := bookPostsRow.holds Try.pinned (OpenSpec.ofChange bookPostsWrong)

/-- 'complinelaw14.BookMoves': WHATEVER THE INPUT: true; the input reads as it did. -/
def bookMovesSpec : ChangeSpec := { name := "bookMoves", fn := fun _ => fun
  | [d1, d2, d3] => { results := [.lit (.bool true)], args := [d1, d2, d3] }
  | _ => none }
def bookMovesRow : OpenClaim := { program := "ytfnhffcjhdeleaa", sum := "efcd6317247a594ba156b862c0fbf935330bc0d5e122893961289e0307200136", func := "compline/complinelaw14.BookMoves", spec := "bookMoves", inPlace := ["math/bits.Add64"], unfollowed := true, recurses := true, plainKeys := false, apart := false }
def BookMovesSaid : Prop := bookMovesRow.holds Try.pinned (OpenSpec.ofChange bookMovesSpec)

/-- ITS FALSE NEIGHBOUR: 'it returns false'. Refute it at one input. -/
def bookMovesWrong : ChangeSpec := { name := "bookMoves", fn := fun _ => fun
  | [d1, d2, d3] => { results := [.lit (.bool false)], args := [d1, d2, d3] }
  | _ => none }
def BookMovesWrongFalsely : Prop := bookMovesRow.holds Try.pinned (OpenSpec.ofChange bookMovesWrong)

/-- 'complinelaw14.BookTurns': WHATEVER THE INPUT: true; the input reads as it did. -/
def bookTurnsSpec : ChangeSpec := { name := "bookTurns", fn := fun _ => fun
  | [d1, d2] => { results := [.lit (.bool true)], args := [d1, d2] }
  | _ => none }
def bookTurnsRow : OpenClaim := { program := "ytfnhffcjhdeleaa", sum := "efcd6317247a594ba156b862c0fbf935330bc0d5e122893961289e0307200136", func := "compline/complinelaw14.BookTurns", spec := "bookTurns", inPlace := ["math/bits.Add64"], unfollowed := true, recurses := true, plainKeys := false, apart := false }
def BookTurnsSaid : Prop := bookTurnsRow.holds Try.pinned (OpenSpec.ofChange bookTurnsSpec)

/-- ITS FALSE NEIGHBOUR: 'it returns false'. Refute it at one input. -/
def bookTurnsWrong : ChangeSpec := { name := "bookTurns", fn := fun _ => fun
  | [d1, d2] => { results := [.lit (.bool false)], args := [d1, d2] }
  | _ => none }
def BookTurnsWrongFalsely : Prop := bookTurnsRow.holds Try.pinned (OpenSpec.ofChange bookTurnsWrong)

/-- 'complinelaw04.TablePlays': WHATEVER THE INPUT: true; the input reads as it did. -/
def tablePlaysSpec : ChangeSpec := { name := "tablePlays", fn := fun _ => fun
  | [d1, d2, d3] => { results := [.lit (.bool true)], args := [d1, d2, d3] }
  | _ => none }
def tablePlaysRow : OpenClaim := { program := "ytfnhffcjhdeleaa", sum := "efcd6317247a594ba156b862c0fbf935330bc0d5e122893961289e0307200136", func := "compline/complinelaw04.TablePlays", spec := "tablePlays", inPlace := ["slices.overlaps[compline/table.Row[string]]"], unfollowed := true, recurses := true, plainKeys := false, apart := false }
def TablePlaysSaid : Prop := tablePlaysRow.holds Try.pinned (OpenSpec.ofChange tablePlaysSpec)

/-- ITS FALSE NEIGHBOUR: 'it returns false'. Refute it at one input. -/
def tablePlaysWrong : ChangeSpec := { name := "tablePlays", fn := fun _ => fun
  | [d1, d2, d3] => { results := [.lit (.bool false)], args := [d1, d2, d3] }
  | _ => none }
def TablePlaysWrongFalsely : Prop := tablePlaysRow.holds Try.pinned (OpenSpec.ofChange tablePlaysWrong)

/-- 'complinelaw04.TableOwn': WHATEVER THE INPUT: true; the input reads as it did. -/
def tableOwnSpec : ChangeSpec := { name := "tableOwn", fn := fun _ => fun
  | [d1, d2, d3] => { results := [.lit (.bool true)], args := [d1, d2, d3] }
  | _ => none }
def tableOwnRow : OpenClaim := { program := "ytfnhffcjhdeleaa", sum := "efcd6317247a594ba156b862c0fbf935330bc0d5e122893961289e0307200136", func := "compline/complinelaw04.TableOwn", spec := "tableOwn", inPlace := ["slices.overlaps[compline/table.Row[string]]"], unfollowed := true, recurses := true, plainKeys := false, apart := false }
def TableOwnSaid : Prop := tableOwnRow.holds Try.pinned (OpenSpec.ofChange tableOwnSpec)

/-- ITS FALSE NEIGHBOUR: 'it returns false'. Refute it at one input. -/
def tableOwnWrong : ChangeSpec := { name := "tableOwn", fn := fun _ => fun
  | [d1, d2, d3] => { results := [.lit (.bool false)], args := [d1, d2, d3] }
  | _ => none }
def TableOwnWrongFalsely : Prop := tableOwnRow.holds Try.pinned (OpenSpec.ofChange tableOwnWrong)

/-- 'complinelaw18.NetSums': WHATEVER THE INPUT: true; the input reads as it did. -/
def netSumsSpec : ChangeSpec := { name := "netSums", fn := fun _ => fun
  | [d1, d2] => { results := [.lit (.bool true)], args := [d1, d2] }
  | _ => none }
def netSumsRow : OpenClaim := { program := "ytfnhffcjhdeleaa", sum := "efcd6317247a594ba156b862c0fbf935330bc0d5e122893961289e0307200136", func := "compline/complinelaw18.NetSums", spec := "netSums", inPlace := ["math/bits.Add64"], unfollowed := true, recurses := true, plainKeys := false, apart := false }
def NetSumsSaid : Prop := netSumsRow.holds Try.pinned (OpenSpec.ofChange netSumsSpec)

/-- ITS FALSE NEIGHBOUR: 'it returns false'. Refute it at one input. -/
def netSumsWrong : ChangeSpec := { name := "netSums", fn := fun _ => fun
  | [d1, d2] => { results := [.lit (.bool false)], args := [d1, d2] }
  | _ => none }
def NetSumsWrongFalsely : Prop := netSumsRow.holds Try.pinned (OpenSpec.ofChange netSumsWrong)

/-- 'complinelaw18.NetTurns': WHATEVER THE INPUT: true; the input reads as it did. -/
def netTurnsSpec : ChangeSpec := { name := "netTurns", fn := fun _ => fun
  | [d1, d2, d3] => { results := [.lit (.bool true)], args := [d1, d2, d3] }
  | _ => none }
def netTurnsRow : OpenClaim := { program := "ytfnhffcjhdeleaa", sum := "efcd6317247a594ba156b862c0fbf935330bc0d5e122893961289e0307200136", func := "compline/complinelaw18.NetTurns", spec := "netTurns", inPlace := ["math/bits.Add64"], unfollowed := true, recurses := true, plainKeys := false, apart := false }
def NetTurnsSaid : Prop := netTurnsRow.holds Try.pinned (OpenSpec.ofChange netTurnsSpec)

/-- ITS FALSE NEIGHBOUR: 'it returns false'. Refute it at one input. -/
def netTurnsWrong : ChangeSpec := { name := "netTurns", fn := fun _ => fun
  | [d1, d2, d3] => { results := [.lit (.bool false)], args := [d1, d2, d3] }
  | _ => none }
def NetTurnsWrongFalsely : Prop := netTurnsRow.holds Try.pinned (OpenSpec.ofChange netTurnsWrong)

/-- 'complinelaw24.BidsOrder': WHATEVER THE INPUT: true; the input reads as it did. -/
def bidsOrderSpec : ChangeSpec := { name := "bidsOrder", fn := fun _ => fun
  | [d1, d2, d3] => { results := [.lit (.bool true)], args := [d1, d2, d3] }
  | _ => none }
def bidsOrderRow : OpenClaim := { program := "ytfnhffcjhdeleaa", sum := "efcd6317247a594ba156b862c0fbf935330bc0d5e122893961289e0307200136", func := "compline/complinelaw24.BidsOrder", spec := "bidsOrder", unfollowed := true, recurses := true, plainKeys := false, apart := false }
def BidsOrderSaid : Prop := bidsOrderRow.holds Try.pinned (OpenSpec.ofChange bidsOrderSpec)

/-- ITS FALSE NEIGHBOUR: 'it returns false'. Refute it at one input. -/
def bidsOrderWrong : ChangeSpec := { name := "bidsOrder", fn := fun _ => fun
  | [d1, d2, d3] => { results := [.lit (.bool false)], args := [d1, d2, d3] }
  | _ => none }
def BidsOrderWrongFalsely : Prop := bidsOrderRow.holds Try.pinned (OpenSpec.ofChange bidsOrderWrong)

/-- 'complinelaw18.NetSides': WHATEVER THE INPUT: true; the input reads as it did. -/
def netSidesSpec : ChangeSpec := { name := "netSides", fn := fun _ => fun
  | [d1, d2] => { results := [.lit (.bool true)], args := [d1, d2] }
  | _ => none }
def netSidesRow : OpenClaim := { program := "ytfnhffcjhdeleaa", sum := "efcd6317247a594ba156b862c0fbf935330bc0d5e122893961289e0307200136", func := "compline/complinelaw18.NetSides", spec := "netSides", inPlace := ["math/bits.Add64"], unfollowed := true, recurses := true, plainKeys := false, apart := false }
def NetSidesSaid : Prop := netSidesRow.holds Try.pinned (OpenSpec.ofChange netSidesSpec)

/-- ITS FALSE NEIGHBOUR: 'it returns false'. Refute it at one input. -/
def netSidesWrong : ChangeSpec := { name := "netSides", fn := fun _ => fun
  | [d1, d2] => { results := [.lit (.bool false)], args := [d1, d2] }
  | _ => none }
def NetSidesWrongFalsely : Prop := netSidesRow.holds Try.pinned (OpenSpec.ofChange netSidesWrong)

/-- 'complinelaw18.NetBalances': WHATEVER THE INPUT: true; the input reads as it did. -/
def netBalancesSpec : ChangeSpec := { name := "netBalances", fn := fun _ => fun
  | [d1, d2] => { results := [.lit (.bool true)], args := [d1, d2] }
  | _ => none }
def netBalancesRow : OpenClaim := { program := "ytfnhffcjhdeleaa", sum := "efcd6317247a594ba156b862c0fbf935330bc0d5e122893961289e0307200136", func := "compline/complinelaw18.NetBalances", spec := "netBalances", inPlace := ["math/bits.Add64"], unfollowed := true, recurses := true, plainKeys := false, apart := false }
def NetBalancesSaid : Prop := netBalancesRow.holds Try.pinned (OpenSpec.ofChange netBalancesSpec)

/-- ITS FALSE NEIGHBOUR: 'it returns false'. Refute it at one input. -/
def netBalancesWrong : ChangeSpec := { name := "netBalances", fn := fun _ => fun
  | [d1, d2] => { results := [.lit (.bool false)], args := [d1, d2] }
  | _ => none }
def NetBalancesWrongFalsely : Prop := netBalancesRow.holds Try.pinned (OpenSpec.ofChange netBalancesWrong)

/- THE SECOND FORM. 'bulk': how many values and letters a reading holds, each counted each time it is reached (what is shared counts as often as it is met; a slice's spare places count too). A statement '..UptoSaid' is the law's where the arguments, and the package variables that the reading takes, are together of bulk at most 1048576: NARROWER than '..Said'. Prove '..Said' where nothing that the law and all that it calls make is longer than what came in: it says more and counts as full. Else prove '..UptoSaid'. A law counts once. -/
mutual
def uptoBulk {H : Type} : DataW H → Nat
  | .lit (.string bytes) => bytes.length + 1
  | .lit _ => 1
  | .nil => 1
  | .ptr d => uptoBulk d + 1
  | .slice elems spare => uptoBulkAll elems + uptoBulkAll spare + 1
  | .agg parts => uptoBulkAll parts + 1
  | .iface _ d => uptoBulk d + 1
  | .map entries => uptoBulkEntries entries + 1
  | .held _ => 1
def uptoBulkAll {H : Type} : List (DataW H) → Nat
  | [] => 0
  | d :: r => uptoBulk d + uptoBulkAll r
def uptoBulkEntries {H : Type} : List (Lit × DataW H) → Nat
  | [] => 0
  | x :: r => uptoBulkEntry x + uptoBulkEntries r
def uptoBulkEntry {H : Type} : Lit × DataW H → Nat
  | (.string bytes, d) => bytes.length + uptoBulk d + 1
  | (_, d) => uptoBulk d + 1
 end
def uptoSmall : (H : Type) → List (DataW H) → Bool := fun _ ds => decide (uptoBulkAll ds ≤ 1048576)
def OpenSpec.upto (s : _root_.Go.ChangeSpec) : _root_.Go.OpenSpec := { _root_.Go.OpenSpec.ofChange s with cond := some uptoSmall }

/-- 'complinelaw14.BookBalances', WHERE WHAT IT READS IS OF BULK AT MOST 1048576: true; the input reads as it did. -/
def bookBalancesUptoRow : OpenClaim := { program := "ytfnhffcjhdeleaa", sum := "efcd6317247a594ba156b862c0fbf935330bc0d5e122893961289e0307200136", func := "compline/complinelaw14.BookBalances", spec := "bookBalances", inPlace := ["math/bits.Add64"], unfollowed := true, recurses := true, plainKeys := false, apart := false, narrowed := true }
def BookBalancesUptoSaid : Prop := bookBalancesUptoRow.holds Try.pinned (OpenSpec.upto bookBalancesSpec)

/-- 'complinelaw14.BookPosts', WHERE WHAT IT READS IS OF BULK AT MOST 1048576: true; the input reads as it did. -/
def bookPostsUptoRow : OpenClaim := { program := "ytfnhffcjhdeleaa", sum := "efcd6317247a594ba156b862c0fbf935330bc0d5e122893961289e0307200136", func := "compline/complinelaw14.BookPosts", spec := "bookPosts", inPlace := ["math/bits.Add64"], unfollowed := true, recurses := true, plainKeys := false, apart := false, narrowed := true }
def BookPostsUptoSaid : Prop := bookPostsUptoRow.holds Try.pinned (OpenSpec.upto bookPostsSpec)

/-- 'complinelaw14.BookMoves', WHERE WHAT IT READS IS OF BULK AT MOST 1048576: true; the input reads as it did. -/
def bookMovesUptoRow : OpenClaim := { program := "ytfnhffcjhdeleaa", sum := "efcd6317247a594ba156b862c0fbf935330bc0d5e122893961289e0307200136", func := "compline/complinelaw14.BookMoves", spec := "bookMoves", inPlace := ["math/bits.Add64"], unfollowed := true, recurses := true, plainKeys := false, apart := false, narrowed := true }
def BookMovesUptoSaid : Prop := bookMovesUptoRow.holds Try.pinned (OpenSpec.upto bookMovesSpec)

/-- 'complinelaw14.BookTurns', WHERE WHAT IT READS IS OF BULK AT MOST 1048576: true; the input reads as it did. -/
def bookTurnsUptoRow : OpenClaim := { program := "ytfnhffcjhdeleaa", sum := "efcd6317247a594ba156b862c0fbf935330bc0d5e122893961289e0307200136", func := "compline/complinelaw14.BookTurns", spec := "bookTurns", inPlace := ["math/bits.Add64"], unfollowed := true, recurses := true, plainKeys := false, apart := false, narrowed := true }
def BookTurnsUptoSaid : Prop := bookTurnsUptoRow.holds Try.pinned (OpenSpec.upto bookTurnsSpec)

/-- 'complinelaw04.TablePlays', WHERE WHAT IT READS IS OF BULK AT MOST 1048576: true; the input reads as it did. -/
def tablePlaysUptoRow : OpenClaim := { program := "ytfnhffcjhdeleaa", sum := "efcd6317247a594ba156b862c0fbf935330bc0d5e122893961289e0307200136", func := "compline/complinelaw04.TablePlays", spec := "tablePlays", inPlace := ["slices.overlaps[compline/table.Row[string]]"], unfollowed := true, recurses := true, plainKeys := false, apart := false, narrowed := true }
def TablePlaysUptoSaid : Prop := tablePlaysUptoRow.holds Try.pinned (OpenSpec.upto tablePlaysSpec)

/-- 'complinelaw04.TableOwn', WHERE WHAT IT READS IS OF BULK AT MOST 1048576: true; the input reads as it did. -/
def tableOwnUptoRow : OpenClaim := { program := "ytfnhffcjhdeleaa", sum := "efcd6317247a594ba156b862c0fbf935330bc0d5e122893961289e0307200136", func := "compline/complinelaw04.TableOwn", spec := "tableOwn", inPlace := ["slices.overlaps[compline/table.Row[string]]"], unfollowed := true, recurses := true, plainKeys := false, apart := false, narrowed := true }
def TableOwnUptoSaid : Prop := tableOwnUptoRow.holds Try.pinned (OpenSpec.upto tableOwnSpec)

/-- 'complinelaw18.NetSums', WHERE WHAT IT READS IS OF BULK AT MOST 1048576: true; the input reads as it did. -/
def netSumsUptoRow : OpenClaim := { program := "ytfnhffcjhdeleaa", sum := "efcd6317247a594ba156b862c0fbf935330bc0d5e122893961289e0307200136", func := "compline/complinelaw18.NetSums", spec := "netSums", inPlace := ["math/bits.Add64"], unfollowed := true, recurses := true, plainKeys := false, apart := false, narrowed := true }
def NetSumsUptoSaid : Prop := netSumsUptoRow.holds Try.pinned (OpenSpec.upto netSumsSpec)

/-- 'complinelaw18.NetTurns', WHERE WHAT IT READS IS OF BULK AT MOST 1048576: true; the input reads as it did. -/
def netTurnsUptoRow : OpenClaim := { program := "ytfnhffcjhdeleaa", sum := "efcd6317247a594ba156b862c0fbf935330bc0d5e122893961289e0307200136", func := "compline/complinelaw18.NetTurns", spec := "netTurns", inPlace := ["math/bits.Add64"], unfollowed := true, recurses := true, plainKeys := false, apart := false, narrowed := true }
def NetTurnsUptoSaid : Prop := netTurnsUptoRow.holds Try.pinned (OpenSpec.upto netTurnsSpec)

/-- 'complinelaw24.BidsOrder', WHERE WHAT IT READS IS OF BULK AT MOST 1048576: true; the input reads as it did. -/
def bidsOrderUptoRow : OpenClaim := { program := "ytfnhffcjhdeleaa", sum := "efcd6317247a594ba156b862c0fbf935330bc0d5e122893961289e0307200136", func := "compline/complinelaw24.BidsOrder", spec := "bidsOrder", unfollowed := true, recurses := true, plainKeys := false, apart := false, narrowed := true }
def BidsOrderUptoSaid : Prop := bidsOrderUptoRow.holds Try.pinned (OpenSpec.upto bidsOrderSpec)

/-- 'complinelaw18.NetSides', WHERE WHAT IT READS IS OF BULK AT MOST 1048576: true; the input reads as it did. -/
def netSidesUptoRow : OpenClaim := { program := "ytfnhffcjhdeleaa", sum := "efcd6317247a594ba156b862c0fbf935330bc0d5e122893961289e0307200136", func := "compline/complinelaw18.NetSides", spec := "netSides", inPlace := ["math/bits.Add64"], unfollowed := true, recurses := true, plainKeys := false, apart := false, narrowed := true }
def NetSidesUptoSaid : Prop := netSidesUptoRow.holds Try.pinned (OpenSpec.upto netSidesSpec)

/-- 'complinelaw18.NetBalances', WHERE WHAT IT READS IS OF BULK AT MOST 1048576: true; the input reads as it did. -/
def netBalancesUptoRow : OpenClaim := { program := "ytfnhffcjhdeleaa", sum := "efcd6317247a594ba156b862c0fbf935330bc0d5e122893961289e0307200136", func := "compline/complinelaw18.NetBalances", spec := "netBalances", inPlace := ["math/bits.Add64"], unfollowed := true, recurses := true, plainKeys := false, apart := false, narrowed := true }
def NetBalancesUptoSaid : Prop := netBalancesUptoRow.holds Try.pinned (OpenSpec.upto netBalancesSpec)

end Rows
end Go.Proofs.Ytfnhffcjhdeleaa
