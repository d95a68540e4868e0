/-
  No cell of these rows narrows 'for every input' (looked for: loops, veiled, ifaces, maps, wideKeys, modest, calm, conditions, laid).
  DERIVED. THE GIVEN ROWS OF THIS SEAT. 11 by the template 'for every input the law returns true; each argument reads behind the call as it read before'; 0 by the template 'total and deterministic' (their statements: YtfilpmmimpkfmaaTotals.lean).
  GIVEN WITH THE SEED: the statements are not yours to turn. If you find one false, say at which input.
  Laid BY PROGRAM, IN A SANDBOX (cutbox-rows.mjs): the forced cells as the released guide's own fill.sh prints them over the translation df7b4fb94193b40d… (all of the seat's roots in one cut). By AI agents, Wed Nov 11 2026. No macro, syntax, notation, axiom, sorry.
-/
import Derived.Test.YtfilpmmimpkfmaaChecked
import GoSem.Claim
import GoSem.ClaimJoined
import GoSem.ClaimMapViews
import Derived.JoinedTies
import Derived.KernelRfl
namespace Go.Proofs.Ytfilpmmimpkfmaa
/- THE CELL 'sum', in the pinned program and in every row, IS THE sha256 OF THE DUMP (.gsa) THAT YtfilpmmimpkfmaaProg.lean LOADS. Nothing in Lean hashes anything: it is a label: what it is worth is what the hold of that sum in a sandbox is worth. -/
noncomputable def Try.pinned : Pinned := { name := "ytfilpmmimpkfmaa", sum := "df7b4fb94193b40d6edb33b2d7ccaf4236707a2f9ec44cb70cef54f2c0e15f49", checked := Try.checked }
namespace Rows
def none {H : Type} : Left H := { results := [], args := [] }

/-- 'complinelaw02.WideMuls': WHATEVER THE INPUT: true; the input reads as it did. -/
def wideMulsSpec : ChangeSpec := { name := "wideMuls", fn := fun _ => fun
  | [d1, d2, d3] => { results := [.lit (.bool true)], args := [d1, d2, d3] }
  | _ => none }
def wideMulsRow : OpenClaim := { program := "ytfilpmmimpkfmaa", sum := "df7b4fb94193b40d6edb33b2d7ccaf4236707a2f9ec44cb70cef54f2c0e15f49", func := "compline/complinelaw02.WideMuls", spec := "wideMuls", named := ["math/bits.divideError", "math/bits.overflowError"], plainKeys := false, apart := false }
def WideMulsSaid : Prop := wideMulsRow.holds Try.pinned (OpenSpec.ofChange wideMulsSpec)

/-- ITS FALSE NEIGHBOUR: 'it returns false'. Refute it at one input. -/
def wideMulsWrong : ChangeSpec := { name := "wideMuls", fn := fun _ => fun
  | [d1, d2, d3] => { results := [.lit (.bool false)], args := [d1, d2, d3] }
  | _ => none }
def WideMulsWrongFalsely : Prop := wideMulsRow.holds Try.pinned (OpenSpec.ofChange wideMulsWrong)

/-- 'complinelaw02.WideAdds': WHATEVER THE INPUT: true; the input reads as it did. -/
def wideAddsSpec : ChangeSpec := { name := "wideAdds", fn := fun _ => fun
  | [d1, d2] => { results := [.lit (.bool true)], args := [d1, d2] }
  | _ => none }
def wideAddsRow : OpenClaim := { program := "ytfilpmmimpkfmaa", sum := "df7b4fb94193b40d6edb33b2d7ccaf4236707a2f9ec44cb70cef54f2c0e15f49", func := "compline/complinelaw02.WideAdds", spec := "wideAdds", inPlace := ["math/bits.Add64", "math/bits.Sub64"], named := ["math/bits.divideError", "math/bits.overflowError"], plainKeys := false, apart := false }
def WideAddsSaid : Prop := wideAddsRow.holds Try.pinned (OpenSpec.ofChange wideAddsSpec)

/-- ITS FALSE NEIGHBOUR: 'it returns false'. Refute it at one input. -/
def wideAddsWrong : ChangeSpec := { name := "wideAdds", fn := fun _ => fun
  | [d1, d2] => { results := [.lit (.bool false)], args := [d1, d2] }
  | _ => none }
def WideAddsWrongFalsely : Prop := wideAddsRow.holds Try.pinned (OpenSpec.ofChange wideAddsWrong)

/-- 'complinelaw10.ConfHas': WHATEVER THE INPUT: true; the input reads as it did. -/
def confHasSpec : ChangeSpec := { name := "confHas", fn := fun _ => fun
  | [d1, d2] => { results := [.lit (.bool true)], args := [d1, d2] }
  | _ => none }
def confHasRow : OpenClaim := { program := "ytfilpmmimpkfmaa", sum := "df7b4fb94193b40d6edb33b2d7ccaf4236707a2f9ec44cb70cef54f2c0e15f49", func := "compline/complinelaw10.ConfHas", spec := "confHas", unfollowed := true, recurses := true, plainKeys := false, apart := false }
def ConfHasSaid : Prop := confHasRow.holds Try.pinned (OpenSpec.ofChange confHasSpec)

/-- ITS FALSE NEIGHBOUR: 'it returns false'. Refute it at one input. -/
def confHasWrong : ChangeSpec := { name := "confHas", fn := fun _ => fun
  | [d1, d2] => { results := [.lit (.bool false)], args := [d1, d2] }
  | _ => none }
def ConfHasWrongFalsely : Prop := confHasRow.holds Try.pinned (OpenSpec.ofChange confHasWrong)

/-- 'complinelaw05.RankCompares': WHATEVER THE INPUT: true; the input reads as it did. -/
def rankComparesSpec : ChangeSpec := { name := "rankCompares", fn := fun _ => fun
  | [d1, d2, d3] => { results := [.lit (.bool true)], args := [d1, d2, d3] }
  | _ => none }
def rankComparesRow : OpenClaim := { program := "ytfilpmmimpkfmaa", sum := "df7b4fb94193b40d6edb33b2d7ccaf4236707a2f9ec44cb70cef54f2c0e15f49", func := "compline/complinelaw05.RankCompares", spec := "rankCompares", unfollowed := true, recurses := true, plainKeys := false, apart := false }
def RankComparesSaid : Prop := rankComparesRow.holds Try.pinned (OpenSpec.ofChange rankComparesSpec)

/-- ITS FALSE NEIGHBOUR: 'it returns false'. Refute it at one input. -/
def rankComparesWrong : ChangeSpec := { name := "rankCompares", fn := fun _ => fun
  | [d1, d2, d3] => { results := [.lit (.bool false)], args := [d1, d2, d3] }
  | _ => none }
def RankComparesWrongFalsely : Prop := rankComparesRow.holds Try.pinned (OpenSpec.ofChange rankComparesWrong)

/-- 'complinelaw05.RankTurns': WHATEVER THE INPUT: true; the input reads as it did. -/
def rankTurnsSpec : ChangeSpec := { name := "rankTurns", fn := fun _ => fun
  | [d1, d2] => { results := [.lit (.bool true)], args := [d1, d2] }
  | _ => none }
def rankTurnsRow : OpenClaim := { program := "ytfilpmmimpkfmaa", sum := "df7b4fb94193b40d6edb33b2d7ccaf4236707a2f9ec44cb70cef54f2c0e15f49", func := "compline/complinelaw05.RankTurns", spec := "rankTurns", unfollowed := true, recurses := true, plainKeys := false, apart := false }
def RankTurnsSaid : Prop := rankTurnsRow.holds Try.pinned (OpenSpec.ofChange rankTurnsSpec)

/-- ITS FALSE NEIGHBOUR: 'it returns false'. Refute it at one input. -/
def rankTurnsWrong : ChangeSpec := { name := "rankTurns", fn := fun _ => fun
  | [d1, d2] => { results := [.lit (.bool false)], args := [d1, d2] }
  | _ => none }
def RankTurnsWrongFalsely : Prop := rankTurnsRow.holds Try.pinned (OpenSpec.ofChange rankTurnsWrong)

/-- 'complinelaw05.RankOrders': WHATEVER THE INPUT: true; the input reads as it did. -/
def rankOrdersSpec : ChangeSpec := { name := "rankOrders", fn := fun _ => fun
  | [d] => { results := [.lit (.bool true)], args := [d] }
  | _ => none }
def rankOrdersRow : OpenClaim := { program := "ytfilpmmimpkfmaa", sum := "df7b4fb94193b40d6edb33b2d7ccaf4236707a2f9ec44cb70cef54f2c0e15f49", func := "compline/complinelaw05.RankOrders", spec := "rankOrders", unfollowed := true, recurses := true, plainKeys := false, apart := false }
def RankOrdersSaid : Prop := rankOrdersRow.holds Try.pinned (OpenSpec.ofChange rankOrdersSpec)

/-- ITS FALSE NEIGHBOUR: 'it returns false'. Refute it at one input. -/
def rankOrdersWrong : ChangeSpec := { name := "rankOrders", fn := fun _ => fun
  | [d] => { results := [.lit (.bool false)], args := [d] }
  | _ => none }
def RankOrdersWrongFalsely : Prop := rankOrdersRow.holds Try.pinned (OpenSpec.ofChange rankOrdersWrong)

/-- 'complinelaw05.RankMerges': WHATEVER THE INPUT: true; the input reads as it did. -/
def rankMergesSpec : ChangeSpec := { name := "rankMerges", fn := fun _ => fun
  | [d1, d2] => { results := [.lit (.bool true)], args := [d1, d2] }
  | _ => none }
def rankMergesRow : OpenClaim := { program := "ytfilpmmimpkfmaa", sum := "df7b4fb94193b40d6edb33b2d7ccaf4236707a2f9ec44cb70cef54f2c0e15f49", func := "compline/complinelaw05.RankMerges", spec := "rankMerges", unfollowed := true, recurses := true, plainKeys := false, apart := false }
def RankMergesSaid : Prop := rankMergesRow.holds Try.pinned (OpenSpec.ofChange rankMergesSpec)

/-- ITS FALSE NEIGHBOUR: 'it returns false'. Refute it at one input. -/
def rankMergesWrong : ChangeSpec := { name := "rankMerges", fn := fun _ => fun
  | [d1, d2] => { results := [.lit (.bool false)], args := [d1, d2] }
  | _ => none }
def RankMergesWrongFalsely : Prop := rankMergesRow.holds Try.pinned (OpenSpec.ofChange rankMergesWrong)

/-- 'complinelaw14.BookBalances': WHATEVER THE INPUT: true; the input reads as it did. -/
def bookBalancesSpec : ChangeSpec := { name := "bookBalances", fn := fun _ => fun
  | [d1, d2] => { results := [.lit (.bool true)], args := [d1, d2] }
  | _ => none }
def bookBalancesRow : OpenClaim := { program := "ytfilpmmimpkfmaa", sum := "df7b4fb94193b40d6edb33b2d7ccaf4236707a2f9ec44cb70cef54f2c0e15f49", func := "compline/complinelaw14.BookBalances", spec := "bookBalances", inPlace := ["math/bits.Add64"], unfollowed := true, recurses := true, plainKeys := false, apart := false }
def BookBalancesSaid : Prop := bookBalancesRow.holds Try.pinned (OpenSpec.ofChange bookBalancesSpec)

/-- ITS FALSE NEIGHBOUR: 'it returns false'. Refute it at one input. -/
def bookBalancesWrong : ChangeSpec := { name := "bookBalances", fn := fun _ => fun
  | [d1, d2] => { results := [.lit (.bool false)], args := [d1, d2] }
  | _ => none }
def BookBalancesWrongFalsely : Prop := bookBalancesRow.holds Try.pinned (OpenSpec.ofChange bookBalancesWrong)

/-- 'complinelaw14.BookPosts': WHATEVER THE INPUT: true; the input reads as it did. -/
def bookPostsSpec : ChangeSpec := { name := "bookPosts", fn := fun _ => fun
  | [d1, d2, d3] => { results := [.lit (.bool true)], args := [d1, d2, d3] }
  | _ => none }
def bookPostsRow : OpenClaim := { program := "ytfilpmmimpkfmaa", sum := "df7b4fb94193b40d6edb33b2d7ccaf4236707a2f9ec44cb70cef54f2c0e15f49", func := "compline/complinelaw14.BookPosts", spec := "bookPosts", inPlace := ["math/bits.Add64"], unfollowed := true, recurses := true, plainKeys := false, apart := false }
def BookPostsSaid : Prop := bookPostsRow.holds Try.pinned (OpenSpec.ofChange bookPostsSpec)

/-- ITS FALSE NEIGHBOUR: 'it returns false'. Refute it at one input. -/
def bookPostsWrong : ChangeSpec := { name := "bookPosts", fn := fun _ => fun
  | [d1, d2, d3] => { results := [.lit (.bool false)], args := [d1, d2, d3] }
  | _ => none }
def BookPostsWrongFalsely : Prop := bookPostsRow.holds Try.pinned (OpenSpec.ofChange bookPostsWrong)

/-- 'complinelaw14.BookMoves': WHATEVER THE INPUT: true; the input reads as it did. -/
def bookMovesSpec : ChangeSpec := { name := "bookMoves", fn := fun _ => fun
  | [d1, d2, d3] => { results := [.lit (.bool true)], args := [d1, d2, d3] }
  | _ => none }
def bookMovesRow : OpenClaim := { program := "ytfilpmmimpkfmaa", sum := "df7b4fb94193b40d6edb33b2d7ccaf4236707a2f9ec44cb70cef54f2c0e15f49", func := "compline/complinelaw14.BookMoves", spec := "bookMoves", inPlace := ["math/bits.Add64"], unfollowed := true, recurses := true, plainKeys := false, apart := false }
def BookMovesSaid : Prop := bookMovesRow.holds Try.pinned (OpenSpec.ofChange bookMovesSpec)

/-- ITS FALSE NEIGHBOUR: 'it returns false'. Refute it at one input. -/
def bookMovesWrong : ChangeSpec := { name := "bookMoves", fn := fun _ => fun
  | [d1, d2, d3] => { results := [.lit (.bool false)], args := [d1, d2, d3] }
  | _ => none }
def BookMovesWrongFalsely : Prop := bookMovesRow.holds Try.pinned (OpenSpec.ofChange bookMovesWrong)

/-- 'complinelaw14.BookTurns': WHATEVER THE INPUT: true; the input reads as it did. -/
def bookTurnsSpec : ChangeSpec := { name := "bookTurns", fn := fun _ => fun
  | [d1, d2] => { results := [.lit (.bool true)], args := [d1, d2] }
  | _ => none }
def bookTurnsRow : OpenClaim := { program := "ytfilpmmimpkfmaa", sum := "df7b4fb94193b40d6edb33b2d7ccaf4236707a2f9ec44cb70cef54f2c0e15f49", func := "compline/complinelaw14.BookTurns", spec := "bookTurns", inPlace := ["math/bits.Add64"], unfollowed := true, recurses := true, plainKeys := false, apart := false }
def BookTurnsSaid : Prop := bookTurnsRow.holds Try.pinned (OpenSpec.ofChange bookTurnsSpec)

/-- ITS FALSE NEIGHBOUR: 'it returns false'. Refute it at one input. -/
def bookTurnsWrong : ChangeSpec := { name := "bookTurns", fn := fun _ => fun
  | [d1, d2] => { results := [.lit (.bool false)], args := [d1, d2] }
  | _ => none }
def BookTurnsWrongFalsely : Prop := bookTurnsRow.holds Try.pinned (OpenSpec.ofChange bookTurnsWrong)

/- THE SECOND FORM. 'bulk': how many values and letters a reading holds, each counted each time it is reached (what is shared counts as often as it is met; a slice's spare places count too). A statement '..UptoSaid' is the law's where the arguments, and the package variables that the reading takes, are together of bulk at most 1048576: NARROWER than '..Said'. Prove '..Said' where nothing that the law and all that it calls make is longer than what came in: it says more and counts as full. Else prove '..UptoSaid'. A law counts once. -/
mutual
def uptoBulk {H : Type} : DataW H → Nat
  | .lit (.string bytes) => bytes.length + 1
  | .lit _ => 1
  | .nil => 1
  | .ptr d => uptoBulk d + 1
  | .slice elems spare => uptoBulkAll elems + uptoBulkAll spare + 1
  | .agg parts => uptoBulkAll parts + 1
  | .iface _ d => uptoBulk d + 1
  | .map entries => uptoBulkEntries entries + 1
  | .held _ => 1
def uptoBulkAll {H : Type} : List (DataW H) → Nat
  | [] => 0
  | d :: r => uptoBulk d + uptoBulkAll r
def uptoBulkEntries {H : Type} : List (Lit × DataW H) → Nat
  | [] => 0
  | x :: r => uptoBulkEntry x + uptoBulkEntries r
def uptoBulkEntry {H : Type} : Lit × DataW H → Nat
  | (.string bytes, d) => bytes.length + uptoBulk d + 1
  | (_, d) => uptoBulk d + 1
 end
def uptoSmall : (H : Type) → List (DataW H) → Bool := fun _ ds => decide (uptoBulkAll ds ≤ 1048576)
def OpenSpec.upto (s : _root_.Go.ChangeSpec) : _root_.Go.OpenSpec := { _root_.Go.OpenSpec.ofChange s with cond := some uptoSmall }

/-- 'complinelaw02.WideMuls', WHERE WHAT IT READS IS OF BULK AT MOST 1048576: true; the input reads as it did. -/
def wideMulsUptoRow : OpenClaim := { program := "ytfilpmmimpkfmaa", sum := "df7b4fb94193b40d6edb33b2d7ccaf4236707a2f9ec44cb70cef54f2c0e15f49", func := "compline/complinelaw02.WideMuls", spec := "wideMuls", named := ["math/bits.divideError", "math/bits.overflowError"], plainKeys := false, apart := false, narrowed := true }
def WideMulsUptoSaid : Prop := wideMulsUptoRow.holds Try.pinned (OpenSpec.upto wideMulsSpec)

/-- 'complinelaw02.WideAdds', WHERE WHAT IT READS IS OF BULK AT MOST 1048576: true; the input reads as it did. -/
def wideAddsUptoRow : OpenClaim := { program := "ytfilpmmimpkfmaa", sum := "df7b4fb94193b40d6edb33b2d7ccaf4236707a2f9ec44cb70cef54f2c0e15f49", func := "compline/complinelaw02.WideAdds", spec := "wideAdds", inPlace := ["math/bits.Add64", "math/bits.Sub64"], named := ["math/bits.divideError", "math/bits.overflowError"], plainKeys := false, apart := false, narrowed := true }
def WideAddsUptoSaid : Prop := wideAddsUptoRow.holds Try.pinned (OpenSpec.upto wideAddsSpec)

/-- 'complinelaw10.ConfHas', WHERE WHAT IT READS IS OF BULK AT MOST 1048576: true; the input reads as it did. -/
def confHasUptoRow : OpenClaim := { program := "ytfilpmmimpkfmaa", sum := "df7b4fb94193b40d6edb33b2d7ccaf4236707a2f9ec44cb70cef54f2c0e15f49", func := "compline/complinelaw10.ConfHas", spec := "confHas", unfollowed := true, recurses := true, plainKeys := false, apart := false, narrowed := true }
def ConfHasUptoSaid : Prop := confHasUptoRow.holds Try.pinned (OpenSpec.upto confHasSpec)

/-- 'complinelaw05.RankCompares', WHERE WHAT IT READS IS OF BULK AT MOST 1048576: true; the input reads as it did. -/
def rankComparesUptoRow : OpenClaim := { program := "ytfilpmmimpkfmaa", sum := "df7b4fb94193b40d6edb33b2d7ccaf4236707a2f9ec44cb70cef54f2c0e15f49", func := "compline/complinelaw05.RankCompares", spec := "rankCompares", unfollowed := true, recurses := true, plainKeys := false, apart := false, narrowed := true }
def RankComparesUptoSaid : Prop := rankComparesUptoRow.holds Try.pinned (OpenSpec.upto rankComparesSpec)

/-- 'complinelaw05.RankTurns', WHERE WHAT IT READS IS OF BULK AT MOST 1048576: true; the input reads as it did. -/
def rankTurnsUptoRow : OpenClaim := { program := "ytfilpmmimpkfmaa", sum := "df7b4fb94193b40d6edb33b2d7ccaf4236707a2f9ec44cb70cef54f2c0e15f49", func := "compline/complinelaw05.RankTurns", spec := "rankTurns", unfollowed := true, recurses := true, plainKeys := false, apart := false, narrowed := true }
def RankTurnsUptoSaid : Prop := rankTurnsUptoRow.holds Try.pinned (OpenSpec.upto rankTurnsSpec)

/-- 'complinelaw05.RankOrders', WHERE WHAT IT READS IS OF BULK AT MOST 1048576: true; the input reads as it did. -/
def rankOrdersUptoRow : OpenClaim := { program := "ytfilpmmimpkfmaa", sum := "df7b4fb94193b40d6edb33b2d7ccaf4236707a2f9ec44cb70cef54f2c0e15f49", func := "compline/complinelaw05.RankOrders", spec := "rankOrders", unfollowed := true, recurses := true, plainKeys := false, apart := false, narrowed := true }
def RankOrdersUptoSaid : Prop := rankOrdersUptoRow.holds Try.pinned (OpenSpec.upto rankOrdersSpec)

/-- 'complinelaw05.RankMerges', WHERE WHAT IT READS IS OF BULK AT MOST 1048576: true; the input reads as it did. -/
def rankMergesUptoRow : OpenClaim := { program := "ytfilpmmimpkfmaa", sum := "df7b4fb94193b40d6edb33b2d7ccaf4236707a2f9ec44cb70cef54f2c0e15f49", func := "compline/complinelaw05.RankMerges", spec := "rankMerges", unfollowed := true, recurses := true, plainKeys := false, apart := false, narrowed := true }
def RankMergesUptoSaid : Prop := rankMergesUptoRow.holds Try.pinned (OpenSpec.upto rankMergesSpec)

/-- 'complinelaw14.BookBalances', WHERE WHAT IT READS IS OF BULK AT MOST 1048576: true; the input reads as it did. -/
def bookBalancesUptoRow : OpenClaim := { program := "ytfilpmmimpkfmaa", sum := "df7b4fb94193b40d6edb33b2d7ccaf4236707a2f9ec44cb70cef54f2c0e15f49", func := "compline/complinelaw14.BookBalances", spec := "bookBalances", inPlace := ["math/bits.Add64"], unfollowed := true, recurses := true, plainKeys := false, apart := false, narrowed := true }
def BookBalancesUptoSaid : Prop := bookBalancesUptoRow.holds Try.pinned (OpenSpec.upto bookBalancesSpec)

/-- 'complinelaw14.BookPosts', WHERE WHAT IT READS IS OF BULK AT MOST 1048576: true; the input reads as it did. -/
def bookPostsUptoRow : OpenClaim := { program := "ytfilpmmimpkfmaa", sum := "df7b4fb94193b40d6edb33b2d7ccaf4236707a2f9ec44cb70cef54f2c0e15f49", func := "compline/complinelaw14.BookPosts", spec := "bookPosts", inPlace := ["math/bits.Add64"], unfollowed := true, recurses := true, plainKeys := false, apart := false, narrowed := true }
def BookPostsUptoSaid : Prop := bookPostsUptoRow.holds Try.pinned (OpenSpec.upto bookPostsSpec)

/-- 'complinelaw14.BookMoves', WHERE WHAT IT READS IS OF BULK AT MOST 1048576: true; the input reads as it did. -/
def bookMovesUptoRow : OpenClaim := { program := "ytfilpmmimpkfmaa", sum := "df7b4fb94193b40d6edb33b2d7ccaf4236707a2f9ec44cb70cef54f2c0e15f49", func := "compline/complinelaw14.BookMoves", spec := "bookMoves", inPlace := ["math/bits.Add64"], unfollowed := true, recurses := true, plainKeys := false, apart := false, narrowed := true }
def BookMovesUptoSaid : Prop := bookMovesUptoRow.holds Try.pinned (OpenSpec.upto bookMovesSpec)

/-- 'complinelaw14.BookTurns', WHERE WHAT IT READS IS OF BULK AT MOST 1048576: true; the input reads as it did. -/
def bookTurnsUptoRow : OpenClaim := { program := "ytfilpmmimpkfmaa", sum := "df7b4fb94193b40d6edb33b2d7ccaf4236707a2f9ec44cb70cef54f2c0e15f49", func := "compline/complinelaw14.BookTurns", spec := "bookTurns", inPlace := ["math/bits.Add64"], unfollowed := true, recurses := true, plainKeys := false, apart := false, narrowed := true }
def BookTurnsUptoSaid : Prop := bookTurnsUptoRow.holds Try.pinned (OpenSpec.upto bookTurnsSpec)

end Rows
end Go.Proofs.Ytfilpmmimpkfmaa
