/-
  No cell of these rows narrows 'for every input' (looked for: loops, veiled, ifaces, maps, wideKeys, modest, calm, conditions, laid).
  DERIVED. THE GIVEN ROWS OF THIS SEAT. 6 by the template 'for every input the law returns true; each argument reads behind the call as it read before'; 0 by the template 'total and deterministic' (their statements: YtelbolhckhdioaaTotals.lean).
  GIVEN WITH THE SEED: the statements are not yours to turn. If you find one false, say at which input.
  Laid BY PROGRAM, IN A SANDBOX (cutbox-rows.mjs): the forced cells as the released guide's own fill.sh prints them over the translation 9931d21e6b4f2cc4… (all of the seat's roots in one cut). By AI agents, Wed Nov 11 2026. No macro, syntax, notation, axiom, sorry.
-/
import Derived.Test.YtelbolhckhdioaaChecked
import GoSem.Claim
import GoSem.ClaimJoined
import GoSem.ClaimMapViews
import Derived.JoinedTies
import Derived.KernelRfl
namespace Go.Proofs.Ytelbolhckhdioaa
/- THE CELL 'sum', in the pinned program and in every row, IS THE sha256 OF THE DUMP (.gsa) THAT YtelbolhckhdioaaProg.lean LOADS. Nothing in Lean hashes anything: it is a label: what it is worth is what the hold of that sum in a sandbox is worth. -/
noncomputable def Try.pinned : Pinned := { name := "ytelbolhckhdioaa", sum := "9931d21e6b4f2cc455ecc87f53d196422de639b5682cf691b288bd912681cc4b", checked := Try.checked }
namespace Rows
def none {H : Type} : Left H := { results := [], args := [] }

/-- 'complinelaw14.BookPosts': WHATEVER THE INPUT: true; the input reads as it did. -/
def bookPostsSpec : ChangeSpec := { name := "bookPosts", fn := fun _ => fun
  | [d1, d2, d3] => { results := [.lit (.bool true)], args := [d1, d2, d3] }
  | _ => none }
def bookPostsRow : OpenClaim := { program := "ytelbolhckhdioaa", sum := "9931d21e6b4f2cc455ecc87f53d196422de639b5682cf691b288bd912681cc4b", func := "compline/complinelaw14.BookPosts", spec := "bookPosts", inPlace := ["math/bits.Add64"], unfollowed := true, recurses := true, plainKeys := false, apart := false }
def BookPostsSaid : Prop := bookPostsRow.holds Try.pinned (OpenSpec.ofChange bookPostsSpec)

/-- ITS FALSE NEIGHBOUR: 'it returns false'. Refute it at one input. -/
def bookPostsWrong : ChangeSpec := { name := "bookPosts", fn := fun _ => fun
  | [d1, d2, d3] => { results := [.lit (.bool false)], args := [d1, d2, d3] }
  | _ => none }
def BookPostsWrongFalsely : Prop := bookPostsRow.holds Try.pinned (OpenSpec.ofChange bookPostsWrong)

/-- 'complinelaw15.HoldPlays': WHATEVER THE INPUT: true; the input reads as it did. -/
def holdPlaysSpec : ChangeSpec := { name := "holdPlays", fn := fun _ => fun
  | [d1, d2, d3] => { results := [.lit (.bool true)], args := [d1, d2, d3] }
  | _ => none }
def holdPlaysRow : OpenClaim := { program := "ytelbolhckhdioaa", sum := "9931d21e6b4f2cc455ecc87f53d196422de639b5682cf691b288bd912681cc4b", func := "compline/complinelaw15.HoldPlays", spec := "holdPlays", inPlace := ["math/bits.Add64", "slices.overlaps[compline/table.Row[compline/api.Hold]]"], unfollowed := true, recurses := true, plainKeys := false, apart := false }
def HoldPlaysSaid : Prop := holdPlaysRow.holds Try.pinned (OpenSpec.ofChange holdPlaysSpec)

/-- ITS FALSE NEIGHBOUR: 'it returns false'. Refute it at one input. -/
def holdPlaysWrong : ChangeSpec := { name := "holdPlays", fn := fun _ => fun
  | [d1, d2, d3] => { results := [.lit (.bool false)], args := [d1, d2, d3] }
  | _ => none }
def HoldPlaysWrongFalsely : Prop := holdPlaysRow.holds Try.pinned (OpenSpec.ofChange holdPlaysWrong)

/-- 'complinelaw15.HoldKeeps': WHATEVER THE INPUT: true; the input reads as it did. -/
def holdKeepsSpec : ChangeSpec := { name := "holdKeeps", fn := fun _ => fun
  | [d] => { results := [.lit (.bool true)], args := [d] }
  | _ => none }
def holdKeepsRow : OpenClaim := { program := "ytelbolhckhdioaa", sum := "9931d21e6b4f2cc455ecc87f53d196422de639b5682cf691b288bd912681cc4b", func := "compline/complinelaw15.HoldKeeps", spec := "holdKeeps", inPlace := ["math/bits.Add64", "slices.overlaps[compline/table.Row[compline/api.Hold]]"], unfollowed := true, recurses := true, plainKeys := false, apart := false }
def HoldKeepsSaid : Prop := holdKeepsRow.holds Try.pinned (OpenSpec.ofChange holdKeepsSpec)

/-- ITS FALSE NEIGHBOUR: 'it returns false'. Refute it at one input. -/
def holdKeepsWrong : ChangeSpec := { name := "holdKeeps", fn := fun _ => fun
  | [d] => { results := [.lit (.bool false)], args := [d] }
  | _ => none }
def HoldKeepsWrongFalsely : Prop := holdKeepsRow.holds Try.pinned (OpenSpec.ofChange holdKeepsWrong)

/-- 'complinelaw15.HoldOwn': WHATEVER THE INPUT: true; the input reads as it did. -/
def holdOwnSpec : ChangeSpec := { name := "holdOwn", fn := fun _ => fun
  | [d1, d2] => { results := [.lit (.bool true)], args := [d1, d2] }
  | _ => none }
def holdOwnRow : OpenClaim := { program := "ytelbolhckhdioaa", sum := "9931d21e6b4f2cc455ecc87f53d196422de639b5682cf691b288bd912681cc4b", func := "compline/complinelaw15.HoldOwn", spec := "holdOwn", inPlace := ["math/bits.Add64", "slices.overlaps[compline/table.Row[compline/api.Hold]]"], unfollowed := true, recurses := true, plainKeys := false, apart := false }
def HoldOwnSaid : Prop := holdOwnRow.holds Try.pinned (OpenSpec.ofChange holdOwnSpec)

/-- ITS FALSE NEIGHBOUR: 'it returns false'. Refute it at one input. -/
def holdOwnWrong : ChangeSpec := { name := "holdOwn", fn := fun _ => fun
  | [d1, d2] => { results := [.lit (.bool false)], args := [d1, d2] }
  | _ => none }
def HoldOwnWrongFalsely : Prop := holdOwnRow.holds Try.pinned (OpenSpec.ofChange holdOwnWrong)

/-- 'complinelaw17.RegisterTurns': WHATEVER THE INPUT: true; the input reads as it did. -/
def registerTurnsSpec : ChangeSpec := { name := "registerTurns", fn := fun _ => fun
  | [d1, d2, d3] => { results := [.lit (.bool true)], args := [d1, d2, d3] }
  | _ => none }
def registerTurnsRow : OpenClaim := { program := "ytelbolhckhdioaa", sum := "9931d21e6b4f2cc455ecc87f53d196422de639b5682cf691b288bd912681cc4b", func := "compline/complinelaw17.RegisterTurns", spec := "registerTurns", inPlace := ["math/bits.Add64", "slices.overlaps[compline/table.Row[int]]", "slices.overlaps[compline/table.Row[compline/api.Trade]]"], unfollowed := true, recurses := true, plainKeys := false, apart := false }
def RegisterTurnsSaid : Prop := registerTurnsRow.holds Try.pinned (OpenSpec.ofChange registerTurnsSpec)

/-- ITS FALSE NEIGHBOUR: 'it returns false'. Refute it at one input. -/
def registerTurnsWrong : ChangeSpec := { name := "registerTurns", fn := fun _ => fun
  | [d1, d2, d3] => { results := [.lit (.bool false)], args := [d1, d2, d3] }
  | _ => none }
def RegisterTurnsWrongFalsely : Prop := registerTurnsRow.holds Try.pinned (OpenSpec.ofChange registerTurnsWrong)

/-- 'complinelaw17.RegisterBounds': WHATEVER THE INPUT: true; the input reads as it did. -/
def registerBoundsSpec : ChangeSpec := { name := "registerBounds", fn := fun _ => fun
  | [d1, d2, d3] => { results := [.lit (.bool true)], args := [d1, d2, d3] }
  | _ => none }
def registerBoundsRow : OpenClaim := { program := "ytelbolhckhdioaa", sum := "9931d21e6b4f2cc455ecc87f53d196422de639b5682cf691b288bd912681cc4b", func := "compline/complinelaw17.RegisterBounds", spec := "registerBounds", inPlace := ["math/bits.Add64", "slices.overlaps[compline/table.Row[int]]", "slices.overlaps[compline/table.Row[compline/api.Trade]]"], unfollowed := true, recurses := true, plainKeys := false, apart := false }
def RegisterBoundsSaid : Prop := registerBoundsRow.holds Try.pinned (OpenSpec.ofChange registerBoundsSpec)

/-- ITS FALSE NEIGHBOUR: 'it returns false'. Refute it at one input. -/
def registerBoundsWrong : ChangeSpec := { name := "registerBounds", fn := fun _ => fun
  | [d1, d2, d3] => { results := [.lit (.bool false)], args := [d1, d2, d3] }
  | _ => none }
def RegisterBoundsWrongFalsely : Prop := registerBoundsRow.holds Try.pinned (OpenSpec.ofChange registerBoundsWrong)

/- THE SECOND FORM. 'bulk': how many values and letters a reading holds, each counted each time it is reached (what is shared counts as often as it is met; a slice's spare places count too). A statement '..UptoSaid' is the law's where the arguments, and the package variables that the reading takes, are together of bulk at most 1048576: NARROWER than '..Said'. Prove '..Said' where nothing that the law and all that it calls make is longer than what came in: it says more and counts as full. Else prove '..UptoSaid'. A law counts once. -/
mutual
def uptoBulk {H : Type} : DataW H → Nat
  | .lit (.string bytes) => bytes.length + 1
  | .lit _ => 1
  | .nil => 1
  | .ptr d => uptoBulk d + 1
  | .slice elems spare => uptoBulkAll elems + uptoBulkAll spare + 1
  | .agg parts => uptoBulkAll parts + 1
  | .iface _ d => uptoBulk d + 1
  | .map entries => uptoBulkEntries entries + 1
  | .held _ => 1
def uptoBulkAll {H : Type} : List (DataW H) → Nat
  | [] => 0
  | d :: r => uptoBulk d + uptoBulkAll r
def uptoBulkEntries {H : Type} : List (Lit × DataW H) → Nat
  | [] => 0
  | x :: r => uptoBulkEntry x + uptoBulkEntries r
def uptoBulkEntry {H : Type} : Lit × DataW H → Nat
  | (.string bytes, d) => bytes.length + uptoBulk d + 1
  | (_, d) => uptoBulk d + 1
 end
def uptoSmall : (H : Type) → List (DataW H) → Bool := fun _ ds => decide (uptoBulkAll ds ≤ 1048576)
def OpenSpec.upto (s : _root_.Go.ChangeSpec) : _root_.Go.OpenSpec := { _root_.Go.OpenSpec.ofChange s with cond := some uptoSmall }

/-- 'complinelaw14.BookPosts', WHERE WHAT IT READS IS OF BULK AT MOST 1048576: true; the input reads as it did. -/
def bookPostsUptoRow : OpenClaim := { program := "ytelbolhckhdioaa", sum := "9931d21e6b4f2cc455ecc87f53d196422de639b5682cf691b288bd912681cc4b", func := "compline/complinelaw14.BookPosts", spec := "bookPosts", inPlace := ["math/bits.Add64"], unfollowed := true, recurses := true, plainKeys := false, apart := false, narrowed := true }
def BookPostsUptoSaid : Prop := bookPostsUptoRow.holds Try.pinned (OpenSpec.upto bookPostsSpec)

/-- 'complinelaw15.HoldPlays', WHERE WHAT IT READS IS OF BULK AT MOST 1048576: true; the input reads as it did. -/
def holdPlaysUptoRow : OpenClaim := { program := "ytelbolhckhdioaa", sum := "9931d21e6b4f2cc455ecc87f53d196422de639b5682cf691b288bd912681cc4b", func := "compline/complinelaw15.HoldPlays", spec := "holdPlays", inPlace := ["math/bits.Add64", "slices.overlaps[compline/table.Row[compline/api.Hold]]"], unfollowed := true, recurses := true, plainKeys := false, apart := false, narrowed := true }
def HoldPlaysUptoSaid : Prop := holdPlaysUptoRow.holds Try.pinned (OpenSpec.upto holdPlaysSpec)

/-- 'complinelaw15.HoldKeeps', WHERE WHAT IT READS IS OF BULK AT MOST 1048576: true; the input reads as it did. -/
def holdKeepsUptoRow : OpenClaim := { program := "ytelbolhckhdioaa", sum := "9931d21e6b4f2cc455ecc87f53d196422de639b5682cf691b288bd912681cc4b", func := "compline/complinelaw15.HoldKeeps", spec := "holdKeeps", inPlace := ["math/bits.Add64", "slices.overlaps[compline/table.Row[compline/api.Hold]]"], unfollowed := true, recurses := true, plainKeys := false, apart := false, narrowed := true }
def HoldKeepsUptoSaid : Prop := holdKeepsUptoRow.holds Try.pinned (OpenSpec.upto holdKeepsSpec)

/-- 'complinelaw15.HoldOwn', WHERE WHAT IT READS IS OF BULK AT MOST 1048576: true; the input reads as it did. -/
def holdOwnUptoRow : OpenClaim := { program := "ytelbolhckhdioaa", sum := "9931d21e6b4f2cc455ecc87f53d196422de639b5682cf691b288bd912681cc4b", func := "compline/complinelaw15.HoldOwn", spec := "holdOwn", inPlace := ["math/bits.Add64", "slices.overlaps[compline/table.Row[compline/api.Hold]]"], unfollowed := true, recurses := true, plainKeys := false, apart := false, narrowed := true }
def HoldOwnUptoSaid : Prop := holdOwnUptoRow.holds Try.pinned (OpenSpec.upto holdOwnSpec)

/-- 'complinelaw17.RegisterTurns', WHERE WHAT IT READS IS OF BULK AT MOST 1048576: true; the input reads as it did. -/
def registerTurnsUptoRow : OpenClaim := { program := "ytelbolhckhdioaa", sum := "9931d21e6b4f2cc455ecc87f53d196422de639b5682cf691b288bd912681cc4b", func := "compline/complinelaw17.RegisterTurns", spec := "registerTurns", inPlace := ["math/bits.Add64", "slices.overlaps[compline/table.Row[int]]", "slices.overlaps[compline/table.Row[compline/api.Trade]]"], unfollowed := true, recurses := true, plainKeys := false, apart := false, narrowed := true }
def RegisterTurnsUptoSaid : Prop := registerTurnsUptoRow.holds Try.pinned (OpenSpec.upto registerTurnsSpec)

/-- 'complinelaw17.RegisterBounds', WHERE WHAT IT READS IS OF BULK AT MOST 1048576: true; the input reads as it did. -/
def registerBoundsUptoRow : OpenClaim := { program := "ytelbolhckhdioaa", sum := "9931d21e6b4f2cc455ecc87f53d196422de639b5682cf691b288bd912681cc4b", func := "compline/complinelaw17.RegisterBounds", spec := "registerBounds", inPlace := ["math/bits.Add64", "slices.overlaps[compline/table.Row[int]]", "slices.overlaps[compline/table.Row[compline/api.Trade]]"], unfollowed := true, recurses := true, plainKeys := false, apart := false, narrowed := true }
def RegisterBoundsUptoSaid : Prop := registerBoundsUptoRow.holds Try.pinned (OpenSpec.upto registerBoundsSpec)

end Rows
end Go.Proofs.Ytelbolhckhdioaa
