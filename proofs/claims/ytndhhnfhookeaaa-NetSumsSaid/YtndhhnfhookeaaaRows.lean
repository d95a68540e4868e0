/-
  No cell of these rows narrows 'for every input' (looked for: loops, veiled, ifaces, maps, wideKeys, modest, calm, conditions, laid).
  DERIVED. THE GIVEN ROWS OF THIS SEAT. 10 by the template 'for every input the law returns true; each argument reads behind the call as it read before'; 0 by the template 'total and deterministic' (their statements: YtndhhnfhookeaaaTotals.lean).
  GIVEN WITH THE SEED: the statements are not yours to turn. If you find one false, say at which input.
  Laid BY PROGRAM, IN A SANDBOX (cutbox-rows.mjs): the forced cells as the released guide's own fill.sh prints them over the translation 906c0bacdb8a8b5c… (all of the seat's roots in one cut). By AI agents, Wed Nov 11 2026. No macro, syntax, notation, axiom, sorry.
-/
import Derived.Test.YtndhhnfhookeaaaChecked
import GoSem.Claim
import GoSem.ClaimJoined
import GoSem.ClaimMapViews
import Derived.JoinedTies
import Derived.KernelRfl
namespace Go.Proofs.Ytndhhnfhookeaaa
/- THE CELL 'sum', in the pinned program and in every row, IS THE sha256 OF THE DUMP (.gsa) THAT YtndhhnfhookeaaaProg.lean LOADS. Nothing in Lean hashes anything: it is a label: what it is worth is what the hold of that sum in a sandbox is worth. -/
noncomputable def Try.pinned : Pinned := { name := "ytndhhnfhookeaaa", sum := "906c0bacdb8a8b5c548e46e484b14a6a8edceaad931d1647cb17adbdb02eb8c7", checked := Try.checked }
namespace Rows
def none {H : Type} : Left H := { results := [], args := [] }

/-- 'complinelaw21.TimerOrders': WHATEVER THE INPUT: true; the input reads as it did. -/
def timerOrdersSpec : ChangeSpec := { name := "timerOrders", fn := fun _ => fun
  | [d1, d2, d3] => { results := [.lit (.bool true)], args := [d1, d2, d3] }
  | _ => none }
def timerOrdersRow : OpenClaim := { program := "ytndhhnfhookeaaa", sum := "906c0bacdb8a8b5c548e46e484b14a6a8edceaad931d1647cb17adbdb02eb8c7", func := "compline/complinelaw21.TimerOrders", spec := "timerOrders", unfollowed := true, recurses := true, plainKeys := false, apart := false }
def TimerOrdersSaid : Prop := timerOrdersRow.holds Try.pinned (OpenSpec.ofChange timerOrdersSpec)

/-- ITS FALSE NEIGHBOUR: 'it returns false'. Refute it at one input. -/
def timerOrdersWrong : ChangeSpec := { name := "timerOrders", fn := fun _ => fun
  | [d1, d2, d3] => { results := [.lit (.bool false)], args := [d1, d2, d3] }
  | _ => none }
def TimerOrdersWrongFalsely : Prop := timerOrdersRow.holds Try.pinned (OpenSpec.ofChange timerOrdersWrong)

/-- 'complinelaw21.TimerPlays': WHATEVER THE INPUT: true; the input reads as it did. -/
def timerPlaysSpec : ChangeSpec := { name := "timerPlays", fn := fun _ => fun
  | [d1, d2] => { results := [.lit (.bool true)], args := [d1, d2] }
  | _ => none }
def timerPlaysRow : OpenClaim := { program := "ytndhhnfhookeaaa", sum := "906c0bacdb8a8b5c548e46e484b14a6a8edceaad931d1647cb17adbdb02eb8c7", func := "compline/complinelaw21.TimerPlays", spec := "timerPlays", unfollowed := true, recurses := true, plainKeys := false, apart := false }
def TimerPlaysSaid : Prop := timerPlaysRow.holds Try.pinned (OpenSpec.ofChange timerPlaysSpec)

/-- ITS FALSE NEIGHBOUR: 'it returns false'. Refute it at one input. -/
def timerPlaysWrong : ChangeSpec := { name := "timerPlays", fn := fun _ => fun
  | [d1, d2] => { results := [.lit (.bool false)], args := [d1, d2] }
  | _ => none }
def TimerPlaysWrongFalsely : Prop := timerPlaysRow.holds Try.pinned (OpenSpec.ofChange timerPlaysWrong)

/-- 'complinelaw18.NetSums': WHATEVER THE INPUT: true; the input reads as it did. -/
def netSumsSpec : ChangeSpec := { name := "netSums", fn := fun _ => fun
  | [d1, d2] => { results := [.lit (.bool true)], args := [d1, d2] }
  | _ => none }
def netSumsRow : OpenClaim := { program := "ytndhhnfhookeaaa", sum := "906c0bacdb8a8b5c548e46e484b14a6a8edceaad931d1647cb17adbdb02eb8c7", func := "compline/complinelaw18.NetSums", spec := "netSums", inPlace := ["math/bits.Add64"], unfollowed := true, recurses := true, plainKeys := false, apart := false }
def NetSumsSaid : Prop := netSumsRow.holds Try.pinned (OpenSpec.ofChange netSumsSpec)

/-- ITS FALSE NEIGHBOUR: 'it returns false'. Refute it at one input. -/
def netSumsWrong : ChangeSpec := { name := "netSums", fn := fun _ => fun
  | [d1, d2] => { results := [.lit (.bool false)], args := [d1, d2] }
  | _ => none }
def NetSumsWrongFalsely : Prop := netSumsRow.holds Try.pinned (OpenSpec.ofChange netSumsWrong)

/-- 'complinelaw18.NetTurns': WHATEVER THE INPUT: true; the input reads as it did. -/
def netTurnsSpec : ChangeSpec := { name := "netTurns", fn := fun _ => fun
  | [d1, d2, d3] => { results := [.lit (.bool true)], args := [d1, d2, d3] }
  | _ => none }
def netTurnsRow : OpenClaim := { program := "ytndhhnfhookeaaa", sum := "906c0bacdb8a8b5c548e46e484b14a6a8edceaad931d1647cb17adbdb02eb8c7", func := "compline/complinelaw18.NetTurns", spec := "netTurns", inPlace := ["math/bits.Add64"], unfollowed := true, recurses := true, plainKeys := false, apart := false }
def NetTurnsSaid : Prop := netTurnsRow.holds Try.pinned (OpenSpec.ofChange netTurnsSpec)

/-- ITS FALSE NEIGHBOUR: 'it returns false'. Refute it at one input. -/
def netTurnsWrong : ChangeSpec := { name := "netTurns", fn := fun _ => fun
  | [d1, d2, d3] => { results := [.lit (.bool false)], args := [d1, d2, d3] }
  | _ => none }
def NetTurnsWrongFalsely : Prop := netTurnsRow.holds Try.pinned (OpenSpec.ofChange netTurnsWrong)

/-- 'complinelaw18.NetSides': WHATEVER THE INPUT: true; the input reads as it did. -/
def netSidesSpec : ChangeSpec := { name := "netSides", fn := fun _ => fun
  | [d1, d2] => { results := [.lit (.bool true)], args := [d1, d2] }
  | _ => none }
def netSidesRow : OpenClaim := { program := "ytndhhnfhookeaaa", sum := "906c0bacdb8a8b5c548e46e484b14a6a8edceaad931d1647cb17adbdb02eb8c7", func := "compline/complinelaw18.NetSides", spec := "netSides", inPlace := ["math/bits.Add64"], unfollowed := true, recurses := true, plainKeys := false, apart := false }
def NetSidesSaid : Prop := netSidesRow.holds Try.pinned (OpenSpec.ofChange netSidesSpec)

/-- ITS FALSE NEIGHBOUR: 'it returns false'. Refute it at one input. -/
def netSidesWrong : ChangeSpec := { name := "netSides", fn := fun _ => fun
  | [d1, d2] => { results := [.lit (.bool false)], args := [d1, d2] }
  | _ => none }
def NetSidesWrongFalsely : Prop := netSidesRow.holds Try.pinned (OpenSpec.ofChange netSidesWrong)

/-- 'complinelaw18.NetBalances': WHATEVER THE INPUT: true; the input reads as it did. -/
def netBalancesSpec : ChangeSpec := { name := "netBalances", fn := fun _ => fun
  | [d1, d2] => { results := [.lit (.bool true)], args := [d1, d2] }
  | _ => none }
def netBalancesRow : OpenClaim := { program := "ytndhhnfhookeaaa", sum := "906c0bacdb8a8b5c548e46e484b14a6a8edceaad931d1647cb17adbdb02eb8c7", func := "compline/complinelaw18.NetBalances", spec := "netBalances", inPlace := ["math/bits.Add64"], unfollowed := true, recurses := true, plainKeys := false, apart := false }
def NetBalancesSaid : Prop := netBalancesRow.holds Try.pinned (OpenSpec.ofChange netBalancesSpec)

/-- ITS FALSE NEIGHBOUR: 'it returns false'. Refute it at one input. -/
def netBalancesWrong : ChangeSpec := { name := "netBalances", fn := fun _ => fun
  | [d1, d2] => { results := [.lit (.bool false)], args := [d1, d2] }
  | _ => none }
def NetBalancesWrongFalsely : Prop := netBalancesRow.holds Try.pinned (OpenSpec.ofChange netBalancesWrong)

/-- 'complinelaw10.ConfHas': WHATEVER THE INPUT: true; the input reads as it did. -/
def confHasSpec : ChangeSpec := { name := "confHas", fn := fun _ => fun
  | [d1, d2] => { results := [.lit (.bool true)], args := [d1, d2] }
  | _ => none }
def confHasRow : OpenClaim := { program := "ytndhhnfhookeaaa", sum := "906c0bacdb8a8b5c548e46e484b14a6a8edceaad931d1647cb17adbdb02eb8c7", func := "compline/complinelaw10.ConfHas", spec := "confHas", unfollowed := true, recurses := true, plainKeys := false, apart := false }
def ConfHasSaid : Prop := confHasRow.holds Try.pinned (OpenSpec.ofChange confHasSpec)

/-- ITS FALSE NEIGHBOUR: 'it returns false'. Refute it at one input. -/
def confHasWrong : ChangeSpec := { name := "confHas", fn := fun _ => fun
  | [d1, d2] => { results := [.lit (.bool false)], args := [d1, d2] }
  | _ => none }
def ConfHasWrongFalsely : Prop := confHasRow.holds Try.pinned (OpenSpec.ofChange confHasWrong)

/-- 'complinelaw24.BidsOrder': WHATEVER THE INPUT: true; the input reads as it did. -/
def bidsOrderSpec : ChangeSpec := { name := "bidsOrder", fn := fun _ => fun
  | [d1, d2, d3] => { results := [.lit (.bool true)], args := [d1, d2, d3] }
  | _ => none }
def bidsOrderRow : OpenClaim := { program := "ytndhhnfhookeaaa", sum := "906c0bacdb8a8b5c548e46e484b14a6a8edceaad931d1647cb17adbdb02eb8c7", func := "compline/complinelaw24.BidsOrder", spec := "bidsOrder", unfollowed := true, recurses := true, plainKeys := false, apart := false }
def BidsOrderSaid : Prop := bidsOrderRow.holds Try.pinned (OpenSpec.ofChange bidsOrderSpec)

/-- ITS FALSE NEIGHBOUR: 'it returns false'. Refute it at one input. -/
def bidsOrderWrong : ChangeSpec := { name := "bidsOrder", fn := fun _ => fun
  | [d1, d2, d3] => { results := [.lit (.bool false)], args := [d1, d2, d3] }
  | _ => none }
def BidsOrderWrongFalsely : Prop := bidsOrderRow.holds Try.pinned (OpenSpec.ofChange bidsOrderWrong)

/-- 'complinelaw24.BidsMay': WHATEVER THE INPUT: true; the input reads as it did. -/
def bidsMaySpec : ChangeSpec := { name := "bidsMay", fn := fun _ => fun
  | [d1, d2, d3] => { results := [.lit (.bool true)], args := [d1, d2, d3] }
  | _ => none }
def bidsMayRow : OpenClaim := { program := "ytndhhnfhookeaaa", sum := "906c0bacdb8a8b5c548e46e484b14a6a8edceaad931d1647cb17adbdb02eb8c7", func := "compline/complinelaw24.BidsMay", spec := "bidsMay", unfollowed := true, recurses := true, plainKeys := false, apart := false }
def BidsMaySaid : Prop := bidsMayRow.holds Try.pinned (OpenSpec.ofChange bidsMaySpec)

/-- ITS FALSE NEIGHBOUR: 'it returns false'. Refute it at one input. -/
def bidsMayWrong : ChangeSpec := { name := "bidsMay", fn := fun _ => fun
  | [d1, d2, d3] => { results := [.lit (.bool false)], args := [d1, d2, d3] }
  | _ => none }
def BidsMayWrongFalsely : Prop := bidsMayRow.holds Try.pinned (OpenSpec.ofChange bidsMayWrong)

/-- 'complinelaw24.BidsPlay': WHATEVER THE INPUT: true; the input reads as it did. -/
def bidsPlaySpec : ChangeSpec := { name := "bidsPlay", fn := fun _ => fun
  | [d1, d2, d3] => { results := [.lit (.bool true)], args := [d1, d2, d3] }
  | _ => none }
def bidsPlayRow : OpenClaim := { program := "ytndhhnfhookeaaa", sum := "906c0bacdb8a8b5c548e46e484b14a6a8edceaad931d1647cb17adbdb02eb8c7", func := "compline/complinelaw24.BidsPlay", spec := "bidsPlay", unfollowed := true, recurses := true, plainKeys := false, apart := false }
def BidsPlaySaid : Prop := bidsPlayRow.holds Try.pinned (OpenSpec.ofChange bidsPlaySpec)

/-- ITS FALSE NEIGHBOUR: 'it returns false'. Refute it at one input. -/
def bidsPlayWrong : ChangeSpec := { name := "bidsPlay", fn := fun _ => fun
  | [d1, d2, d3] => { results := [.lit (.bool false)], args := [d1, d2, d3] }
  | _ => none }
def BidsPlayWrongFalsely : Prop := bidsPlayRow.holds Try.pinned (OpenSpec.ofChange bidsPlayWrong)

/- THE SECOND FORM. 'bulk': how many values and letters a reading holds, each counted each time it is reached (what is shared counts as often as it is met; a slice's spare places count too). A statement '..UptoSaid' is the law's where the arguments, and the package variables that the reading takes, are together of bulk at most 1048576: NARROWER than '..Said'. Prove '..Said' where nothing that the law and all that it calls make is longer than what came in: it says more and counts as full. Else prove '..UptoSaid'. A law counts once. -/
mutual
def uptoBulk {H : Type} : DataW H → Nat
  | .lit (.string bytes) => bytes.length + 1
  | .lit _ => 1
  | .nil => 1
  | .ptr d => uptoBulk d + 1
  | .slice elems spare => uptoBulkAll elems + uptoBulkAll spare + 1
  | .agg parts => uptoBulkAll parts + 1
  | .iface _ d => uptoBulk d + 1
  | .map entries => uptoBulkEntries entries + 1
  | .held _ => 1
def uptoBulkAll {H : Type} : List (DataW H) → Nat
  | [] => 0
  | d :: r => uptoBulk d + uptoBulkAll r
def uptoBulkEntries {H : Type} : List (Lit × DataW H) → Nat
  | [] => 0
  | x :: r => uptoBulkEntry x + uptoBulkEntries r
def uptoBulkEntry {H : Type} : Lit × DataW H → Nat
  | (.string bytes, d) => bytes.length + uptoBulk d + 1
  | (_, d) => uptoBulk d + 1
 end
def uptoSmall : (H : Type) → List (DataW H) → Bool := fun _ ds => decide (uptoBulkAll ds ≤ 1048576)
def OpenSpec.upto (s : _root_.Go.ChangeSpec) : _root_.Go.OpenSpec := { _root_.Go.OpenSpec.ofChange s with cond := some uptoSmall }

/-- 'complinelaw21.TimerOrders', WHERE WHAT IT READS IS OF BULK AT MOST 1048576: true; the input reads as it did. -/
def timerOrdersUptoRow : OpenClaim := { program := "ytndhhnfhookeaaa", sum := "906c0bacdb8a8b5c548e46e484b14a6a8edceaad931d1647cb17adbdb02eb8c7", func := "compline/complinelaw21.TimerOrders", spec := "timerOrders", unfollowed := true, recurses := true, plainKeys := false, apart := false, narrowed := true }
def TimerOrdersUptoSaid : Prop := timerOrdersUptoRow.holds Try.pinned (OpenSpec.upto timerOrdersSpec)

/-- 'complinelaw21.TimerPlays', WHERE WHAT IT READS IS OF BULK AT MOST 1048576: true; the input reads as it did. -/
def timerPlaysUptoRow : OpenClaim := { program := "ytndhhnfhookeaaa", sum := "906c0bacdb8a8b5c548e46e484b14a6a8edceaad931d1647cb17adbdb02eb8c7", func := "compline/complinelaw21.TimerPlays", spec := "timerPlays", unfollowed := true, recurses := true, plainKeys := false, apart := false, narrowed := true }
def TimerPlaysUptoSaid : Prop := timerPlaysUptoRow.holds Try.pinned (OpenSpec.upto timerPlaysSpec)

/-- 'complinelaw18.NetSums', WHERE WHAT IT READS IS OF BULK AT MOST 1048576: true; the input reads as it did. -/
def netSumsUptoRow : OpenClaim := { program := "ytndhhnfhookeaaa", sum := "906c0bacdb8a8b5c548e46e484b14a6a8edceaad931d1647cb17adbdb02eb8c7", func := "compline/complinelaw18.NetSums", spec := "netSums", inPlace := ["math/bits.Add64"], unfollowed := true, recurses := true, plainKeys := false, apart := false, narrowed := true }
def NetSumsUptoSaid : Prop := netSumsUptoRow.holds Try.pinned (OpenSpec.upto netSumsSpec)

/-- 'complinelaw18.NetTurns', WHERE WHAT IT READS IS OF BULK AT MOST 1048576: true; the input reads as it did. -/
def netTurnsUptoRow : OpenClaim := { program := "ytndhhnfhookeaaa", sum := "906c0bacdb8a8b5c548e46e484b14a6a8edceaad931d1647cb17adbdb02eb8c7", func := "compline/complinelaw18.NetTurns", spec := "netTurns", inPlace := ["math/bits.Add64"], unfollowed := true, recurses := true, plainKeys := false, apart := false, narrowed := true }
def NetTurnsUptoSaid : Prop := netTurnsUptoRow.holds Try.pinned (OpenSpec.upto netTurnsSpec)

/-- 'complinelaw18.NetSides', WHERE WHAT IT READS IS OF BULK AT MOST 1048576: true; the input reads as it did. -/
def netSidesUptoRow : OpenClaim := { program := "ytndhhnfhookeaaa", sum := "906c0bacdb8a8b5c548e46e484b14a6a8edceaad931d1647cb17adbdb02eb8c7", func := "compline/complinelaw18.NetSides", spec := "netSides", inPlace := ["math/bits.Add64"], unfollowed := true, recurses := true, plainKeys := false, apart := false, narrowed := true }
def NetSidesUptoSaid : Prop := netSidesUptoRow.holds Try.pinned (OpenSpec.upto netSidesSpec)

/-- 'complinelaw18.NetBalances', WHERE WHAT IT READS IS OF BULK AT MOST 1048576: true; the input reads as it did. -/
def netBalancesUptoRow : OpenClaim := { program := "ytndhhnfhookeaaa", sum := "906c0bacdb8a8b5c548e46e484b14a6a8edceaad931d1647cb17adbdb02eb8c7", func := "compline/complinelaw18.NetBalances", spec := "netBalances", inPlace := ["math/bits.Add64"], unfollowed := true, recurses := true, plainKeys := false, apart := false, narrowed := true }
def NetBalancesUptoSaid : Prop := netBalancesUptoRow.holds Try.pinned (OpenSpec.upto netBalancesSpec)

/-- 'complinelaw10.ConfHas', WHERE WHAT IT READS IS OF BULK AT MOST 1048576: true; the input reads as it did. -/
def confHasUptoRow : OpenClaim := { program := "ytndhhnfhookeaaa", sum := "906c0bacdb8a8b5c548e46e484b14a6a8edceaad931d1647cb17adbdb02eb8c7", func := "compline/complinelaw10.ConfHas", spec := "confHas", unfollowed := true, recurses := true, plainKeys := false, apart := false, narrowed := true }
def ConfHasUptoSaid : Prop := confHasUptoRow.holds Try.pinned (OpenSpec.upto confHasSpec)

/-- 'complinelaw24.BidsOrder', WHERE WHAT IT READS IS OF BULK AT MOST 1048576: true; the input reads as it did. -/
def bidsOrderUptoRow : OpenClaim := { program := "ytndhhnfhookeaaa", sum := "906c0bacdb8a8b5c548e46e484b14a6a8edceaad931d1647cb17adbdb02eb8c7", func := "compline/complinelaw24.BidsOrder", spec := "bidsOrder", unfollowed := true, recurses := true, plainKeys := false, apart := false, narrowed := true }
def BidsOrderUptoSaid : Prop := bidsOrderUptoRow.holds Try.pinned (OpenSpec.upto bidsOrderSpec)

/-- 'complinelaw24.BidsMay', WHERE WHAT IT READS IS OF BULK AT MOST 1048576: true; the input reads as it did. -/
def bidsMayUptoRow : OpenClaim := { program := "ytndhhnfhookeaaa", sum := "906c0bacdb8a8b5c548e46e484b14a6a8edceaad931d1647cb17adbdb02eb8c7", func := "compline/complinelaw24.BidsMay", spec := "bidsMay", unfollowed := true, recurses := true, plainKeys := false, apart := false, narrowed := true }
def BidsMayUptoSaid : Prop := bidsMayUptoRow.holds Try.pinned (OpenSpec.upto bidsMaySpec)

/-- 'complinelaw24.BidsPlay', WHERE WHAT IT READS IS OF BULK AT MOST 1048576: true; the input reads as it did. -/
def bidsPlayUptoRow : OpenClaim := { program := "ytndhhnfhookeaaa", sum := "906c0bacdb8a8b5c548e46e484b14a6a8edceaad931d1647cb17adbdb02eb8c7", func := "compline/complinelaw24.BidsPlay", spec := "bidsPlay", unfollowed := true, recurses := true, plainKeys := false, apart := false, narrowed := true }
def BidsPlayUptoSaid : Prop := bidsPlayUptoRow.holds Try.pinned (OpenSpec.upto bidsPlaySpec)

end Rows
end Go.Proofs.Ytndhhnfhookeaaa
