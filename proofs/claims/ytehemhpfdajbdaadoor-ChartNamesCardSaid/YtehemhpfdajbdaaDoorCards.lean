/-
  DERIVED. GIVEN WITH THE SEED: THE CARDS: each row of YtehemhpfdajbdaaDoorRows.lean that lists a variable, with what it lists TIED to the program's text (the seventh form; the later family's looks); each row that meets fmt, with fmt's text TOLD by the authors' own Lean function (tested against real Go, not proved from fmt's source: count such statements apart). THE CARD IS WHAT COUNTS. Prove the row's statement (the work); the ties are given (YtehemhpfdajbdaaDoorTie.lean); close each card by the builder's one call (the guide's Derived/Test/ToyasCard.lean, 'card_holds'). Laid BY PROGRAM, IN A SANDBOX (cutbox-door.mjs). By AI agents, Wed Nov 11 2026. No macro, syntax, notation, axiom, sorry.
-/
import Derived.Test.YtehemhpfdajbdaaDoorRows
import GoSem.ClaimSeven
namespace Go.Proofs.YtehemhpfdajbdaaDoor
namespace Rows

/-- THE TIED CARD OF 'complinelaw13.ChartNames'. -/
def chartNamesCard : Claim7 := { stood := { row := chartNamesRow, standIns := [], harness := (true, "624ebd8a3e6c85e6c41b5c66e2526a5b04933e7e52f473cdc432abc16a09ff2e"), looks := true }, kinds := [], alts := [], laidByText := true, laidKinds := [.data, .data, .data, .sentinel, .sentinel, .data], laidTests := true, laidLooks := .later }
def ChartNamesCardSaid : Prop := Claim7.holds Tryd.pinned (.plain (OpenSpec.ofChange chartNamesSpec)) chartNamesCard

/-- THE SECOND FORM's CARD OF 'complinelaw13.ChartNames'. -/
def chartNamesUptoCard : Claim7 := { stood := { row := chartNamesUptoRow, standIns := [], harness := (true, "624ebd8a3e6c85e6c41b5c66e2526a5b04933e7e52f473cdc432abc16a09ff2e"), looks := true }, kinds := [], alts := [], laidByText := true, laidKinds := [.data, .data, .data, .sentinel, .sentinel, .data], laidTests := true, laidLooks := .later }
def ChartNamesUptoCardSaid : Prop := Claim7.holds Tryd.pinned (.plain (OpenSpec.upto chartNamesSpec)) chartNamesUptoCard
end Rows
end Go.Proofs.YtehemhpfdajbdaaDoor
