/-
  DERIVED. GIVEN WITH THE SEED: THE CARDS: each row of YtfilpmmimpkfmabDoorRows.lean that lists a variable, with what it lists TIED to the program's text (the seventh form; the later family's looks); each row that meets fmt, with fmt's text TOLD by the authors' own Lean function (tested against real Go, not proved from fmt's source: count such statements apart). THE CARD IS WHAT COUNTS. Prove the row's statement (the work); the ties are given (YtfilpmmimpkfmabDoorTie.lean); close each card by the builder's one call (the guide's Derived/Test/ToyasCard.lean, 'card_holds'). Laid BY PROGRAM, IN A SANDBOX (cutbox-door.mjs). By AI agents, Wed Nov 11 2026. No macro, syntax, notation, axiom, sorry.
-/
import Derived.Test.YtfilpmmimpkfmabDoorRows
import GoSem.ClaimSeven
namespace Go.Proofs.YtfilpmmimpkfmabDoor
namespace Rows

/-- THE TIED CARD OF 'complinelaw13.ChartNumbers'. -/
def chartNumbersCard : Claim7 := { stood := { row := chartNumbersRow, standIns := [], harness := (true, "3937af453e483a610eee23fcee5e955ac33675ab243aa576c815bd6f70b28797"), looks := false }, kinds := [], alts := [], laidByText := true, laidKinds := [.data, .data, .data, .data], laidTests := true, laidLooks := .later }
def ChartNumbersCardSaid : Prop := Claim7.holds Tryd.pinned (.plain (OpenSpec.ofChange chartNumbersSpec)) chartNumbersCard

/-- THE TIED CARD OF 'complinelaw29.PhaseNext'. -/
def phaseNextCard : Claim7 := { stood := { row := phaseNextRow, standIns := [], harness := (true, "3937af453e483a610eee23fcee5e955ac33675ab243aa576c815bd6f70b28797"), looks := false }, kinds := [], alts := [], laidByText := true, laidKinds := [.data], laidTests := true, laidLooks := .later }
def PhaseNextCardSaid : Prop := Claim7.holds Tryd.pinned (.plain (OpenSpec.ofChange phaseNextSpec)) phaseNextCard

/-- THE TIED CARD OF 'complinelaw29.PhasePaths'. -/
def phasePathsCard : Claim7 := { stood := { row := phasePathsRow, standIns := [], harness := (true, "3937af453e483a610eee23fcee5e955ac33675ab243aa576c815bd6f70b28797"), looks := false }, kinds := [], alts := [], laidByText := true, laidKinds := [.data], laidTests := true, laidLooks := .later }
def PhasePathsCardSaid : Prop := Claim7.holds Tryd.pinned (.plain (OpenSpec.ofChange phasePathsSpec)) phasePathsCard

/-- THE TIED CARD OF 'complinelaw29.PhaseMay'. -/
def phaseMayCard : Claim7 := { stood := { row := phaseMayRow, standIns := [], harness := (true, "3937af453e483a610eee23fcee5e955ac33675ab243aa576c815bd6f70b28797"), looks := false }, kinds := [], alts := [], laidByText := true, laidKinds := [.data], laidTests := true, laidLooks := .later }
def PhaseMayCardSaid : Prop := Claim7.holds Tryd.pinned (.plain (OpenSpec.ofChange phaseMaySpec)) phaseMayCard

/-- THE SECOND FORM's CARD OF 'complinelaw13.ChartNumbers'. -/
def chartNumbersUptoCard : Claim7 := { stood := { row := chartNumbersUptoRow, standIns := [], harness := (true, "3937af453e483a610eee23fcee5e955ac33675ab243aa576c815bd6f70b28797"), looks := false }, kinds := [], alts := [], laidByText := true, laidKinds := [.data, .data, .data, .data], laidTests := true, laidLooks := .later }
def ChartNumbersUptoCardSaid : Prop := Claim7.holds Tryd.pinned (.plain (OpenSpec.upto chartNumbersSpec)) chartNumbersUptoCard

/-- THE SECOND FORM's CARD OF 'complinelaw29.PhaseNext'. -/
def phaseNextUptoCard : Claim7 := { stood := { row := phaseNextUptoRow, standIns := [], harness := (true, "3937af453e483a610eee23fcee5e955ac33675ab243aa576c815bd6f70b28797"), looks := false }, kinds := [], alts := [], laidByText := true, laidKinds := [.data], laidTests := true, laidLooks := .later }
def PhaseNextUptoCardSaid : Prop := Claim7.holds Tryd.pinned (.plain (OpenSpec.upto phaseNextSpec)) phaseNextUptoCard

/-- THE SECOND FORM's CARD OF 'complinelaw29.PhasePaths'. -/
def phasePathsUptoCard : Claim7 := { stood := { row := phasePathsUptoRow, standIns := [], harness := (true, "3937af453e483a610eee23fcee5e955ac33675ab243aa576c815bd6f70b28797"), looks := false }, kinds := [], alts := [], laidByText := true, laidKinds := [.data], laidTests := true, laidLooks := .later }
def PhasePathsUptoCardSaid : Prop := Claim7.holds Tryd.pinned (.plain (OpenSpec.upto phasePathsSpec)) phasePathsUptoCard

/-- THE SECOND FORM's CARD OF 'complinelaw29.PhaseMay'. -/
def phaseMayUptoCard : Claim7 := { stood := { row := phaseMayUptoRow, standIns := [], harness := (true, "3937af453e483a610eee23fcee5e955ac33675ab243aa576c815bd6f70b28797"), looks := false }, kinds := [], alts := [], laidByText := true, laidKinds := [.data], laidTests := true, laidLooks := .later }
def PhaseMayUptoCardSaid : Prop := Claim7.holds Tryd.pinned (.plain (OpenSpec.upto phaseMaySpec)) phaseMayUptoCard
end Rows
end Go.Proofs.YtfilpmmimpkfmabDoor
