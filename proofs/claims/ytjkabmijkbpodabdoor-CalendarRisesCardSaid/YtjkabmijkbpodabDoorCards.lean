/-
  DERIVED. GIVEN WITH THE SEED: THE CARDS: each row of YtjkabmijkbpodabDoorRows.lean that lists a variable, with what it lists TIED to the program's text (the seventh form; the later family's looks); each row that meets fmt, with fmt's text TOLD by the authors' own Lean function (tested against real Go, not proved from fmt's source: count such statements apart). THE CARD IS WHAT COUNTS. Prove the row's statement (the work); the ties are given (YtjkabmijkbpodabDoorTie.lean); close each card by the builder's one call (the guide's Derived/Test/ToyasCard.lean, 'card_holds'). Laid BY PROGRAM, IN A SANDBOX (cutbox-door.mjs). By AI agents, Wed Nov 11 2026. No macro, syntax, notation, axiom, sorry.
-/
import Derived.Test.YtjkabmijkbpodabDoorRows
import GoSem.ClaimSeven
namespace Go.Proofs.YtjkabmijkbpodabDoor
namespace Rows

/-- THE TIED CARD OF 'complinelaw20.CalendarRises'. -/
def calendarRisesCard : Claim7 := { stood := { row := calendarRisesRow, standIns := [], harness := (true, "22e514481d703fe608ddeceae706b4c587ac0f3533957e6bcd1f49b02bad59ef"), looks := false }, kinds := [], alts := [], laidByText := true, laidKinds := [.data], laidTests := true, laidLooks := .later }
def CalendarRisesCardSaid : Prop := Claim7.holds Tryd.pinned (.plain (OpenSpec.ofChange calendarRisesSpec)) calendarRisesCard

/-- THE TIED CARD OF 'complinelaw20.CalendarWords'. -/
def calendarWordsCard : Claim7 := { stood := { row := calendarWordsRow, standIns := [], harness := (true, "22e514481d703fe608ddeceae706b4c587ac0f3533957e6bcd1f49b02bad59ef"), looks := false }, kinds := [], alts := [], laidByText := true, laidKinds := [.data], laidTests := true, laidLooks := .later }
def CalendarWordsCardSaid : Prop := Claim7.holds Tryd.pinned (.plain (OpenSpec.ofChange calendarWordsSpec)) calendarWordsCard

/-- THE TIED CARD OF 'complinelaw20.CalendarTells'. -/
def calendarTellsCard : Claim7 := { stood := { row := calendarTellsRow, standIns := [], harness := (true, "22e514481d703fe608ddeceae706b4c587ac0f3533957e6bcd1f49b02bad59ef"), looks := false }, kinds := [], alts := [], laidByText := true, laidKinds := [.data], laidTests := true, laidLooks := .later }
def CalendarTellsCardSaid : Prop := Claim7.holds Tryd.pinned (.plain (OpenSpec.ofChange calendarTellsSpec)) calendarTellsCard

/-- THE TIED CARD OF 'complinelaw20.CalendarTimers'. -/
def calendarTimersCard : Claim7 := { stood := { row := calendarTimersRow, standIns := [], harness := (true, "22e514481d703fe608ddeceae706b4c587ac0f3533957e6bcd1f49b02bad59ef"), looks := false }, kinds := [], alts := [], laidByText := true, laidKinds := [.data], laidTests := true, laidLooks := .later }
def CalendarTimersCardSaid : Prop := Claim7.holds Tryd.pinned (.plain (OpenSpec.ofChange calendarTimersSpec)) calendarTimersCard

/-- THE SECOND FORM's CARD OF 'complinelaw20.CalendarRises'. -/
def calendarRisesUptoCard : Claim7 := { stood := { row := calendarRisesUptoRow, standIns := [], harness := (true, "22e514481d703fe608ddeceae706b4c587ac0f3533957e6bcd1f49b02bad59ef"), looks := false }, kinds := [], alts := [], laidByText := true, laidKinds := [.data], laidTests := true, laidLooks := .later }
def CalendarRisesUptoCardSaid : Prop := Claim7.holds Tryd.pinned (.plain (OpenSpec.upto calendarRisesSpec)) calendarRisesUptoCard

/-- THE SECOND FORM's CARD OF 'complinelaw20.CalendarWords'. -/
def calendarWordsUptoCard : Claim7 := { stood := { row := calendarWordsUptoRow, standIns := [], harness := (true, "22e514481d703fe608ddeceae706b4c587ac0f3533957e6bcd1f49b02bad59ef"), looks := false }, kinds := [], alts := [], laidByText := true, laidKinds := [.data], laidTests := true, laidLooks := .later }
def CalendarWordsUptoCardSaid : Prop := Claim7.holds Tryd.pinned (.plain (OpenSpec.upto calendarWordsSpec)) calendarWordsUptoCard

/-- THE SECOND FORM's CARD OF 'complinelaw20.CalendarTells'. -/
def calendarTellsUptoCard : Claim7 := { stood := { row := calendarTellsUptoRow, standIns := [], harness := (true, "22e514481d703fe608ddeceae706b4c587ac0f3533957e6bcd1f49b02bad59ef"), looks := false }, kinds := [], alts := [], laidByText := true, laidKinds := [.data], laidTests := true, laidLooks := .later }
def CalendarTellsUptoCardSaid : Prop := Claim7.holds Tryd.pinned (.plain (OpenSpec.upto calendarTellsSpec)) calendarTellsUptoCard

/-- THE SECOND FORM's CARD OF 'complinelaw20.CalendarTimers'. -/
def calendarTimersUptoCard : Claim7 := { stood := { row := calendarTimersUptoRow, standIns := [], harness := (true, "22e514481d703fe608ddeceae706b4c587ac0f3533957e6bcd1f49b02bad59ef"), looks := false }, kinds := [], alts := [], laidByText := true, laidKinds := [.data], laidTests := true, laidLooks := .later }
def CalendarTimersUptoCardSaid : Prop := Claim7.holds Tryd.pinned (.plain (OpenSpec.upto calendarTimersSpec)) calendarTimersUptoCard
end Rows
end Go.Proofs.YtjkabmijkbpodabDoor
