/-
  DERIVED. GIVEN WITH THE SEED: THE CARDS: each row of YtjlaooaicddloaaDoorRows.lean that lists a variable, with what it lists TIED to the program's text (the seventh form; the later family's looks); each row that meets fmt, with fmt's text TOLD by the authors' own Lean function (tested against real Go, not proved from fmt's source: count such statements apart). THE CARD IS WHAT COUNTS. Prove the row's statement (the work); the ties are given (YtjlaooaicddloaaDoorTie.lean); close each card by the builder's one call (the guide's Derived/Test/ToyasCard.lean, 'card_holds'). Laid BY PROGRAM, IN A SANDBOX (cutbox-door.mjs). By AI agents, Wed Nov 11 2026. No macro, syntax, notation, axiom, sorry.
-/
import Derived.Test.YtjlaooaicddloaaDoorRows
import GoSem.ClaimSeven
namespace Go.Proofs.YtjlaooaicddloaaDoor
namespace Rows

/-- THE TIED CARD OF 'complinelaw20.CalendarTimers'. -/
def calendarTimersCard : Claim7 := { stood := { row := calendarTimersRow, standIns := [], harness := (true, "56b796ea601dd14927c41b7f7398ef6df21a5e1b9903567c242dc608429b7394"), looks := false }, kinds := [], alts := [], laidByText := true, laidKinds := [.data], laidTests := true, laidLooks := .later }
def CalendarTimersCardSaid : Prop := Claim7.holds Tryd.pinned (.plain (OpenSpec.ofChange calendarTimersSpec)) calendarTimersCard

/-- THE SECOND FORM's CARD OF 'complinelaw20.CalendarTimers'. -/
def calendarTimersUptoCard : Claim7 := { stood := { row := calendarTimersUptoRow, standIns := [], harness := (true, "56b796ea601dd14927c41b7f7398ef6df21a5e1b9903567c242dc608429b7394"), looks := false }, kinds := [], alts := [], laidByText := true, laidKinds := [.data], laidTests := true, laidLooks := .later }
def CalendarTimersUptoCardSaid : Prop := Claim7.holds Tryd.pinned (.plain (OpenSpec.upto calendarTimersSpec)) calendarTimersUptoCard
end Rows
end Go.Proofs.YtjlaooaicddloaaDoor
