/-
  NARROWER THAN 'FOR EVERY INPUT', by the rows' own cells (each row's printed sentence says how): ChartNumbers: laid · PhaseNext: laid · PhasePaths: laid · PhaseMay: laid.
  DERIVED. THE GIVEN ROWS OF THIS SEAT. 4 by the template 'for every input the law returns true; each argument reads behind the call as it read before'; 0 by the template 'total and deterministic' (their statements: YtfilpmmimpkfmabDoorTotals.lean).
  GIVEN WITH THE SEED: the statements are not yours to turn. If you find one false, say at which input.
  Laid BY PROGRAM, IN A SANDBOX (cutbox-rows.mjs): the forced cells as the released guide's own fill.sh prints them over the translation ab185dc8deff1f38… (all of the seat's roots in one cut). By AI agents, Wed Nov 11 2026. No macro, syntax, notation, axiom, sorry.
-/
import Derived.Test.YtfilpmmimpkfmabDoorChecked
import GoSem.Claim
import GoSem.ClaimJoined
import GoSem.ClaimMapViews
import Derived.JoinedTies
import Derived.KernelRfl
namespace Go.Proofs.YtfilpmmimpkfmabDoor
/- THE CELL 'sum', in the pinned program and in every row, IS THE sha256 OF THE DUMP (.gsa) THAT YtfilpmmimpkfmabDoorProg.lean LOADS. Nothing in Lean hashes anything: it is a label: what it is worth is what the hold of that sum in a sandbox is worth. -/
noncomputable def Tryd.pinned : Pinned := { name := "ytfilpmmimpkfmabdoor", sum := "ab185dc8deff1f388b75fc99b7357b8618b7b73ccb7bf078adf86a571c9683cd", checked := Tryd.checked }
namespace Rows
def none {H : Type} : Left H := { results := [], args := [] }

/- WHAT THE LISTED PACKAGE-LEVEL VARIABLES READ AS WHEN THE CALL BEGINS. Each datum BY PROGRAM (the guide's laid-datum.mjs) off the statement by which the dump's own 'gosem.cut.vars' lays the variable. In a bare row this is a premise. The card (YtfilpmmimpkfmabDoorCards.lean) ties it to the program's text. -/
def laid_math_bits_deBruijn32tab {H : Type} : DataW H := .agg [.lit (.int .u8 0), .lit (.int .u8 1), .lit (.int .u8 28), .lit (.int .u8 2), .lit (.int .u8 29), .lit (.int .u8 14), .lit (.int .u8 24), .lit (.int .u8 3), .lit (.int .u8 30), .lit (.int .u8 22), .lit (.int .u8 20), .lit (.int .u8 15), .lit (.int .u8 25), .lit (.int .u8 17), .lit (.int .u8 4), .lit (.int .u8 8), .lit (.int .u8 31), .lit (.int .u8 27), .lit (.int .u8 13), .lit (.int .u8 23), .lit (.int .u8 21), .lit (.int .u8 19), .lit (.int .u8 16), .lit (.int .u8 7), .lit (.int .u8 26), .lit (.int .u8 12), .lit (.int .u8 18), .lit (.int .u8 6), .lit (.int .u8 11), .lit (.int .u8 5), .lit (.int .u8 10), .lit (.int .u8 9)]
def laid_math_bits_deBruijn64tab {H : Type} : DataW H := .agg [.lit (.int .u8 0), .lit (.int .u8 1), .lit (.int .u8 56), .lit (.int .u8 2), .lit (.int .u8 57), .lit (.int .u8 49), .lit (.int .u8 28), .lit (.int .u8 3), .lit (.int .u8 61), .lit (.int .u8 58), .lit (.int .u8 42), .lit (.int .u8 50), .lit (.int .u8 38), .lit (.int .u8 29), .lit (.int .u8 17), .lit (.int .u8 4), .lit (.int .u8 62), .lit (.int .u8 47), .lit (.int .u8 59), .lit (.int .u8 36), .lit (.int .u8 45), .lit (.int .u8 43), .lit (.int .u8 51), .lit (.int .u8 22), .lit (.int .u8 53), .lit (.int .u8 39), .lit (.int .u8 33), .lit (.int .u8 30), .lit (.int .u8 24), .lit (.int .u8 18), .lit (.int .u8 12), .lit (.int .u8 5), .lit (.int .u8 63), .lit (.int .u8 55), .lit (.int .u8 48), .lit (.int .u8 27), .lit (.int .u8 60), .lit (.int .u8 41), .lit (.int .u8 37), .lit (.int .u8 16), .lit (.int .u8 46), .lit (.int .u8 35), .lit (.int .u8 44), .lit (.int .u8 21), .lit (.int .u8 52), .lit (.int .u8 32), .lit (.int .u8 23), .lit (.int .u8 11), .lit (.int .u8 54), .lit (.int .u8 26), .lit (.int .u8 40), .lit (.int .u8 15), .lit (.int .u8 34), .lit (.int .u8 20), .lit (.int .u8 31), .lit (.int .u8 10), .lit (.int .u8 25), .lit (.int .u8 14), .lit (.int .u8 19), .lit (.int .u8 9), .lit (.int .u8 13), .lit (.int .u8 8), .lit (.int .u8 7), .lit (.int .u8 6)]
def laid_internal_strconv_uint64pow10 {H : Type} : DataW H := .agg [.lit (.int .u64 1), .lit (.int .u64 10), .lit (.int .u64 100), .lit (.int .u64 1000), .lit (.int .u64 10000), .lit (.int .u64 100000), .lit (.int .u64 1000000), .lit (.int .u64 10000000), .lit (.int .u64 100000000), .lit (.int .u64 1000000000), .lit (.int .u64 10000000000), .lit (.int .u64 100000000000), .lit (.int .u64 1000000000000), .lit (.int .u64 10000000000000), .lit (.int .u64 100000000000000), .lit (.int .u64 1000000000000000), .lit (.int .u64 10000000000000000), .lit (.int .u64 100000000000000000), .lit (.int .u64 1000000000000000000), .lit (.int .u64 10000000000000000000)]
def laid_compline_chart_words {H : Type} : DataW H := .agg [.lit (.string []), .lit (.string [115, 101, 116, 116, 108, 101]), .lit (.string [101, 115, 116, 97, 116, 101]), .lit (.string [108, 105, 110, 101]), .lit (.string [99, 97, 112, 105, 116, 97, 108]), .lit (.string [98, 97, 110, 107]), .lit (.string [111, 119, 110, 101, 114]), .lit (.string [111, 119, 110]), .lit (.string [99, 111, 108, 108]), .lit (.string [102, 117, 110, 100])]
def laid_compline_calendar_words {H : Type} : DataW H := .agg [.lit (.string [115, 104, 117, 116]), .lit (.string [116, 114, 97, 100, 101]), .lit (.string [102, 117, 110, 100]), .lit (.string [98, 117, 121, 105, 110]), .lit (.string [112, 97, 121, 111, 117, 116]), .lit (.string [99, 108, 111, 115, 101, 100])]

/-- 'complinelaw13.ChartNumbers': WHATEVER THE INPUT: true; the input reads as it did. -/
def chartNumbersSpec : ChangeSpec := { name := "chartNumbers", fn := fun _ => fun
  | [d1, d2, d3] => { results := [.lit (.bool true)], args := [d1, d2, d3] }
  | _ => none }
def chartNumbersRow : OpenClaim := { program := "ytfilpmmimpkfmabdoor", sum := "ab185dc8deff1f388b75fc99b7357b8618b7b73ccb7bf078adf86a571c9683cd", func := "compline/complinelaw13.ChartNumbers", spec := "chartNumbers", named := ["compline/chart.words", "internal/strconv.uint64pow10", "math/bits.deBruijn32tab", "math/bits.deBruijn64tab"], plainKeys := false, apart := false, laid := [("math/bits.deBruijn32tab", laid_math_bits_deBruijn32tab), ("math/bits.deBruijn64tab", laid_math_bits_deBruijn64tab), ("internal/strconv.uint64pow10", laid_internal_strconv_uint64pow10), ("compline/chart.words", laid_compline_chart_words)] }
def ChartNumbersSaid : Prop := chartNumbersRow.holds Tryd.pinned (OpenSpec.ofChange chartNumbersSpec)

/-- ITS FALSE NEIGHBOUR: 'it returns false'. Refute it at one input. -/
def chartNumbersWrong : ChangeSpec := { name := "chartNumbers", fn := fun _ => fun
  | [d1, d2, d3] => { results := [.lit (.bool false)], args := [d1, d2, d3] }
  | _ => none }
def ChartNumbersWrongFalsely : Prop := chartNumbersRow.holds Tryd.pinned (OpenSpec.ofChange chartNumbersWrong)

/-- 'complinelaw29.PhaseNext': WHATEVER THE INPUT: true; the input reads as it did. -/
def phaseNextSpec : ChangeSpec := { name := "phaseNext", fn := fun _ => fun
  | [d1, d2, d3] => { results := [.lit (.bool true)], args := [d1, d2, d3] }
  | _ => none }
def phaseNextRow : OpenClaim := { program := "ytfilpmmimpkfmabdoor", sum := "ab185dc8deff1f388b75fc99b7357b8618b7b73ccb7bf078adf86a571c9683cd", func := "compline/complinelaw29.PhaseNext", spec := "phaseNext", named := ["compline/calendar.words"], plainKeys := false, apart := false, laid := [("compline/calendar.words", laid_compline_calendar_words)] }
def PhaseNextSaid : Prop := phaseNextRow.holds Tryd.pinned (OpenSpec.ofChange phaseNextSpec)

/-- ITS FALSE NEIGHBOUR: 'it returns false'. Refute it at one input. -/
def phaseNextWrong : ChangeSpec := { name := "phaseNext", fn := fun _ => fun
  | [d1, d2, d3] => { results := [.lit (.bool false)], args := [d1, d2, d3] }
  | _ => none }
def PhaseNextWrongFalsely : Prop := phaseNextRow.holds Tryd.pinned (OpenSpec.ofChange phaseNextWrong)

/-- 'complinelaw29.PhasePaths': WHATEVER THE INPUT: true; the input reads as it did. -/
def phasePathsSpec : ChangeSpec := { name := "phasePaths", fn := fun _ => fun
  | [d] => { results := [.lit (.bool true)], args := [d] }
  | _ => none }
def phasePathsRow : OpenClaim := { program := "ytfilpmmimpkfmabdoor", sum := "ab185dc8deff1f388b75fc99b7357b8618b7b73ccb7bf078adf86a571c9683cd", func := "compline/complinelaw29.PhasePaths", spec := "phasePaths", named := ["compline/calendar.words"], plainKeys := false, apart := false, laid := [("compline/calendar.words", laid_compline_calendar_words)] }
def PhasePathsSaid : Prop := phasePathsRow.holds Tryd.pinned (OpenSpec.ofChange phasePathsSpec)

/-- ITS FALSE NEIGHBOUR: 'it returns false'. Refute it at one input. -/
def phasePathsWrong : ChangeSpec := { name := "phasePaths", fn := fun _ => fun
  | [d] => { results := [.lit (.bool false)], args := [d] }
  | _ => none }
def PhasePathsWrongFalsely : Prop := phasePathsRow.holds Tryd.pinned (OpenSpec.ofChange phasePathsWrong)

/-- 'complinelaw29.PhaseMay': WHATEVER THE INPUT: true; the input reads as it did. -/
def phaseMaySpec : ChangeSpec := { name := "phaseMay", fn := fun _ => fun
  | [d1, d2] => { results := [.lit (.bool true)], args := [d1, d2] }
  | _ => none }
def phaseMayRow : OpenClaim := { program := "ytfilpmmimpkfmabdoor", sum := "ab185dc8deff1f388b75fc99b7357b8618b7b73ccb7bf078adf86a571c9683cd", func := "compline/complinelaw29.PhaseMay", spec := "phaseMay", named := ["compline/calendar.words"], plainKeys := false, apart := false, laid := [("compline/calendar.words", laid_compline_calendar_words)] }
def PhaseMaySaid : Prop := phaseMayRow.holds Tryd.pinned (OpenSpec.ofChange phaseMaySpec)

/-- ITS FALSE NEIGHBOUR: 'it returns false'. Refute it at one input. -/
def phaseMayWrong : ChangeSpec := { name := "phaseMay", fn := fun _ => fun
  | [d1, d2] => { results := [.lit (.bool false)], args := [d1, d2] }
  | _ => none }
def PhaseMayWrongFalsely : Prop := phaseMayRow.holds Tryd.pinned (OpenSpec.ofChange phaseMayWrong)

/- THE SECOND FORM. 'bulk': how many values and letters a reading holds, each counted each time it is reached (what is shared counts as often as it is met; a slice's spare places count too). A statement '..UptoSaid' is the law's where the arguments, and the package variables that the reading takes, are together of bulk at most 1048576: NARROWER than '..Said'. Prove '..Said' where nothing that the law and all that it calls make is longer than what came in: it says more and counts as full. Else prove '..UptoSaid'. A law counts once. -/
mutual
def uptoBulk {H : Type} : DataW H → Nat
  | .lit (.string bytes) => bytes.length + 1
  | .lit _ => 1
  | .nil => 1
  | .ptr d => uptoBulk d + 1
  | .slice elems spare => uptoBulkAll elems + uptoBulkAll spare + 1
  | .agg parts => uptoBulkAll parts + 1
  | .iface _ d => uptoBulk d + 1
  | .map entries => uptoBulkEntries entries + 1
  | .held _ => 1
def uptoBulkAll {H : Type} : List (DataW H) → Nat
  | [] => 0
  | d :: r => uptoBulk d + uptoBulkAll r
def uptoBulkEntries {H : Type} : List (Lit × DataW H) → Nat
  | [] => 0
  | x :: r => uptoBulkEntry x + uptoBulkEntries r
def uptoBulkEntry {H : Type} : Lit × DataW H → Nat
  | (.string bytes, d) => bytes.length + uptoBulk d + 1
  | (_, d) => uptoBulk d + 1
 end
def uptoSmall : (H : Type) → List (DataW H) → Bool := fun _ ds => decide (uptoBulkAll ds ≤ 1048576)
def OpenSpec.upto (s : _root_.Go.ChangeSpec) : _root_.Go.OpenSpec := { _root_.Go.OpenSpec.ofChange s with cond := some uptoSmall }

/-- 'complinelaw13.ChartNumbers', WHERE WHAT IT READS IS OF BULK AT MOST 1048576: true; the input reads as it did. -/
def chartNumbersUptoRow : OpenClaim := { program := "ytfilpmmimpkfmabdoor", sum := "ab185dc8deff1f388b75fc99b7357b8618b7b73ccb7bf078adf86a571c9683cd", func := "compline/complinelaw13.ChartNumbers", spec := "chartNumbers", named := ["compline/chart.words", "internal/strconv.uint64pow10", "math/bits.deBruijn32tab", "math/bits.deBruijn64tab"], plainKeys := false, apart := false, laid := [("math/bits.deBruijn32tab", laid_math_bits_deBruijn32tab), ("math/bits.deBruijn64tab", laid_math_bits_deBruijn64tab), ("internal/strconv.uint64pow10", laid_internal_strconv_uint64pow10), ("compline/chart.words", laid_compline_chart_words)], narrowed := true }
def ChartNumbersUptoSaid : Prop := chartNumbersUptoRow.holds Tryd.pinned (OpenSpec.upto chartNumbersSpec)

/-- 'complinelaw29.PhaseNext', WHERE WHAT IT READS IS OF BULK AT MOST 1048576: true; the input reads as it did. -/
def phaseNextUptoRow : OpenClaim := { program := "ytfilpmmimpkfmabdoor", sum := "ab185dc8deff1f388b75fc99b7357b8618b7b73ccb7bf078adf86a571c9683cd", func := "compline/complinelaw29.PhaseNext", spec := "phaseNext", named := ["compline/calendar.words"], plainKeys := false, apart := false, laid := [("compline/calendar.words", laid_compline_calendar_words)], narrowed := true }
def PhaseNextUptoSaid : Prop := phaseNextUptoRow.holds Tryd.pinned (OpenSpec.upto phaseNextSpec)

/-- 'complinelaw29.PhasePaths', WHERE WHAT IT READS IS OF BULK AT MOST 1048576: true; the input reads as it did. -/
def phasePathsUptoRow : OpenClaim := { program := "ytfilpmmimpkfmabdoor", sum := "ab185dc8deff1f388b75fc99b7357b8618b7b73ccb7bf078adf86a571c9683cd", func := "compline/complinelaw29.PhasePaths", spec := "phasePaths", named := ["compline/calendar.words"], plainKeys := false, apart := false, laid := [("compline/calendar.words", laid_compline_calendar_words)], narrowed := true }
def PhasePathsUptoSaid : Prop := phasePathsUptoRow.holds Tryd.pinned (OpenSpec.upto phasePathsSpec)

/-- 'complinelaw29.PhaseMay', WHERE WHAT IT READS IS OF BULK AT MOST 1048576: true; the input reads as it did. -/
def phaseMayUptoRow : OpenClaim := { program := "ytfilpmmimpkfmabdoor", sum := "ab185dc8deff1f388b75fc99b7357b8618b7b73ccb7bf078adf86a571c9683cd", func := "compline/complinelaw29.PhaseMay", spec := "phaseMay", named := ["compline/calendar.words"], plainKeys := false, apart := false, laid := [("compline/calendar.words", laid_compline_calendar_words)], narrowed := true }
def PhaseMayUptoSaid : Prop := phaseMayUptoRow.holds Tryd.pinned (OpenSpec.upto phaseMaySpec)

end Rows
end Go.Proofs.YtfilpmmimpkfmabDoor
