/-
  DERIVED. GIVEN WITH THE SEED: THE CARDS: each row of YtfpkonppeefhfaaGreatDoorRows.lean that lists a variable, with what it lists TIED to the program's text (the seventh form; the later family's looks); each row that meets fmt, with fmt's text TOLD by the authors' own Lean function (tested against real Go, not proved from fmt's source: count such statements apart). THE CARD IS WHAT COUNTS. Prove the row's statement (the work); the ties are given (YtfpkonppeefhfaaGreatDoorTie.lean); close each card by the builder's one call (the guide's Derived/Test/ToyasCard.lean, 'card_holds'). Laid BY PROGRAM, IN A SANDBOX (cutbox-door.mjs). By AI agents, Wed Nov 11 2026. No macro, syntax, notation, axiom, sorry.
-/
import Derived.Test.YtfpkonppeefhfaaGreatDoorRows
import GoSem.ClaimSeven
namespace Go.Proofs.YtfpkonppeefhfaaGreatDoor
namespace Rows

/-- THE TIED CARD OF 'grisaillelaw48.WorkersSchedule'. -/
def workersScheduleCard : Claim7 := { stood := { row := workersScheduleRow, standIns := [], harness := (true, "266afbf9dc354e52db8004d3b36789dd61850d0cbaef565b3f03e202f0332086"), looks := true }, kinds := [], alts := [], laidByText := true, laidKinds := [.handle], laidTests := true, laidLooks := .later }
def WorkersScheduleCardSaid : Prop := Claim7.holds Tryz.pinned (.plain (OpenSpec.ofChange workersScheduleSpec)) workersScheduleCard

/-- THE SECOND FORM's CARD OF 'grisaillelaw48.WorkersSchedule'. -/
def workersScheduleUptoCard : Claim7 := { stood := { row := workersScheduleUptoRow, standIns := [], harness := (true, "266afbf9dc354e52db8004d3b36789dd61850d0cbaef565b3f03e202f0332086"), looks := true }, kinds := [], alts := [], laidByText := true, laidKinds := [.handle], laidTests := true, laidLooks := .later }
def WorkersScheduleUptoCardSaid : Prop := Claim7.holds Tryz.pinned (.plain (OpenSpec.upto workersScheduleSpec)) workersScheduleUptoCard
end Rows
end Go.Proofs.YtfpkonppeefhfaaGreatDoor
