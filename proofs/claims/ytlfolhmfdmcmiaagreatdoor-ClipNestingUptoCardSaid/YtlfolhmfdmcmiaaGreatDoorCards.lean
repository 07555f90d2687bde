/-
  DERIVED. GIVEN WITH THE SEED: THE CARDS: each row of YtlfolhmfdmcmiaaGreatDoorRows.lean that lists a variable, with what it lists TIED to the program's text (the seventh form; the later family's looks); each row that meets fmt, with fmt's text TOLD by the authors' own Lean function (tested against real Go, not proved from fmt's source: count such statements apart). THE CARD IS WHAT COUNTS. Prove the row's statement (the work); the ties are given (YtlfolhmfdmcmiaaGreatDoorTie.lean); close each card by the builder's one call (the guide's Derived/Test/ToyasCard.lean, 'card_holds'). Laid BY PROGRAM, IN A SANDBOX (cutbox-door.mjs). By AI agents, Wed Nov 11 2026. No macro, syntax, notation, axiom, sorry.
-/
import Derived.Test.YtlfolhmfdmcmiaaGreatDoorRows
import GoSem.ClaimSeven
namespace Go.Proofs.YtlfolhmfdmcmiaaGreatDoor
namespace Rows

/-- THE TIED CARD OF 'grisaillelaw39.ClipNesting'. -/
def clipNestingCard : Claim7 := { stood := { row := clipNestingRow, standIns := [], harness := (true, "a787765e8df9e9738662b1020e91c9a6e2fd683faaf7193e9806201c48af76d6"), looks := true }, kinds := [], alts := [], laidByText := true, laidKinds := [.handle], laidTests := true, laidLooks := .later }
def ClipNestingCardSaid : Prop := Claim7.holds Tryz.pinned (.plain (OpenSpec.ofChange clipNestingSpec)) clipNestingCard

/-- THE SECOND FORM's CARD OF 'grisaillelaw39.ClipNesting'. -/
def clipNestingUptoCard : Claim7 := { stood := { row := clipNestingUptoRow, standIns := [], harness := (true, "a787765e8df9e9738662b1020e91c9a6e2fd683faaf7193e9806201c48af76d6"), looks := true }, kinds := [], alts := [], laidByText := true, laidKinds := [.handle], laidTests := true, laidLooks := .later }
def ClipNestingUptoCardSaid : Prop := Claim7.holds Tryz.pinned (.plain (OpenSpec.upto clipNestingSpec)) clipNestingUptoCard
end Rows
end Go.Proofs.YtlfolhmfdmcmiaaGreatDoor
