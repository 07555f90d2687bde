/-
  DERIVED. GIVEN WITH THE SEED: THE CARDS: each row of YtohdkalmpfmcmaaGreatDoorRows.lean that lists a variable, with what it lists TIED to the program's text (the seventh form; the later family's looks); each row that meets fmt, with fmt's text TOLD by the authors' own Lean function (tested against real Go, not proved from fmt's source: count such statements apart). THE CARD IS WHAT COUNTS. Prove the row's statement (the work); the ties are given (YtohdkalmpfmcmaaGreatDoorTie.lean); close each card by the builder's one call (the guide's Derived/Test/ToyasCard.lean, 'card_holds'). Laid BY PROGRAM, IN A SANDBOX (cutbox-door.mjs). By AI agents, Wed Nov 11 2026. No macro, syntax, notation, axiom, sorry.
-/
import Derived.Test.YtohdkalmpfmcmaaGreatDoorRows
import GoSem.ClaimSeven
namespace Go.Proofs.YtohdkalmpfmcmaaGreatDoor
namespace Rows

/-- THE TIED CARD OF 'grisaillelaw39.ClipWithoutPath'. -/
def clipWithoutPathCard : Claim7 := { stood := { row := clipWithoutPathRow, standIns := [], harness := (true, "117d352d536ba72d76ea175ec602197d2ce5c1bbd3736d285cbe5e4e79d32e5d"), looks := true }, kinds := [], alts := [], laidByText := true, laidKinds := [.handle], laidTests := true, laidLooks := .later }
def ClipWithoutPathCardSaid : Prop := Claim7.holds Tryz.pinned (.plain (OpenSpec.ofChange clipWithoutPathSpec)) clipWithoutPathCard

/-- THE SECOND FORM's CARD OF 'grisaillelaw39.ClipWithoutPath'. -/
def clipWithoutPathUptoCard : Claim7 := { stood := { row := clipWithoutPathUptoRow, standIns := [], harness := (true, "117d352d536ba72d76ea175ec602197d2ce5c1bbd3736d285cbe5e4e79d32e5d"), looks := true }, kinds := [], alts := [], laidByText := true, laidKinds := [.handle], laidTests := true, laidLooks := .later }
def ClipWithoutPathUptoCardSaid : Prop := Claim7.holds Tryz.pinned (.plain (OpenSpec.upto clipWithoutPathSpec)) clipWithoutPathUptoCard
end Rows
end Go.Proofs.YtohdkalmpfmcmaaGreatDoor
