/-
  DERIVED. GIVEN WITH THE SEED: THE CARDS: each row of YtceibfdaacdjlaaGreatDoorRows.lean that lists a variable, with what it lists TIED to the program's text (the seventh form; the later family's looks); each row that meets fmt, with fmt's text TOLD by the authors' own Lean function (tested against real Go, not proved from fmt's source: count such statements apart). THE CARD IS WHAT COUNTS. Prove the row's statement (the work); the ties are given (YtceibfdaacdjlaaGreatDoorTie.lean); close each card by the builder's one call (the guide's Derived/Test/ToyasCard.lean, 'card_holds'). Laid BY PROGRAM, IN A SANDBOX (cutbox-door.mjs). By AI agents, Wed Nov 11 2026. No macro, syntax, notation, axiom, sorry.
-/
import Derived.Test.YtceibfdaacdjlaaGreatDoorRows
import GoSem.ClaimSeven
namespace Go.Proofs.YtceibfdaacdjlaaGreatDoor
namespace Rows

/-- THE TIED CARD OF 'grisaillelaw39.ClipContains'. -/
def clipContainsCard : Claim7 := { stood := { row := clipContainsRow, standIns := [], harness := (true, "56f046b30c63681a4fb2f06585dd735f481a987191f65665894e066fa05cd673"), looks := true }, kinds := [], alts := [], laidByText := true, laidKinds := [.handle], laidTests := true, laidLooks := .later }
def ClipContainsCardSaid : Prop := Claim7.holds Tryz.pinned (.plain (OpenSpec.ofChange clipContainsSpec)) clipContainsCard

/-- THE SECOND FORM's CARD OF 'grisaillelaw39.ClipContains'. -/
def clipContainsUptoCard : Claim7 := { stood := { row := clipContainsUptoRow, standIns := [], harness := (true, "56f046b30c63681a4fb2f06585dd735f481a987191f65665894e066fa05cd673"), looks := true }, kinds := [], alts := [], laidByText := true, laidKinds := [.handle], laidTests := true, laidLooks := .later }
def ClipContainsUptoCardSaid : Prop := Claim7.holds Tryz.pinned (.plain (OpenSpec.upto clipContainsSpec)) clipContainsUptoCard
end Rows
end Go.Proofs.YtceibfdaacdjlaaGreatDoor
