/-
  DERIVED. GIVEN WITH THE SEED: THE CARDS: each row of YtphcebdhnpbjlaaGreatDoorRows.lean that lists a variable, with what it lists TIED to the program's text (the seventh form; the later family's looks); each row that meets fmt, with fmt's text TOLD by the authors' own Lean function (tested against real Go, not proved from fmt's source: count such statements apart). THE CARD IS WHAT COUNTS. Prove the row's statement (the work); the ties are given (YtphcebdhnpbjlaaGreatDoorTie.lean); close each card by the builder's one call (the guide's Derived/Test/ToyasCard.lean, 'card_holds'). Laid BY PROGRAM, IN A SANDBOX (cutbox-door.mjs). By AI agents, Wed Nov 11 2026. No macro, syntax, notation, axiom, sorry.
-/
import Derived.Test.YtphcebdhnpbjlaaGreatDoorRows
import GoSem.ClaimSeven
namespace Go.Proofs.YtphcebdhnpbjlaaGreatDoor
namespace Rows

/-- THE TIED CARD OF 'grisaillelaw48.WorkersNil'. -/
def workersNilCard : Claim7 := { stood := { row := workersNilRow, standIns := [], harness := (true, "ad8c6f8c380bd94dfa16d485374ecb2ef84818087c6d62e04bf2b3a7f05ed460"), looks := true }, kinds := [], alts := [], laidByText := true, laidKinds := [.handle], laidTests := true, laidLooks := .later }
def WorkersNilCardSaid : Prop := Claim7.holds Tryz.pinned (.plain (OpenSpec.ofChange workersNilSpec)) workersNilCard

/-- THE SECOND FORM's CARD OF 'grisaillelaw48.WorkersNil'. -/
def workersNilUptoCard : Claim7 := { stood := { row := workersNilUptoRow, standIns := [], harness := (true, "ad8c6f8c380bd94dfa16d485374ecb2ef84818087c6d62e04bf2b3a7f05ed460"), looks := true }, kinds := [], alts := [], laidByText := true, laidKinds := [.handle], laidTests := true, laidLooks := .later }
def WorkersNilUptoCardSaid : Prop := Claim7.holds Tryz.pinned (.plain (OpenSpec.upto workersNilSpec)) workersNilUptoCard
end Rows
end Go.Proofs.YtphcebdhnpbjlaaGreatDoor
