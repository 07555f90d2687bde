/-
  DERIVED. GIVEN WITH THE SEED: THE CARDS: each row of YtgpdmgkkahfkmaaGreatDoorRows.lean that lists a variable, with what it lists TIED to the program's text (the seventh form; the later family's looks); each row that meets fmt, with fmt's text TOLD by the authors' own Lean function (tested against real Go, not proved from fmt's source: count such statements apart). THE CARD IS WHAT COUNTS. Prove the row's statement (the work); the ties are given (YtgpdmgkkahfkmaaGreatDoorTie.lean); close each card by the builder's one call (the guide's Derived/Test/ToyasCard.lean, 'card_holds'). Laid BY PROGRAM, IN A SANDBOX (cutbox-door.mjs). By AI agents, Wed Nov 11 2026. No macro, syntax, notation, axiom, sorry.
-/
import Derived.Test.YtgpdmgkkahfkmaaGreatDoorRows
import GoSem.ClaimSeven
namespace Go.Proofs.YtgpdmgkkahfkmaaGreatDoor
namespace Rows

/-- THE TIED CARD OF 'grisaillelaw49.RetainedNil'. -/
def retainedNilCard : Claim7 := { stood := { row := retainedNilRow, standIns := [], harness := (true, "0e9a9797354e517d05eac1c2c93176f898792e06ac8687443b51a4d1e0d40ad0"), looks := true }, kinds := [], alts := [], laidByText := true, laidKinds := [.handle], laidTests := true, laidLooks := .later }
def RetainedNilCardSaid : Prop := Claim7.holds Tryz.pinned (.plain (OpenSpec.ofChange retainedNilSpec)) retainedNilCard

/-- THE SECOND FORM's CARD OF 'grisaillelaw49.RetainedNil'. -/
def retainedNilUptoCard : Claim7 := { stood := { row := retainedNilUptoRow, standIns := [], harness := (true, "0e9a9797354e517d05eac1c2c93176f898792e06ac8687443b51a4d1e0d40ad0"), looks := true }, kinds := [], alts := [], laidByText := true, laidKinds := [.handle], laidTests := true, laidLooks := .later }
def RetainedNilUptoCardSaid : Prop := Claim7.holds Tryz.pinned (.plain (OpenSpec.upto retainedNilSpec)) retainedNilUptoCard
end Rows
end Go.Proofs.YtgpdmgkkahfkmaaGreatDoor
