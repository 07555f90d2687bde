/-
  DERIVED. GIVEN WITH THE SEED: THE CARDS: each row of YtdlceoleaifhmaaGreatDoorRows.lean that lists a variable, with what it lists TIED to the program's text (the seventh form; the later family's looks); each row that meets fmt, with fmt's text TOLD by the authors' own Lean function (tested against real Go, not proved from fmt's source: count such statements apart). THE CARD IS WHAT COUNTS. Prove the row's statement (the work); the ties are given (YtdlceoleaifhmaaGreatDoorTie.lean); close each card by the builder's one call (the guide's Derived/Test/ToyasCard.lean, 'card_holds'). Laid BY PROGRAM, IN A SANDBOX (cutbox-door.mjs). By AI agents, Wed Nov 11 2026. No macro, syntax, notation, axiom, sorry.
-/
import Derived.Test.YtdlceoleaifhmaaGreatDoorRows
import GoSem.ClaimSeven
namespace Go.Proofs.YtdlceoleaifhmaaGreatDoor
namespace Rows

/-- THE TIED CARD OF 'grisaillelaw39.ClipChainMask'. -/
def clipChainMaskCard : Claim7 := { stood := { row := clipChainMaskRow, standIns := [], harness := (true, "9fc32b17503846290d8a77d1d9aeadfc4fb57015ddc21fe7611bbad0cea7bd4c"), looks := true }, kinds := [], alts := [], laidByText := true, laidKinds := [.handle], laidTests := true, laidLooks := .later }
def ClipChainMaskCardSaid : Prop := Claim7.holds Tryz.pinned (.plain (OpenSpec.ofChange clipChainMaskSpec)) clipChainMaskCard

/-- THE SECOND FORM's CARD OF 'grisaillelaw39.ClipChainMask'. -/
def clipChainMaskUptoCard : Claim7 := { stood := { row := clipChainMaskUptoRow, standIns := [], harness := (true, "9fc32b17503846290d8a77d1d9aeadfc4fb57015ddc21fe7611bbad0cea7bd4c"), looks := true }, kinds := [], alts := [], laidByText := true, laidKinds := [.handle], laidTests := true, laidLooks := .later }
def ClipChainMaskUptoCardSaid : Prop := Claim7.holds Tryz.pinned (.plain (OpenSpec.upto clipChainMaskSpec)) clipChainMaskUptoCard
end Rows
end Go.Proofs.YtdlceoleaifhmaaGreatDoor
