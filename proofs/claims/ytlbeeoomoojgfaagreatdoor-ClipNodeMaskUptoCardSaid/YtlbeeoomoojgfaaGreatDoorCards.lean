/-
  DERIVED. GIVEN WITH THE SEED: THE CARDS: each row of YtlbeeoomoojgfaaGreatDoorRows.lean that lists a variable, with what it lists TIED to the program's text (the seventh form; the later family's looks); each row that meets fmt, with fmt's text TOLD by the authors' own Lean function (tested against real Go, not proved from fmt's source: count such statements apart). THE CARD IS WHAT COUNTS. Prove the row's statement (the work); the ties are given (YtlbeeoomoojgfaaGreatDoorTie.lean); close each card by the builder's one call (the guide's Derived/Test/ToyasCard.lean, 'card_holds'). Laid BY PROGRAM, IN A SANDBOX (cutbox-door.mjs). By AI agents, Wed Nov 11 2026. No macro, syntax, notation, axiom, sorry.
-/
import Derived.Test.YtlbeeoomoojgfaaGreatDoorRows
import GoSem.ClaimSeven
namespace Go.Proofs.YtlbeeoomoojgfaaGreatDoor
namespace Rows

/-- THE TIED CARD OF 'grisaillelaw39.ClipNodeMask'. -/
def clipNodeMaskCard : Claim7 := { stood := { row := clipNodeMaskRow, standIns := [], harness := (true, "7adca002abf346f45d797c3b9d856085c8486ef4193c0038cf706f5145383f14"), looks := true }, kinds := [], alts := [], laidByText := true, laidKinds := [.handle], laidTests := true, laidLooks := .later }
def ClipNodeMaskCardSaid : Prop := Claim7.holds Tryz.pinned (.plain (OpenSpec.ofChange clipNodeMaskSpec)) clipNodeMaskCard

/-- THE SECOND FORM's CARD OF 'grisaillelaw39.ClipNodeMask'. -/
def clipNodeMaskUptoCard : Claim7 := { stood := { row := clipNodeMaskUptoRow, standIns := [], harness := (true, "7adca002abf346f45d797c3b9d856085c8486ef4193c0038cf706f5145383f14"), looks := true }, kinds := [], alts := [], laidByText := true, laidKinds := [.handle], laidTests := true, laidLooks := .later }
def ClipNodeMaskUptoCardSaid : Prop := Claim7.holds Tryz.pinned (.plain (OpenSpec.upto clipNodeMaskSpec)) clipNodeMaskUptoCard
end Rows
end Go.Proofs.YtlbeeoomoojgfaaGreatDoor
