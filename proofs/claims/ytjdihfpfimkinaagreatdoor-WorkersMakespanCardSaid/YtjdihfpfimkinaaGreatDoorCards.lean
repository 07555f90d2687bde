/-
  DERIVED. GIVEN WITH THE SEED: THE CARDS: each row of YtjdihfpfimkinaaGreatDoorRows.lean that lists a variable, with what it lists TIED to the program's text (the seventh form; the later family's looks); each row that meets fmt, with fmt's text TOLD by the authors' own Lean function (tested against real Go, not proved from fmt's source: count such statements apart). THE CARD IS WHAT COUNTS. Prove the row's statement (the work); the ties are given (YtjdihfpfimkinaaGreatDoorTie.lean); close each card by the builder's one call (the guide's Derived/Test/ToyasCard.lean, 'card_holds'). Laid BY PROGRAM, IN A SANDBOX (cutbox-door.mjs). By AI agents, Wed Nov 11 2026. No macro, syntax, notation, axiom, sorry.
-/
import Derived.Test.YtjdihfpfimkinaaGreatDoorRows
import GoSem.ClaimSeven
namespace Go.Proofs.YtjdihfpfimkinaaGreatDoor
namespace Rows

/-- THE TIED CARD OF 'grisaillelaw48.WorkersMakespan'. -/
def workersMakespanCard : Claim7 := { stood := { row := workersMakespanRow, standIns := [], harness := (true, "c64239eb3a2dd99d3401c65bb8ef33ee955de0454933444da95ec3e1ab5f384f"), looks := true }, kinds := [], alts := [], laidByText := true, laidKinds := [.handle], laidTests := true, laidLooks := .later }
def WorkersMakespanCardSaid : Prop := Claim7.holds Tryz.pinned (.plain (OpenSpec.ofChange workersMakespanSpec)) workersMakespanCard

/-- THE SECOND FORM's CARD OF 'grisaillelaw48.WorkersMakespan'. -/
def workersMakespanUptoCard : Claim7 := { stood := { row := workersMakespanUptoRow, standIns := [], harness := (true, "c64239eb3a2dd99d3401c65bb8ef33ee955de0454933444da95ec3e1ab5f384f"), looks := true }, kinds := [], alts := [], laidByText := true, laidKinds := [.handle], laidTests := true, laidLooks := .later }
def WorkersMakespanUptoCardSaid : Prop := Claim7.holds Tryz.pinned (.plain (OpenSpec.upto workersMakespanSpec)) workersMakespanUptoCard
end Rows
end Go.Proofs.YtjdihfpfimkinaaGreatDoor
