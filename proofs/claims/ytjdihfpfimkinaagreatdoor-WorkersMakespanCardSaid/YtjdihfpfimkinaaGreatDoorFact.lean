/-
  Closed facts of the card.
-/
import Derived.Test.YtjdihfpfimkinaaGreatDoorCards
import Derived.KernelRfl
set_option linter.unusedSectionVars false
set_option linter.unusedSimpArgs false
set_option linter.unusedVariables false
namespace Go.Proofs.YtjdihfpfimkinaaGreatDoor
open Go
theorem wf_ok : Rows.workersMakespanRow.wfByText (OpenSpec.ofChange Rows.workersMakespanSpec) = true := by kernel_rfl
theorem main_ok : Tryz.pinned.checked.prog.mainIs = some (true, "c64239eb3a2dd99d3401c65bb8ef33ee955de0454933444da95ec3e1ab5f384f".toList) := by kernel_rfl
theorem looks_ok : true = Tryz.prog.looks [] := by kernel_rfl
theorem stand_ok : ([22, 3].all fun u => !Tryz.prog.wantsStandIn u) = true := by kernel_rfl
theorem named_ok : Tryz.prog.funcNamed "grisaille/grisaillelaw48.WorkersMakespan" = some 3 := by kernel_rfl
end Go.Proofs.YtjdihfpfimkinaaGreatDoor
