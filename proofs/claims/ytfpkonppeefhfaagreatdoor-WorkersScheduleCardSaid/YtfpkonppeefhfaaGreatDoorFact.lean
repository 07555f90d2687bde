/-
  Closed facts of the card.
-/
import Derived.Test.YtfpkonppeefhfaaGreatDoorCards
import Derived.KernelRfl
set_option linter.unusedSectionVars false
set_option linter.unusedSimpArgs false
set_option linter.unusedVariables false
namespace Go.Proofs.YtfpkonppeefhfaaGreatDoor
open Go
theorem wf_ok : Rows.workersScheduleRow.wfByText (OpenSpec.ofChange Rows.workersScheduleSpec) = true := by kernel_rfl
theorem main_ok : Tryz.pinned.checked.prog.mainIs = some (true, "266afbf9dc354e52db8004d3b36789dd61850d0cbaef565b3f03e202f0332086".toList) := by kernel_rfl
theorem looks_ok : true = Tryz.prog.looks [] := by kernel_rfl
theorem stand_ok : ([22, 22, 3].all fun u => !Tryz.prog.wantsStandIn u) = true := by kernel_rfl
theorem named_ok : Tryz.prog.funcNamed "grisaille/grisaillelaw48.WorkersSchedule" = some 3 := by kernel_rfl
end Go.Proofs.YtfpkonppeefhfaaGreatDoor
