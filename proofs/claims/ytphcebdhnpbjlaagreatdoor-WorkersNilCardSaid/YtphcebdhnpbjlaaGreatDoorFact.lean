/-
  Closed facts of the card.
-/
import Derived.Test.YtphcebdhnpbjlaaGreatDoorCards
import Derived.KernelRfl
set_option linter.unusedSectionVars false
set_option linter.unusedSimpArgs false
set_option linter.unusedVariables false
namespace Go.Proofs.YtphcebdhnpbjlaaGreatDoor
open Go
theorem wf_ok : Rows.workersNilRow.wfByText (OpenSpec.ofChange Rows.workersNilSpec) = true := by kernel_rfl
theorem main_ok : Tryz.pinned.checked.prog.mainIs = some (true, "ad8c6f8c380bd94dfa16d485374ecb2ef84818087c6d62e04bf2b3a7f05ed460".toList) := by kernel_rfl
theorem looks_ok : true = Tryz.prog.looks [] := by kernel_rfl
theorem stand_ok : ([23, 3].all fun u => !Tryz.prog.wantsStandIn u) = true := by kernel_rfl
theorem named_ok : Tryz.prog.funcNamed "grisaille/grisaillelaw48.WorkersNil" = some 3 := by kernel_rfl
end Go.Proofs.YtphcebdhnpbjlaaGreatDoor
