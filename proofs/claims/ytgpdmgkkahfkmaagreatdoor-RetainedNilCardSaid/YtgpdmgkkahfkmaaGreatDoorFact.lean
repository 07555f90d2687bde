/-
  Closed facts of the card.
-/
import Derived.Test.YtgpdmgkkahfkmaaGreatDoorCards
import Derived.KernelRfl
set_option linter.unusedSectionVars false
set_option linter.unusedSimpArgs false
set_option linter.unusedVariables false
namespace Go.Proofs.YtgpdmgkkahfkmaaGreatDoor
open Go
theorem wf_ok : Rows.retainedNilRow.wfByText (OpenSpec.ofChange Rows.retainedNilSpec) = true := by kernel_rfl
theorem main_ok : Tryz.pinned.checked.prog.mainIs = some (true, "0e9a9797354e517d05eac1c2c93176f898792e06ac8687443b51a4d1e0d40ad0".toList) := by kernel_rfl
theorem looks_ok : true = Tryz.prog.looks [] := by kernel_rfl
theorem stand_ok : ([42, 3].all fun u => !Tryz.prog.wantsStandIn u) = true := by kernel_rfl
theorem named_ok : Tryz.prog.funcNamed "grisaille/grisaillelaw49.RetainedNil" = some 3 := by kernel_rfl
end Go.Proofs.YtgpdmgkkahfkmaaGreatDoor
