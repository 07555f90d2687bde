/-
  The calls 500 to 750 of the table, run.
-/
import Derived.Test.YtgpdmgkkahfkmaaGreatDoorTab
set_option linter.unusedSectionVars false
set_option linter.unusedSimpArgs false
set_option linter.unusedVariables false
namespace Go.Proofs.YtgpdmgkkahfkmaaGreatDoor
open Go.As
theorem calls3 : chkR env memT 100000 500 750 memT = true := by kernel_rfl
end Go.Proofs.YtgpdmgkkahfkmaaGreatDoor
