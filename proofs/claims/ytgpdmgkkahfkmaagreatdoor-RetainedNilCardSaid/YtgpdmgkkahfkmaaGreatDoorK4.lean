/-
  The calls 750 to 1010 of the table, run.
-/
import Derived.Test.YtgpdmgkkahfkmaaGreatDoorTab
set_option linter.unusedSectionVars false
set_option linter.unusedSimpArgs false
set_option linter.unusedVariables false
namespace Go.Proofs.YtgpdmgkkahfkmaaGreatDoor
open Go.As
theorem calls4 : chkR env memT 100000 750 1010 memT = true := by kernel_rfl
end Go.Proofs.YtgpdmgkkahfkmaaGreatDoor
