/-
  The calls 250 to 500 of the table, run.
-/
import Derived.Test.YtgpdmgkkahfkmaaGreatDoorTab
set_option linter.unusedSectionVars false
set_option linter.unusedSimpArgs false
set_option linter.unusedVariables false
namespace Go.Proofs.YtgpdmgkkahfkmaaGreatDoor
open Go.As
theorem calls2 : chkR env memT 100000 250 500 memT = true := by kernel_rfl
end Go.Proofs.YtgpdmgkkahfkmaaGreatDoor
