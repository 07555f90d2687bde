/-
  The calls 0 to 60 of the table, run.
-/
import Derived.Test.YtgpdmgkkahfkmaaGreatDoorTab
set_option linter.unusedSectionVars false
set_option linter.unusedSimpArgs false
set_option linter.unusedVariables false
namespace Go.Proofs.YtgpdmgkkahfkmaaGreatDoor
open Go.As
theorem calls0 : chkR env memT 100000 0 60 memT = true := by kernel_rfl
end Go.Proofs.YtgpdmgkkahfkmaaGreatDoor
