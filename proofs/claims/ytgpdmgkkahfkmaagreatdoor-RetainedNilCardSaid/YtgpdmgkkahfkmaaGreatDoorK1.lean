/-
  The calls 60 to 250 of the table, run.
-/
import Derived.Test.YtgpdmgkkahfkmaaGreatDoorTab
set_option linter.unusedSectionVars false
set_option linter.unusedSimpArgs false
set_option linter.unusedVariables false
namespace Go.Proofs.YtgpdmgkkahfkmaaGreatDoor
open Go.As
theorem calls1 : chkR env memT 100000 60 250 memT = true := by kernel_rfl
end Go.Proofs.YtgpdmgkkahfkmaaGreatDoor
