/-
  The calls 20 to 120 of the table, run.
-/
import Derived.Test.YtfpkonppeefhfaaGreatDoorTab
set_option linter.unusedSectionVars false
set_option linter.unusedSimpArgs false
set_option linter.unusedVariables false
namespace Go.Proofs.YtfpkonppeefhfaaGreatDoor
open Go.As
theorem calls1 : chkR env memT 100000 20 120 memT = true := by kernel_rfl
end Go.Proofs.YtfpkonppeefhfaaGreatDoor
