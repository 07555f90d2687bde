/-
  The calls 0 to 20 of the table, run.
-/
import Derived.Test.YtfpkonppeefhfaaGreatDoorTab
set_option linter.unusedSectionVars false
set_option linter.unusedSimpArgs false
set_option linter.unusedVariables false
namespace Go.Proofs.YtfpkonppeefhfaaGreatDoor
open Go.As
theorem calls0 : chkR env memT 100000 0 20 memT = true := by kernel_rfl
end Go.Proofs.YtfpkonppeefhfaaGreatDoor
