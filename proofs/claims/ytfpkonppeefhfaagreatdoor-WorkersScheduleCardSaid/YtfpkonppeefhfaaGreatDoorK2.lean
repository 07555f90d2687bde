/-
  The calls 120 to 220 of the table, run.
-/
import Derived.Test.YtfpkonppeefhfaaGreatDoorTab
set_option linter.unusedSectionVars false
set_option linter.unusedSimpArgs false
set_option linter.unusedVariables false
namespace Go.Proofs.YtfpkonppeefhfaaGreatDoor
open Go.As
theorem calls2 : chkR env memT 100000 120 220 memT = true := by kernel_rfl
end Go.Proofs.YtfpkonppeefhfaaGreatDoor
