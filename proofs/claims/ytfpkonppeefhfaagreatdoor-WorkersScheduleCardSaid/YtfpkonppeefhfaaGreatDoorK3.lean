/-
  The calls 220 to 332 of the table, run.
-/
import Derived.Test.YtfpkonppeefhfaaGreatDoorTab
set_option linter.unusedSectionVars false
set_option linter.unusedSimpArgs false
set_option linter.unusedVariables false
namespace Go.Proofs.YtfpkonppeefhfaaGreatDoor
open Go.As
theorem calls3 : chkR env memT 100000 220 332 memT = true := by kernel_rfl
end Go.Proofs.YtfpkonppeefhfaaGreatDoor
