/-
  The tie of the laid variable, one closed fact a theorem: the part 2.
-/
import Derived.Test.YtfpkonppeefhfaaGreatDoorRows
import Derived.LaidByTextLater
import Derived.KernelRfl
set_option linter.unusedSectionVars false
set_option linter.unusedSimpArgs false
set_option linter.unusedVariables false
namespace Go.Proofs.YtfpkonppeefhfaaGreatDoor
open Go
theorem tie_hn : varsNamedLaterB Tryz.prog (varsId Tryz.prog) ([("errors.errorType", Rows.laid_errors_errorType)] : List (String × DataW Unit)) = true := by kernel_rfl
end Go.Proofs.YtfpkonppeefhfaaGreatDoor
