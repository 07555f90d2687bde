/-
  The tie of the laid variable, one closed fact a theorem: the part 2.
-/
import Derived.Test.YtlbeeoomoojgfaaGreatDoorRows
import Derived.LaidByTextLater
import Derived.KernelRfl
namespace Go.Proofs.YtlbeeoomoojgfaaGreatDoor
open Go
theorem tie_hn : varsNamedLaterB Tryz.prog (varsId Tryz.prog) ([("errors.errorType", Rows.laid_errors_errorType)] : List (String × DataW Unit)) = true := by kernel_rfl
end Go.Proofs.YtlbeeoomoojgfaaGreatDoor
