/-
  The tie of the laid variable, one closed fact a theorem: the part 3.
-/
import Derived.Test.YtlbeeoomoojgfaaGreatDoorRows
import Derived.LaidByTextLater
import Derived.KernelRfl
namespace Go.Proofs.YtlbeeoomoojgfaaGreatDoor
open Go
theorem tie_hd : ∀ os tape, varsDone Tryz.prog 400 (varsId Tryz.prog) os tape = true := fun _ _ => by kernel_rfl
theorem tie_h1 : ∀ os tape, (DataW.laidRun Tryz.prog (varsWorld Tryz.prog 400 (varsId Tryz.prog) os tape).memory 8 (((([("errors.errorType", Rows.laid_errors_errorType)] : List (String × DataW Unit))).filter fun x => x.2.handleName?.isNone).map (·.1))).map (·.1) = some ((([("errors.errorType", Rows.laid_errors_errorType)] : List (String × DataW Unit))).filter fun x => x.2.handleName?.isNone) := fun _ _ => by kernel_rfl
end Go.Proofs.YtlbeeoomoojgfaaGreatDoor
