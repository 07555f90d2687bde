/-
  No function of the program starts a goroutine.
-/
import Derived.Test.YtfpkonppeefhfaaGreatDoorRows
import Derived.Test.YtfpkonppeefhfaaGreatDoorA6
set_option linter.unusedSectionVars false
set_option linter.unusedSimpArgs false
set_option linter.unusedVariables false
namespace Go.Proofs.YtfpkonppeefhfaaGreatDoor
open Go
theorem no_goes : Tryz.prog.funcs.toList.any Func.goes = false := by kernel_rfl
theorem goes_ok : false = Rows.workersScheduleRow.goesBy Tryz.pinned.checked.prog := by
 haveI : As.Gh := ⟨fun _ _ _ => True⟩
 exact As.goesBy_none rfl no_goes
end Go.Proofs.YtfpkonppeefhfaaGreatDoor
