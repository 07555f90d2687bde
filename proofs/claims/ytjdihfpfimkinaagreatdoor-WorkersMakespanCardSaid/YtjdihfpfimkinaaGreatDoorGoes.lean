/-
  No function of the program starts a goroutine.
-/
import Derived.Test.YtjdihfpfimkinaaGreatDoorRows
import Derived.Test.YtjdihfpfimkinaaGreatDoorA6
set_option linter.unusedSectionVars false
set_option linter.unusedSimpArgs false
set_option linter.unusedVariables false
namespace Go.Proofs.YtjdihfpfimkinaaGreatDoor
open Go
theorem no_goes : Tryz.prog.funcs.toList.any Func.goes = false := by kernel_rfl
theorem goes_ok : false = Rows.workersMakespanRow.goesBy Tryz.pinned.checked.prog := by
  haveI : As.Gh := ⟨fun _ _ _ => True⟩
  exact As.goesBy_none rfl no_goes
end Go.Proofs.YtjdihfpfimkinaaGreatDoor
