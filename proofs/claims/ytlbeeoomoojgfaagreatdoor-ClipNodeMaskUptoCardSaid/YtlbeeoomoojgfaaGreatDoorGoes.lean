/-
  No function of the program starts a goroutine.
-/
import Derived.Test.YtlbeeoomoojgfaaGreatDoorRows
import Derived.Test.YtlbeeoomoojgfaaGreatDoorA4
namespace Go.Proofs.YtlbeeoomoojgfaaGreatDoor
open Go
theorem no_goes : Tryz.prog.funcs.toList.any Func.goes = false := by kernel_rfl
theorem goes_ok : false = Rows.clipNodeMaskUptoRow.goesBy Tryz.pinned.checked.prog := by
  haveI : As.Gh := ⟨fun _ _ _ => True, fun _ => True, fun _ _ => trivial⟩
  exact As.goesBy_none rfl no_goes
end Go.Proofs.YtlbeeoomoojgfaaGreatDoor
