/-
  Closed facts of the card.
-/
import Derived.Test.YtceibfdaacdjlaaGreatDoorCards
import Derived.KernelRfl
namespace Go.Proofs.YtceibfdaacdjlaaGreatDoor
open Go
theorem wf_ok : Rows.clipContainsUptoRow.wfByText (Rows.OpenSpec.upto Rows.clipContainsSpec) = true := by kernel_rfl
theorem main_ok : Tryz.pinned.checked.prog.mainIs = some (true, "56f046b30c63681a4fb2f06585dd735f481a987191f65665894e066fa05cd673".toList) := by kernel_rfl
theorem looks_ok : true = Tryz.prog.looks [] := by kernel_rfl
theorem stand_ok : ([26, 3, 28].all fun u => !Tryz.prog.wantsStandIn u) = true := by kernel_rfl
theorem named_ok : Tryz.prog.funcNamed "grisaille/grisaillelaw39.ClipContains" = some 3 := by kernel_rfl
end Go.Proofs.YtceibfdaacdjlaaGreatDoor
