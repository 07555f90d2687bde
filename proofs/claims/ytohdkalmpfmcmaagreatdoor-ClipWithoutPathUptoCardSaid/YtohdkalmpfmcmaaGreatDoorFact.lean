/-
  Closed facts of the card.
-/
import Derived.Test.YtohdkalmpfmcmaaGreatDoorCards
import Derived.KernelRfl
namespace Go.Proofs.YtohdkalmpfmcmaaGreatDoor
open Go
theorem wf_ok : Rows.clipWithoutPathUptoRow.wfByText (Rows.OpenSpec.upto Rows.clipWithoutPathSpec) = true := by kernel_rfl
theorem main_ok : Tryz.pinned.checked.prog.mainIs = some (true, "117d352d536ba72d76ea175ec602197d2ce5c1bbd3736d285cbe5e4e79d32e5d".toList) := by kernel_rfl
theorem looks_ok : true = Tryz.prog.looks [] := by kernel_rfl
theorem stand_ok : ([26, 3, 28].all fun u => !Tryz.prog.wantsStandIn u) = true := by kernel_rfl
theorem named_ok : Tryz.prog.funcNamed "grisaille/grisaillelaw39.ClipWithoutPath" = some 3 := by kernel_rfl
end Go.Proofs.YtohdkalmpfmcmaaGreatDoor
