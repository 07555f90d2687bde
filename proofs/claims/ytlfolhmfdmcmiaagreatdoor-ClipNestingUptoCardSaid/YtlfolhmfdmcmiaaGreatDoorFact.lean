/-
  Closed facts of the card.
-/
import Derived.Test.YtlfolhmfdmcmiaaGreatDoorCards
import Derived.KernelRfl
namespace Go.Proofs.YtlfolhmfdmcmiaaGreatDoor
open Go
theorem wf_ok : Rows.clipNestingUptoRow.wfByText (Rows.OpenSpec.upto Rows.clipNestingSpec) = true := by kernel_rfl
theorem main_ok : Tryz.pinned.checked.prog.mainIs = some (true, "a787765e8df9e9738662b1020e91c9a6e2fd683faaf7193e9806201c48af76d6".toList) := by kernel_rfl
theorem looks_ok : true = Tryz.prog.looks [] := by kernel_rfl
theorem stand_ok : ([26, 3, 29].all fun u => !Tryz.prog.wantsStandIn u) = true := by kernel_rfl
theorem named_ok : Tryz.prog.funcNamed "grisaille/grisaillelaw39.ClipNesting" = some 3 := by kernel_rfl
end Go.Proofs.YtlfolhmfdmcmiaaGreatDoor
