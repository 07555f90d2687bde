/-
  Closed facts of the card.
-/
import Derived.Test.YtlbeeoomoojgfaaGreatDoorCards
import Derived.KernelRfl
namespace Go.Proofs.YtlbeeoomoojgfaaGreatDoor
open Go
theorem wf_ok : Rows.clipNodeMaskUptoRow.wfByText (Rows.OpenSpec.upto Rows.clipNodeMaskSpec) = true := by kernel_rfl
theorem main_ok : Tryz.pinned.checked.prog.mainIs = some (true, "7adca002abf346f45d797c3b9d856085c8486ef4193c0038cf706f5145383f14".toList) := by kernel_rfl
theorem looks_ok : true = Tryz.prog.looks [] := by kernel_rfl
theorem stand_ok : ([26, 3, 28].all fun u => !Tryz.prog.wantsStandIn u) = true := by kernel_rfl
theorem named_ok : Tryz.prog.funcNamed "grisaille/grisaillelaw39.ClipNodeMask" = some 3 := by kernel_rfl
end Go.Proofs.YtlbeeoomoojgfaaGreatDoor
