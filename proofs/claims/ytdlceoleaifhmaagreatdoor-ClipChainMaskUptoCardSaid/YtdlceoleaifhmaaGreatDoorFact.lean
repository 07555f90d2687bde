/- A part of the proof. -/
import Derived.Test.YtdlceoleaifhmaaGreatDoorCards
import Derived.KernelRfl
namespace Go.Proofs.YtdlceoleaifhmaaGreatDoor
open Go
theorem wf_ok:Rows.clipChainMaskUptoRow.wfByText (Rows.OpenSpec.upto Rows.clipChainMaskSpec)=true:=by kernel_rfl
theorem main_ok:Tryz.pinned.checked.prog.mainIs=some (true,"9fc32b17503846290d8a77d1d9aeadfc4fb57015ddc21fe7611bbad0cea7bd4c".toList):=by kernel_rfl
theorem looks_ok:true=Tryz.prog.looks []:=by kernel_rfl
theorem stand_ok:([26,3,28].all λu=>!Tryz.prog.wantsStandIn u)=true:=by kernel_rfl
theorem named_ok:Tryz.prog.funcNamed "grisaille/grisaillelaw39.ClipChainMask" =some 3:=by kernel_rfl
end Go.Proofs.YtdlceoleaifhmaaGreatDoor
