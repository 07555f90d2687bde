/- A part of the proof. -/
import Derived.Test.YtdlceoleaifhmaaGreatDoorRows
import Derived.JoinedOf
import Derived.KernelRfl
namespace Go.Proofs.YtdlceoleaifhmaaGreatDoor
open Go
noncomputable abbrev j_d:=Rows.OpenSpec.upto Rows.clipChainMaskSpec
noncomputable abbrev j_e:=Rows.clipChainMaskUptoRow
noncomputable abbrev j_f:=Tryz.prog
theorem k1:(laidOutB j_f)=true:=by kernel_rfl
theorem k3:(Tryz.f3.params.all (j_f.readableRec ·))=true:=by kernel_rfl
theorem k5:((j_e.stops== []))=true:=by kernel_rfl
theorem k7:((j_e.knobs== []))=true:=by kernel_rfl
theorem k9:((j_e.inPlace==j_f.inPlace 3))=true:=by kernel_rfl
theorem k11:((j_e.recurses==j_f.recurses 3))=true:=by kernel_rfl
theorem k13:((j_e.maps==(Tryz.f3.params.toList++(j_d).bare.plain.varTypes j_f).any (j_f.mapsRec ·)))=true:=by kernel_rfl
theorem k15:((j_e.mapsOut==j_f.mapsAmong Tryz.f3.resultTypes.toList))=true:=by kernel_rfl
theorem k17:((j_e.wideKeys==(Tryz.f3.params.toList++(j_d).bare.plain.varTypes j_f++Tryz.f3.resultTypes.toList).any (j_f.wideKeysFrom ·)))=true:=by kernel_rfl
theorem k19:(Tryz.f3.resultTypes.all (λt=>j_f.readableRec t&&decide (t< j_f.types.size)))=true:=by kernel_rfl
theorem k21:((j_e.loopsOut==Tryz.f3.resultTypes.toList.any (j_f.loopsFrom ·)))=true:=by kernel_rfl
theorem k23:(j_e.shortTexts.isNone)=true:=by kernel_rfl
theorem k25:(j_f.mayEnter)=true:=by kernel_rfl
theorem k27:((j_f.make==some j_e.make))=true:=by kernel_rfl
theorem k29:((j_e.pinned==j_e.pinnedBy))=true:=by kernel_rfl
theorem k31:(j_e.veiledFits j_f Tryz.f3.params.toList (Tryz.f3.params.toList++(j_d).bare.plain.varTypes j_f++Tryz.f3.resultTypes.toList))=true:=by kernel_rfl
end Go.Proofs.YtdlceoleaifhmaaGreatDoor
