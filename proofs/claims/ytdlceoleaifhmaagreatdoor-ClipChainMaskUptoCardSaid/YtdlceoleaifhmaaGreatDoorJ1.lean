/- A part of the proof. -/
import Derived.Test.YtdlceoleaifhmaaGreatDoorRows
import Derived.JoinedOf
import Derived.KernelRfl
namespace Go.Proofs.YtdlceoleaifhmaaGreatDoor
open Go
noncomputable abbrev j_a:=Rows.OpenSpec.upto Rows.clipChainMaskSpec
noncomputable abbrev j_b:=Rows.clipChainMaskUptoRow
noncomputable abbrev j_c:=Tryz.prog
theorem k0:(j_b.wf (OpenSpec.ofChange (j_a).bare))=true:=by kernel_rfl
theorem k2:(mapsRowed j_c)=true:=by kernel_rfl
theorem k4:(namedTie j_c j_b.named (j_a).bare.vars)=true:=by kernel_rfl
theorem k6:((j_c.stops== []))=true:=by kernel_rfl
theorem k8:((j_c.stopKnobs== []))=true:=by kernel_rfl
theorem k10:((j_b.unfollowed==j_c.unfollowed 3))=true:=by kernel_rfl
theorem k12:((j_b.named==j_c.varsNamed 3))=true:=by kernel_rfl
theorem k14:((j_b.ifaces==(Tryz.f3.params.toList++(j_a).bare.plain.varTypes j_c).any (j_c.ifacesRec ·)))=true:=by kernel_rfl
theorem k16:((j_b.loops==(Tryz.f3.params.toList++(j_a).bare.plain.varTypes j_c).any (j_c.loopsFrom ·)))=true:=by kernel_rfl
theorem k18:((j_a).bare.vars.all (j_c.varReadable ·))=true:=by kernel_rfl
theorem k20:((j_b.ifacesOut==Tryz.f3.resultTypes.toList.any (j_c.ifacesRec ·)))=true:=by kernel_rfl
theorem k22:((j_b.plainKeys==j_c.plainKeys))=true:=by kernel_rfl
theorem k24:(j_c.stopsHeard)=true:=by kernel_rfl
theorem k26:((j_b.lifted==j_c.liftsFinal))=true:=by kernel_rfl
theorem k30:((j_b.veiled==(Tryz.f3.params.toList++(j_a).bare.plain.varTypes j_c++Tryz.f3.resultTypes.toList).any (j_c.veiledRec ·)))=true:=by kernel_rfl
end Go.Proofs.YtdlceoleaifhmaaGreatDoor
