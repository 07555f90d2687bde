/- A part of the proof. -/
import Derived.Test.YtdlceoleaifhmaaGreatDoorL
import Derived.Test.YtdlceoleaifhmaaGreatDoorJ1
import Derived.Test.YtdlceoleaifhmaaGreatDoorJ2
namespace Go.Proofs.YtdlceoleaifhmaaGreatDoor
open Go Go.ChangeShapes Go.WideShapes Go.RowKit
theorem named0_ok:Tryz.prog.funcNamed Rows.clipChainMaskUptoRow.func=some 3:=by kernel_rfl
theorem closed_ok:joinedFacts Tryz.prog 3 Tryz.f3 (Rows.OpenSpec.upto Rows.clipChainMaskSpec).bare Rows.clipChainMaskUptoRow=true:=by
 unfold joinedFacts
 simp only[Bool.and_eq_true]
 exact⟨⟨⟨⟨⟨⟨⟨⟨⟨⟨⟨⟨⟨⟨⟨⟨⟨⟨⟨⟨⟨⟨⟨⟨⟨⟨⟨⟨⟨⟨⟨k0,k1⟩,k2⟩,k3⟩,k4⟩,k5⟩,k6⟩,k7⟩,k8⟩,k9⟩,k10⟩,k11⟩,k12⟩,k13⟩,k14⟩,k15⟩,k16⟩,k17⟩,k18⟩,k19⟩,k20⟩,k21⟩,k22⟩,k23⟩,k24⟩,k25⟩,k26⟩,k27⟩,(by kernel_rfl)⟩,k29⟩,k30⟩,k31⟩
theorem clipChainMask_holds:Rows.ClipChainMaskUptoSaid:=
 OpenClaim.holds_of_cond 3 Tryz.f3 rfl rfl rfl rfl rfl rfl rfl ⟨rfl,rfl,rfl,rfl,rfl⟩ rfl rfl rfl rfl rfl named0_ok Tryz.func3 closed_ok
  (of_decide_eq_true (by kernel_rfl)) (by unfold Func.isWrapper;rw[if_neg (of_decide_eq_false (by kernel_rfl))];exact⟨rfl,rfl⟩)
  (λos started H enc _ F=>by rw[OpenClaim.pre_eq_preRow];exact law_lifted os started H enc F)
end Go.Proofs.YtdlceoleaifhmaaGreatDoor
