/- A part of the proof. -/
import Derived.Test.YtdlceoleaifhmaaGreatDoorRows
import Derived.Test.YtdlceoleaifhmaaGreatDoorA4
namespace Go.Proofs.YtdlceoleaifhmaaGreatDoor
open Go
theorem no_goes:Tryz.prog.funcs.toList.any Func.goes=false:=by kernel_rfl
theorem goes_ok:false=Rows.clipChainMaskUptoRow.goesBy Tryz.pinned.checked.prog:=by
 haveI:As.Gh:=⟨λ_ _ _=>True,λ_=>True,λ_ _=>trivial⟩
 exact As.goesBy_none rfl no_goes
end Go.Proofs.YtdlceoleaifhmaaGreatDoor
