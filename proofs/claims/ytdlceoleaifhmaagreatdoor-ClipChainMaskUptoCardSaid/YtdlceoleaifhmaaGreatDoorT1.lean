/- A part of the proof. -/
import Derived.Test.YtdlceoleaifhmaaGreatDoorRows
import Derived.LaidByTextLater
import Derived.KernelRfl
namespace Go.Proofs.YtdlceoleaifhmaaGreatDoor
open Go
theorem tie_hw:Tryz.prog.worded (varsWordLater true)=true:=by kernel_rfl
theorem tie_hw2:Tryz.prog.worded (varsWordLater !true)=false:=by kernel_rfl
theorem tie_hroot:Tryz.prog.worded rootWordLater=true:=by kernel_rfl
theorem tie_hk:(([("errors.errorType",Rows.laid_errors_errorType)]:List (String×DataW Unit))).map (λx=>Tryz.prog.kindOfLater x.1)=[LaidKind.handle].map some:=by kernel_rfl
theorem tie_hg:(Tryz.prog.funcNamed "gosem.cut.vars").isSome=true:=by kernel_rfl
theorem tie_un:Tryz.pinned.checked.prog.headLifts.contains "ownunsafe" =false:=by kernel_rfl
end Go.Proofs.YtdlceoleaifhmaaGreatDoor
