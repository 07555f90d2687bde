/- A part of the proof. -/
import Derived.Test.YtdlceoleaifhmaaGreatDoorRows
import Derived.LaidByTextLater
import Derived.KernelRfl
namespace Go.Proofs.YtdlceoleaifhmaaGreatDoor
open Go
theorem tie_hn:varsNamedLaterB Tryz.prog (varsId Tryz.prog) ([("errors.errorType",Rows.laid_errors_errorType)]:List (String×DataW Unit))=true:=by kernel_rfl
end Go.Proofs.YtdlceoleaifhmaaGreatDoor
