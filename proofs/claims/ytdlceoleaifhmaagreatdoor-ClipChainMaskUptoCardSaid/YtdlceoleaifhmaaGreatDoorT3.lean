/- A part of the proof. -/
import Derived.Test.YtdlceoleaifhmaaGreatDoorRows
import Derived.LaidByTextLater
import Derived.KernelRfl
namespace Go.Proofs.YtdlceoleaifhmaaGreatDoor
open Go
theorem tie_hd:∀os tape,varsDone Tryz.prog 400 (varsId Tryz.prog) os tape=true:=λ_ _=>by kernel_rfl
theorem tie_h1:∀os tape,(DataW.laidRun Tryz.prog (varsWorld Tryz.prog 400 (varsId Tryz.prog) os tape).memory 8 (((([("errors.errorType",Rows.laid_errors_errorType)]:List (String×DataW Unit))).filter λx=>x.2.handleName?.isNone).map (·.1))).map (·.1)=some ((([("errors.errorType",Rows.laid_errors_errorType)]:List (String×DataW Unit))).filter λx=>x.2.handleName?.isNone):=λ_ _=>by kernel_rfl
end Go.Proofs.YtdlceoleaifhmaaGreatDoor
