/- A part of the proof. -/
import Derived.Test.YtdlceoleaifhmaaGreatDoorT1
import Derived.Test.YtdlceoleaifhmaaGreatDoorT2
import Derived.Test.YtdlceoleaifhmaaGreatDoorT3
import Derived.Test.YtdlceoleaifhmaaGreatDoorT4
import Derived.SevenTiedAt
namespace Go.Proofs.YtdlceoleaifhmaaGreatDoor
open Go
theorem own_tie:Tryz.prog.laidByTextLater [("errors.errorType",Rows.laid_errors_errorType)] [.handle] true:=
 Program.laidByTextLater_by_run_h 400 8 tie_hw tie_hw2 tie_hroot tie_hk tie_hg tie_hn tie_hd tie_h1 tie_h2 tie_h3
theorem own_row_tie:Rows.clipChainMaskUptoRow.laidByTextAt .later Tryz.pinned [.handle] true:=
 OpenClaim.laidByTextAt_later rfl rfl own_tie tie_un
end Go.Proofs.YtdlceoleaifhmaaGreatDoor
