import Derived.Test.YtdlceoleaifhmaaGreatDoorB
import Derived.KernelRfl
set_option linter.all false
namespace Go.Proofs.YtdlceoleaifhmaaGreatDoor
open Go.As
def calls2:chkR env memT 100000 110 210 memT=true:=by kernel_rfl
end Go.Proofs.YtdlceoleaifhmaaGreatDoor
