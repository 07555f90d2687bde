import Derived.Test.YtdlceoleaifhmaaGreatDoorB
import Derived.KernelRfl
set_option linter.all false
namespace Go.Proofs.YtdlceoleaifhmaaGreatDoor
open Go.As
def calls3:chkR env memT 100000 210 313 memT=true:=by kernel_rfl
end Go.Proofs.YtdlceoleaifhmaaGreatDoor
