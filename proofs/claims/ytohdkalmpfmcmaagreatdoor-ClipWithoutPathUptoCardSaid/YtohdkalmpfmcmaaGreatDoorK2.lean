import Derived.Test.YtohdkalmpfmcmaaGreatDoorB
import Derived.KernelRfl
set_option linter.all false
namespace Go.Proofs.YtohdkalmpfmcmaaGreatDoor
open Go.As
theorem calls2:chkR env memT 100000 110 210 memT=true:=by kernel_rfl
end Go.Proofs.YtohdkalmpfmcmaaGreatDoor
