import Derived.Test.YtohdkalmpfmcmaaGreatDoorB
import Derived.KernelRfl
set_option linter.all false
namespace Go.Proofs.YtohdkalmpfmcmaaGreatDoor
open Go.As
theorem calls0:chkR env memT 100000 0 40 memT=true:=by kernel_rfl
end Go.Proofs.YtohdkalmpfmcmaaGreatDoor
