import Derived.Test.YtohdkalmpfmcmaaGreatDoorB
import Derived.KernelRfl
set_option linter.all false
namespace Go.Proofs.YtohdkalmpfmcmaaGreatDoor
open Go.As
theorem calls3:chkR env memT 100000 210 400 memT=true:=by kernel_rfl
end Go.Proofs.YtohdkalmpfmcmaaGreatDoor
