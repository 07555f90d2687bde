import Derived.Test.YtlbeeoomoojgfaaGreatDoorB
import Derived.KernelRfl
set_option linter.all false
namespace Go.Proofs.YtlbeeoomoojgfaaGreatDoor
open Go.As
def calls3:chkR env memT 100000 210 313 memT=true:=by kernel_rfl
end Go.Proofs.YtlbeeoomoojgfaaGreatDoor
