import Derived.Test.YtlfolhmfdmcmiaaGreatDoorB
import Derived.KernelRfl
set_option linter.all false
namespace Go.Proofs.YtlfolhmfdmcmiaaGreatDoor
open Go.As
theorem calls1:chkR env memT 100000 40 110 memT=true:=by kernel_rfl
end Go.Proofs.YtlfolhmfdmcmiaaGreatDoor
