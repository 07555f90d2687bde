import Derived.Test.YtlfolhmfdmcmiaaGreatDoorB
import Derived.KernelRfl
set_option linter.all false
namespace Go.Proofs.YtlfolhmfdmcmiaaGreatDoor
open Go.As
theorem calls3:chkR env memT 100000 210 400 memT=true:=by kernel_rfl
end Go.Proofs.YtlfolhmfdmcmiaaGreatDoor
