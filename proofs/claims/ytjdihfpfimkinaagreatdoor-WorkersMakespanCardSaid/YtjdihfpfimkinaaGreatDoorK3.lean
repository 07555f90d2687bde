/-
  The calls 220 to 322 of the table, run.
-/
import Derived.Test.YtjdihfpfimkinaaGreatDoorTab
set_option linter.unusedSectionVars false
set_option linter.unusedSimpArgs false
set_option linter.unusedVariables false
namespace Go.Proofs.YtjdihfpfimkinaaGreatDoor
open Go.As
theorem calls3 : chkR env memT 100000 220 322 memT = true := by kernel_rfl
end Go.Proofs.YtjdihfpfimkinaaGreatDoor
