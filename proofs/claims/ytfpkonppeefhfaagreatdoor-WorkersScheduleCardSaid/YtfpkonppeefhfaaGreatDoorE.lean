/-
  The environment in which the chapter's examples are looked up.
-/
import Derived.Test.YtfpkonppeefhfaaGreatDoorTab
import Derived.Test.YtfpkonppeefhfaaGreatDoorA9
set_option linter.unusedSectionVars false
set_option linter.unusedSimpArgs false
set_option linter.unusedVariables false
namespace Go.Proofs.YtfpkonppeefhfaaGreatDoor
open Go.As
noncomputable def memE : Memo := .n 4 (.n (keyL []) [⟨0, [], .bool true⟩] .e .e) .e .e
noncomputable def envE : Env := env.addB memE 1
end Go.Proofs.YtfpkonppeefhfaaGreatDoor
