/-
  The law, its arguments left open, run over the table of calls.
-/
import Derived.Test.YtphcebdhnpbjlaaGreatDoorEnv
import Derived.Test.YtphcebdhnpbjlaaGreatDoorK0
import Derived.Test.YtphcebdhnpbjlaaGreatDoorK1
import Derived.Test.YtphcebdhnpbjlaaGreatDoorK2
import Derived.Test.YtphcebdhnpbjlaaGreatDoorK3
set_option linter.unusedSectionVars false
set_option linter.unusedSimpArgs false
set_option linter.unusedVariables false
namespace Go.Proofs.YtphcebdhnpbjlaaGreatDoor
open Go.As
theorem table_ok : As.Claim Fence.wide Tryz.prog memT 322 :=
  As.Claim.more env_ok Fen.wide (As.Claim.more env_ok Fen.wide (As.Claim.more env_ok Fen.wide (As.Claim.more env_ok Fen.wide (As.Claim.zero memT) bodies calls0) bodies calls1) bodies calls2) bodies calls3
theorem env2_ok : EnvOk Fence.wide Tryz.prog (env.addB memT 322) := env_ok.addB table_ok bodies
theorem law : ∀ (k w t r : Int) (i : Int), callD (env.addB memT 322) 100000 3 [.agg 4 [.int .i64 k, .int .i64 w, .int .i64 t, .int .i64 r], .int .i64 i] = some (.bool true) := by
  intro k w t r i
  kernel_rfl
theorem law_ok (k w t r : Int) (i : Int) : DataOk Fence.wide Tryz.prog 3 [.agg 4 [.int .i64 k, .int .i64 w, .int .i64 t, .int .i64 r], .int .i64 i] (.bool true) :=
  (dataV_sound (exec_sound env2_ok Fen.wide 100000) env2_ok Fen.wide (law k w t r i)).2
end Go.Proofs.YtphcebdhnpbjlaaGreatDoor
