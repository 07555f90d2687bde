/-
  The environment is right.
-/
import Derived.Test.YtfpkonppeefhfaaGreatDoorTab
set_option linter.unusedSectionVars false
set_option linter.unusedSimpArgs false
set_option linter.unusedVariables false
namespace Go.Proofs.YtfpkonppeefhfaaGreatDoor
open Go.As
noncomputable instance gh : Gh := ⟨fun f nt c => codeOk env f nt c = true ∧ noDefer c = true⟩
theorem ty_ok : tyT.allB (tyB Tryz.prog) = true := by kernel_rfl
theorem fn_ok : fnT.allB (fnB env) = true := by kernel_rfl
theorem depth_ok : Nat.blt 12 Tryz.prog.depth = true := by kernel_rfl
theorem mixed_ok : Tryz.prog.follows .mixedOrders = true := by kernel_rfl
theorem bty_ok : (tyT.find 999999).isNone = true := by kernel_rfl
theorem meth_ok : methT.allB (methBL Tryz.prog) = true := by kernel_rfl
theorem body_ok : memT.allB (fun f _ => match fnT.find f with | some fn => fn.body.isSome | none => false) = true := by kernel_rfl
theorem env_ok : EnvOk Fence.wide Tryz.prog env := envOk_of Fen.wide ty_ok depth_ok bty_ok mixed_ok (fun _ _ _ => Iff.rfl) fnT_ok fn_ok meth_ok cloneT_ok
theorem bodies : ∀ f t, memT.find f = some t → ∃ fn c, Tryz.prog.funcs[f]? = some fn ∧ fn.body = some c ∧ (fn.name == "runtime.NumGoroutine") = false := body_of (E := env) fnT_ok fn_ok body_ok
end Go.Proofs.YtfpkonppeefhfaaGreatDoor
