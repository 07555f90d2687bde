/-
  The law answers true, whatever its arguments are.
-/
import Derived.Test.YtjdihfpfimkinaaGreatDoorEnv
import Derived.Test.YtjdihfpfimkinaaGreatDoorK0
import Derived.Test.YtjdihfpfimkinaaGreatDoorK1
import Derived.Test.YtjdihfpfimkinaaGreatDoorK2
import Derived.Test.YtjdihfpfimkinaaGreatDoorK3
import Derived.Test.YtjdihfpfimkinaaGreatDoorS
import Derived.Test.YtjdihfpfimkinaaGreatDoorP2
set_option linter.unusedSectionVars false
set_option linter.unusedSimpArgs false
set_option linter.unusedVariables false
namespace Go.Proofs.YtjdihfpfimkinaaGreatDoor
open Go.As
theorem table_ok : As.Claim Fence.wide Tryz.prog memT 322 :=
  As.Claim.more env_ok Fen.wide (As.Claim.more env_ok Fen.wide (As.Claim.more env_ok Fen.wide (As.Claim.more env_ok Fen.wide (As.Claim.zero memT) bodies calls0) bodies calls1) bodies calls2) bodies calls3
theorem env2_ok : EnvOk Fence.wide Tryz.prog (env.addB memT 322) := env_ok.addB table_ok bodies
/-- The chapter's examples hold. -/
theorem exam_in : (match memT.find 4 with | some t => memoB t 322 [] | none => none) = some (.bool true) := by kernel_rfl
theorem exam_good : GoodE Fence.wide Tryz.prog 4 [] (.bool true) := by
  have h := exam_in
  cases ht : memT.find 4 with
  | none => rw [ht] at h; cases h
  | some t =>
    rw [ht] at h
    have hs : (env.addB memT 322).sm 4 = some (memoB t 322) := by
      show (match memT.find 4 with | some t => some (memoB t 322) | none => none) = _
      rw [ht]
    exact ⟨bodies 4 t ht, (env2_ok.sm 4 _ hs).2 [] _ h⟩
theorem claimE : As.Claim Fence.wide Tryz.prog memE 1 := by
  intro f t hf k l hk e he _
  have hf : (bif Nat.beq f 4 then some _ else (bif Nat.blt f 4 then none else none)) = some t := hf
  cases hb : Nat.beq f 4 with
  | false =>
    rw [hb, cond_false] at hf
    cases hq : Nat.blt f 4 <;> rw [hq] at hf <;> cases hf
  | true =>
    rw [hb, cond_true] at hf
    cases hf
    obtain rfl := Nat.eq_of_beq_eq_true hb
    have hk : (bif Nat.beq k (keyL []) then some [(⟨0, [], .bool true⟩ : Ent)] else (bif Nat.blt k (keyL []) then none else none)) = some l := hk
    cases hb : Nat.beq k (keyL []) with
    | false =>
      rw [hb, cond_false] at hk
      cases hq : Nat.blt k (keyL []) <;> rw [hq] at hk <;> cases hk
    | true =>
      rw [hb, cond_true] at hk
      cases hk
      obtain rfl := List.mem_singleton.1 he
      exact exam_good
theorem envE_ok : EnvOk Fence.wide Tryz.prog envE := env_ok.addB claimE fun f t hf => by
  have hf : (bif Nat.beq f 4 then some _ else (bif Nat.blt f 4 then none else none)) = some t := hf
  cases hb : Nat.beq f 4 with
  | false =>
    rw [hb, cond_false] at hf
    cases hq : Nat.blt f 4 <;> rw [hq] at hf <;> cases hf
  | true =>
    obtain rfl := Nat.eq_of_beq_eq_true hb
    exact exam_good.1
noncomputable def u0 : Ty := .slc (.int .i64)
noncomputable def u1 : Ty := .int .i64
theorem law_ok (x0 : (u0).den) (x1 : (u1).den) : DataOk Fence.wide Tryz.prog 3 [u0.enc x0, u1.enc x1] (.bool true) :=
  (dataV_sound (X_sound envE_ok Fen.wide) envE_ok Fen.wide (lawM_ok.data (x := (x0, (x1, ()))) (y := true) (lawM_p x0 x1) rfl)).2
end Go.Proofs.YtjdihfpfimkinaaGreatDoor
