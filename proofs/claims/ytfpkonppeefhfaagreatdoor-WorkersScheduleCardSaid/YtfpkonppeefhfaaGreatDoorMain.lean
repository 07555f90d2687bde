/-
  The law answers true, whatever its arguments are.
-/
import Derived.Test.YtfpkonppeefhfaaGreatDoorEnv
import Derived.Test.YtfpkonppeefhfaaGreatDoorK0
import Derived.Test.YtfpkonppeefhfaaGreatDoorK1
import Derived.Test.YtfpkonppeefhfaaGreatDoorK2
import Derived.Test.YtfpkonppeefhfaaGreatDoorK3
import Derived.Test.YtfpkonppeefhfaaGreatDoorS
import Derived.Test.YtfpkonppeefhfaaGreatDoorLaw
set_option linter.unusedSectionVars false
set_option linter.unusedSimpArgs false
set_option linter.unusedVariables false
namespace Go.Proofs.YtfpkonppeefhfaaGreatDoor
open Go.As
theorem table_ok : As.Claim Fence.wide Tryz.prog memT 332 :=
 As.Claim.more env_ok Fen.wide (As.Claim.more env_ok Fen.wide (As.Claim.more env_ok Fen.wide (As.Claim.more env_ok Fen.wide (As.Claim.zero memT) bodies calls0) bodies calls1) bodies calls2) bodies calls3
theorem env2_ok : EnvOk Fence.wide Tryz.prog (env.addB memT 332) := env_ok.addB table_ok bodies
theorem exam_in : (match memT.find 4 with | some t => memoB t 332 [] | none => none) = some (.bool true) := by kernel_rfl
theorem exam_good : GoodE Fence.wide Tryz.prog 4 [] (.bool true) := by
 have h := exam_in
 cases ht : memT.find 4 with
 | none => rw [ht] at h; cases h
 | some t =>
  rw [ht] at h
  have hs : (env.addB memT 332).sm 4 = some (memoB t 332) := by
   show (match memT.find 4 with | some t => some (memoB t 332) | none => none) = _
   rw [ht]
  exact ⟨bodies 4 t ht, (env2_ok.sm 4 _ hs).2 [] _ h⟩
theorem claimE : As.Claim Fence.wide Tryz.prog memE 1 := by
 intro f t hf k l hk e he _
 have hf : (bif Nat.beq f 4 then some _ else (bif Nat.blt f 4 then none else none)) = some t := hf
 cases hb : Nat.beq f 4 with
 | false =>
  rw [hb, cond_false] at hf
  cases hq : Nat.blt f 4 <;> rw [hq] at hf <;> cases hf
 | true =>
  rw [hb, cond_true] at hf
  cases hf
  obtain rfl := Nat.eq_of_beq_eq_true hb
  have hk : (bif Nat.beq k (keyL []) then some [(⟨0, [], .bool true⟩ : Ent)] else (bif Nat.blt k (keyL []) then none else none)) = some l := hk
  cases hb : Nat.beq k (keyL []) with
  | false =>
   rw [hb, cond_false] at hk
   cases hq : Nat.blt k (keyL []) <;> rw [hq] at hk <;> cases hk
  | true =>
   rw [hb, cond_true] at hk
   cases hk
   obtain rfl := List.mem_singleton.1 he
   exact exam_good
theorem envE_ok : EnvOk Fence.wide Tryz.prog envE := env_ok.addB claimE fun f t hf => by
 have hf : (bif Nat.beq f 4 then some _ else (bif Nat.blt f 4 then none else none)) = some t := hf
 cases hb : Nat.beq f 4 with
 | false =>
  rw [hb, cond_false] at hf
  cases hq : Nat.blt f 4 <;> rw [hq] at hf <;> cases hf
 | true =>
  obtain rfl := Nat.eq_of_beq_eq_true hb
  exact exam_good.1
noncomputable def u0 : Ty := .slc (.int .i64)
noncomputable def u1 : Ty := .slc (.int .i64)
noncomputable def u2 : Ty := .int .i64
theorem law_ok (x0 : (u0).den) (x1 : (u1).den) (x2 : (u2).den) : DataOk Fence.wide Tryz.prog 3 [u0.enc x0, u1.enc x1, u2.enc x2] (.bool true) :=
 (dataV_sound (X_sound envE_ok Fen.wide) envE_ok Fen.wide (lawS_ok.data (x := (x0, (x1, (x2, ())))) (y := true) (lawS_p x0 x1 x2) rfl)).2
end Go.Proofs.YtfpkonppeefhfaaGreatDoor
