/-
  The lifted law: for every input the law returns true, its arguments read as before, memory that was there is as it was. No further condition.
-/
import Derived.Test.YtfpkonppeefhfaaGreatDoorRows
import Derived.Test.YtfpkonppeefhfaaGreatDoorA6
import Derived.Test.YtfpkonppeefhfaaGreatDoorMain
import Derived.ChangeSame
import Derived.ChangeVars
import Derived.JoinedOf
import Derived.RowKit
import Derived.RowKitTokens
import Derived.LaidLaws
import Derived.LaidHandle
import Derived.Stop.Joined
import Derived.Lib.SmallJoins
set_option linter.unusedSectionVars false
set_option linter.unusedSimpArgs false
set_option linter.unusedVariables false
namespace Go.Proofs.YtfpkonppeefhfaaGreatDoor
open Go Go.ChangeShapes Go.WideShapes Go.RowKit Go.Joins
theorem own : ownKnob Tryz.prog.godebug = none := by kernel_rfl
def laidL : List (String × DataW Unit) := [("errors.errorType", Rows.laid_errors_errorType)]
noncomputable def laidWorld (os : Os) : World :=
 let w0 := World.holding Tryz.prog os ⟨#[], #[], []⟩
 {w0 with heap := w0.heap.modify 0 fun
   | .cells _ t frozen => .cells #[.iface 201 (.agg #[typeHandle Tryz.prog 140])] t frozen
   | o => o }
theorem laidWorld_met (os : Os) (args : Array Value) : laidMetH Tryz.prog laidL ((laidWorld os).forCall (fun _ _ => 0) ⟨#[], args, []⟩).memory :=
 laidMetH_of_parts (laidMet_nil _ _) (by kernel_rfl)
noncomputable def zeroOf (t : Nat) : Value := match (Tryz.prog.info? t).bind (·.zero) with | some z => z | none => .bool false
theorem a0_ok : As.argOk env 16 22 u0 = true := by kernel_rfl
theorem a1_ok : As.argOk env 16 22 u1 = true := by kernel_rfl
theorem a2_ok : As.argOk env 16 3 u2 = true := by kernel_rfl
theorem types_in : ∀ t ∈ Tryz.f3.params.toList, As.TyIn env t := by
 rw [Tryz.params3]
 intro t ht
 have ht : t ∈ [22, 22, 3] := ht
 simp only [List.mem_cons, List.not_mem_nil, or_false] at ht
 rcases ht with rfl | rfl | rfl
 ·exact ⟨_, _, a0_ok⟩
 ·exact ⟨_, _, a1_ok⟩
 ·exact ⟨_, _, a2_ok⟩
set_option maxRecDepth 100000 in
theorem law_lifted (os : Os) (started : os.Started) (H : Type) (enc : TypeId × Value → H) :
  ReturnsInHanded {} Tryz.checked os 3 .any (fun w args => (Rows.workersScheduleSpec.pre enc Tryz.prog Tryz.f3 [] false w args ∧ laidMetH Tryz.prog laidL w) ∧ sizedMet enc Tryz.prog Tryz.f3 (OpenSpec.ofChange Rows.workersScheduleSpec) false w args)
   (Rows.workersScheduleSpec.post enc Tryz.prog Tryz.f3 false true false false) := by
 refine returnsInHanded_of_change_and (C := Tryz.checked) (X := fun w _ => laidMetH Tryz.prog laidL w) (fun _ _ _ hh h => h.of_heap hh) own started (by kernel_rfl) Tryz.func3
  (ChangeSpec.witness_at (enc := enc) (C := Tryz.checked) (os := os) (X := fun w _ => laidMetH Tryz.prog laidL w) false (laidWorld os) #[zeroOf 22, zeroOf 22, zeroOf 3] 16 rfl (by kernel_rfl) (by kernel_rfl) (by kernel_rfl) (by kernel_rfl) (by kernel_rfl) (laidWorld_met os _)) ?_
 intro W base args ds gs before hval0 hW _ _ hL _
 have hval : ∀ (j : Nat) t v, Tryz.f3.params[j]? = some t → args[j]? = some v → Value.okWide Tryz.prog W .any base t v := hval0
 have hW' := hW
 obtain ⟨p, q, hA0, hV0, _⟩ := hW
 have hA : DataW.TrodAll enc Tryz.prog W 0 (fun _ => true) true Tryz.f3.params.toList args.toList ds p := hA0
 have hV : DataW.TrodVars enc Tryz.prog W (fun _ => true) [] gs q := hV0
 obtain ⟨rfl, rfl⟩ : gs = [] ∧ q = [] := by
  cases gs with
  | nil => exact ⟨rfl, hV⟩
  | cons g r => exact absurd hV (by intro h; cases h)
 rw [Tryz.params3] at hA hval
 obtain ⟨v0, v1, v2, d0, d1, d2, p0, p1, p2, rfl, rfl, rfl, h0, h1, h2⟩ := trodAll_three hA
 obtain ⟨x0, r0, _⟩ := As.arg_rel env_ok.toEnvTy a0_ok (hval 0 22 v0 rfl rfl) h0
 obtain ⟨x1, r1, _⟩ := As.arg_rel env_ok.toEnvTy a1_ok (hval 1 22 v1 rfl rfl) h1
 obtain ⟨x2, r2, _⟩ := As.arg_rel env_ok.toEnvTy a2_ok (hval 2 3 v2 rfl rfl) h2
 have hr : As.All2 (fun d x => As.REL (fun p => W.cell? p) d true [x]) [u0.enc x0, u1.enc x1, u2.enc x2] (#[v0, v1, v2] : Array Value).toList := As.All2.cons r0 (As.All2.cons r1 (As.All2.cons r2 (As.All2.nil)))
 refine (As.calls_true_mem (law_ok x0 x1 x2) W hr).mono fun e W' ⟨he, hw⟩ => ?_
 subst he
 exact ⟨_, rfl, As.post_of_data env_ok.toEnvTy hW' rfl rfl types_in (fun _ _ _ => trodAll_mk1 (shut_bool Tryz.underlying4 true)) rfl rfl hw (ok_one (by kernel_rfl) rfl (okWide_bool_mk Tryz.underlying4 true))⟩
end Go.Proofs.YtfpkonppeefhfaaGreatDoor
