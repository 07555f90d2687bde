/-
  Places of costs; comparing them.
-/
import Derived.Test.YtfpkonppeefhfaaGreatDoorT
import Derived.Test.YtfpkonppeefhfaaGreatDoorKit
set_option linter.unusedSectionVars false
set_option linter.unusedSimpArgs false
set_option linter.unusedVariables false
namespace Go.Proofs.YtfpkonppeefhfaaGreatDoor
open Go.As Go.Ms
def Rg (c d : List Int) : Prop := ∀ x ∈ d, 0 ≤ x ∧ x < c.length
theorem Rg.perm {c d d' : List Int} (h : Rg c d) (p : d'.Perm d) : Rg c d' := fun x hx => h x (p.mem_iff.1 hx)
theorem Rg.at {c d : List Int} (h : Rg c d) {i : Int} (h0 : 0 ≤ i) (h1 : i < d.length) : 0 ≤ d.getD i.toNat 0 ∧ d.getD i.toNat 0 < c.length := h _ (gD_mem (by omega))
theorem cmp_p (a b : Int) : cmpI a b = some (if a < b then -1 else if b < a then 1 else 0) := by
 unfold cmpI
 rw [ieq_t rfl, ieq_t rfl]
 simp only [cond_true, cond_false]
 by_cases h : a < b
 ·rw [ilt_t h, if_pos h]; rfl
 ·rw [ilt_f (by omega), if_neg h]
  by_cases h2 : b < a
  ·rw [ilt_t h2, if_pos h2]; rfl
  ·rw [ilt_f (by omega), if_neg h2]; rfl
theorem cmp_lt (a b : Int) : ilt (if a < b then -1 else if b < a then 1 else 0) 0 = decide (a < b) := by
 by_cases h : a < b
 ·rw [if_pos h, ilt_t (by omega)]; simp [h]
 ·rw [if_neg h]
  by_cases h2 : b < a
  ·rw [if_pos h2, ilt_f (by omega)]; simp [h]
  ·rw [if_neg h2, ilt_f (by omega)]; simp [h]
end Go.Proofs.YtfpkonppeefhfaaGreatDoor
