/-
  Schedules, plainly: loads of workers, and what putting each cost onto a least loaded worker comes to. No program in sight.
-/
import Derived.Test.YtfpkonppeefhfaaGreatDoorA9
set_option linter.unusedSectionVars false
set_option linter.unusedSimpArgs false
set_option linter.unusedVariables false
namespace Go.Ms
open Go.As
theorem gD {l : List Int} {i : Nat} (h : i < l.length) : l[i]? = some (l.getD i 0) := by
 rw [List.getElem?_eq_getElem h, List.getD_eq_getElem?_getD, List.getElem?_eq_getElem h]; rfl
theorem gD_set (l : List Int) (i : Nat) (x : Int) (j : Nat) (h : i < l.length) : (l.set i x).getD j 0 = if j = i then x else l.getD j 0 := by
 rw [List.getD_eq_getElem?_getD, List.getD_eq_getElem?_getD, List.getElem?_set]
 by_cases e : i = j
 ·subst e; simp [h]
 ·simp [e, Ne.symm e]
theorem gD_mem {l : List Int} {i : Nat} (h : i < l.length) : l.getD i 0 ∈ l := List.mem_of_getElem? (gD h)
theorem swp {d : List Int} {i j : Nat} (hi : i < d.length) (hj : j < d.length) : ((d.set i (d.getD j 0)).set j (d.getD i 0)).Perm d := by
 have e1 : d.getD j 0 = d[j] := by rw [List.getD_eq_getElem?_getD, List.getElem?_eq_getElem hj]; rfl
 have e2 : d.getD i 0 = d[i] := by rw [List.getD_eq_getElem?_getD, List.getElem?_eq_getElem hi]; rfl
 rw [e1, e2]
 exact List.set_set_perm hi hj
def ord (n : Nat) : List Int := (List.range n).map Int.ofNat
theorem ord_len (n : Nat) : (ord n).length = n := by simp [ord]
theorem ord_mem {n : Nat} {x : Int} (h : x ∈ ord n) : 0 ≤ x ∧ x < n := by
 unfold ord at h
 obtain ⟨i, hi, rfl⟩ := List.mem_map.1 h
 have := List.mem_range.1 hi
 have e : Int.ofNat i = (i : Int) := rfl
 omega
theorem ord_nodup (n : Nat) : (ord n).Nodup := by
 unfold ord
 exact List.Pairwise.map Int.ofNat (fun a b h e => h (Int.ofNat.inj e)) List.nodup_range
theorem rep0 (n i : Nat) : (List.replicate n (0 : Int)).getD i 0 = 0 := by
 rw [List.getD_eq_getElem?_getD, List.getElem?_replicate]
 split <;> rfl
end Go.Ms
