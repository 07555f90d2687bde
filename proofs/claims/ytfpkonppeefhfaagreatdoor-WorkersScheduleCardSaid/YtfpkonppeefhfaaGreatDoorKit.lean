/-
  For reading trees: conditions that are known, numbers that fit, places that are there.
-/
import Derived.Test.YtfpkonppeefhfaaGreatDoorMath
set_option linter.unusedSectionVars false
set_option linter.unusedSimpArgs false
set_option linter.unusedVariables false
namespace Go.Ms
open Go.As
theorem ilt_t {x y : Int} (h : x < y) : ilt x y = true := by rw [ilt_d]; exact decide_eq_true h
theorem ilt_f {x y : Int} (h : y ≤ x) : ilt x y = false := by rw [ilt_d]; exact decide_eq_false (by omega)
theorem ile_t {x y : Int} (h : x ≤ y) : ile x y = true := by rw [ile_d]; exact decide_eq_true h
theorem ile_f {x y : Int} (h : y < x) : ile x y = false := by rw [ile_d]; exact decide_eq_false (by omega)
theorem ieq_t {x y : Int} (h : x = y) : ieq x y = true := by rw [ieq_d]; exact decide_eq_true h
theorem ieq_f {x y : Int} (h : x ≠ y) : ieq x y = false := by rw [ieq_d]; exact decide_eq_false h
theorem wr_i {n : Int} (h1 : -9223372036854775808 ≤ n) (h2 : n < 9223372036854775808) : wr .i64 n = n := wr_i64 h1 h2
theorem wr_u {n : Int} (h1 : 0 ≤ n) (h2 : n < 18446744073709551616) : wr .u64 n = n := by
 rw [wr_d]
 unfold IntKind.wrap
 simp only [IntKind.bits, IntKind.signed]
 simp
 omega
theorem gI {l : List Int} {i : Int} (h0 : 0 ≤ i) (h : i < l.length) : l[i.toNat]? = some (l.getD i.toNat 0) := gD (by omega)
theorem fd2 (n : Int) : n.fdiv 2 = n / 2 := Int.fdiv_eq_ediv_of_nonneg n (by omega)
theorem joinO_inl {σ ρ : Type} (s : σ) (k : σ → Option ρ) : joinO (some (.inl s)) k = k s := rfl
theorem joinO_inr {σ ρ : Type} (r : ρ) (k : σ → Option ρ) : joinO (some (.inr r)) k = some r := rfl
theorem bind_inl {α β : Type} (x : α) (f : α → Option β) : (some x).bind f = f x := rfl
theorem swpI {d : List Int} {i j : Int} (hi : 0 ≤ i) (hi' : i < d.length) (hj : 0 ≤ j) (hj' : j < d.length) : ((d.set i.toNat (d.getD j.toNat 0)).set j.toNat (d.getD i.toNat 0)).Perm d := swp (by omega) (by omega)
end Go.Ms
