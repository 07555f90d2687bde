/-
  The greedy schedule, plainly: in which order costs are taken, and by whom.
-/
import Derived.Test.YtfpkonppeefhfaaGreatDoorQ2
set_option linter.unusedSectionVars false
set_option linter.unusedSimpArgs false
set_option linter.unusedVariables false
namespace Go.Proofs.YtfpkonppeefhfaaGreatDoor
open Go.As Go.Ms
def fam (l : List Int) : Nat → Nat
 | 0 => 0
 | n + 1 => if l.getD n 0 < l.getD (fam l n) 0 then n else fam l n
theorem fam_le (l : List Int) : ∀ n, fam l n = 0 ∨ fam l n < n
 | 0 => .inl rfl
 | n + 1 => by
  show (if _ then n else fam l n) = 0 ∨ (if _ then n else fam l n) < n + 1
  split
  ·exact .inr (Nat.lt_succ_self n)
  ·exact (fam_le l n).imp id fun h => by omega
theorem fam_lt (l : List Int) {n : Nat} (h : 0 < n) : fam l n < n := by
 rcases fam_le l n with h1 | h1 <;> omega
theorem fam_one (l : List Int) : fam l 1 = 0 := by
 show (if l.getD 0 0 < l.getD (fam l 0) 0 then 0 else fam l 0) = 0
 rw [show fam l 0 = 0 from rfl, if_neg (by omega)]
def gr (c o : List Int) (W : Nat) : Nat → List Int × List Int
 | 0 => (List.replicate W 0, List.replicate c.length 0)
 | k + 1 => ((gr c o W k).1.set (fam (gr c o W k).1 W) ((gr c o W k).1.getD (fam (gr c o W k).1 W) 0 + c.getD (o.getD k 0).toNat 0), (gr c o W k).2.set (o.getD k 0).toNat (fam (gr c o W k).1 W))
theorem gr_len (c o : List Int) (W : Nat) : ∀ k, (gr c o W k).1.length = W ∧ (gr c o W k).2.length = c.length
 | 0 => by simp [gr]
 | k + 1 => by
  have := gr_len c o W k
  simp [gr, this]
theorem gr_bd {c o : List Int} {W : Nat} (hc : ∀ i, i < c.length → 0 ≤ c.getD i 0 ∧ c.getD i 0 ≤ 1073741824) (ho : ∀ k, k < c.length → (o.getD k 0).toNat < c.length) : ∀ k, k ≤ c.length → ∀ w, 0 ≤ (gr c o W k).1.getD w 0 ∧ (gr c o W k).1.getD w 0 ≤ k * 1073741824
 | 0, _, w => by show 0 ≤ (List.replicate W (0 : Int)).getD w 0 ∧ (List.replicate W (0 : Int)).getD w 0 ≤ _; rw [rep0]; simp
 | k + 1, hk, w => by
  have h1 := gr_bd (W := W) hc ho k (by omega)
  have h2 := hc _ (ho k (by omega))
  show 0 ≤ (List.set _ _ _).getD w 0 ∧ (List.set _ _ _).getD w 0 ≤ _
  by_cases hw : fam (gr c o W k).1 W < (gr c o W k).1.length
  ·rw [gD_set _ _ _ _ hw]
   have a := h1 (fam (gr c o W k).1 W)
   have b := h1 w
   split <;> (rw [Int.natCast_add]; omega)
  ·rw [List.set_eq_of_length_le (by omega)]
   have b := h1 w
   rw [Int.natCast_add]; omega
theorem gr_rng {c o : List Int} {W : Nat} (hW : 0 < W) : ∀ k i, i < c.length → 0 ≤ (gr c o W k).2.getD i 0 ∧ (gr c o W k).2.getD i 0 < W
 | 0, i, _ => by show 0 ≤ (List.replicate c.length (0 : Int)).getD i 0 ∧ (List.replicate c.length (0 : Int)).getD i 0 < _; rw [rep0]; omega
 | k + 1, i, hi => by
  have h1 := gr_rng (o := o) hW k i hi
  have h2 := fam_lt (gr c o W k).1 hW
  show 0 ≤ (List.set _ _ _).getD i 0 ∧ (List.set _ _ _).getD i 0 < _
  by_cases hw : (o.getD k 0).toNat < (gr c o W k).2.length
  ·rw [gD_set _ _ _ _ hw]
   split <;> omega
  ·rw [List.set_eq_of_length_le (by omega)]
   exact h1
structure Lpt (c o : List Int) : Prop where
 perm : o.Perm (ord c.length)
 lt : ∀ p q : Nat, p < q → q < c.length → c.getD (o.getD q 0).toNat 0 < c.getD (o.getD p 0).toNat 0 ∨ (c.getD (o.getD q 0).toNat 0 = c.getD (o.getD p 0).toNat 0 ∧ o.getD p 0 < o.getD q 0)
theorem Lpt.len {c o : List Int} (h : Lpt c o) : o.length = c.length := by rw [h.perm.length_eq, ord_len]
theorem Lpt.mem {c o : List Int} (h : Lpt c o) {k : Nat} (hk : k < c.length) : 0 ≤ o.getD k 0 ∧ o.getD k 0 < c.length :=
 ord_mem (h.perm.mem_iff.1 (gD_mem (by rw [h.len]; exact hk)))
theorem Lpt.inj {c o : List Int} (h : Lpt c o) {p q : Nat} (hp : p < c.length) (hq : q < c.length) (e : o.getD p 0 = o.getD q 0) : p = q := by
 by_cases h1 : p < q
 ·have := h.lt p q h1 hq
  rw [e] at this
  omega
 ·by_cases h2 : q < p
  ·have := h.lt q p h2 hp
   rw [e] at this
   omega
  ·omega
theorem Lpt.at {c o : List Int} (h : Lpt c o) {i : Nat} (hi : i < c.length) : ∃ k, k < c.length ∧ o.getD k 0 = (i : Int) := by
 have hm : (i : Int) ∈ o := h.perm.mem_iff.2 (by
  unfold ord
  exact List.mem_map.2 ⟨i, List.mem_range.2 hi, rfl⟩)
 obtain ⟨k, hk, e⟩ := List.getElem_of_mem hm
 refine ⟨k, by rw [← h.len]; exact hk, ?_⟩
 rw [List.getD_eq_getElem?_getD, List.getElem?_eq_getElem hk, e]; rfl
theorem lpt_of {c o : List Int} (he : Eff c (ord c.length) o 0 c.length) (hs : Srt c o 0 c.length) : Lpt c o := by
 have hl : o.length = c.length := by rw [he.len, ord_len]
 have h0 : Stb c (ord c.length) := fun p q h0 hpq hq _ => by
  rw [ord_len] at hq
  have e : ∀ k : Int, 0 ≤ k → k < c.length → av (ord c.length) k = k := fun k k0 k1 => by
   show (ord c.length).getD k.toNat 0 = k
   unfold ord
   rw [List.getD_eq_getElem?_getD, List.getElem?_map, List.getElem?_range (by omega)]
   show Int.ofNat k.toNat = k
   have e : Int.ofNat k.toNat = (k.toNat : Int) := rfl
   omega
  rw [e p h0 (by omega), e q (by omega) hq]
  exact hpq
 have h1 := he.stb h0
 refine ⟨he.perm, fun p q hpq hq => ?_⟩
 have a := hs p q (by omega) (by omega) (by omega)
 have b := h1 p q (by omega) (by omega) (by omega)
 have e1 : av o (p : Int) = o.getD p 0 := by show o.getD (Int.toNat p) 0 = _; rw [Int.toNat_natCast]
 have e2 : av o (q : Int) = o.getD q 0 := by show o.getD (Int.toNat q) 0 = _; rw [Int.toNat_natCast]
 rw [e1, e2] at a b
 show ky c _ < ky c _ ∨ _
 by_cases e : ky c (o.getD p 0) = ky c (o.getD q 0)
 ·exact .inr ⟨e.symm, b e⟩
 ·exact .inl (by omega)
theorem Lpt.best {c o : List Int} (h : Lpt c o) {k i : Nat} (hk : k < c.length) (hi : i < c.length) (hd : ∀ j, j < k → o.getD j 0 ≠ (i : Int))
  (hm : ∀ j, j < c.length → (∀ m, m < k → o.getD m 0 ≠ (j : Int)) → c.getD j 0 ≤ c.getD i 0 ∧ (j < i → c.getD j 0 < c.getD i 0)) : o.getD k 0 = (i : Int) := by
 obtain ⟨m, hm1, hm2⟩ := h.at hi
 have hmk : ¬ m < k := fun q => hd m q hm2
 by_cases e : m = k
 ·rw [← e]; exact hm2
 ·exfalso
  have h1 := h.lt k m (by omega) hm1
  have h2 := h.mem hk
  have h3 := hm (o.getD k 0).toNat (by omega) (fun j hj q => by
   have : j = k := h.inj (by omega) hk (by rw [q]; omega)
   omega)
  rw [hm2] at h1
  rw [Int.toNat_natCast] at h1
  rcases h1 with h1 | ⟨h1, h1'⟩
  ·omega
  ·have := h3.2 (by omega)
   omega
end Go.Proofs.YtfpkonppeefhfaaGreatDoor
