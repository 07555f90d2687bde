/-
  Schedules, plainly: loads of workers, and what putting each cost onto a least loaded worker comes to. No program in sight.
-/
import Derived.Test.YtjdihfpfimkinaaGreatDoorA9
set_option linter.unusedSectionVars false
set_option linter.unusedSimpArgs false
set_option linter.unusedVariables false
namespace Go.Ms
open Go.As

/-! ### sums -/
def isum : List Int → Int
  | [] => 0
  | x :: l => x + isum l
theorem isum_app (a b : List Int) : isum (a ++ b) = isum a + isum b := by
  induction a with
  | nil => simp [isum]
  | cons x l ih => simp only [List.cons_append, isum, ih]; omega
theorem isum_perm {a b : List Int} (h : a.Perm b) : isum a = isum b := by
  induction h with
  | nil => rfl
  | cons x _ ih => simp only [isum, ih]
  | swap x y l => simp only [isum]; omega
  | trans _ _ h1 h2 => exact h1.trans h2
def sm (f : Nat → Int) : Nat → Int
  | 0 => 0
  | n + 1 => sm f n + f n
theorem sm_congr {f g : Nat → Int} : ∀ {n : Nat}, (∀ i, i < n → f i = g i) → sm f n = sm g n
  | 0, _ => rfl
  | n + 1, h => by
    show sm f n + f n = sm g n + g n
    rw [sm_congr fun i hi => h i (Nat.lt_succ_of_lt hi), h n (Nat.lt_succ_self n)]
theorem sm_add (f g : Nat → Int) : ∀ n : Nat, sm (fun i => f i + g i) n = sm f n + sm g n
  | 0 => rfl
  | n + 1 => by
    show sm (fun i => f i + g i) n + (f n + g n) = sm f n + f n + (sm g n + g n)
    rw [sm_add f g n]; omega
theorem sm_zero : ∀ n : Nat, sm (fun _ => 0) n = 0
  | 0 => rfl
  | n + 1 => by
    show sm (fun _ => 0) n + 0 = 0
    rw [sm_zero n]; rfl
theorem sm_le {f g : Nat → Int} : ∀ {n : Nat}, (∀ i, i < n → f i ≤ g i) → sm f n ≤ sm g n
  | 0, _ => Int.le_refl _
  | n + 1, h => by
    have h1 := sm_le fun i hi => h i (Nat.lt_succ_of_lt hi)
    have h2 := h n (Nat.lt_succ_self n)
    show sm f n + f n ≤ sm g n + g n
    omega
theorem sm_nn {f : Nat → Int} : ∀ {n : Nat}, (∀ i, i < n → 0 ≤ f i) → 0 ≤ sm f n
  | 0, _ => Int.le_refl _
  | n + 1, h => by
    have h1 := sm_nn fun i hi => h i (Nat.lt_succ_of_lt hi)
    have h2 := h n (Nat.lt_succ_self n)
    show 0 ≤ sm f n + f n
    omega
theorem sm_ge {f : Nat → Int} : ∀ {n : Nat}, (∀ i, i < n → 0 ≤ f i) → ∀ j, j < n → f j ≤ sm f n
  | 0, _, j, hj => by omega
  | n + 1, h, j, hj => by
    have h1 := sm_nn fun i hi => h i (Nat.lt_succ_of_lt hi)
    have h2 := h n (Nat.lt_succ_self n)
    show f j ≤ sm f n + f n
    by_cases e : j = n
    · subst e; omega
    · have := sm_ge (fun i hi => h i (Nat.lt_succ_of_lt hi)) j (by omega)
      omega
theorem sm_const (x : Int) : ∀ n : Nat, sm (fun _ => x) n = n * x
  | 0 => by show (0 : Int) = ((0 : Nat) : Int) * x; simp
  | n + 1 => by
    show sm (fun _ => x) n + x = ((n + 1 : Nat) : Int) * x
    rw [sm_const x n, Int.natCast_add, Int.add_mul]
    simp
theorem sm_single (k : Nat) (x : Int) : ∀ n : Nat, sm (fun w => if k = w then x else 0) n = if k < n then x else 0
  | 0 => by simp [sm]
  | n + 1 => by
    show sm (fun w => if k = w then x else 0) n + (if k = n then x else 0) = _
    rw [sm_single k x n]
    by_cases h : k < n
    · rw [if_pos h, if_neg (by omega), if_pos (by omega)]; omega
    · by_cases h2 : k = n
      · rw [if_neg h, if_pos h2, if_pos (by omega)]; omega
      · rw [if_neg h, if_neg h2, if_neg (by omega)]; omega
theorem isum_range (f : Nat → Int) : ∀ n : Nat, isum ((List.range n).map f) = sm f n
  | 0 => rfl
  | n + 1 => by
    rw [List.range_succ, List.map_append, isum_app, isum_range f n]
    show sm f n + (f n + 0) = sm f n + f n
    omega
/-- The greatest, at least zero. -/
def mxs (f : Nat → Int) : Nat → Int
  | 0 => 0
  | n + 1 => max (mxs f n) (f n)
theorem mxs_ge (f : Nat → Int) : ∀ n j, j < n → f j ≤ mxs f n
  | 0, j, h => by omega
  | n + 1, j, h => by
    show f j ≤ max (mxs f n) (f n)
    by_cases e : j = n
    · subst e; omega
    · have := mxs_ge f n j (by omega); omega
theorem mxs_nn (f : Nat → Int) : ∀ n, 0 ≤ mxs f n
  | 0 => Int.le_refl _
  | n + 1 => by
    have := mxs_nn f n
    show 0 ≤ max (mxs f n) (f n)
    omega
theorem mxs_le {f : Nat → Int} {x : Int} (hx : 0 ≤ x) : ∀ n, (∀ j, j < n → f j ≤ x) → mxs f n ≤ x
  | 0, _ => hx
  | n + 1, h => by
    have h1 := mxs_le hx n fun j hj => h j (by omega)
    have h2 := h n (by omega)
    show max (mxs f n) (f n) ≤ x
    omega

/-! ### lists of numbers -/
theorem gD {l : List Int} {i : Nat} (h : i < l.length) : l[i]? = some (l.getD i 0) := by
  rw [List.getElem?_eq_getElem h, List.getD_eq_getElem?_getD, List.getElem?_eq_getElem h]; rfl
theorem gD_set (l : List Int) (i : Nat) (x : Int) (j : Nat) (h : i < l.length) : (l.set i x).getD j 0 = if j = i then x else l.getD j 0 := by
  rw [List.getD_eq_getElem?_getD, List.getD_eq_getElem?_getD, List.getElem?_set]
  by_cases e : i = j
  · subst e; simp [h]
  · simp [e, Ne.symm e]
theorem gD_mem {l : List Int} {i : Nat} (h : i < l.length) : l.getD i 0 ∈ l := List.mem_of_getElem? (gD h)
theorem swp {d : List Int} {i j : Nat} (hi : i < d.length) (hj : j < d.length) : ((d.set i (d.getD j 0)).set j (d.getD i 0)).Perm d := by
  have e1 : d.getD j 0 = d[j] := by rw [List.getD_eq_getElem?_getD, List.getElem?_eq_getElem hj]; rfl
  have e2 : d.getD i 0 = d[i] := by rw [List.getD_eq_getElem?_getD, List.getElem?_eq_getElem hi]; rfl
  rw [e1, e2]
  exact List.set_set_perm hi hj
def cs (c : List Int) (i : Nat) : Int := c.getD i 0
/-- What the i-th cost brings to worker w. -/
def pl (c a : List Int) (w : Nat) (i : Nat) : Int := if a.getD i 0 = w then c.getD i 0 else 0
def ord (n : Nat) : List Int := (List.range n).map Int.ofNat
theorem ord_len (n : Nat) : (ord n).length = n := by simp [ord]
theorem ord_mem {n : Nat} {x : Int} (h : x ∈ ord n) : 0 ≤ x ∧ x < n := by
  unfold ord at h
  obtain ⟨i, hi, rfl⟩ := List.mem_map.1 h
  have := List.mem_range.1 hi
  have e : Int.ofNat i = (i : Int) := rfl
  omega
theorem ord_nodup (n : Nat) : (ord n).Nodup := by
  unfold ord
  exact List.Pairwise.map Int.ofNat (fun a b h e => h (Int.ofNat.inj e)) List.nodup_range

/-- The state of a greedy schedule behind k costs. -/
structure GInv (c o : List Int) (W k : Nat) (loads out : List Int) : Prop where
  lo : out.length = c.length
  ll : loads.length = W
  ro : ∀ i, i < c.length → 0 ≤ out.getD i 0 ∧ out.getD i 0 < W
  ld : ∀ w : Nat, w < W → loads.getD w 0 = isum ((o.take k).map fun i => pl c out w i.toNat)
  nn : ∀ w : Nat, w < W → 0 ≤ loads.getD w 0 ∧ loads.getD w 0 ≤ k * 1073741824
  tot : sm (fun w => loads.getD w 0) W = isum ((o.take k).map fun i => cs c i.toNat)
  bd : ∀ w : Nat, w < W → W * loads.getD w 0 ≤ isum ((o.take k).map fun i => cs c i.toNat) + (W - 1) * mxs (cs c) c.length
theorem rep0 (n i : Nat) : (List.replicate n (0 : Int)).getD i 0 = 0 := by
  rw [List.getD_eq_getElem?_getD, List.getElem?_replicate]
  split <;> rfl
theorem GInv.zero (c o : List Int) {W : Nat} (hW : 1 ≤ W) : GInv c o W 0 (List.replicate W 0) (List.replicate c.length 0) := by
  refine ⟨by simp, by simp, fun i _ => ?_, fun w _ => ?_, fun w _ => ?_, ?_, fun w _ => ?_⟩
  · rw [rep0]; omega
  · rw [rep0]; simp [isum]
  · rw [rep0]; simp
  · rw [sm_congr (g := fun _ => 0) fun i _ => rep0 W i, sm_zero]; simp [isum]
  · rw [rep0]
    simp only [List.take_zero, List.map_nil, isum]
    have h1 : (0 : Int) ≤ (W : Int) - 1 := by omega
    have := Int.mul_nonneg h1 (mxs_nn (cs c) c.length)
    simp; exact this
theorem sm_set {l : List Int} {i : Nat} {x : Int} (h : i < l.length) (n : Nat) (hn : i < n) : sm (fun w => (l.set i (l.getD i 0 + x)).getD w 0) n = sm (fun w => l.getD w 0) n + x := by
  have : ∀ w, w < n → (l.set i (l.getD i 0 + x)).getD w 0 = l.getD w 0 + (if i = w then x else 0) := fun w _ => by
    rw [gD_set l i _ w h]
    by_cases e : w = i
    · subst e; simp
    · rw [if_neg e, if_neg (Ne.symm e)]; omega
  rw [sm_congr this, sm_add, sm_single, if_pos hn]
theorem GInv.step {c o : List Int} {W k : Nat} {loads out : List Int} (h : GInv c o W k loads out) (ho : o.Perm (ord c.length)) (hk : k < c.length)
    (hc : ∀ i, i < c.length → 0 ≤ c.getD i 0 ∧ c.getD i 0 ≤ 1073741824) {who : Nat} (hw : who < W) (hmin : ∀ j, j < W → loads.getD who 0 ≤ loads.getD j 0) :
    GInv c o W (k + 1) (loads.set who (loads.getD who 0 + c.getD (o.getD k 0).toNat 0)) (out.set (o.getD k 0).toNat who) := by
  have hlen : o.length = c.length := by rw [ho.length_eq, ord_len]
  have hko : k < o.length := by omega
  have hmem := gD_mem hko
  have hr := ord_mem (ho.mem_iff.1 hmem)
  have hnd : o.Nodup := ho.nodup_iff.2 (ord_nodup _)
  have htake : o.take (k + 1) = o.take k ++ [o.getD k 0] := by
    rw [List.take_add_one, gD hko]; rfl
  generalize hj : o.getD k 0 = j at *
  have hjl : j.toNat < c.length := by omega
  have hjo : j.toNat < out.length := by rw [h.lo]; exact hjl
  have hwl : who < loads.length := by rw [h.ll]; exact hw
  obtain ⟨hx0, hx1⟩ := hc _ hjl
  have hnotin : ∀ i ∈ o.take k, i.toNat ≠ j.toNat := fun i hi e => by
    have hi2 := ord_mem (ho.mem_iff.1 (List.mem_of_mem_take hi))
    have hij : i = j := by omega
    subst hij
    have h1 : (o.take k ++ [i]).Nodup := by rw [← htake]; exact hnd.sublist (List.take_sublist ..)
    rw [List.nodup_append] at h1
    exact h1.2.2 i hi i (List.mem_singleton.2 rfl) rfl
  have hsame : ∀ w, (o.take k).map (fun i => pl c (out.set j.toNat who) w i.toNat) = (o.take k).map (fun i => pl c out w i.toNat) := fun w =>
    List.map_congr_left fun i hi => by
      show (if (out.set j.toNat who).getD i.toNat 0 = w then _ else _) = if out.getD i.toNat 0 = w then _ else _
      rw [gD_set out _ _ _ hjo, if_neg (hnotin i hi)]
  have hlast : ∀ w : Nat, pl c (out.set j.toNat who) w j.toNat = if who = w then c.getD j.toNat 0 else 0 := fun w => by
    show (if (out.set j.toNat who).getD j.toNat 0 = w then _ else _) = _
    rw [gD_set out _ _ _ hjo, if_pos rfl]
    by_cases e : who = w
    · rw [if_pos e, if_pos (by omega)]
    · rw [if_neg e, if_neg (by omega)]
  have hT : isum ((o.take (k + 1)).map fun i => cs c i.toNat) = isum ((o.take k).map fun i => cs c i.toNat) + c.getD j.toNat 0 := by
    rw [htake, List.map_append, isum_app]
    show _ + (cs c j.toNat + 0) = _
    unfold cs
    omega
  have hmx : c.getD j.toNat 0 ≤ mxs (cs c) c.length := mxs_ge (cs c) _ _ hjl
  refine ⟨by rw [List.length_set]; exact h.lo, by rw [List.length_set]; exact h.ll, fun i hi => ?_, fun w hw' => ?_, fun w hw' => ?_, ?_, fun w hw' => ?_⟩
  · rw [gD_set out _ _ _ hjo]
    split
    · omega
    · exact h.ro i hi
  · rw [gD_set loads _ _ _ hwl, htake, List.map_append, isum_app, hsame]
    show _ = _ + (pl c (out.set j.toNat who) w j.toNat + 0)
    rw [hlast, ← h.ld w hw']
    by_cases e : w = who
    · subst e; simp
    · rw [if_neg e, if_neg (Ne.symm e)]; omega
  · rw [gD_set loads _ _ _ hwl]
    have h1 := h.nn w hw'
    have h2 := h.nn who hw
    split <;> (rw [Int.natCast_add]; omega)
  · rw [sm_set hwl W hw, h.tot, hT]
  · rw [gD_set loads _ _ _ hwl, hT]
    have h1 := h.bd w hw'
    split
    · have h3 : sm (fun _ => loads.getD who 0) W ≤ sm (fun w => loads.getD w 0) W := sm_le hmin
      rw [sm_const, h.tot] at h3
      rw [Int.mul_add]
      have h4 : (W : Int) * c.getD j.toNat 0 = c.getD j.toNat 0 + ((W : Int) - 1) * c.getD j.toNat 0 := by rw [Int.sub_mul]; omega
      have h5 : ((W : Int) - 1) * c.getD j.toNat 0 ≤ ((W : Int) - 1) * mxs (cs c) c.length := Int.mul_le_mul_of_nonneg_left hmx (by omega)
      omega
    · omega
/-- A schedule that is as good as the rule promises. -/
structure Sched (c a : List Int) (W : Nat) : Prop where
  len : a.length = c.length
  rng : ∀ i, i < c.length → 0 ≤ a.getD i 0 ∧ a.getD i 0 < W
  bd : ∀ w : Nat, w < W → W * sm (pl c a w) c.length ≤ sm (cs c) c.length + (W - 1) * mxs (cs c) c.length
theorem isum_ord {o : List Int} {n : Nat} (ho : o.Perm (ord n)) (f : Nat → Int) : isum (o.map fun i => f i.toNat) = sm f n := by
  rw [isum_perm (ho.map fun i => f i.toNat)]
  unfold ord
  rw [List.map_map, ← isum_range f n]
  rfl
theorem GInv.done {c o : List Int} {W : Nat} {loads out : List Int} (h : GInv c o W c.length loads out) (ho : o.Perm (ord c.length)) : Sched c out W := by
  have hlen : o.length = c.length := by rw [ho.length_eq, ord_len]
  have ht : o.take c.length = o := by rw [← hlen]; exact List.take_length
  refine ⟨h.lo, h.ro, fun w hw => ?_⟩
  have h1 := h.bd w hw
  rw [h.ld w hw, ht, isum_ord ho (pl c out w), isum_ord ho (cs c)] at h1
  exact h1
/-- All loads together. -/
theorem sm_loads (c a : List Int) (W : Nat) : ∀ n, (∀ i, i < n → 0 ≤ a.getD i 0 ∧ a.getD i 0 < W) → sm (fun w => sm (pl c a w) n) W = sm (cs c) n
  | 0, _ => sm_zero W
  | n + 1, h => by
    have h1 := sm_loads c a W n fun i hi => h i (by omega)
    have h2 := h n (by omega)
    show sm (fun w => sm (pl c a w) n + pl c a w n) W = sm (cs c) n + cs c n
    rw [sm_add, h1]
    have : ∀ w, w < W → pl c a w n = if (a.getD n 0).toNat = w then cs c n else 0 := fun w _ => by
      unfold pl cs
      by_cases e : a.getD n 0 = (w : Int)
      · rw [if_pos e, if_pos (by omega)]
      · rw [if_neg e, if_neg (by omega)]
    rw [sm_congr this, sm_single, if_pos (by omega)]
theorem Sched.law {c a : List Int} {W : Nat} (h : Sched c a W) (hc : ∀ i, i < c.length → 0 ≤ c.getD i 0 ∧ c.getD i 0 ≤ 1073741824) {m : Int}
    (h1 : ∃ w : Nat, w < W ∧ m = sm (pl c a w) c.length) (h2 : ∀ w : Nat, w < W → sm (pl c a w) c.length ≤ m) :
    mxs (cs c) c.length ≤ m ∧ m ≤ sm (cs c) c.length ∧ sm (cs c) c.length ≤ W * m ∧ W * m ≤ sm (cs c) c.length + (W - 1) * mxs (cs c) c.length := by
  obtain ⟨w, hw, rfl⟩ := h1
  have hpl : ∀ w i, i < c.length → 0 ≤ pl c a w i := fun w i hi => by
    unfold pl
    split
    · exact (hc i hi).1
    · exact Int.le_refl _
  refine ⟨mxs_le (sm_nn (hpl w)) _ fun j hj => ?_, ?_, ?_, h.bd w hw⟩
  · have hr := h.rng j hj
    have h3 := h2 (a.getD j 0).toNat (by omega)
    have h4 := sm_ge (hpl (a.getD j 0).toNat) j hj
    have h5 : pl c a (a.getD j 0).toNat j = cs c j := by
      unfold pl cs
      rw [if_pos (by omega)]
    rw [h5] at h4
    omega
  · exact sm_le fun i hi => by
      unfold pl cs
      split
      · exact Int.le_refl _
      · exact (hc i hi).1
  · have h3 := sm_le h2
    rw [sm_loads c a W _ h.rng, sm_const] at h3
    exact h3
theorem sm_bd {c : List Int} (hc : ∀ i, i < c.length → 0 ≤ c.getD i 0 ∧ c.getD i 0 ≤ 1073741824) : ∀ n, n ≤ c.length → 0 ≤ sm (cs c) n ∧ sm (cs c) n ≤ n * 1073741824
  | 0, _ => by simp [sm]
  | n + 1, h => by
    have h1 := sm_bd hc n (by omega)
    have h2 := hc n (by omega)
    show 0 ≤ sm (cs c) n + cs c n ∧ sm (cs c) n + cs c n ≤ _
    unfold cs at *
    rw [Int.natCast_add]
    omega
theorem pl_bd {c a : List Int} (hc : ∀ i, i < c.length → 0 ≤ c.getD i 0 ∧ c.getD i 0 ≤ 1073741824) (w : Nat) : ∀ n, n ≤ c.length → 0 ≤ sm (pl c a w) n ∧ sm (pl c a w) n ≤ n * 1073741824
  | 0, _ => by simp [sm]
  | n + 1, h => by
    have h1 := pl_bd (a := a) hc w n (by omega)
    have h2 := hc n (by omega)
    have h3 : 0 ≤ pl c a w n ∧ pl c a w n ≤ 1073741824 := by
      unfold pl
      split <;> omega
    show 0 ≤ sm (pl c a w) n + pl c a w n ∧ sm (pl c a w) n + pl c a w n ≤ _
    rw [Int.natCast_add]
    omega
end Go.Ms
