/-
  Sorting in place, exactly: what is left is in order, and equals keep theirs.
-/
import Derived.Test.YtfpkonppeefhfaaGreatDoorP1
set_option linter.unusedSectionVars false
set_option linter.unusedSimpArgs false
set_option linter.unusedVariables false
namespace Go.Proofs.YtfpkonppeefhfaaGreatDoor
open Go.As Go.Ms
@[reducible] def av (d : List Int) (i : Int) : Int := d.getD i.toNat 0
@[reducible] def ky (c : List Int) (x : Int) : Int := c.getD x.toNat 0
def Srt (c d : List Int) (lo hi : Int) : Prop := ∀ p q : Int, lo ≤ p → p < q → q < hi → ky c (av d q) ≤ ky c (av d p)
def Stb (c d : List Int) : Prop := ∀ p q : Int, 0 ≤ p → p < q → q < d.length → ky c (av d p) = ky c (av d q) → av d p < av d q
structure Eff (c d d' : List Int) (a b : Int) : Prop where
 perm : d'.Perm d
 out : ∀ k, 0 ≤ k → (k < a ∨ b ≤ k) → av d' k = av d k
 frm : ∀ k, a ≤ k → k < b → ∃ j, a ≤ j ∧ j < b ∧ av d' k = av d j
 stb : Stb c d → Stb c d'
theorem Eff.refl (c d : List Int) (a b : Int) : Eff c d d a b := ⟨.refl _, fun _ _ _ => rfl, fun k h1 h2 => ⟨k, h1, h2, rfl⟩, id⟩
theorem Eff.mono {c d d' : List Int} {a b a' b' : Int} (h : Eff c d d' a b) (h0 : 0 ≤ a') (h1 : a' ≤ a) (h2 : b ≤ b') : Eff c d d' a' b' :=
 ⟨h.perm, fun k h0 hk => h.out k h0 (by omega), fun k ha hb => by
  by_cases hk : a ≤ k ∧ k < b
  ·obtain ⟨j, j1, j2, e⟩ := h.frm k hk.1 hk.2
   exact ⟨j, by omega, by omega, e⟩
  ·exact ⟨k, ha, hb, h.out k (by omega) (by omega)⟩, h.stb⟩
theorem Eff.trans {c d d' d'' : List Int} {a b : Int} (h : Eff c d d' a b) (g : Eff c d' d'' a b) : Eff c d d'' a b :=
 ⟨g.perm.trans h.perm, fun k h0 hk => (g.out k h0 hk).trans (h.out k h0 hk), fun k ha hb => by
  obtain ⟨j, j1, j2, e⟩ := g.frm k ha hb
  obtain ⟨i, i1, i2, e2⟩ := h.frm j j1 j2
  exact ⟨i, i1, i2, e.trans e2⟩, fun hs => g.stb (h.stb hs)⟩
theorem Eff.len {c d d' : List Int} {a b : Int} (h : Eff c d d' a b) : d'.length = d.length := h.perm.length_eq
theorem Srt.mono {c d : List Int} {a b a' b' : Int} (h : Srt c d a b) (h1 : a ≤ a') (h2 : b' ≤ b) : Srt c d a' b' := fun p q x y z => h p q (by omega) y (by omega)
theorem Srt.out {c d d' : List Int} {a b lo hi : Int} (h : Srt c d lo hi) (e : Eff c d d' a b) (h0 : 0 ≤ lo) (hd : hi ≤ a ∨ b ≤ lo) : Srt c d' lo hi := fun p q x y z => by
 rw [e.out p (by omega) (by omega), e.out q (by omega) (by omega)]
 exact h p q x y z
theorem Srt.join {c d : List Int} {a m n : Int} (h1 : Srt c d a m) (h2 : Srt c d m n) (h3 : ∀ x y : Int, a ≤ x → x < m → m ≤ y → y < n → ky c (av d y) ≤ ky c (av d x)) : Srt c d a n := fun p q x y z => by
 by_cases hp : p < m
 ·by_cases hq : q < m
  ·exact h1 p q x y hq
  ·exact h3 p q x hp (by omega) z
 ·exact h2 p q (by omega) y z
theorem av_swp {d : List Int} {i j : Int} (hi : 0 ≤ i) (hi' : i < d.length) (hj : 0 ≤ j) (hj' : j < d.length) (k : Int) (hk : 0 ≤ k) :
  av ((d.set i.toNat (av d j)).set j.toNat (av d i)) k = if k = j then av d i else if k = i then av d j else av d k := by
 show ((d.set i.toNat (av d j)).set j.toNat (av d i)).getD k.toNat 0 = _
 rw [gD_set _ _ _ _ (by rw [List.length_set]; omega), gD_set _ _ _ _ (by omega)]
 by_cases h1 : k = j
 ·rw [if_pos h1, if_pos (by omega)]
 ·rw [if_neg h1, if_neg (by omega)]
  by_cases h2 : k = i
  ·rw [if_pos h2, if_pos (by omega)]
  ·rw [if_neg h2, if_neg (by omega)]
theorem Eff.swap {c d : List Int} {i : Int} (hi : 0 ≤ i) (hi' : i + 1 < d.length) (hne : ky c (av d i) ≠ ky c (av d (i + 1))) : Eff c d ((d.set i.toNat (av d (i + 1))).set (i + 1).toNat (av d i)) i (i + 2) := by
 have hv := av_swp (d := d) (i := i) (j := i + 1) hi (by omega) (by omega) hi'
 refine ⟨swpI hi (by omega) (by omega) hi', fun k h0 hk => ?_, fun k ha hb => ?_, fun hs p q h0 hpq hq he => ?_⟩
 ·rw [hv k h0, if_neg (by omega), if_neg (by omega)]
 ·rw [hv k (by omega)]
  by_cases h1 : k = i + 1
  ·exact ⟨i, by omega, by omega, by rw [if_pos h1]⟩
  ·exact ⟨i + 1, by omega, by omega, by rw [if_neg h1, if_pos (by omega)]⟩
 ·rw [List.length_set, List.length_set] at hq
  rw [hv p h0, hv q (by omega)] at he
  rw [hv p h0, hv q (by omega)]
  by_cases p1 : p = i + 1
  ·rw [if_pos p1] at he ⊢
   rw [if_neg (by omega), if_neg (by omega)] at he ⊢
   exact hs i q hi (by omega) hq he
  ·rw [if_neg p1] at he ⊢
   by_cases p2 : p = i
   ·rw [if_pos p2] at he ⊢
    by_cases q1 : q = i + 1
    ·rw [if_pos q1] at he ⊢
     exact absurd he.symm hne
    ·rw [if_neg q1, if_neg (by omega)] at he ⊢
     exact hs (i + 1) q (by omega) (by omega) hq he
   ·rw [if_neg p2] at he ⊢
    by_cases q1 : q = i + 1
    ·rw [if_pos q1] at he ⊢
     exact hs p i h0 (by omega) (by omega) he
    ·rw [if_neg q1] at he ⊢
     by_cases q2 : q = i
     ·rw [if_pos q2] at he ⊢
      exact hs p (i + 1) h0 (by omega) (by omega) he
     ·rw [if_neg q2] at he ⊢
      exact hs p q h0 hpq hq he
theorem set_comm2 (d : List Int) {i j : Int} (hi : 0 ≤ i) (hj : 0 ≤ j) (h : i ≠ j) (x y : Int) : (d.set i.toNat x).set j.toNat y = (d.set j.toNat y).set i.toNat x :=
 List.set_comm x y (by omega)
def sw (a b n : Int) (v : Int → Int) (k : Int) : Int := if a ≤ k ∧ k < a + n then v (k + (b - a)) else if b ≤ k ∧ k < b + n then v (k - (b - a)) else v k
def rv (a b n : Int) (v : Int → Int) (k : Int) : Int := if a ≤ k ∧ k < a + n - b then v (k + (b - a)) else if a + n - b ≤ k ∧ k < n then v (k - (n - b)) else v k
theorem rv_congr {a b n : Int} {v w : Int → Int} (h0 : 0 ≤ a) (hab : a ≤ b) (hbn : b ≤ n) (h : ∀ k, 0 ≤ k → v k = w k) (k : Int) (hk : 0 ≤ k) : rv a b n v k = rv a b n w k := by
 unfold rv
 split
 ·exact h _ (by omega)
 ·split
  ·exact h _ (by omega)
  ·exact h _ hk
theorem rv_gt {b i j : Int} (v : Int → Int) (hj : 0 < j) (hij : j < i) (k : Int) : rv (b - (i - j)) b (b + j) (sw (b - i) b j v) k = rv (b - i) b (b + j) v k := by
 unfold rv sw
 repeat' split
 all_goals first
  | (exfalso; omega)
  | exact congrArg v (by omega)
theorem rv_lt {b i j : Int} (v : Int → Int) (hi : 0 < i) (hij : i < j) (k : Int) : rv (b - i) b (b + (j - i)) (sw (b - i) (b + j - i) i v) k = rv (b - i) b (b + j) v k := by
 unfold rv sw
 repeat' split
 all_goals first
  | (exfalso; omega)
  | exact congrArg v (by omega)
theorem rv_eq {b i : Int} (v : Int → Int) (hi : 0 < i) (k : Int) : sw (b - i) b i v k = rv (b - i) b (b + i) v k := by
 unfold rv sw
 repeat' split
 all_goals first
  | (exfalso; omega)
  | exact congrArg v (by omega)
theorem swapR_q {d : List Int} {a b n : Int} (c : List Int) (hl : d.length ≤ 512) (ha : 0 ≤ a) (hn : 0 ≤ n) (h1 : a + n ≤ b) (h2 : b + n ≤ d.length) :
  ∃ d', swapR d a b n c = some ((), d', a, b, n, ((), c, ()), ()) ∧ d'.Perm d ∧ ∀ k, 0 ≤ k → av d' k = sw a b n (av d) k := by
 unfold swapR
 obtain ⟨r, h1, d', rfl, hp⟩ := loopO_inv (step := swapR_step0 a b n c) (fun s => ∃ i d1, s = ((i, ()), (), (d1, ())) ∧ 0 ≤ i ∧ i ≤ n ∧ d1.Perm d ∧ ∀ k, 0 ≤ k → av d1 k = sw a b i (av d) k) (fun s => (n - s.1.1).toNat) (fun r => ∃ d', r = ((), d', a, b, n, ((), c, ()), ()) ∧ d'.Perm d ∧ ∀ k, 0 ≤ k → av d' k = sw a b n (av d) k) (by
  rintro _ ⟨i, d1, rfl, h0, hin, hp, hv⟩
  have hl1 : d1.length = d.length := hp.length_eq
  unfold swapR_step0
  by_cases h : i < n
  ·left
   simp (disch := first | omega | (simp only [List.length_set]; omega)) only [ilt_t, ilt_f, ile_t, ile_f, ieq_t, ieq_f, wr_i, wr_u, fd2, gI, gD, cond_true, cond_false, Option.bind_some, List.length_set, joinO_inl, Int.toNat_natCast, List.length_replicate]
   refine ⟨_, rfl, ⟨_, _, rfl, by omega, by omega, (swpI (by omega) (by omega) (by omega) (by omega)).trans hp, fun k hk => ?_⟩, by show (n - (i + 1)).toNat < (n - i).toNat; omega⟩
   rw [av_swp (d := d1) (i := a + i) (j := b + i) (by omega) (by omega) (by omega) (by omega) k hk, hv _ (show 0 ≤ a + i by omega), hv _ (show 0 ≤ b + i by omega), hv k hk]
   unfold sw
   repeat' split
   all_goals first
    | (exfalso; omega)
    | exact congrArg (av d) (by omega)
  ·right
   simp (disch := first | omega | (simp only [List.length_set]; omega)) only [ilt_t, ilt_f, ile_t, ile_f, ieq_t, ieq_f, wr_i, wr_u, fd2, gI, gD, cond_true, cond_false, Option.bind_some, List.length_set, joinO_inl, Int.toNat_natCast, List.length_replicate]
   obtain rfl : i = n := by omega
   exact ⟨_, rfl, _, rfl, hp, hv⟩) _ ⟨0, d, rfl, by omega, hn, .refl _, fun k hk => by
    unfold sw
    rw [if_neg (by omega), if_neg (by omega)]⟩
 exact ⟨d', h1, hp⟩
theorem rot_q {d : List Int} {a b n : Int} (c : List Int) (hl : d.length ≤ 512) (ha : 0 ≤ a) (hb : a < b) (hn : b < n) (h1 : n ≤ d.length) :
  ∃ d', rot d a b n c = some ((), d', a, b, n, ((), c, ()), ()) ∧ d'.Perm d ∧ ∀ k, 0 ≤ k → av d' k = rv a b n (av d) k := by
 unfold rot
 simp (disch := first | omega | (simp only [List.length_set]; omega)) only [ilt_t, ilt_f, ile_t, ile_f, ieq_t, ieq_f, wr_i, wr_u, fd2, gI, gD, cond_true, cond_false, Option.bind_some, List.length_set, joinO_inl, Int.toNat_natCast, List.length_replicate]
 obtain ⟨r, h1, i, d1, rfl, hi0, hi1, hi2, hp, hv⟩ := loopO_inv (step := rot_step0 b c) (fun s => ∃ i j d1, s = ((i, j, ()), (), (d1, ())) ∧ 0 < i ∧ 0 < j ∧ i ≤ b - a ∧ j ≤ n - b ∧ d1.Perm d ∧ ∀ k, 0 ≤ k → rv (b - i) b (b + j) (av d1) k = rv a b n (av d) k) (fun s => (s.1.1 + s.1.2.1).toNat)
   (fun r => ∃ i d1, r = .inl ((i, ()), (), d1, ()) ∧ 0 < i ∧ i ≤ b - a ∧ i ≤ n - b ∧ d1.Perm d ∧ ∀ k, 0 ≤ k → rv (b - i) b (b + i) (av d1) k = rv a b n (av d) k) (by
  rintro _ ⟨i, j, d1, rfl, h0, hj0, hi, hj, hp, hv⟩
  have hl1 : d1.length = d.length := hp.length_eq
  unfold rot_step0
  by_cases h : i = j
  ·right
   simp (disch := first | omega | (simp only [List.length_set]; omega)) only [ilt_t, ilt_f, ile_t, ile_f, ieq_t, ieq_f, wr_i, wr_u, fd2, gI, gD, cond_true, cond_false, Option.bind_some, List.length_set, joinO_inl, Int.toNat_natCast, List.length_replicate]
   subst h
   exact ⟨_, rfl, _, _, rfl, h0, hi, by omega, hp, hv⟩
  ·left
   by_cases h2 : j < i
   ·simp (disch := first | omega | (simp only [List.length_set]; omega)) only [ilt_t, ilt_f, ile_t, ile_f, ieq_t, ieq_f, wr_i, wr_u, fd2, gI, gD, cond_true, cond_false, Option.bind_some, List.length_set, joinO_inl, Int.toNat_natCast, List.length_replicate]
    obtain ⟨d2, e2, p2, v2⟩ := swapR_q (d := d1) (a := b - i) (b := b) (n := j) c (by omega) (by omega) (by omega) (by omega) (by omega)
    rw [e2]
    exact ⟨_, rfl, ⟨_, _, _, rfl, by omega, by omega, by omega, by omega, p2.trans hp, fun k hk => by
     rw [rv_congr (by omega) (by omega) (by omega) v2 k hk, rv_gt _ hj0 h2, hv k hk]⟩, by show (i - j + j).toNat < (i + j).toNat; omega⟩
   ·simp (disch := first | omega | (simp only [List.length_set]; omega)) only [ilt_t, ilt_f, ile_t, ile_f, ieq_t, ieq_f, wr_i, wr_u, fd2, gI, gD, cond_true, cond_false, Option.bind_some, List.length_set, joinO_inl, Int.toNat_natCast, List.length_replicate]
    obtain ⟨d2, e2, p2, v2⟩ := swapR_q (d := d1) (a := b - i) (b := b + j - i) (n := i) c (by omega) (by omega) (by omega) (by omega) (by omega)
    rw [e2]
    exact ⟨_, rfl, ⟨_, _, _, rfl, by omega, by omega, by omega, by omega, p2.trans hp, fun k hk => by
     rw [rv_congr (by omega) (by omega) (by omega) v2 k hk, rv_lt _ h0 (by omega), hv k hk]⟩, by show (i + (j - i)).toNat < (i + j).toNat; omega⟩) ((b - a, n - b, ()), (), d, ()) ⟨_, _, _, rfl, by omega, by omega, by omega, by omega, .refl _, fun k hk => by
    rw [show b - (b - a) = a by omega, show b + (n - b) = n by omega]⟩
 rw [h1]
 show ∃ d', rot_step1 a b n c ((i, ()), (), d1, ()) = _ ∧ _
 unfold rot_step1
 have hl1 : d1.length = d.length := hp.length_eq
 simp (disch := first | omega | (simp only [List.length_set]; omega)) only [ilt_t, ilt_f, ile_t, ile_f, ieq_t, ieq_f, wr_i, wr_u, fd2, gI, gD, cond_true, cond_false, Option.bind_some, List.length_set, joinO_inl, Int.toNat_natCast, List.length_replicate]
 obtain ⟨d2, e2, p2, v2⟩ := swapR_q (d := d1) (a := b - i) (b := b) (n := i) c (by omega) (by omega) (by omega) (by omega) (by omega)
 rw [e2]
 exact ⟨_, rfl, p2.trans hp, fun k hk => by rw [v2 k hk, rv_eq _ hi0, hv k hk]⟩
theorem Eff.rot {c d d' : List Int} {a b n : Int} (ha : 0 ≤ a) (hab : a < b) (hbn : b < n) (hn : n ≤ d.length) (hp : d'.Perm d) (hv : ∀ k, 0 ≤ k → av d' k = rv a b n (av d) k)
  (hx : ∀ x y : Int, a ≤ x → x < b → b ≤ y → y < n → ky c (av d x) < ky c (av d y)) : Eff c d d' a n := by
 have hle := hp.length_eq
 have v1 : ∀ k, a ≤ k → k < a + n - b → av d' k = av d (k + (b - a)) := fun k h1 h2 => by
  rw [hv k (by omega)]; unfold rv; rw [if_pos ⟨h1, h2⟩]
 have v2 : ∀ k, a + n - b ≤ k → k < n → av d' k = av d (k - (n - b)) := fun k h1 h2 => by
  rw [hv k (by omega)]; unfold rv; rw [if_neg (by omega), if_pos ⟨h1, h2⟩]
 have v3 : ∀ k, 0 ≤ k → (k < a ∨ n ≤ k) → av d' k = av d k := fun k h1 h2 => by
  rw [hv k h1]; unfold rv; rw [if_neg (by omega), if_neg (by omega)]
 refine ⟨hp, v3, fun k h1 h2 => ?_, fun hs p q h0 hpq hq he => ?_⟩
 ·by_cases h : k < a + n - b
  ·exact ⟨_, by omega, by omega, v1 k h1 h⟩
  ·exact ⟨_, by omega, by omega, v2 k (by omega) h2⟩
 ·rw [hle] at hq
  by_cases p1 : a ≤ p ∧ p < a + n - b
  ·rw [v1 p p1.1 p1.2] at he ⊢
   by_cases q1 : q < a + n - b
   ·rw [v1 q (by omega) q1] at he ⊢
    exact hs _ _ (by omega) (by omega) (by omega) he
   ·by_cases q2 : q < n
    ·rw [v2 q (by omega) q2] at he
     have := hx (q - (n - b)) (p + (b - a)) (by omega) (by omega) (by omega) (by omega)
     omega
    ·rw [v3 q (by omega) (by omega)] at he ⊢
     exact hs _ _ (by omega) (by omega) (by omega) he
  ·by_cases p2 : a + n - b ≤ p ∧ p < n
   ·rw [v2 p p2.1 p2.2] at he ⊢
    by_cases q2 : q < n
    ·rw [v2 q (by omega) q2] at he ⊢
     exact hs _ _ (by omega) (by omega) (by omega) he
    ·rw [v3 q (by omega) (by omega)] at he ⊢
     exact hs _ _ (by omega) (by omega) (by omega) he
   ·rw [v3 p h0 (by omega)] at he ⊢
    by_cases q1 : a ≤ q ∧ q < a + n - b
    ·rw [v1 q q1.1 q1.2] at he ⊢
     exact hs _ _ (by omega) (by omega) (by omega) he
    ·by_cases q2 : a + n - b ≤ q ∧ q < n
     ·rw [v2 q q2.1 q2.2] at he ⊢
      exact hs _ _ (by omega) (by omega) (by omega) he
     ·rw [v3 q (by omega) (by omega)] at he ⊢
      exact hs _ _ (by omega) (by omega) (by omega) he
end Go.Proofs.YtfpkonppeefhfaaGreatDoor
