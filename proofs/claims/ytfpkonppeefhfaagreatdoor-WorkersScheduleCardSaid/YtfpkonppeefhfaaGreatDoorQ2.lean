/-
  Sorting in place: every function of the sort leaves order.
-/
import Derived.Test.YtfpkonppeefhfaaGreatDoorQ1
set_option linter.unusedSectionVars false
set_option linter.unusedSimpArgs false
set_option linter.unusedVariables false
namespace Go.Proofs.YtfpkonppeefhfaaGreatDoor
open Go.As Go.Ms
theorem insS_q {d : List Int} {a b : Int} {c : List Int} (hr : Rg c d) (hl : d.length ≤ 512) (ha : 0 ≤ a) (hab : a ≤ b) (hb : b ≤ d.length) :
  ∃ d', insS d a b c = some ((), d', a, b, ((), c, ()), ()) ∧ Eff c d d' a b ∧ Srt c d' a b := by
 unfold insS
 simp (disch := first | omega | (simp only [List.length_set]; omega)) only [ilt_t, ilt_f, ile_t, ile_f, ieq_t, ieq_f, wr_i, wr_u, fd2, gI, gD, cond_true, cond_false, Option.bind_some, List.length_set, joinO_inl, Int.toNat_natCast, List.length_replicate]
 obtain ⟨r, h1, d', rfl, hp⟩ := loopO_inv (step := insS_step2 a b c) (fun s => ∃ i d1, s = ((i, ()), (), (d1, ())) ∧ a + 1 ≤ i ∧ i ≤ b + 1 ∧ Eff c d d1 a b ∧ Srt c d1 a i) (fun s => (b + 1 - s.1.1).toNat) (fun r => ∃ d', r = ((), d', a, b, ((), c, ()), ()) ∧ Eff c d d' a b ∧ Srt c d' a b) (by
  rintro _ ⟨i, d1, rfl, hi, hib, hp, hs⟩
  have hl1 : d1.length = d.length := hp.len
  unfold insS_step2
  by_cases h : i < b
  ·left
   simp (disch := first | omega | (simp only [List.length_set]; omega)) only [ilt_t, ilt_f, ile_t, ile_f, ieq_t, ieq_f, wr_i, wr_u, fd2, gI, gD, cond_true, cond_false, Option.bind_some, List.length_set, joinO_inl, Int.toNat_natCast, List.length_replicate]
   obtain ⟨r, h1, d3, rfl, hp3, hs3⟩ := loopO_inv (step := insS_step0 a c) (fun s => ∃ j d2, s = ((j, ()), (), (d2, ())) ∧ a ≤ j ∧ j ≤ i ∧ Eff c d d2 a b ∧ ∀ p q : Int, a ≤ p → p < q → q < i + 1 → q ≠ j → ky c (av d2 q) ≤ ky c (av d2 p)) (fun s => (s.1.1 - a).toNat) (fun r => ∃ d', r = .inl ((), (), d', ()) ∧ Eff c d d' a b ∧ Srt c d' a (i + 1)) (by
    rintro _ ⟨j, d2, rfl, hj, hjb, hp2, ho⟩
    have hl2 : d2.length = d.length := hp2.len
    unfold insS_step0
    by_cases h : a < j
    ·have hr2 := hr.perm hp2.perm
     have g1 := hr2.at (i := j) (by omega) (by omega)
     have g2 := hr2.at (i := j - 1) (by omega) (by omega)
     simp (disch := first | omega | (simp only [List.length_set]; omega)) only [ilt_t, ilt_f, ile_t, ile_f, ieq_t, ieq_f, wr_i, wr_u, fd2, gI, gD, cond_true, cond_false, Option.bind_some, List.length_set, joinO_inl, Int.toNat_natCast, List.length_replicate]
     rw [cmp_p]
     simp (disch := first | omega | (simp only [List.length_set]; omega)) only [ilt_t, ilt_f, ile_t, ile_f, ieq_t, ieq_f, wr_i, wr_u, fd2, gI, gD, cond_true, cond_false, Option.bind_some, List.length_set, joinO_inl, Int.toNat_natCast, List.length_replicate]
     rw [cmp_lt]
     by_cases hc : c.getD (d2.getD (j - 1).toNat 0).toNat 0 < c.getD (d2.getD j.toNat 0).toNat 0
     ·left
      rw [decide_eq_true hc]
      simp (disch := first | omega | (simp only [List.length_set]; omega)) only [ilt_t, ilt_f, ile_t, ile_f, ieq_t, ieq_f, wr_i, wr_u, fd2, gI, gD, cond_true, cond_false, Option.bind_some, List.length_set, joinO_inl, Int.toNat_natCast, List.length_replicate]
      have hv := av_swp (d := d2) (i := j - 1) (j := j) (by omega) (by omega) (by omega) (by omega)
      have he := Eff.swap (c := c) (d := d2) (i := j - 1) (by omega) (by omega) (by
       rw [show j - 1 + 1 = j by omega]
       show c.getD (d2.getD (j - 1).toNat 0).toNat 0 ≠ c.getD (d2.getD j.toNat 0).toNat 0
       omega)
      rw [show j - 1 + 1 = j by omega] at he
      rw [set_comm2 d2 (i := j) (j := j - 1) (by omega) (by omega) (by omega)]
      refine ⟨_, rfl, ⟨_, _, rfl, by omega, by omega, hp2.trans (he.mono ha (by omega) (by omega)), fun p q hp hpq hq hne => ?_⟩, by show (j - 1 - a).toNat < (j - a).toNat; omega⟩
      rw [hv p (by omega), hv q (by omega)]
      by_cases q1 : q = j
      ·rw [if_pos q1]
       rw [if_neg (by omega)]
       by_cases p1 : p = j - 1
       ·rw [if_pos p1]; exact Int.le_of_lt hc
       ·rw [if_neg p1]; exact ho p (j - 1) hp (by omega) (by omega) (by omega)
      ·rw [if_neg q1, if_neg hne]
       by_cases p1 : p = j
       ·rw [if_pos p1]; exact ho (j - 1) q (by omega) (by omega) hq q1
       ·rw [if_neg p1]
        by_cases p2 : p = j - 1
        ·rw [if_pos p2]; exact ho j q (by omega) (by omega) hq q1
        ·rw [if_neg p2]; exact ho p q hp hpq hq q1
     ·right
      rw [decide_eq_false hc]
      refine ⟨_, rfl, _, rfl, hp2, fun p q hp hpq hq => ?_⟩
      by_cases q1 : q = j
      ·subst q1
       by_cases p1 : p = q - 1
       ·subst p1; exact Int.not_lt.1 hc
       ·exact Int.le_trans (Int.not_lt.1 hc) (ho p (q - 1) hp (by omega) (by omega) (by omega))
      ·exact ho p q hp hpq hq q1
    ·right
     simp (disch := first | omega | (simp only [List.length_set]; omega)) only [ilt_t, ilt_f, ile_t, ile_f, ieq_t, ieq_f, wr_i, wr_u, fd2, gI, gD, cond_true, cond_false, Option.bind_some, List.length_set, joinO_inl, Int.toNat_natCast, List.length_replicate]
     exact ⟨_, rfl, _, rfl, hp2, fun p q hp hpq hq => ho p q hp hpq hq (by omega)⟩) ((i, ()), (), d1, ()) ⟨_, _, rfl, by omega, by omega, hp, fun p q hp hpq hq hne => hs p q hp hpq (by omega)⟩
   rw [h1]
   show ∃ s', insS_step1 ((i, ()), (), d1, ()) ((), (), d3, ()) = some (Sum.inl s') ∧ _
   unfold insS_step1
   simp (disch := first | omega | (simp only [List.length_set]; omega)) only [ilt_t, ilt_f, ile_t, ile_f, ieq_t, ieq_f, wr_i, wr_u, fd2, gI, gD, cond_true, cond_false, Option.bind_some, List.length_set, joinO_inl, Int.toNat_natCast, List.length_replicate]
   exact ⟨_, rfl, ⟨_, _, rfl, by omega, by omega, hp3, hs3⟩, by show (b + 1 - (i + 1)).toNat < (b + 1 - i).toNat; omega⟩
  ·right
   simp (disch := first | omega | (simp only [List.length_set]; omega)) only [ilt_t, ilt_f, ile_t, ile_f, ieq_t, ieq_f, wr_i, wr_u, fd2, gI, gD, cond_true, cond_false, Option.bind_some, List.length_set, joinO_inl, Int.toNat_natCast, List.length_replicate]
   exact ⟨_, rfl, _, rfl, hp, hs.mono (Int.le_refl _) (by omega)⟩) ((a + 1, ()), (), d, ()) ⟨_, _, rfl, by omega, by omega, .refl .., fun p q h1 h2 h3 => by omega⟩
 exact ⟨d', h1, hp⟩
def MQ (k : Nat) (F : List Int → Int → Int → Int → List Int → Option (Unit × List Int × Int × Int × Int × (Unit × List Int × Unit) × Unit)) : Prop :=
 ∀ (d : List Int) (a b n : Int) (c : List Int), Rg c d → d.length ≤ 512 → 0 ≤ a → a < b → b < n → n ≤ d.length → n - a ≤ k → Srt c d a b → Srt c d b n → ∃ d', F d a b n c = some ((), d', a, b, n, ((), c, ()), ()) ∧ Eff c d d' a n ∧ Srt c d' a n
theorem symA_q {d : List Int} {a b n : Int} {c : List Int} (hr : Rg c d) (hl : d.length ≤ 512) (ha : 0 ≤ a) (hab : b - a = 1) (hbn : b < n) (hn : n ≤ d.length) (s2 : Srt c d b n) :
  ∃ d', joinO (loopO (symM_step0 d a c) ((b, n, ()), (), ())) (symM_step2 d a b n c) = some ((), d', a, b, n, ((), c, ()), ()) ∧ Eff c d d' a n ∧ Srt c d' a n := by
 obtain ⟨r, h1, t, rfl, ht0, ht1, ht2, ht3⟩ := loopO_inv (step := symM_step0 d a c) (fun s => ∃ i j, s = ((i, j, ()), (), ()) ∧ b ≤ i ∧ i ≤ j ∧ j ≤ n ∧ (∀ h : Int, b ≤ h → h < i → ky c (av d a) < ky c (av d h)) ∧ ∀ h : Int, j ≤ h → h < n → ky c (av d h) ≤ ky c (av d a)) (fun s => (s.1.2.1 - s.1.1).toNat)
   (fun r => ∃ t, r = .inl ((t, ()), (), ()) ∧ b ≤ t ∧ t ≤ n ∧ (∀ h : Int, b ≤ h → h < t → ky c (av d a) < ky c (av d h)) ∧ ∀ h : Int, t ≤ h → h < n → ky c (av d h) ≤ ky c (av d a)) (by
  rintro _ ⟨i, j, rfl, hi, hij, hj, k1, k2⟩
  unfold symM_step0
  by_cases h : i < j
  ·left
   have g1 := hr.at (i := (i + j) / 2) (by omega) (by omega)
   have g2 := hr.at (i := a) (by omega) (by omega)
   simp (disch := first | omega | (simp only [List.length_set]; omega)) only [ilt_t, ilt_f, ile_t, ile_f, ieq_t, ieq_f, wr_i, wr_u, fd2, gI, gD, cond_true, cond_false, Option.bind_some, List.length_set, joinO_inl, Int.toNat_natCast, List.length_replicate]
   rw [cmp_p]
   simp (disch := first | omega | (simp only [List.length_set]; omega)) only [ilt_t, ilt_f, ile_t, ile_f, ieq_t, ieq_f, wr_i, wr_u, fd2, gI, gD, cond_true, cond_false, Option.bind_some, List.length_set, joinO_inl, Int.toNat_natCast, List.length_replicate]
   rw [cmp_lt]
   by_cases hc : c.getD (d.getD a.toNat 0).toNat 0 < c.getD (d.getD ((i + j) / 2).toNat 0).toNat 0
   ·rw [decide_eq_true hc]
    refine ⟨_, rfl, ⟨_, _, rfl, by omega, by omega, by omega, fun h hb hh => ?_, k2⟩, by show (j - ((i + j) / 2 + 1)).toNat < (j - i).toNat; omega⟩
    by_cases e : h = (i + j) / 2
    ·subst e; exact hc
    ·exact Int.lt_of_lt_of_le hc (s2 h ((i + j) / 2) hb (by omega) (by omega))
   ·rw [decide_eq_false hc]
    refine ⟨_, rfl, ⟨_, _, rfl, hi, by omega, by omega, k1, fun h hb hh => ?_⟩, by show ((i + j) / 2 - i).toNat < (j - i).toNat; omega⟩
    by_cases e : h = (i + j) / 2
    ·subst e; exact Int.not_lt.1 hc
    ·exact Int.le_trans (s2 ((i + j) / 2) h (by omega) (by omega) hh) (Int.not_lt.1 hc)
  ·right
   simp (disch := first | omega | (simp only [List.length_set]; omega)) only [ilt_t, ilt_f, ile_t, ile_f, ieq_t, ieq_f, wr_i, wr_u, fd2, gI, gD, cond_true, cond_false, Option.bind_some, List.length_set, joinO_inl, Int.toNat_natCast, List.length_replicate]
   obtain rfl : i = j := by omega
   exact ⟨_, rfl, _, rfl, hi, by omega, k1, k2⟩) ((b, n, ()), (), ()) ⟨_, _, rfl, by omega, by omega, by omega, fun h h1 h2 => by omega, fun h h1 h2 => by omega⟩
 rw [h1]
 show ∃ d', symM_step2 d a b n c ((t, ()), (), ()) = _ ∧ _
 unfold symM_step2
 obtain ⟨r, h1, d', rfl, hp⟩ := loopO_inv (step := symM_step1 a b n c ((t, ()), (), ())) (fun s => ∃ i d1, s = ((i, ()), (), (d1, ())) ∧ a ≤ i ∧ i < t ∧ Eff c d d1 a n ∧ (∀ p q : Int, a ≤ p → p < q → q < n → p ≠ i → ky c (av d1 q) ≤ ky c (av d1 p)) ∧ (∀ q : Int, i < q → q < t → ky c (av d1 i) < ky c (av d1 q)) ∧ ∀ q : Int, t ≤ q → q < n → ky c (av d1 q) ≤ ky c (av d1 i)) (fun s => (n - s.1.1).toNat)
   (fun r => ∃ d', r = ((), d', a, b, n, ((), c, ()), ()) ∧ Eff c d d' a n ∧ Srt c d' a n) (by
  rintro _ ⟨i, d1, rfl, hi, hit, hp, k1, k2, k3⟩
  have hl1 : d1.length = d.length := hp.len
  unfold symM_step1
  simp (disch := first | omega | (simp only [List.length_set]; omega)) only [ilt_t, ilt_f, ile_t, ile_f, ieq_t, ieq_f, wr_i, wr_u, fd2, gI, gD, cond_true, cond_false, Option.bind_some, List.length_set, joinO_inl, Int.toNat_natCast, List.length_replicate]
  by_cases h : i < t - 1
  ·left
   simp (disch := first | omega | (simp only [List.length_set]; omega)) only [ilt_t, ilt_f, ile_t, ile_f, ieq_t, ieq_f, wr_i, wr_u, fd2, gI, gD, cond_true, cond_false, Option.bind_some, List.length_set, joinO_inl, Int.toNat_natCast, List.length_replicate]
   have hv := av_swp (d := d1) (i := i) (j := i + 1) (by omega) (by omega) (by omega) (by omega)
   have hk := k2 (i + 1) (by omega) (by omega)
   have he := Eff.swap (c := c) (d := d1) (i := i) (by omega) (by omega) (by omega)
   refine ⟨_, rfl, ⟨_, _, rfl, by omega, by omega, hp.trans (he.mono ha (by omega) (by omega)), fun p q hp hpq hq hne => ?_, fun q q1 q2 => ?_, fun q q1 q2 => ?_⟩, by show (n - (i + 1)).toNat < (n - i).toNat; omega⟩
   ·rw [hv p (by omega), hv q (by omega), if_neg hne]
    by_cases p1 : p = i
    ·rw [if_pos p1]
     by_cases q1 : q = i + 1
     ·rw [if_pos q1]; exact Int.le_of_lt hk
     ·rw [if_neg q1, if_neg (by omega)]
      exact k1 (i + 1) q (by omega) (by omega) hq (by omega)
    ·rw [if_neg p1]
     by_cases q1 : q = i + 1
     ·rw [if_pos q1]; exact k1 p i hp (by omega) (by omega) p1
     ·rw [if_neg q1]
      by_cases q2 : q = i
      ·rw [if_pos q2]; exact k1 p (i + 1) hp (by omega) (by omega) p1
      ·rw [if_neg q2]; exact k1 p q hp hpq hq p1
   ·rw [hv _ (show 0 ≤ i + 1 by omega), if_pos rfl, hv q (by omega), if_neg (by omega), if_neg (by omega)]
    exact k2 q (by omega) q2
   ·rw [hv _ (show 0 ≤ i + 1 by omega), if_pos rfl, hv q (by omega), if_neg (by omega), if_neg (by omega)]
    exact k3 q q1 q2
  ·right
   simp (disch := first | omega | (simp only [List.length_set]; omega)) only [ilt_t, ilt_f, ile_t, ile_f, ieq_t, ieq_f, wr_i, wr_u, fd2, gI, gD, cond_true, cond_false, Option.bind_some, List.length_set, joinO_inl, Int.toNat_natCast, List.length_replicate]
   refine ⟨_, rfl, _, rfl, hp, fun p q hp hpq hq => ?_⟩
   by_cases p1 : p = i
   ·subst p1; exact k3 q (by omega) hq
   ·exact k1 p q hp hpq hq p1) ((a, ()), (), d, ()) ⟨_, _, rfl, by omega, by omega, .refl .., fun p q hp hpq hq hne => s2 p q (by omega) hpq hq, fun q q1 q2 => ht2 q (by omega) q2, ht3⟩
 exact ⟨d', h1, hp⟩
theorem symB_q {d : List Int} {a b n : Int} {c : List Int} (hr : Rg c d) (hl : d.length ≤ 512) (ha : 0 ≤ a) (hab : a < b) (hbn : n - b = 1) (hn : n ≤ d.length) (s1 : Srt c d a b) :
  ∃ d', joinO (loopO (symM_step3 d b c) ((a, b, ()), (), ())) (symM_step5 d a b n c) = some ((), d', a, b, n, ((), c, ()), ()) ∧ Eff c d d' a n ∧ Srt c d' a n := by
 obtain ⟨r, h1, t, rfl, ht0, ht1, ht2, ht3⟩ := loopO_inv (step := symM_step3 d b c) (fun s => ∃ i j, s = ((i, j, ()), (), ()) ∧ a ≤ i ∧ i ≤ j ∧ j ≤ b ∧ (∀ h : Int, a ≤ h → h < i → ky c (av d b) ≤ ky c (av d h)) ∧ ∀ h : Int, j ≤ h → h < b → ky c (av d h) < ky c (av d b)) (fun s => (s.1.2.1 - s.1.1).toNat)
   (fun r => ∃ t, r = .inl ((t, ()), (), ()) ∧ a ≤ t ∧ t ≤ b ∧ (∀ h : Int, a ≤ h → h < t → ky c (av d b) ≤ ky c (av d h)) ∧ ∀ h : Int, t ≤ h → h < b → ky c (av d h) < ky c (av d b)) (by
  rintro _ ⟨i, j, rfl, hi, hij, hj, k1, k2⟩
  unfold symM_step3
  by_cases h : i < j
  ·left
   have g1 := hr.at (i := (i + j) / 2) (by omega) (by omega)
   have g2 := hr.at (i := b) (by omega) (by omega)
   simp (disch := first | omega | (simp only [List.length_set]; omega)) only [ilt_t, ilt_f, ile_t, ile_f, ieq_t, ieq_f, wr_i, wr_u, fd2, gI, gD, cond_true, cond_false, Option.bind_some, List.length_set, joinO_inl, Int.toNat_natCast, List.length_replicate]
   rw [cmp_p]
   simp (disch := first | omega | (simp only [List.length_set]; omega)) only [ilt_t, ilt_f, ile_t, ile_f, ieq_t, ieq_f, wr_i, wr_u, fd2, gI, gD, cond_true, cond_false, Option.bind_some, List.length_set, joinO_inl, Int.toNat_natCast, List.length_replicate]
   rw [cmp_lt]
   by_cases hc : c.getD (d.getD ((i + j) / 2).toNat 0).toNat 0 < c.getD (d.getD b.toNat 0).toNat 0
   ·rw [decide_eq_true hc]
    refine ⟨_, rfl, ⟨_, _, rfl, hi, by omega, by omega, k1, fun h hb hh => ?_⟩, by show ((i + j) / 2 - i).toNat < (j - i).toNat; omega⟩
    by_cases e : h = (i + j) / 2
    ·subst e; exact hc
    ·exact Int.lt_of_le_of_lt (s1 ((i + j) / 2) h (by omega) (by omega) hh) hc
   ·rw [decide_eq_false hc]
    refine ⟨_, rfl, ⟨_, _, rfl, by omega, by omega, by omega, fun h hb hh => ?_, k2⟩, by show (j - ((i + j) / 2 + 1)).toNat < (j - i).toNat; omega⟩
    by_cases e : h = (i + j) / 2
    ·subst e; exact Int.not_lt.1 hc
    ·exact Int.le_trans (Int.not_lt.1 hc) (s1 h ((i + j) / 2) hb (by omega) (by omega))
  ·right
   simp (disch := first | omega | (simp only [List.length_set]; omega)) only [ilt_t, ilt_f, ile_t, ile_f, ieq_t, ieq_f, wr_i, wr_u, fd2, gI, gD, cond_true, cond_false, Option.bind_some, List.length_set, joinO_inl, Int.toNat_natCast, List.length_replicate]
   obtain rfl : i = j := by omega
   exact ⟨_, rfl, _, rfl, hi, by omega, k1, k2⟩) ((a, b, ()), (), ()) ⟨_, _, rfl, by omega, by omega, by omega, fun h h1 h2 => by omega, fun h h1 h2 => by omega⟩
 rw [h1]
 show ∃ d', symM_step5 d a b n c ((t, ()), (), ()) = _ ∧ _
 unfold symM_step5
 obtain ⟨r, h1, d', rfl, hp⟩ := loopO_inv (step := symM_step4 a b n c ((t, ()), (), ())) (fun s => ∃ i d1, s = ((i, ()), (), (d1, ())) ∧ t ≤ i ∧ i ≤ b ∧ Eff c d d1 a n ∧ (∀ p q : Int, a ≤ p → p < q → q < n → q ≠ i → ky c (av d1 q) ≤ ky c (av d1 p)) ∧ (∀ p : Int, t ≤ p → p < i → ky c (av d1 p) < ky c (av d1 i)) ∧ ∀ p : Int, a ≤ p → p < t → ky c (av d1 i) ≤ ky c (av d1 p)) (fun s => (s.1.1).toNat)
   (fun r => ∃ d', r = ((), d', a, b, n, ((), c, ()), ()) ∧ Eff c d d' a n ∧ Srt c d' a n) (by
  rintro _ ⟨i, d1, rfl, hi, hit, hp, k1, k2, k3⟩
  have hl1 : d1.length = d.length := hp.len
  unfold symM_step4
  by_cases h : t < i
  ·left
   simp (disch := first | omega | (simp only [List.length_set]; omega)) only [ilt_t, ilt_f, ile_t, ile_f, ieq_t, ieq_f, wr_i, wr_u, fd2, gI, gD, cond_true, cond_false, Option.bind_some, List.length_set, joinO_inl, Int.toNat_natCast, List.length_replicate]
   have hv := av_swp (d := d1) (i := i - 1) (j := i) (by omega) (by omega) (by omega) (by omega)
   have hk := k2 (i - 1) (by omega) (by omega)
   have he := Eff.swap (c := c) (d := d1) (i := i - 1) (by omega) (by omega) (by
    rw [show i - 1 + 1 = i by omega]; omega)
   rw [show i - 1 + 1 = i by omega] at he
   rw [set_comm2 d1 (i := i) (j := i - 1) (by omega) (by omega) (by omega)]
   refine ⟨_, rfl, ⟨_, _, rfl, by omega, by omega, hp.trans (he.mono ha (by omega) (by omega)), fun p q hp hpq hq hne => ?_, fun p q1 q2 => ?_, fun p q1 q2 => ?_⟩, by show (i - 1).toNat < i.toNat; omega⟩
   ·rw [hv p (by omega), hv q (by omega)]
    by_cases q1 : q = i
    ·rw [if_pos q1, if_neg (by omega)]
     by_cases p1 : p = i - 1
     ·rw [if_pos p1]; exact Int.le_of_lt hk
     ·rw [if_neg p1]; exact k1 p (i - 1) hp (by omega) (by omega) (by omega)
    ·rw [if_neg q1, if_neg hne]
     by_cases p1 : p = i
     ·rw [if_pos p1]; exact k1 (i - 1) q (by omega) (by omega) hq q1
     ·rw [if_neg p1]
      by_cases p2 : p = i - 1
      ·rw [if_pos p2]; exact k1 i q (by omega) (by omega) hq q1
      ·rw [if_neg p2]; exact k1 p q hp hpq hq q1
   ·rw [hv (i - 1) (by omega), if_neg (by omega), if_pos rfl, hv p (by omega), if_neg (by omega), if_neg (by omega)]
    exact k2 p q1 (by omega)
   ·rw [hv (i - 1) (by omega), if_neg (by omega), if_pos rfl, hv p (by omega), if_neg (by omega), if_neg (by omega)]
    exact k3 p q1 q2
  ·right
   simp (disch := first | omega | (simp only [List.length_set]; omega)) only [ilt_t, ilt_f, ile_t, ile_f, ieq_t, ieq_f, wr_i, wr_u, fd2, gI, gD, cond_true, cond_false, Option.bind_some, List.length_set, joinO_inl, Int.toNat_natCast, List.length_replicate]
   obtain rfl : i = t := by omega
   refine ⟨_, rfl, _, rfl, hp, fun p q hp hpq hq => ?_⟩
   by_cases q1 : q = i
   ·subst q1; exact k3 p hp hpq
   ·exact k1 p q hp hpq hq q1) ((b, ()), (), d, ()) ⟨_, _, rfl, by omega, by omega, .refl .., fun p q hp hpq hq hne => s1 p q hp hpq (by omega), ht3, ht2⟩
 exact ⟨d', h1, hp⟩
theorem sym7_q {k : Nat} {F : List Int → Int → Int → Int → List Int → Option (Unit × List Int × Int × Int × Int × (Unit × List Int × Unit) × Unit)} (hF : MQ k F) {d0 d : List Int} {a b n t : Int} {c : List Int} (hr : Rg c d0) (hp : Eff c d0 d a n) (hl : d0.length ≤ 512) (ha : 0 ≤ a) (hab : a < b) (hbn : b < n) (hn : n ≤ d0.length) (hk : n - a ≤ k + 1)
  (t1 : a ≤ t) (t2 : t ≤ (a + n) / 2) (t3 : t ≤ b) (t4 : (a + n) / 2 + b - t ≤ n) (x1 : Srt c d a ((a + n) / 2)) (x2 : Srt c d ((a + n) / 2) ((a + n) / 2 + b - t)) (x3 : Srt c d ((a + n) / 2 + b - t) n)
  (x4 : ∀ x y : Int, a ≤ x → x < (a + n) / 2 → (a + n) / 2 ≤ y → y < n → ky c (av d y) ≤ ky c (av d x)) :
  ∃ d', symM_step7 F a b n c ((t, ()), (), ()) ((), (), d, ()) = some ((), d', a, b, n, ((), c, ()), ()) ∧ Eff c d0 d' a n ∧ Srt c d' a n := by
 have hl1 : d.length = d0.length := hp.len
 unfold symM_step7
 simp (disch := first | omega | (simp only [List.length_set]; omega)) only [ilt_t, ilt_f, ile_t, ile_f, ieq_t, ieq_f, wr_i, wr_u, fd2, gI, gD, cond_true, cond_false, Option.bind_some, List.length_set, joinO_inl, Int.toNat_natCast, List.length_replicate]
 by_cases h1 : (a + n) / 2 < (a + n) / 2 + b - t
 ·by_cases h2 : (a + n) / 2 + b - t < n
  ·simp (disch := first | omega | (simp only [List.length_set]; omega)) only [ilt_t, ilt_f, ile_t, ile_f, ieq_t, ieq_f, wr_i, wr_u, fd2, gI, gD, cond_true, cond_false, Option.bind_some, List.length_set, joinO_inl, Int.toNat_natCast, List.length_replicate]
   obtain ⟨d2, e2, p2, s2⟩ := hF d ((a + n) / 2) ((a + n) / 2 + b - t) n c (hr.perm hp.perm) (by omega) (by omega) (by omega) (by omega) (by omega) (by omega) x2 x3
   rw [e2]
   refine ⟨_, rfl, hp.trans (p2.mono ha (by omega) (by omega)), (x1.out p2 ha (by omega)).join s2 fun x y y1 y2 y3 y4 => ?_⟩
   rw [p2.out x (by omega) (by omega)]
   obtain ⟨j, j1, j2, e⟩ := p2.frm y y3 y4
   rw [e]
   exact x4 x j y1 y2 j1 j2
  ·simp (disch := first | omega | (simp only [List.length_set]; omega)) only [ilt_t, ilt_f, ile_t, ile_f, ieq_t, ieq_f, wr_i, wr_u, fd2, gI, gD, cond_true, cond_false, Option.bind_some, List.length_set, joinO_inl, Int.toNat_natCast, List.length_replicate]
   exact ⟨_, rfl, hp, x1.join (x2.mono (Int.le_refl _) (by omega)) x4⟩
 ·simp (disch := first | omega | (simp only [List.length_set]; omega)) only [ilt_t, ilt_f, ile_t, ile_f, ieq_t, ieq_f, wr_i, wr_u, fd2, gI, gD, cond_true, cond_false, Option.bind_some, List.length_set, joinO_inl, Int.toNat_natCast, List.length_replicate]
  exact ⟨_, rfl, hp, x1.join (x3.mono (by omega) (Int.le_refl _)) x4⟩
theorem sym8_q {k : Nat} {F : List Int → Int → Int → Int → List Int → Option (Unit × List Int × Int × Int × Int × (Unit × List Int × Unit) × Unit)} (hF : MQ k F) {d0 d : List Int} {a b n t : Int} {c : List Int} (hr : Rg c d0) (hp : Eff c d0 d a n) (hl : d0.length ≤ 512) (ha : 0 ≤ a) (hab : a < b) (hbn : b < n) (hn : n ≤ d0.length) (hk : n - a ≤ k + 1)
  (t1 : a ≤ t) (t2 : t ≤ (a + n) / 2) (t3 : t ≤ b) (t4 : (a + n) / 2 + b - t ≤ n) (x0 : Srt c d a t) (x1 : Srt c d t ((a + n) / 2)) (x2 : Srt c d ((a + n) / 2) ((a + n) / 2 + b - t)) (x3 : Srt c d ((a + n) / 2 + b - t) n)
  (x4 : ∀ x y : Int, a ≤ x → x < (a + n) / 2 → (a + n) / 2 ≤ y → y < n → ky c (av d y) ≤ ky c (av d x)) :
  ∃ d', symM_step8 F a b n c ((t, ()), (), ()) ((), (), d, ()) = some ((), d', a, b, n, ((), c, ()), ()) ∧ Eff c d0 d' a n ∧ Srt c d' a n := by
 have hl1 : d.length = d0.length := hp.len
 unfold symM_step8
 simp (disch := first | omega | (simp only [List.length_set]; omega)) only [ilt_t, ilt_f, ile_t, ile_f, ieq_t, ieq_f, wr_i, wr_u, fd2, gI, gD, cond_true, cond_false, Option.bind_some, List.length_set, joinO_inl, Int.toNat_natCast, List.length_replicate]
 by_cases h1 : a < t
 ·by_cases h2 : t < (a + n) / 2
  ·simp (disch := first | omega | (simp only [List.length_set]; omega)) only [ilt_t, ilt_f, ile_t, ile_f, ieq_t, ieq_f, wr_i, wr_u, fd2, gI, gD, cond_true, cond_false, Option.bind_some, List.length_set, joinO_inl, Int.toNat_natCast, List.length_replicate]
   obtain ⟨d2, e2, p2, s2⟩ := hF d a t ((a + n) / 2) c (hr.perm hp.perm) (by omega) (by omega) (by omega) (by omega) (by omega) (by omega) x0 x1
   rw [e2]
   refine sym7_q hF hr (hp.trans (p2.mono ha (by omega) (by omega))) hl ha hab hbn hn hk t1 t2 t3 t4 s2 (x2.out p2 (by omega) (by omega)) (x3.out p2 (by omega) (by omega)) fun x y y1 y2 y3 y4 => ?_
   rw [p2.out y (by omega) (by omega)]
   obtain ⟨j, j1, j2, e⟩ := p2.frm x y1 y2
   rw [e]
   exact x4 j y j1 j2 y3 y4
  ·simp (disch := first | omega | (simp only [List.length_set]; omega)) only [ilt_t, ilt_f, ile_t, ile_f, ieq_t, ieq_f, wr_i, wr_u, fd2, gI, gD, cond_true, cond_false, Option.bind_some, List.length_set, joinO_inl, Int.toNat_natCast, List.length_replicate]
   exact sym7_q hF hr hp hl ha hab hbn hn hk t1 t2 t3 t4 (x0.mono (Int.le_refl _) (by omega)) x2 x3 x4
 ·simp (disch := first | omega | (simp only [List.length_set]; omega)) only [ilt_t, ilt_f, ile_t, ile_f, ieq_t, ieq_f, wr_i, wr_u, fd2, gI, gD, cond_true, cond_false, Option.bind_some, List.length_set, joinO_inl, Int.toNat_natCast, List.length_replicate]
  exact sym7_q hF hr hp hl ha hab hbn hn hk t1 t2 t3 t4 (x1.mono (by omega) (Int.le_refl _)) x2 x3 x4
theorem sym9_q {k : Nat} {F : List Int → Int → Int → Int → List Int → Option (Unit × List Int × Int × Int × Int × (Unit × List Int × Unit) × Unit)} (hF : MQ k F) {d : List Int} {a b n t : Int} {c : List Int} (hr : Rg c d) (hl : d.length ≤ 512) (ha : 0 ≤ a) (hab : a < b) (hbn : b < n) (hn : n ≤ d.length) (hk : n - a ≤ k + 1)
  (t1 : a ≤ t) (t2 : t ≤ (a + n) / 2) (t3 : t ≤ b) (t4 : (a + n) / 2 + b - t ≤ n) (s1 : Srt c d a b) (s2 : Srt c d b n)
  (x1 : ∀ x y : Int, a ≤ x → x < t → (a + n) / 2 + b - t ≤ y → y < n → ky c (av d y) ≤ ky c (av d x)) (x2 : ∀ x y : Int, t ≤ x → x < b → b ≤ y → y < (a + n) / 2 + b - t → ky c (av d x) < ky c (av d y)) :
  ∃ d', symM_step9 F d a b n c ((t, ()), (), ()) = some ((), d', a, b, n, ((), c, ()), ()) ∧ Eff c d d' a n ∧ Srt c d' a n := by
 unfold symM_step9
 simp (disch := first | omega | (simp only [List.length_set]; omega)) only [ilt_t, ilt_f, ile_t, ile_f, ieq_t, ieq_f, wr_i, wr_u, fd2, gI, gD, cond_true, cond_false, Option.bind_some, List.length_set, joinO_inl, Int.toNat_natCast, List.length_replicate]
 by_cases h1 : t < b
 ·by_cases h2 : b < (a + n) / 2 + b - t
  ·simp (disch := first | omega | (simp only [List.length_set]; omega)) only [ilt_t, ilt_f, ile_t, ile_f, ieq_t, ieq_f, wr_i, wr_u, fd2, gI, gD, cond_true, cond_false, Option.bind_some, List.length_set, joinO_inl, Int.toNat_natCast, List.length_replicate]
   obtain ⟨d2, e2, p2, v2⟩ := rot_q (d := d) (a := t) (b := b) (n := (a + n) / 2 + b - t) c (by omega) (by omega) (by omega) (by omega) (by omega)
   rw [e2]
   have he := Eff.rot (c := c) (by omega) h1 h2 (by omega) p2 v2 x2
   have w1 : ∀ k, t ≤ k → k < (a + n) / 2 → av d2 k = av d (k + (b - t)) := fun k h1 h2 => by
    rw [v2 k (by omega)]; unfold rv; rw [if_pos (by omega)]
   have w2 : ∀ k, (a + n) / 2 ≤ k → k < (a + n) / 2 + b - t → av d2 k = av d (k - ((a + n) / 2 + b - t - b)) := fun k h1 h2 => by
    rw [v2 k (by omega)]; unfold rv; rw [if_neg (by omega), if_pos (by omega)]
   have w3 : ∀ k, 0 ≤ k → (k < t ∨ (a + n) / 2 + b - t ≤ k) → av d2 k = av d k := he.out
   refine sym8_q hF hr (he.mono ha t1 t4) hl ha hab hbn hn hk t1 t2 t3 t4 ((s1.mono (Int.le_refl _) t3).out he ha (.inl (Int.le_refl _))) (fun p q hp hpq hq => ?_) (fun p q hp hpq hq => ?_) ((s2.mono (by omega) (Int.le_refl _)).out he (by omega) (.inr (Int.le_refl _))) fun x y y1 y2 y3 y4 => ?_
   ·rw [w1 p hp (by omega), w1 q (by omega) hq]
    exact s2 _ _ (by omega) (by omega) (by omega)
   ·rw [w2 p hp (by omega), w2 q (by omega) hq]
    exact s1 _ _ (by omega) (by omega) (by omega)
   ·by_cases hx : x < t
    ·rw [w3 x (by omega) (.inl hx)]
     by_cases hy : y < (a + n) / 2 + b - t
     ·rw [w2 y y3 hy]
      exact s1 _ _ y1 (by omega) (by omega)
     ·rw [w3 y (by omega) (by omega)]
      exact x1 x y y1 hx (by omega) y4
    ·rw [w1 x (by omega) y2]
     by_cases hy : y < (a + n) / 2 + b - t
     ·rw [w2 y y3 hy]
      exact Int.le_of_lt (x2 _ _ (by omega) (by omega) (by omega) (by omega))
     ·rw [w3 y (by omega) (by omega)]
      exact s2 _ _ (by omega) (by omega) y4
  ·simp (disch := first | omega | (simp only [List.length_set]; omega)) only [ilt_t, ilt_f, ile_t, ile_f, ieq_t, ieq_f, wr_i, wr_u, fd2, gI, gD, cond_true, cond_false, Option.bind_some, List.length_set, joinO_inl, Int.toNat_natCast, List.length_replicate]
   refine sym8_q hF hr (.refl ..) hl ha hab hbn hn hk t1 t2 t3 t4 (s1.mono (Int.le_refl _) t3) (fun p q hp hpq hq => by omega) (s1.mono (by omega) (by omega)) (s2.mono (by omega) (Int.le_refl _)) fun x y y1 y2 y3 y4 => ?_
   by_cases hy : y < b
   ·exact s1 x y y1 (by omega) hy
   ·exact x1 x y y1 (by omega) (by omega) y4
 ·simp (disch := first | omega | (simp only [List.length_set]; omega)) only [ilt_t, ilt_f, ile_t, ile_f, ieq_t, ieq_f, wr_i, wr_u, fd2, gI, gD, cond_true, cond_false, Option.bind_some, List.length_set, joinO_inl, Int.toNat_natCast, List.length_replicate]
  refine sym8_q hF hr (.refl ..) hl ha hab hbn hn hk t1 t2 t3 t4 (s1.mono (Int.le_refl _) t3) (s2.mono (by omega) (by omega)) (fun p q hp hpq hq => by omega) (s2.mono (by omega) (Int.le_refl _)) fun x y y1 y2 y3 y4 => ?_
  by_cases hx : x < b
  ·exact x1 x y y1 (by omega) (by omega) y4
  ·exact s2 x y (by omega) (by omega) y4
theorem sym10_q {k : Nat} {F : List Int → Int → Int → Int → List Int → Option (Unit × List Int × Int × Int × Int × (Unit × List Int × Unit) × Unit)} (hF : MQ k F) {d : List Int} {a b n s0 r0 : Int} {c : List Int} (hr : Rg c d) (hl : d.length ≤ 512) (ha : 0 ≤ a) (hab : a < b) (hbn : b < n) (hn : n ≤ d.length) (hk : n - a ≤ k + 1)
  (t1 : a ≤ s0) (t2 : s0 ≤ r0) (t3 : r0 ≤ (a + n) / 2) (t4 : r0 ≤ b) (t5 : (a + n) / 2 + b - s0 ≤ n) (s1 : Srt c d a b) (s2 : Srt c d b n) (z1 : s0 = a ∨ (a + n) / 2 + b - s0 = n) (z2 : r0 = (a + n) / 2 ∨ r0 = b) :
  ∃ d', symM_step10 F d a b n c ((s0, r0, ()), (), ()) = some ((), d', a, b, n, ((), c, ()), ()) ∧ Eff c d d' a n ∧ Srt c d' a n := by
 unfold symM_step10
 obtain ⟨r, h1, t, rfl, ht0, ht1, k1, k2⟩ := loopO_inv (step := symM_step6 d a b n c) (fun s => ∃ i j, s = ((i, j, ()), (), ()) ∧ s0 ≤ i ∧ i ≤ j ∧ j ≤ r0 ∧ (i = s0 ∨ ky c (av d ((a + n) / 2 + b - i)) ≤ ky c (av d (i - 1))) ∧ (j = r0 ∨ ky c (av d j) < ky c (av d ((a + n) / 2 + b - 1 - j)))) (fun s => (s.1.2.1 - s.1.1).toNat)
   (fun r => ∃ t, r = .inl ((t, ()), (), ()) ∧ s0 ≤ t ∧ t ≤ r0 ∧ (t = s0 ∨ ky c (av d ((a + n) / 2 + b - t)) ≤ ky c (av d (t - 1))) ∧ (t = r0 ∨ ky c (av d t) < ky c (av d ((a + n) / 2 + b - 1 - t)))) (by
  rintro _ ⟨i, j, rfl, hi, hij, hj, k1, k2⟩
  unfold symM_step6
  by_cases h : i < j
  ·left
   have g1 := hr.at (i := (i + j) / 2) (by omega) (by omega)
   have g2 := hr.at (i := (a + n) / 2 + b - 1 - (i + j) / 2) (by omega) (by omega)
   simp (disch := first | omega | (simp only [List.length_set]; omega)) only [ilt_t, ilt_f, ile_t, ile_f, ieq_t, ieq_f, wr_i, wr_u, fd2, gI, gD, cond_true, cond_false, Option.bind_some, List.length_set, joinO_inl, Int.toNat_natCast, List.length_replicate]
   rw [cmp_p]
   simp (disch := first | omega | (simp only [List.length_set]; omega)) only [ilt_t, ilt_f, ile_t, ile_f, ieq_t, ieq_f, wr_i, wr_u, fd2, gI, gD, cond_true, cond_false, Option.bind_some, List.length_set, joinO_inl, Int.toNat_natCast, List.length_replicate]
   rw [cmp_lt]
   by_cases hc : c.getD (d.getD ((i + j) / 2).toNat 0).toNat 0 < c.getD (d.getD ((a + n) / 2 + b - 1 - (i + j) / 2).toNat 0).toNat 0
   ·rw [decide_eq_true hc]
    exact ⟨_, rfl, ⟨_, _, rfl, hi, by omega, by omega, k1, .inr hc⟩, by show ((i + j) / 2 - i).toNat < (j - i).toNat; omega⟩
   ·rw [decide_eq_false hc]
    refine ⟨_, rfl, ⟨_, _, rfl, by omega, by omega, by omega, .inr ?_, k2⟩, by show (j - ((i + j) / 2 + 1)).toNat < (j - i).toNat; omega⟩
    rw [show (i + j) / 2 + 1 - 1 = (i + j) / 2 by omega, show (a + n) / 2 + b - ((i + j) / 2 + 1) = (a + n) / 2 + b - 1 - (i + j) / 2 by omega]
    exact Int.not_lt.1 hc
  ·right
   simp (disch := first | omega | (simp only [List.length_set]; omega)) only [ilt_t, ilt_f, ile_t, ile_f, ieq_t, ieq_f, wr_i, wr_u, fd2, gI, gD, cond_true, cond_false, Option.bind_some, List.length_set, joinO_inl, Int.toNat_natCast, List.length_replicate]
   obtain rfl : i = j := by omega
   exact ⟨_, rfl, _, rfl, hi, by omega, k1, k2⟩) ((s0, r0, ()), (), ()) ⟨_, _, rfl, by omega, by omega, by omega, .inl rfl, .inl rfl⟩
 show ∃ d', joinO (loopO (symM_step6 d a b n c) ((s0, r0, ()), (), ())) _ = _ ∧ _
 rw [h1]
 refine sym9_q hF hr hl ha hab hbn hn hk (by omega) (by omega) (by omega) (by omega) s1 s2 (fun x y y1 y2 y3 y4 => ?_) (fun x y y1 y2 y3 y4 => ?_)
 ·rcases k1 with k1 | k1
  ·rcases z1 with z1 | z1
   ·omega
   ·omega
  ·refine Int.le_trans ?_ (Int.le_trans k1 ?_)
   ·by_cases e : y = (a + n) / 2 + b - t
    ·subst e; exact Int.le_refl _
    ·exact s2 _ _ (by omega) (by omega) y4
   ·by_cases e : x = t - 1
    ·subst e; exact Int.le_refl _
    ·exact s1 _ _ y1 (by omega) (by omega)
 ·rcases k2 with k2 | k2
  ·rcases z2 with z2 | z2
   ·omega
   ·omega
  ·refine Int.lt_of_le_of_lt ?_ (Int.lt_of_lt_of_le k2 ?_)
   ·by_cases e : x = t
    ·subst e; exact Int.le_refl _
    ·exact s1 _ _ (by omega) (by omega) y2
   ·by_cases e : y = (a + n) / 2 + b - 1 - t
    ·subst e; exact Int.le_refl _
    ·exact s2 _ _ y3 (by omega) (by omega)
theorem symM_q : ∀ k, MQ k (symMN k)
 | 0 => fun d a b n c hr hl ha hab hbn hn hk => by omega
 | k + 1 => fun d a b n c hr hl ha hab hbn hn hk s1 s2 => by
  show ∃ d', symMT (symMN k) d a b n c = _ ∧ _
  unfold symMT
  simp (disch := first | omega | (simp only [List.length_set]; omega)) only [ilt_t, ilt_f, ile_t, ile_f, ieq_t, ieq_f, wr_i, wr_u, fd2, gI, gD, cond_true, cond_false, Option.bind_some, List.length_set, joinO_inl, Int.toNat_natCast, List.length_replicate]
  by_cases h1 : b - a = 1
  ·simp (disch := first | omega | (simp only [List.length_set]; omega)) only [ilt_t, ilt_f, ile_t, ile_f, ieq_t, ieq_f, wr_i, wr_u, fd2, gI, gD, cond_true, cond_false, Option.bind_some, List.length_set, joinO_inl, Int.toNat_natCast, List.length_replicate]
   exact symA_q hr hl ha h1 hbn hn s2
  ·by_cases h2 : n - b = 1
   ·simp (disch := first | omega | (simp only [List.length_set]; omega)) only [ilt_t, ilt_f, ile_t, ile_f, ieq_t, ieq_f, wr_i, wr_u, fd2, gI, gD, cond_true, cond_false, Option.bind_some, List.length_set, joinO_inl, Int.toNat_natCast, List.length_replicate]
    exact symB_q hr hl ha hab h2 hn s1
   ·by_cases h3 : (a + n) / 2 < b
    ·simp (disch := first | omega | (simp only [List.length_set]; omega)) only [ilt_t, ilt_f, ile_t, ile_f, ieq_t, ieq_f, wr_i, wr_u, fd2, gI, gD, cond_true, cond_false, Option.bind_some, List.length_set, joinO_inl, Int.toNat_natCast, List.length_replicate]
     exact sym10_q (symM_q k) hr hl ha hab hbn hn (by omega) (by omega) (by omega) (by omega) (by omega) (by omega) s1 s2 (by omega) (by omega)
    ·simp (disch := first | omega | (simp only [List.length_set]; omega)) only [ilt_t, ilt_f, ile_t, ile_f, ieq_t, ieq_f, wr_i, wr_u, fd2, gI, gD, cond_true, cond_false, Option.bind_some, List.length_set, joinO_inl, Int.toNat_natCast, List.length_replicate]
     exact sym10_q (symM_q k) hr hl ha hab hbn hn (by omega) (by omega) (by omega) (by omega) (by omega) (by omega) s1 s2 (by omega) (by omega)
def Bl (c d : List Int) (k n : Int) : Prop := ∀ m : Int, 0 ≤ m → Srt c d (m * k) (min ((m + 1) * k) n)
theorem stab_q {d : List Int} {c : List Int} {n : Int} (hr : Rg c d) (hl : d.length ≤ 512) (h0 : 0 ≤ n) (hn : n ≤ d.length) :
  ∃ d', stab d n c = some ((), d', n, ((), c, ()), ()) ∧ Eff c d d' 0 n ∧ Srt c d' 0 n := by
 unfold stab
 obtain ⟨r, h1, a, d1, rfl, ha0, ha1, hp, ⟨u, hu0, hu⟩, hb⟩ := loopO_inv (step := stab_step0 n c) (fun s => ∃ a d1, s = ((a, a + 20, ()), (), (d1, ())) ∧ 0 ≤ a ∧ a ≤ n ∧ Eff c d d1 0 n ∧ (∃ u : Int, 0 ≤ u ∧ a = u * 20) ∧ ∀ m : Int, 0 ≤ m → (m + 1) * 20 ≤ a → Srt c d1 (m * 20) ((m + 1) * 20)) (fun s => (n - s.1.1).toNat)
   (fun r => ∃ a d1, r = .inl ((a, ()), (), d1, ()) ∧ 0 ≤ a ∧ (a ≤ n ∧ n < a + 20) ∧ Eff c d d1 0 n ∧ (∃ u : Int, 0 ≤ u ∧ a = u * 20) ∧ ∀ m : Int, 0 ≤ m → (m + 1) * 20 ≤ a → Srt c d1 (m * 20) ((m + 1) * 20)) (by
  rintro _ ⟨a, d1, rfl, ha, han, hp, ⟨u, hu0, hu⟩, hb⟩
  have hl1 : d1.length = d.length := hp.len
  unfold stab_step0
  by_cases h : a + 20 ≤ n
  ·left
   simp (disch := first | omega | (simp only [List.length_set]; omega)) only [ilt_t, ilt_f, ile_t, ile_f, ieq_t, ieq_f, wr_i, wr_u, fd2, gI, gD, cond_true, cond_false, Option.bind_some, List.length_set, joinO_inl, Int.toNat_natCast, List.length_replicate]
   obtain ⟨d2, e2, p2, s2⟩ := insS_q (d := d1) (a := a) (b := a + 20) (hr.perm hp.perm) (by omega) ha (by omega) (by omega)
   rw [e2]
   refine ⟨_, rfl, ⟨_, _, rfl, by omega, by omega, hp.trans (p2.mono (Int.le_refl _) ha h), ⟨u + 1, by omega, by omega⟩, fun m hm hm2 => ?_⟩, by show (n - (a + 20)).toNat < (n - a).toNat; omega⟩
   by_cases e : (m + 1) * 20 ≤ a
   ·exact (hb m hm e).out p2 (by omega) (by omega)
   ·obtain rfl : m = u := by omega
    exact s2.mono (by omega) (by omega)
  ·right
   simp (disch := first | omega | (simp only [List.length_set]; omega)) only [ilt_t, ilt_f, ile_t, ile_f, ieq_t, ieq_f, wr_i, wr_u, fd2, gI, gD, cond_true, cond_false, Option.bind_some, List.length_set, joinO_inl, Int.toNat_natCast, List.length_replicate]
   exact ⟨_, rfl, _, _, rfl, ha, ⟨han, by omega⟩, hp, ⟨u, hu0, hu⟩, hb⟩) ((0, 20, ()), (), d, ()) ⟨0, _, rfl, by omega, by omega, .refl .., ⟨0, by omega, by omega⟩, fun m h1 h2 => by omega⟩
 rw [h1]
 show ∃ d', stab_step4 n c ((a, ()), (), d1, ()) = _ ∧ _
 unfold stab_step4
 have hl1 : d1.length = d.length := hp.len
 obtain ⟨d2, e2, p2, s2⟩ := insS_q (d := d1) (a := a) (b := n) (hr.perm hp.perm) (by omega) ha0 (by omega) (by omega)
 show ∃ d', (insS d1 a n c).bind _ = _ ∧ _
 rw [e2]
 show ∃ d', loopO (stab_step3 n c) ((20, ()), (), d2, ()) = _ ∧ _
 have hB : Bl c d2 20 n := fun m hm => by
  by_cases e : (m + 1) * 20 ≤ a
  ·exact ((hb m hm e).out p2 (by omega) (by omega)).mono (Int.le_refl _) (by omega)
  ·exact s2.mono (by omega) (by omega)
 obtain ⟨r, h1, d', rfl, hp⟩ := loopO_inv (step := stab_step3 n c) (fun s => ∃ k d1, s = ((k, ()), (), (d1, ())) ∧ 20 ≤ k ∧ k ≤ 1024 ∧ Eff c d d1 0 n ∧ Bl c d1 k n) (fun s => (n - s.1.1).toNat) (fun r => ∃ d', r = ((), d', n, ((), c, ()), ()) ∧ Eff c d d' 0 n ∧ Srt c d' 0 n) (by
  rintro _ ⟨k, d1, rfl, hk, hk2, hp, hB⟩
  unfold stab_step3
  by_cases h : k < n
  ·left
   simp (disch := first | omega | (simp only [List.length_set]; omega)) only [ilt_t, ilt_f, ile_t, ile_f, ieq_t, ieq_f, wr_i, wr_u, fd2, gI, gD, cond_true, cond_false, Option.bind_some, List.length_set, joinO_inl, Int.toNat_natCast, List.length_replicate]
   obtain ⟨r, h1, d3, rfl, hp3⟩ := loopO_inv (step := stab_step2 n c ((k, ()), (), (d1, ()))) (fun s => ∃ a d1, s = ((a, a + 2 * k, ()), (), (d1, ())) ∧ 0 ≤ a ∧ a ≤ n ∧ Eff c d d1 0 n ∧ (∃ u : Int, 0 ≤ u ∧ a = u * (k * 2)) ∧ (∀ m : Int, 0 ≤ m → (m + 1) * (k * 2) ≤ a → Srt c d1 (m * (k * 2)) ((m + 1) * (k * 2))) ∧ ∀ m : Int, 0 ≤ m → a ≤ m * k → Srt c d1 (m * k) (min ((m + 1) * k) n)) (fun s => (n - s.1.1).toNat)
     (fun r => ∃ d1, r = .inl ((k * 2, ()), (), d1, ()) ∧ Eff c d d1 0 n ∧ Bl c d1 (k * 2) n) (by
    rintro _ ⟨a, d1, rfl, ha, han, hp, ⟨u, hu0, hu⟩, hb, hc⟩
    have hl1 : d1.length = d.length := hp.len
    have u1 : (2 * u) * k = a := by rw [hu, Int.mul_comm 2 u, Int.mul_assoc, Int.mul_comm 2 k]
    have u2 : (2 * u + 1) * k = a + k := by rw [Int.add_mul, u1]; omega
    have u3 : (2 * u + 1 + 1) * k = a + 2 * k := by rw [Int.add_mul, u2]; omega
    have u4 : (u + 1) * (k * 2) = a + 2 * k := by rw [Int.add_mul, ← hu]; omega
    have c1 := hc (2 * u) (by omega) (by omega)
    have c2 := hc (2 * u + 1) (by omega) (by omega)
    rw [u1, u2] at c1
    rw [u2, u3] at c2
    unfold stab_step2
    by_cases h : a + 2 * k ≤ n
    ·left
     simp (disch := first | omega | (simp only [List.length_set]; omega)) only [ilt_t, ilt_f, ile_t, ile_f, ieq_t, ieq_f, wr_i, wr_u, fd2, gI, gD, cond_true, cond_false, Option.bind_some, List.length_set, joinO_inl, Int.toNat_natCast, List.length_replicate]
     obtain ⟨d2, e2, p2, s2⟩ := symM_q 600 d1 a (a + k) (a + 2 * k) c (hr.perm hp.perm) (by omega) (by omega) (by omega) (by omega) (by omega) (by omega) (c1.mono (Int.le_refl _) (by omega)) (c2.mono (Int.le_refl _) (by omega))
     rw [show symM = symMN 600 from rfl, e2]
     refine ⟨_, rfl, ⟨_, _, rfl, by omega, by omega, hp.trans (p2.mono (Int.le_refl _) ha h), ⟨u + 1, by omega, u4.symm⟩, fun m hm hm2 => ?_, fun m hm hm2 => ?_⟩, by show (n - (a + 2 * k)).toNat < (n - a).toNat; omega⟩
     ·by_cases e : (m + 1) * (k * 2) ≤ a
      ·exact (hb m hm e).out p2 (Int.mul_nonneg hm (by omega)) (.inl e)
      ·have hmu : m = u := by
        have e1 : ¬ m < u := fun q => e (by rw [hu]; exact Int.mul_le_mul_of_nonneg_right (by omega) (by omega))
        have e2 : ¬ u < m := fun q => by
         have : (u + 1 + 1) * (k * 2) ≤ (m + 1) * (k * 2) := Int.mul_le_mul_of_nonneg_right (by omega) (by omega)
         rw [Int.add_mul, u4] at this
         omega
        omega
       subst hmu
       rw [← hu, u4]
       exact s2
     ·exact (hc m hm (by omega)).out p2 (Int.mul_nonneg hm (by omega)) (.inr hm2)
    ·right
     have hlast : ∀ d3 : List Int, Srt c d3 a n → (∀ m : Int, 0 ≤ m → (m + 1) * (k * 2) ≤ a → Srt c d3 (m * (k * 2)) ((m + 1) * (k * 2))) → Bl c d3 (k * 2) n := fun d3 h3 h4 m hm => by
      by_cases e : (m + 1) * (k * 2) ≤ a
      ·exact (h4 m hm e).mono (Int.le_refl _) (by omega)
      ·refine h3.mono ?_ (by omega)
       have e1 : ¬ m < u := fun q => e (by rw [hu]; exact Int.mul_le_mul_of_nonneg_right (by omega) (by omega))
       rw [hu]
       exact Int.mul_le_mul_of_nonneg_right (by omega) (by omega)
     by_cases h2 : a + k < n
     ·simp (disch := first | omega | (simp only [List.length_set]; omega)) only [ilt_t, ilt_f, ile_t, ile_f, ieq_t, ieq_f, wr_i, wr_u, fd2, gI, gD, cond_true, cond_false, Option.bind_some, List.length_set, joinO_inl, Int.toNat_natCast, List.length_replicate]
      obtain ⟨d2, e2, p2, s2⟩ := symM_q 600 d1 a (a + k) n c (hr.perm hp.perm) (by omega) (by omega) (by omega) (by omega) (by omega) (by omega) (c1.mono (Int.le_refl _) (by omega)) (c2.mono (Int.le_refl _) (by omega))
      rw [show symM = symMN 600 from rfl, e2]
      simp only [Option.bind_some, joinO_inl]
      unfold stab_step1
      rw [show wr .i64 (k * 2) = k * 2 from wr_i (by omega) (by omega)]
      exact ⟨_, rfl, _, rfl, hp.trans (p2.mono (Int.le_refl _) ha (Int.le_refl _)), hlast _ s2 fun m hm e => (hb m hm e).out p2 (Int.mul_nonneg hm (by omega)) (.inl e)⟩
     ·simp (disch := first | omega | (simp only [List.length_set]; omega)) only [ilt_t, ilt_f, ile_t, ile_f, ieq_t, ieq_f, wr_i, wr_u, fd2, gI, gD, cond_true, cond_false, Option.bind_some, List.length_set, joinO_inl, Int.toNat_natCast, List.length_replicate]
      unfold stab_step1
      rw [show wr .i64 (k * 2) = k * 2 from wr_i (by omega) (by omega)]
      exact ⟨_, rfl, _, rfl, hp, hlast _ (c1.mono (Int.le_refl _) (by omega)) hb⟩) ((0, 2 * k, ()), (), d1, ()) ⟨0, _, by rw [Int.zero_add], by omega, by omega, hp, ⟨0, by omega, by omega⟩, fun m hm e => by
     have : 0 < (m + 1) * (k * 2) := Int.mul_pos (by omega) (by omega)
     omega, fun m hm _ => hB m hm⟩
   rw [h1]
   exact ⟨_, rfl, ⟨_, _, rfl, by omega, by omega, hp3⟩, by show (n - (k * 2)).toNat < (n - k).toNat; omega⟩
  ·right
   simp (disch := first | omega | (simp only [List.length_set]; omega)) only [ilt_t, ilt_f, ile_t, ile_f, ieq_t, ieq_f, wr_i, wr_u, fd2, gI, gD, cond_true, cond_false, Option.bind_some, List.length_set, joinO_inl, Int.toNat_natCast, List.length_replicate]
   refine ⟨_, rfl, _, rfl, hp, ?_⟩
   have := hB 0 (by omega)
   exact this.mono (by omega) (by omega)) ((20, ()), (), d2, ()) ⟨_, _, rfl, by omega, by omega, hp.trans (p2.mono (Int.le_refl _) ha0 (Int.le_refl _)), hB⟩
 exact ⟨d', h1, hp⟩
theorem sortS_q {d c : List Int} (hr : Rg c d) (hl : d.length ≤ 512) : ∃ d', sortS d c = some ((), d', ((), c, ()), ()) ∧ Eff c d d' 0 d.length ∧ Srt c d' 0 d.length := by
 unfold sortS
 obtain ⟨d', e, p⟩ := stab_q (n := d.length) hr hl (by omega) (by omega)
 rw [e]
 exact ⟨_, rfl, p⟩
end Go.Proofs.YtfpkonppeefhfaaGreatDoor
