/-
  Sorting in place leaves a permutation, and ends.
-/
import Derived.Test.YtjdihfpfimkinaaGreatDoorT
import Derived.Test.YtjdihfpfimkinaaGreatDoorKit
set_option linter.unusedSectionVars false
set_option linter.unusedSimpArgs false
set_option linter.unusedVariables false
namespace Go.Proofs.YtjdihfpfimkinaaGreatDoor
open Go.As Go.Ms

/-- Numbers of places of c. -/
def Rg (c d : List Int) : Prop := ∀ x ∈ d, 0 ≤ x ∧ x < c.length
theorem Rg.perm {c d d' : List Int} (h : Rg c d) (p : d'.Perm d) : Rg c d' := fun x hx => h x (p.mem_iff.1 hx)
theorem Rg.at {c d : List Int} (h : Rg c d) {i : Int} (h0 : 0 ≤ i) (h1 : i < d.length) : 0 ≤ d.getD i.toNat 0 ∧ d.getD i.toNat 0 < c.length := h _ (gD_mem (by omega))
theorem cmp_p (a b : Int) : cmpI a b = some (if a < b then -1 else if b < a then 1 else 0) := by
  unfold cmpI
  rw [ieq_t rfl, ieq_t rfl]
  simp only [cond_true, cond_false]
  by_cases h : a < b
  · rw [ilt_t h, if_pos h]; rfl
  · rw [ilt_f (by omega), if_neg h]
    by_cases h2 : b < a
    · rw [ilt_t h2, if_pos h2]; rfl
    · rw [ilt_f (by omega), if_neg h2]; rfl
theorem cmp_lt (a b : Int) : ilt (if a < b then -1 else if b < a then 1 else 0) 0 = decide (a < b) := by
  by_cases h : a < b
  · rw [if_pos h, ilt_t (by omega)]; simp [h]
  · rw [if_neg h]
    by_cases h2 : b < a
    · rw [if_pos h2, ilt_f (by omega)]; simp [h]
    · rw [if_neg h2, ilt_f (by omega)]; simp [h]

theorem swapR_p {d : List Int} {a b n : Int} (c : List Int) (hl : d.length ≤ 512) (ha : 0 ≤ a) (hb : 0 ≤ b) (hn : 0 ≤ n) (h1 : a + n ≤ d.length) (h2 : b + n ≤ d.length) :
    ∃ d', swapR d a b n c = some ((), d', a, b, n, ((), c, ()), ()) ∧ d'.Perm d := by
  unfold swapR
  obtain ⟨r, h1, d', rfl, hp⟩ := loopO_inv (step := swapR_step0 a b n c) (fun s => ∃ i d1, s = ((i, ()), (), (d1, ())) ∧ 0 ≤ i ∧ i ≤ n ∧ d1.Perm d) (fun s => (n - s.1.1).toNat) (fun r => ∃ d', r = ((), d', a, b, n, ((), c, ()), ()) ∧ d'.Perm d) (by
    rintro _ ⟨i, d1, rfl, h0, hin, hp⟩
    have hl1 : d1.length = d.length := hp.length_eq
    unfold swapR_step0
    by_cases h : i < n
    · left
      simp (disch := first | omega | (simp only [List.length_set]; omega)) only [ilt_t, ilt_f, ile_t, ile_f, ieq_t, ieq_f, wr_i, wr_u, fd2, gI, gD, cond_true, cond_false, Option.bind_some, List.length_set, joinO_inl, Int.toNat_natCast, List.length_replicate]
      exact ⟨_, rfl, ⟨_, _, rfl, by omega, by omega, (swpI (by omega) (by omega) (by omega) (by omega)).trans hp⟩, by show (n - (i + 1)).toNat < (n - i).toNat; omega⟩
    · right
      simp (disch := first | omega | (simp only [List.length_set]; omega)) only [ilt_t, ilt_f, ile_t, ile_f, ieq_t, ieq_f, wr_i, wr_u, fd2, gI, gD, cond_true, cond_false, Option.bind_some, List.length_set, joinO_inl, Int.toNat_natCast, List.length_replicate]
      exact ⟨_, rfl, _, rfl, hp⟩) _ ⟨0, d, rfl, by omega, hn, .refl _⟩
  exact ⟨d', h1, hp⟩

theorem rot_p {d : List Int} {a b n : Int} (c : List Int) (hl : d.length ≤ 512) (ha : 0 ≤ a) (hb : a < b) (hn : b < n) (h1 : n ≤ d.length) :
    ∃ d', rot d a b n c = some ((), d', a, b, n, ((), c, ()), ()) ∧ d'.Perm d := by
  unfold rot
  simp (disch := first | omega | (simp only [List.length_set]; omega)) only [ilt_t, ilt_f, ile_t, ile_f, ieq_t, ieq_f, wr_i, wr_u, fd2, gI, gD, cond_true, cond_false, Option.bind_some, List.length_set, joinO_inl, Int.toNat_natCast, List.length_replicate]
  obtain ⟨r, h1, i, d1, rfl, hi0, hi1, hi2, hp⟩ := loopO_inv (step := rot_step0 b c) (fun s => ∃ i j d1, s = ((i, j, ()), (), (d1, ())) ∧ 0 < i ∧ 0 < j ∧ i ≤ b - a ∧ j ≤ n - b ∧ d1.Perm d) (fun s => (s.1.1 + s.1.2.1).toNat) (fun r => ∃ i d1, r = .inl ((i, ()), (), d1, ()) ∧ 0 < i ∧ i ≤ b - a ∧ i ≤ n - b ∧ d1.Perm d) (by
    rintro _ ⟨i, j, d1, rfl, h0, hj0, hi, hj, hp⟩
    have hl1 : d1.length = d.length := hp.length_eq
    unfold rot_step0
    by_cases h : i = j
    · right
      simp (disch := first | omega | (simp only [List.length_set]; omega)) only [ilt_t, ilt_f, ile_t, ile_f, ieq_t, ieq_f, wr_i, wr_u, fd2, gI, gD, cond_true, cond_false, Option.bind_some, List.length_set, joinO_inl, Int.toNat_natCast, List.length_replicate]
      exact ⟨_, rfl, _, _, rfl, h0, hi, by omega, hp⟩
    · left
      by_cases h2 : j < i
      · simp (disch := first | omega | (simp only [List.length_set]; omega)) only [ilt_t, ilt_f, ile_t, ile_f, ieq_t, ieq_f, wr_i, wr_u, fd2, gI, gD, cond_true, cond_false, Option.bind_some, List.length_set, joinO_inl, Int.toNat_natCast, List.length_replicate]
        obtain ⟨d2, e2, p2⟩ := swapR_p (d := d1) (a := b - i) (b := b) (n := j) c (by omega) (by omega) (by omega) (by omega) (by omega) (by omega)
        rw [e2]
        exact ⟨_, rfl, ⟨_, _, _, rfl, by omega, by omega, by omega, by omega, p2.trans hp⟩, by show (i - j + j).toNat < (i + j).toNat; omega⟩
      · simp (disch := first | omega | (simp only [List.length_set]; omega)) only [ilt_t, ilt_f, ile_t, ile_f, ieq_t, ieq_f, wr_i, wr_u, fd2, gI, gD, cond_true, cond_false, Option.bind_some, List.length_set, joinO_inl, Int.toNat_natCast, List.length_replicate]
        obtain ⟨d2, e2, p2⟩ := swapR_p (d := d1) (a := b - i) (b := b + j - i) (n := i) c (by omega) (by omega) (by omega) (by omega) (by omega) (by omega)
        rw [e2]
        exact ⟨_, rfl, ⟨_, _, _, rfl, by omega, by omega, by omega, by omega, p2.trans hp⟩, by show (i + (j - i)).toNat < (i + j).toNat; omega⟩) ((b - a, n - b, ()), (), d, ()) ⟨_, _, _, rfl, by omega, by omega, by omega, by omega, .refl _⟩
  rw [h1]
  show ∃ d', rot_step1 a b n c ((i, ()), (), d1, ()) = _ ∧ _
  unfold rot_step1
  have hl1 : d1.length = d.length := hp.length_eq
  simp (disch := first | omega | (simp only [List.length_set]; omega)) only [ilt_t, ilt_f, ile_t, ile_f, ieq_t, ieq_f, wr_i, wr_u, fd2, gI, gD, cond_true, cond_false, Option.bind_some, List.length_set, joinO_inl, Int.toNat_natCast, List.length_replicate]
  obtain ⟨d2, e2, p2⟩ := swapR_p (d := d1) (a := b - i) (b := b) (n := i) c (by omega) (by omega) (by omega) (by omega) (by omega) (by omega)
  rw [e2]
  exact ⟨_, rfl, p2.trans hp⟩

theorem insS_p {d : List Int} {a b : Int} {c : List Int} (hr : Rg c d) (hl : d.length ≤ 512) (ha : 0 ≤ a) (hab : a ≤ b) (hb : b ≤ d.length) :
    ∃ d', insS d a b c = some ((), d', a, b, ((), c, ()), ()) ∧ d'.Perm d := by
  unfold insS
  simp (disch := first | omega | (simp only [List.length_set]; omega)) only [ilt_t, ilt_f, ile_t, ile_f, ieq_t, ieq_f, wr_i, wr_u, fd2, gI, gD, cond_true, cond_false, Option.bind_some, List.length_set, joinO_inl, Int.toNat_natCast, List.length_replicate]
  obtain ⟨r, h1, d', rfl, hp⟩ := loopO_inv (step := insS_step2 a b c) (fun s => ∃ i d1, s = ((i, ()), (), (d1, ())) ∧ a + 1 ≤ i ∧ i ≤ b + 1 ∧ d1.Perm d) (fun s => (b + 1 - s.1.1).toNat) (fun r => ∃ d', r = ((), d', a, b, ((), c, ()), ()) ∧ d'.Perm d) (by
    rintro _ ⟨i, d1, rfl, hi, hib, hp⟩
    have hl1 : d1.length = d.length := hp.length_eq
    unfold insS_step2
    by_cases h : i < b
    · left
      simp (disch := first | omega | (simp only [List.length_set]; omega)) only [ilt_t, ilt_f, ile_t, ile_f, ieq_t, ieq_f, wr_i, wr_u, fd2, gI, gD, cond_true, cond_false, Option.bind_some, List.length_set, joinO_inl, Int.toNat_natCast, List.length_replicate]
      obtain ⟨r, h1, d3, rfl, hp3⟩ := loopO_inv (step := insS_step0 a c) (fun s => ∃ j d2, s = ((j, ()), (), (d2, ())) ∧ a ≤ j ∧ j < b ∧ d2.Perm d) (fun s => (s.1.1 - a).toNat) (fun r => ∃ d', r = .inl ((), (), d', ()) ∧ d'.Perm d) (by
        rintro _ ⟨j, d2, rfl, hj, hjb, hp2⟩
        have hl2 : d2.length = d.length := hp2.length_eq
        unfold insS_step0
        by_cases h : a < j
        · have hr2 := hr.perm hp2
          have g1 := hr2.at (i := j) (by omega) (by omega)
          have g2 := hr2.at (i := j - 1) (by omega) (by omega)
          simp (disch := first | omega | (simp only [List.length_set]; omega)) only [ilt_t, ilt_f, ile_t, ile_f, ieq_t, ieq_f, wr_i, wr_u, fd2, gI, gD, cond_true, cond_false, Option.bind_some, List.length_set, joinO_inl, Int.toNat_natCast, List.length_replicate]
          rw [cmp_p]
          simp (disch := first | omega | (simp only [List.length_set]; omega)) only [ilt_t, ilt_f, ile_t, ile_f, ieq_t, ieq_f, wr_i, wr_u, fd2, gI, gD, cond_true, cond_false, Option.bind_some, List.length_set, joinO_inl, Int.toNat_natCast, List.length_replicate]
          rw [cmp_lt]
          by_cases hc : c.getD (d2.getD (j - 1).toNat 0).toNat 0 < c.getD (d2.getD j.toNat 0).toNat 0
          · left
            rw [decide_eq_true hc]
            simp (disch := first | omega | (simp only [List.length_set]; omega)) only [ilt_t, ilt_f, ile_t, ile_f, ieq_t, ieq_f, wr_i, wr_u, fd2, gI, gD, cond_true, cond_false, Option.bind_some, List.length_set, joinO_inl, Int.toNat_natCast, List.length_replicate]
            exact ⟨_, rfl, ⟨_, _, rfl, by omega, by omega, (swpI (by omega) (by omega) (by omega) (by omega)).trans hp2⟩, by show (j - 1 - a).toNat < (j - a).toNat; omega⟩
          · right
            rw [decide_eq_false hc]
            exact ⟨_, rfl, _, rfl, hp2⟩
        · right
          simp (disch := first | omega | (simp only [List.length_set]; omega)) only [ilt_t, ilt_f, ile_t, ile_f, ieq_t, ieq_f, wr_i, wr_u, fd2, gI, gD, cond_true, cond_false, Option.bind_some, List.length_set, joinO_inl, Int.toNat_natCast, List.length_replicate]
          exact ⟨_, rfl, _, rfl, hp2⟩) ((i, ()), (), d1, ()) ⟨_, _, rfl, by omega, h, hp⟩
      rw [h1]
      show ∃ s', insS_step1 ((i, ()), (), d1, ()) ((), (), d3, ()) = some (Sum.inl s') ∧ _
      unfold insS_step1
      simp (disch := first | omega | (simp only [List.length_set]; omega)) only [ilt_t, ilt_f, ile_t, ile_f, ieq_t, ieq_f, wr_i, wr_u, fd2, gI, gD, cond_true, cond_false, Option.bind_some, List.length_set, joinO_inl, Int.toNat_natCast, List.length_replicate]
      exact ⟨_, rfl, ⟨_, _, rfl, by omega, by omega, hp3⟩, by show (b + 1 - (i + 1)).toNat < (b + 1 - i).toNat; omega⟩
    · right
      simp (disch := first | omega | (simp only [List.length_set]; omega)) only [ilt_t, ilt_f, ile_t, ile_f, ieq_t, ieq_f, wr_i, wr_u, fd2, gI, gD, cond_true, cond_false, Option.bind_some, List.length_set, joinO_inl, Int.toNat_natCast, List.length_replicate]
      exact ⟨_, rfl, _, rfl, hp⟩) ((a + 1, ()), (), d, ()) ⟨_, _, rfl, by omega, by omega, .refl _⟩
  exact ⟨d', h1, hp⟩

/-- A merge in place ends, up to this width, and leaves a permutation. -/
def MOk (k : Nat) (F : List Int → Int → Int → Int → List Int → Option (Unit × List Int × Int × Int × Int × (Unit × List Int × Unit) × Unit)) : Prop :=
  ∀ (d : List Int) (a b n : Int) (c : List Int), Rg c d → d.length ≤ 512 → 0 ≤ a → a < b → b < n → n ≤ d.length → n - a ≤ k → ∃ d', F d a b n c = some ((), d', a, b, n, ((), c, ()), ()) ∧ d'.Perm d
theorem symA {d : List Int} {a b n : Int} {c : List Int} (hr : Rg c d) (hl : d.length ≤ 512) (ha : 0 ≤ a) (hab : a < b) (hbn : b < n) (hn : n ≤ d.length) :
    ∃ d', joinO (loopO (symM_step0 d a c) ((b, n, ()), (), ())) (symM_step2 d a b n c) = some ((), d', a, b, n, ((), c, ()), ()) ∧ d'.Perm d := by
  obtain ⟨r, h1, t, rfl, ht0, ht1⟩ := loopO_inv (step := symM_step0 d a c) (fun s => ∃ i j, s = ((i, j, ()), (), ()) ∧ b ≤ i ∧ i ≤ j ∧ j ≤ n) (fun s => (s.1.2.1 - s.1.1).toNat) (fun r => ∃ t, r = .inl ((t, ()), (), ()) ∧ b ≤ t ∧ t ≤ n) (by
    rintro _ ⟨i, j, rfl, hi, hij, hj⟩
    unfold symM_step0
    by_cases h : i < j
    · left
      have g1 := hr.at (i := (i + j) / 2) (by omega) (by omega)
      have g2 := hr.at (i := a) (by omega) (by omega)
      simp (disch := first | omega | (simp only [List.length_set]; omega)) only [ilt_t, ilt_f, ile_t, ile_f, ieq_t, ieq_f, wr_i, wr_u, fd2, gI, gD, cond_true, cond_false, Option.bind_some, List.length_set, joinO_inl, Int.toNat_natCast, List.length_replicate]
      rw [cmp_p]
      simp (disch := first | omega | (simp only [List.length_set]; omega)) only [ilt_t, ilt_f, ile_t, ile_f, ieq_t, ieq_f, wr_i, wr_u, fd2, gI, gD, cond_true, cond_false, Option.bind_some, List.length_set, joinO_inl, Int.toNat_natCast, List.length_replicate]
      rw [cmp_lt]
      cases decide (c.getD (d.getD a.toNat 0).toNat 0 < c.getD (d.getD ((i + j) / 2).toNat 0).toNat 0)
      · exact ⟨_, rfl, ⟨_, _, rfl, hi, by omega, by omega⟩, by show ((i + j) / 2 - i).toNat < (j - i).toNat; omega⟩
      · exact ⟨_, rfl, ⟨_, _, rfl, by omega, by omega, by omega⟩, by show (j - ((i + j) / 2 + 1)).toNat < (j - i).toNat; omega⟩
    · right
      simp (disch := first | omega | (simp only [List.length_set]; omega)) only [ilt_t, ilt_f, ile_t, ile_f, ieq_t, ieq_f, wr_i, wr_u, fd2, gI, gD, cond_true, cond_false, Option.bind_some, List.length_set, joinO_inl, Int.toNat_natCast, List.length_replicate]
      exact ⟨_, rfl, _, rfl, hi, by omega⟩) ((b, n, ()), (), ()) ⟨_, _, rfl, by omega, by omega, by omega⟩
  rw [h1]
  show ∃ d', symM_step2 d a b n c ((t, ()), (), ()) = _ ∧ _
  unfold symM_step2
  obtain ⟨r, h1, d', rfl, hp⟩ := loopO_inv (step := symM_step1 a b n c ((t, ()), (), ())) (fun s => ∃ i d1, s = ((i, ()), (), (d1, ())) ∧ a ≤ i ∧ i ≤ t ∧ d1.Perm d) (fun s => (n - s.1.1).toNat) (fun r => ∃ d', r = ((), d', a, b, n, ((), c, ()), ()) ∧ d'.Perm d) (by
    rintro _ ⟨i, d1, rfl, hi, hit, hp⟩
    have hl1 : d1.length = d.length := hp.length_eq
    unfold symM_step1
    simp (disch := first | omega | (simp only [List.length_set]; omega)) only [ilt_t, ilt_f, ile_t, ile_f, ieq_t, ieq_f, wr_i, wr_u, fd2, gI, gD, cond_true, cond_false, Option.bind_some, List.length_set, joinO_inl, Int.toNat_natCast, List.length_replicate]
    by_cases h : i < t - 1
    · left
      simp (disch := first | omega | (simp only [List.length_set]; omega)) only [ilt_t, ilt_f, ile_t, ile_f, ieq_t, ieq_f, wr_i, wr_u, fd2, gI, gD, cond_true, cond_false, Option.bind_some, List.length_set, joinO_inl, Int.toNat_natCast, List.length_replicate]
      exact ⟨_, rfl, ⟨_, _, rfl, by omega, by omega, (swpI (by omega) (by omega) (by omega) (by omega)).trans hp⟩, by show (n - (i + 1)).toNat < (n - i).toNat; omega⟩
    · right
      simp (disch := first | omega | (simp only [List.length_set]; omega)) only [ilt_t, ilt_f, ile_t, ile_f, ieq_t, ieq_f, wr_i, wr_u, fd2, gI, gD, cond_true, cond_false, Option.bind_some, List.length_set, joinO_inl, Int.toNat_natCast, List.length_replicate]
      exact ⟨_, rfl, _, rfl, hp⟩) ((a, ()), (), d, ()) ⟨_, _, rfl, by omega, by omega, .refl _⟩
  exact ⟨d', h1, hp⟩
theorem symB {d : List Int} {a b n : Int} {c : List Int} (hr : Rg c d) (hl : d.length ≤ 512) (ha : 0 ≤ a) (hab : a < b) (hbn : b < n) (hn : n ≤ d.length) :
    ∃ d', joinO (loopO (symM_step3 d b c) ((a, b, ()), (), ())) (symM_step5 d a b n c) = some ((), d', a, b, n, ((), c, ()), ()) ∧ d'.Perm d := by
  obtain ⟨r, h1, t, rfl, ht0, ht1⟩ := loopO_inv (step := symM_step3 d b c) (fun s => ∃ i j, s = ((i, j, ()), (), ()) ∧ a ≤ i ∧ i ≤ j ∧ j ≤ b) (fun s => (s.1.2.1 - s.1.1).toNat) (fun r => ∃ t, r = .inl ((t, ()), (), ()) ∧ a ≤ t ∧ t ≤ b) (by
    rintro _ ⟨i, j, rfl, hi, hij, hj⟩
    unfold symM_step3
    by_cases h : i < j
    · left
      have g1 := hr.at (i := (i + j) / 2) (by omega) (by omega)
      have g2 := hr.at (i := b) (by omega) (by omega)
      simp (disch := first | omega | (simp only [List.length_set]; omega)) only [ilt_t, ilt_f, ile_t, ile_f, ieq_t, ieq_f, wr_i, wr_u, fd2, gI, gD, cond_true, cond_false, Option.bind_some, List.length_set, joinO_inl, Int.toNat_natCast, List.length_replicate]
      rw [cmp_p]
      simp (disch := first | omega | (simp only [List.length_set]; omega)) only [ilt_t, ilt_f, ile_t, ile_f, ieq_t, ieq_f, wr_i, wr_u, fd2, gI, gD, cond_true, cond_false, Option.bind_some, List.length_set, joinO_inl, Int.toNat_natCast, List.length_replicate]
      rw [cmp_lt]
      cases decide (c.getD (d.getD ((i + j) / 2).toNat 0).toNat 0 < c.getD (d.getD b.toNat 0).toNat 0)
      · exact ⟨_, rfl, ⟨_, _, rfl, by omega, by omega, by omega⟩, by show (j - ((i + j) / 2 + 1)).toNat < (j - i).toNat; omega⟩
      · exact ⟨_, rfl, ⟨_, _, rfl, hi, by omega, by omega⟩, by show ((i + j) / 2 - i).toNat < (j - i).toNat; omega⟩
    · right
      simp (disch := first | omega | (simp only [List.length_set]; omega)) only [ilt_t, ilt_f, ile_t, ile_f, ieq_t, ieq_f, wr_i, wr_u, fd2, gI, gD, cond_true, cond_false, Option.bind_some, List.length_set, joinO_inl, Int.toNat_natCast, List.length_replicate]
      exact ⟨_, rfl, _, rfl, hi, by omega⟩) ((a, b, ()), (), ()) ⟨_, _, rfl, by omega, by omega, by omega⟩
  rw [h1]
  show ∃ d', symM_step5 d a b n c ((t, ()), (), ()) = _ ∧ _
  unfold symM_step5
  obtain ⟨r, h1, d', rfl, hp⟩ := loopO_inv (step := symM_step4 a b n c ((t, ()), (), ())) (fun s => ∃ i d1, s = ((i, ()), (), (d1, ())) ∧ t ≤ i ∧ i ≤ b ∧ d1.Perm d) (fun s => (s.1.1).toNat) (fun r => ∃ d', r = ((), d', a, b, n, ((), c, ()), ()) ∧ d'.Perm d) (by
    rintro _ ⟨i, d1, rfl, hi, hit, hp⟩
    have hl1 : d1.length = d.length := hp.length_eq
    unfold symM_step4
    by_cases h : t < i
    · left
      simp (disch := first | omega | (simp only [List.length_set]; omega)) only [ilt_t, ilt_f, ile_t, ile_f, ieq_t, ieq_f, wr_i, wr_u, fd2, gI, gD, cond_true, cond_false, Option.bind_some, List.length_set, joinO_inl, Int.toNat_natCast, List.length_replicate]
      exact ⟨_, rfl, ⟨_, _, rfl, by omega, by omega, (swpI (by omega) (by omega) (by omega) (by omega)).trans hp⟩, by show (i - 1).toNat < i.toNat; omega⟩
    · right
      simp (disch := first | omega | (simp only [List.length_set]; omega)) only [ilt_t, ilt_f, ile_t, ile_f, ieq_t, ieq_f, wr_i, wr_u, fd2, gI, gD, cond_true, cond_false, Option.bind_some, List.length_set, joinO_inl, Int.toNat_natCast, List.length_replicate]
      exact ⟨_, rfl, _, rfl, hp⟩) ((b, ()), (), d, ()) ⟨_, _, rfl, by omega, by omega, .refl _⟩
  exact ⟨d', h1, hp⟩
theorem sym7 {k : Nat} {F : List Int → Int → Int → Int → List Int → Option (Unit × List Int × Int × Int × Int × (Unit × List Int × Unit) × Unit)} (hF : MOk k F) {d0 d : List Int} {a b n t : Int} {c : List Int} (hr : Rg c d0) (hp : d.Perm d0) (hl : d0.length ≤ 512) (ha : 0 ≤ a) (hab : a < b) (hbn : b < n) (hn : n ≤ d0.length) (hk : n - a ≤ k + 1)
    (t1 : a ≤ t) (t2 : t ≤ (a + n) / 2) (t3 : t ≤ b) (t4 : (a + n) / 2 + b - t ≤ n) :
    ∃ d', symM_step7 F a b n c ((t, ()), (), ()) ((), (), d, ()) = some ((), d', a, b, n, ((), c, ()), ()) ∧ d'.Perm d0 := by
  have hl1 : d.length = d0.length := hp.length_eq
  unfold symM_step7
  simp (disch := first | omega | (simp only [List.length_set]; omega)) only [ilt_t, ilt_f, ile_t, ile_f, ieq_t, ieq_f, wr_i, wr_u, fd2, gI, gD, cond_true, cond_false, Option.bind_some, List.length_set, joinO_inl, Int.toNat_natCast, List.length_replicate]
  by_cases h1 : (a + n) / 2 < (a + n) / 2 + b - t
  · by_cases h2 : (a + n) / 2 + b - t < n
    · simp (disch := first | omega | (simp only [List.length_set]; omega)) only [ilt_t, ilt_f, ile_t, ile_f, ieq_t, ieq_f, wr_i, wr_u, fd2, gI, gD, cond_true, cond_false, Option.bind_some, List.length_set, joinO_inl, Int.toNat_natCast, List.length_replicate]
      obtain ⟨d2, e2, p2⟩ := hF d ((a + n) / 2) ((a + n) / 2 + b - t) n c (hr.perm hp) (by omega) (by omega) (by omega) (by omega) (by omega) (by omega)
      rw [e2]
      exact ⟨_, rfl, p2.trans hp⟩
    · simp (disch := first | omega | (simp only [List.length_set]; omega)) only [ilt_t, ilt_f, ile_t, ile_f, ieq_t, ieq_f, wr_i, wr_u, fd2, gI, gD, cond_true, cond_false, Option.bind_some, List.length_set, joinO_inl, Int.toNat_natCast, List.length_replicate]
      exact ⟨_, rfl, hp⟩
  · simp (disch := first | omega | (simp only [List.length_set]; omega)) only [ilt_t, ilt_f, ile_t, ile_f, ieq_t, ieq_f, wr_i, wr_u, fd2, gI, gD, cond_true, cond_false, Option.bind_some, List.length_set, joinO_inl, Int.toNat_natCast, List.length_replicate]
    exact ⟨_, rfl, hp⟩
theorem sym8 {k : Nat} {F : List Int → Int → Int → Int → List Int → Option (Unit × List Int × Int × Int × Int × (Unit × List Int × Unit) × Unit)} (hF : MOk k F) {d0 d : List Int} {a b n t : Int} {c : List Int} (hr : Rg c d0) (hp : d.Perm d0) (hl : d0.length ≤ 512) (ha : 0 ≤ a) (hab : a < b) (hbn : b < n) (hn : n ≤ d0.length) (hk : n - a ≤ k + 1)
    (t1 : a ≤ t) (t2 : t ≤ (a + n) / 2) (t3 : t ≤ b) (t4 : (a + n) / 2 + b - t ≤ n) :
    ∃ d', symM_step8 F a b n c ((t, ()), (), ()) ((), (), d, ()) = some ((), d', a, b, n, ((), c, ()), ()) ∧ d'.Perm d0 := by
  have hl1 : d.length = d0.length := hp.length_eq
  unfold symM_step8
  simp (disch := first | omega | (simp only [List.length_set]; omega)) only [ilt_t, ilt_f, ile_t, ile_f, ieq_t, ieq_f, wr_i, wr_u, fd2, gI, gD, cond_true, cond_false, Option.bind_some, List.length_set, joinO_inl, Int.toNat_natCast, List.length_replicate]
  by_cases h1 : a < t
  · by_cases h2 : t < (a + n) / 2
    · simp (disch := first | omega | (simp only [List.length_set]; omega)) only [ilt_t, ilt_f, ile_t, ile_f, ieq_t, ieq_f, wr_i, wr_u, fd2, gI, gD, cond_true, cond_false, Option.bind_some, List.length_set, joinO_inl, Int.toNat_natCast, List.length_replicate]
      obtain ⟨d2, e2, p2⟩ := hF d a t ((a + n) / 2) c (hr.perm hp) (by omega) (by omega) (by omega) (by omega) (by omega) (by omega)
      rw [e2]
      exact sym7 hF hr (p2.trans hp) hl ha hab hbn hn hk t1 t2 t3 t4
    · simp (disch := first | omega | (simp only [List.length_set]; omega)) only [ilt_t, ilt_f, ile_t, ile_f, ieq_t, ieq_f, wr_i, wr_u, fd2, gI, gD, cond_true, cond_false, Option.bind_some, List.length_set, joinO_inl, Int.toNat_natCast, List.length_replicate]
      exact sym7 hF hr hp hl ha hab hbn hn hk t1 t2 t3 t4
  · simp (disch := first | omega | (simp only [List.length_set]; omega)) only [ilt_t, ilt_f, ile_t, ile_f, ieq_t, ieq_f, wr_i, wr_u, fd2, gI, gD, cond_true, cond_false, Option.bind_some, List.length_set, joinO_inl, Int.toNat_natCast, List.length_replicate]
    exact sym7 hF hr hp hl ha hab hbn hn hk t1 t2 t3 t4
theorem sym9 {k : Nat} {F : List Int → Int → Int → Int → List Int → Option (Unit × List Int × Int × Int × Int × (Unit × List Int × Unit) × Unit)} (hF : MOk k F) {d : List Int} {a b n t : Int} {c : List Int} (hr : Rg c d) (hl : d.length ≤ 512) (ha : 0 ≤ a) (hab : a < b) (hbn : b < n) (hn : n ≤ d.length) (hk : n - a ≤ k + 1)
    (t1 : a ≤ t) (t2 : t ≤ (a + n) / 2) (t3 : t ≤ b) (t4 : (a + n) / 2 + b - t ≤ n) :
    ∃ d', symM_step9 F d a b n c ((t, ()), (), ()) = some ((), d', a, b, n, ((), c, ()), ()) ∧ d'.Perm d := by
  unfold symM_step9
  simp (disch := first | omega | (simp only [List.length_set]; omega)) only [ilt_t, ilt_f, ile_t, ile_f, ieq_t, ieq_f, wr_i, wr_u, fd2, gI, gD, cond_true, cond_false, Option.bind_some, List.length_set, joinO_inl, Int.toNat_natCast, List.length_replicate]
  by_cases h1 : t < b
  · by_cases h2 : b < (a + n) / 2 + b - t
    · simp (disch := first | omega | (simp only [List.length_set]; omega)) only [ilt_t, ilt_f, ile_t, ile_f, ieq_t, ieq_f, wr_i, wr_u, fd2, gI, gD, cond_true, cond_false, Option.bind_some, List.length_set, joinO_inl, Int.toNat_natCast, List.length_replicate]
      obtain ⟨d2, e2, p2⟩ := rot_p (d := d) (a := t) (b := b) (n := (a + n) / 2 + b - t) c (by omega) (by omega) (by omega) (by omega) (by omega)
      rw [e2]
      exact sym8 hF hr p2 hl ha hab hbn hn hk t1 t2 t3 t4
    · simp (disch := first | omega | (simp only [List.length_set]; omega)) only [ilt_t, ilt_f, ile_t, ile_f, ieq_t, ieq_f, wr_i, wr_u, fd2, gI, gD, cond_true, cond_false, Option.bind_some, List.length_set, joinO_inl, Int.toNat_natCast, List.length_replicate]
      exact sym8 hF hr (.refl _) hl ha hab hbn hn hk t1 t2 t3 t4
  · simp (disch := first | omega | (simp only [List.length_set]; omega)) only [ilt_t, ilt_f, ile_t, ile_f, ieq_t, ieq_f, wr_i, wr_u, fd2, gI, gD, cond_true, cond_false, Option.bind_some, List.length_set, joinO_inl, Int.toNat_natCast, List.length_replicate]
    exact sym8 hF hr (.refl _) hl ha hab hbn hn hk t1 t2 t3 t4
theorem sym10 {k : Nat} {F : List Int → Int → Int → Int → List Int → Option (Unit × List Int × Int × Int × Int × (Unit × List Int × Unit) × Unit)} (hF : MOk k F) {d : List Int} {a b n s0 r0 : Int} {c : List Int} (hr : Rg c d) (hl : d.length ≤ 512) (ha : 0 ≤ a) (hab : a < b) (hbn : b < n) (hn : n ≤ d.length) (hk : n - a ≤ k + 1)
    (t1 : a ≤ s0) (t2 : s0 ≤ r0) (t3 : r0 ≤ (a + n) / 2) (t4 : r0 ≤ b) (t5 : (a + n) / 2 + b - s0 ≤ n) :
    ∃ d', symM_step10 F d a b n c ((s0, r0, ()), (), ()) = some ((), d', a, b, n, ((), c, ()), ()) ∧ d'.Perm d := by
  unfold symM_step10
  obtain ⟨r, h1, t, rfl, ht0, ht1⟩ := loopO_inv (step := symM_step6 d a b n c) (fun s => ∃ i j, s = ((i, j, ()), (), ()) ∧ s0 ≤ i ∧ i ≤ j ∧ j ≤ r0) (fun s => (s.1.2.1 - s.1.1).toNat) (fun r => ∃ t, r = .inl ((t, ()), (), ()) ∧ s0 ≤ t ∧ t ≤ r0) (by
    rintro _ ⟨i, j, rfl, hi, hij, hj⟩
    unfold symM_step6
    by_cases h : i < j
    · left
      have g1 := hr.at (i := (i + j) / 2) (by omega) (by omega)
      have g2 := hr.at (i := (a + n) / 2 + b - 1 - (i + j) / 2) (by omega) (by omega)
      simp (disch := first | omega | (simp only [List.length_set]; omega)) only [ilt_t, ilt_f, ile_t, ile_f, ieq_t, ieq_f, wr_i, wr_u, fd2, gI, gD, cond_true, cond_false, Option.bind_some, List.length_set, joinO_inl, Int.toNat_natCast, List.length_replicate]
      rw [cmp_p]
      simp (disch := first | omega | (simp only [List.length_set]; omega)) only [ilt_t, ilt_f, ile_t, ile_f, ieq_t, ieq_f, wr_i, wr_u, fd2, gI, gD, cond_true, cond_false, Option.bind_some, List.length_set, joinO_inl, Int.toNat_natCast, List.length_replicate]
      rw [cmp_lt]
      cases decide (c.getD (d.getD ((i + j) / 2).toNat 0).toNat 0 < c.getD (d.getD ((a + n) / 2 + b - 1 - (i + j) / 2).toNat 0).toNat 0)
      · exact ⟨_, rfl, ⟨_, _, rfl, by omega, by omega, by omega⟩, by show (j - ((i + j) / 2 + 1)).toNat < (j - i).toNat; omega⟩
      · exact ⟨_, rfl, ⟨_, _, rfl, hi, by omega, by omega⟩, by show ((i + j) / 2 - i).toNat < (j - i).toNat; omega⟩
    · right
      simp (disch := first | omega | (simp only [List.length_set]; omega)) only [ilt_t, ilt_f, ile_t, ile_f, ieq_t, ieq_f, wr_i, wr_u, fd2, gI, gD, cond_true, cond_false, Option.bind_some, List.length_set, joinO_inl, Int.toNat_natCast, List.length_replicate]
      exact ⟨_, rfl, _, rfl, hi, by omega⟩) ((s0, r0, ()), (), ()) ⟨_, _, rfl, by omega, by omega, by omega⟩
  show ∃ d', joinO (loopO (symM_step6 d a b n c) ((s0, r0, ()), (), ())) _ = _ ∧ _
  rw [h1]
  exact sym9 hF hr hl ha hab hbn hn hk (by omega) (by omega) (by omega) (by omega)
theorem symM_p : ∀ k, MOk k (symMN k)
  | 0 => fun d a b n c hr hl ha hab hbn hn hk => by omega
  | k + 1 => fun d a b n c hr hl ha hab hbn hn hk => by
    show ∃ d', symMT (symMN k) d a b n c = _ ∧ _
    unfold symMT
    simp (disch := first | omega | (simp only [List.length_set]; omega)) only [ilt_t, ilt_f, ile_t, ile_f, ieq_t, ieq_f, wr_i, wr_u, fd2, gI, gD, cond_true, cond_false, Option.bind_some, List.length_set, joinO_inl, Int.toNat_natCast, List.length_replicate]
    by_cases h1 : b - a = 1
    · simp (disch := first | omega | (simp only [List.length_set]; omega)) only [ilt_t, ilt_f, ile_t, ile_f, ieq_t, ieq_f, wr_i, wr_u, fd2, gI, gD, cond_true, cond_false, Option.bind_some, List.length_set, joinO_inl, Int.toNat_natCast, List.length_replicate]
      exact symA hr hl ha hab hbn hn
    · by_cases h2 : n - b = 1
      · simp (disch := first | omega | (simp only [List.length_set]; omega)) only [ilt_t, ilt_f, ile_t, ile_f, ieq_t, ieq_f, wr_i, wr_u, fd2, gI, gD, cond_true, cond_false, Option.bind_some, List.length_set, joinO_inl, Int.toNat_natCast, List.length_replicate]
        exact symB hr hl ha hab hbn hn
      · by_cases h3 : (a + n) / 2 < b
        · simp (disch := first | omega | (simp only [List.length_set]; omega)) only [ilt_t, ilt_f, ile_t, ile_f, ieq_t, ieq_f, wr_i, wr_u, fd2, gI, gD, cond_true, cond_false, Option.bind_some, List.length_set, joinO_inl, Int.toNat_natCast, List.length_replicate]
          exact sym10 (symM_p k) hr hl ha hab hbn hn (by omega) (by omega) (by omega) (by omega) (by omega) (by omega)
        · simp (disch := first | omega | (simp only [List.length_set]; omega)) only [ilt_t, ilt_f, ile_t, ile_f, ieq_t, ieq_f, wr_i, wr_u, fd2, gI, gD, cond_true, cond_false, Option.bind_some, List.length_set, joinO_inl, Int.toNat_natCast, List.length_replicate]
          exact sym10 (symM_p k) hr hl ha hab hbn hn (by omega) (by omega) (by omega) (by omega) (by omega) (by omega)

theorem stab_p {d : List Int} {c : List Int} {n : Int} (hr : Rg c d) (hl : d.length ≤ 512) (h0 : 0 ≤ n) (hn : n ≤ d.length) :
    ∃ d', stab d n c = some ((), d', n, ((), c, ()), ()) ∧ d'.Perm d := by
  unfold stab
  obtain ⟨r, h1, a, d1, rfl, ha0, ha1, hp⟩ := loopO_inv (step := stab_step0 n c) (fun s => ∃ a d1, s = ((a, a + 20, ()), (), (d1, ())) ∧ 0 ≤ a ∧ a ≤ n ∧ d1.Perm d) (fun s => (n - s.1.1).toNat) (fun r => ∃ a d1, r = .inl ((a, ()), (), d1, ()) ∧ 0 ≤ a ∧ a ≤ n ∧ d1.Perm d) (by
    rintro _ ⟨a, d1, rfl, ha, han, hp⟩
    have hl1 : d1.length = d.length := hp.length_eq
    unfold stab_step0
    by_cases h : a + 20 ≤ n
    · left
      simp (disch := first | omega | (simp only [List.length_set]; omega)) only [ilt_t, ilt_f, ile_t, ile_f, ieq_t, ieq_f, wr_i, wr_u, fd2, gI, gD, cond_true, cond_false, Option.bind_some, List.length_set, joinO_inl, Int.toNat_natCast, List.length_replicate]
      obtain ⟨d2, e2, p2⟩ := insS_p (d := d1) (a := a) (b := a + 20) (hr.perm hp) (by omega) ha (by omega) (by omega)
      rw [e2]
      exact ⟨_, rfl, ⟨_, _, rfl, by omega, by omega, p2.trans hp⟩, by show (n - (a + 20)).toNat < (n - a).toNat; omega⟩
    · right
      simp (disch := first | omega | (simp only [List.length_set]; omega)) only [ilt_t, ilt_f, ile_t, ile_f, ieq_t, ieq_f, wr_i, wr_u, fd2, gI, gD, cond_true, cond_false, Option.bind_some, List.length_set, joinO_inl, Int.toNat_natCast, List.length_replicate]
      exact ⟨_, rfl, _, _, rfl, ha, han, hp⟩) ((0, 20, ()), (), d, ()) ⟨0, _, rfl, by omega, by omega, .refl _⟩
  rw [h1]
  show ∃ d', stab_step4 n c ((a, ()), (), d1, ()) = _ ∧ _
  unfold stab_step4
  have hl1 : d1.length = d.length := hp.length_eq
  obtain ⟨d2, e2, p2⟩ := insS_p (d := d1) (a := a) (b := n) (hr.perm hp) (by omega) ha0 (by omega) (by omega)
  show ∃ d', (insS d1 a n c).bind _ = _ ∧ _
  rw [e2]
  show ∃ d', loopO (stab_step3 n c) ((20, ()), (), d2, ()) = _ ∧ _
  obtain ⟨r, h1, d', rfl, hp⟩ := loopO_inv (step := stab_step3 n c) (fun s => ∃ k d1, s = ((k, ()), (), (d1, ())) ∧ 20 ≤ k ∧ k ≤ 1024 ∧ d1.Perm d) (fun s => (n - s.1.1).toNat) (fun r => ∃ d', r = ((), d', n, ((), c, ()), ()) ∧ d'.Perm d) (by
    rintro _ ⟨k, d1, rfl, hk, hk2, hp⟩
    unfold stab_step3
    by_cases h : k < n
    · left
      simp (disch := first | omega | (simp only [List.length_set]; omega)) only [ilt_t, ilt_f, ile_t, ile_f, ieq_t, ieq_f, wr_i, wr_u, fd2, gI, gD, cond_true, cond_false, Option.bind_some, List.length_set, joinO_inl, Int.toNat_natCast, List.length_replicate]
      obtain ⟨r, h1, d3, rfl, hp3⟩ := loopO_inv (step := stab_step2 n c ((k, ()), (), (d1, ()))) (fun s => ∃ a d1, s = ((a, a + 2 * k, ()), (), (d1, ())) ∧ 0 ≤ a ∧ a ≤ n ∧ d1.Perm d) (fun s => (n - s.1.1).toNat) (fun r => ∃ d1, r = .inl ((k * 2, ()), (), d1, ()) ∧ d1.Perm d) (by
        rintro _ ⟨a, d1, rfl, ha, han, hp⟩
        have hl1 : d1.length = d.length := hp.length_eq
        unfold stab_step2
        by_cases h : a + 2 * k ≤ n
        · left
          simp (disch := first | omega | (simp only [List.length_set]; omega)) only [ilt_t, ilt_f, ile_t, ile_f, ieq_t, ieq_f, wr_i, wr_u, fd2, gI, gD, cond_true, cond_false, Option.bind_some, List.length_set, joinO_inl, Int.toNat_natCast, List.length_replicate]
          obtain ⟨d2, e2, p2⟩ := symM_p 600 d1 a (a + k) (a + 2 * k) c (hr.perm hp) (by omega) (by omega) (by omega) (by omega) (by omega) (by omega)
          rw [show symM = symMN 600 from rfl, e2]
          exact ⟨_, rfl, ⟨_, _, rfl, by omega, by omega, p2.trans hp⟩, by show (n - (a + 2 * k)).toNat < (n - a).toNat; omega⟩
        · right
          by_cases h2 : a + k < n
          · simp (disch := first | omega | (simp only [List.length_set]; omega)) only [ilt_t, ilt_f, ile_t, ile_f, ieq_t, ieq_f, wr_i, wr_u, fd2, gI, gD, cond_true, cond_false, Option.bind_some, List.length_set, joinO_inl, Int.toNat_natCast, List.length_replicate]
            obtain ⟨d2, e2, p2⟩ := symM_p 600 d1 a (a + k) n c (hr.perm hp) (by omega) (by omega) (by omega) (by omega) (by omega) (by omega)
            rw [show symM = symMN 600 from rfl, e2]
            simp only [Option.bind_some, joinO_inl]
            unfold stab_step1
            rw [show wr .i64 (k * 2) = k * 2 from wr_i (by omega) (by omega)]
            exact ⟨_, rfl, _, rfl, p2.trans hp⟩
          · simp (disch := first | omega | (simp only [List.length_set]; omega)) only [ilt_t, ilt_f, ile_t, ile_f, ieq_t, ieq_f, wr_i, wr_u, fd2, gI, gD, cond_true, cond_false, Option.bind_some, List.length_set, joinO_inl, Int.toNat_natCast, List.length_replicate]
            unfold stab_step1
            rw [show wr .i64 (k * 2) = k * 2 from wr_i (by omega) (by omega)]
            exact ⟨_, rfl, _, rfl, hp⟩) ((0, 2 * k, ()), (), d1, ()) ⟨0, _, by rw [Int.zero_add], by omega, by omega, hp⟩
      rw [h1]
      exact ⟨_, rfl, ⟨_, _, rfl, by omega, by omega, hp3⟩, by show (n - (k * 2)).toNat < (n - k).toNat; omega⟩
    · right
      simp (disch := first | omega | (simp only [List.length_set]; omega)) only [ilt_t, ilt_f, ile_t, ile_f, ieq_t, ieq_f, wr_i, wr_u, fd2, gI, gD, cond_true, cond_false, Option.bind_some, List.length_set, joinO_inl, Int.toNat_natCast, List.length_replicate]
      exact ⟨_, rfl, _, rfl, hp⟩) ((20, ()), (), d2, ()) ⟨_, _, rfl, by omega, by omega, p2.trans hp⟩
  exact ⟨d', h1, hp⟩
theorem sortS_p {d c : List Int} (hr : Rg c d) (hl : d.length ≤ 512) : ∃ d', sortS d c = some ((), d', ((), c, ()), ()) ∧ d'.Perm d := by
  unfold sortS
  obtain ⟨d', e, p⟩ := stab_p (n := d.length) hr hl (by omega) (by omega)
  rw [e]
  exact ⟨_, rfl, p⟩
end Go.Proofs.YtjdihfpfimkinaaGreatDoor
