/-
  The schedule: what Assign and Makespan answer, and the law.
-/
import Derived.Test.YtjdihfpfimkinaaGreatDoorP1
set_option linter.unusedSectionVars false
set_option linter.unusedSimpArgs false
set_option linter.unusedVariables false
namespace Go.Proofs.YtjdihfpfimkinaaGreatDoor
open Go.As Go.Ms

/-- Costs that are let in. -/
def Cok (l : List Int) (w : Int) : Prop := 1 ≤ w ∧ w ≤ 8 ∧ l.length ≤ 256 ∧ ∀ i, i < l.length → 0 ≤ l.getD i 0 ∧ l.getD i 0 ≤ 1073741824
theorem valC_p (l : List Int) (w : Int) : (∃ e, e ≠ 0 ∧ valC l w = some e) ∨ (valC l w = some 0 ∧ Cok l w) := by
  unfold valC
  by_cases h1 : w < 1
  · simp (disch := first | omega | (simp only [List.length_set]; omega)) only [ilt_t, ilt_f, ile_t, ile_f, ieq_t, ieq_f, wr_i, wr_u, fd2, gI, gD, cond_true, cond_false, Option.bind_some, List.length_set, joinO_inl, Int.toNat_natCast, List.length_replicate]
    exact .inl ⟨2, by omega, rfl⟩
  by_cases h2 : 8 < w
  · simp (disch := first | omega | (simp only [List.length_set]; omega)) only [ilt_t, ilt_f, ile_t, ile_f, ieq_t, ieq_f, wr_i, wr_u, fd2, gI, gD, cond_true, cond_false, Option.bind_some, List.length_set, joinO_inl, Int.toNat_natCast, List.length_replicate]
    exact .inl ⟨2, by omega, rfl⟩
  by_cases h3 : (256 : Int) < l.length
  · simp (disch := first | omega | (simp only [List.length_set]; omega)) only [ilt_t, ilt_f, ile_t, ile_f, ieq_t, ieq_f, wr_i, wr_u, fd2, gI, gD, cond_true, cond_false, Option.bind_some, List.length_set, joinO_inl, Int.toNat_natCast, List.length_replicate]
    exact .inl ⟨5, by omega, rfl⟩
  simp (disch := first | omega | (simp only [List.length_set]; omega)) only [ilt_t, ilt_f, ile_t, ile_f, ieq_t, ieq_f, wr_i, wr_u, fd2, gI, gD, cond_true, cond_false, Option.bind_some, List.length_set, joinO_inl, Int.toNat_natCast, List.length_replicate]
  obtain ⟨r, h1, h2⟩ := loopO_inv (step := valC_step0 l) (fun s => ∃ k : Nat, s = (((k : Int), ()), (), ()) ∧ k ≤ l.length ∧ ∀ j, j < k → 0 ≤ l.getD j 0 ∧ l.getD j 0 ≤ 1073741824) (fun s => (l.length - s.1.1).toNat) (fun r => r = 6 ∨ (r = 0 ∧ ∀ j, j < l.length → 0 ≤ l.getD j 0 ∧ l.getD j 0 ≤ 1073741824)) (by
    rintro _ ⟨k, rfl, hk, hj⟩
    unfold valC_step0
    by_cases h : k < l.length
    · simp (disch := first | omega | (simp only [List.length_set]; omega)) only [ilt_t, ilt_f, ile_t, ile_f, ieq_t, ieq_f, wr_i, wr_u, fd2, gI, gD, cond_true, cond_false, Option.bind_some, List.length_set, joinO_inl, Int.toNat_natCast, List.length_replicate]
      by_cases g1 : l.getD k 0 < 0
      · right
        simp (disch := first | omega | (simp only [List.length_set]; omega)) only [ilt_t, ilt_f, ile_t, ile_f, ieq_t, ieq_f, wr_i, wr_u, fd2, gI, gD, cond_true, cond_false, Option.bind_some, List.length_set, joinO_inl, Int.toNat_natCast, List.length_replicate]
        exact ⟨6, rfl, .inl rfl⟩
      · by_cases g2 : 1073741824 < l.getD k 0
        · right
          simp (disch := first | omega | (simp only [List.length_set]; omega)) only [ilt_t, ilt_f, ile_t, ile_f, ieq_t, ieq_f, wr_i, wr_u, fd2, gI, gD, cond_true, cond_false, Option.bind_some, List.length_set, joinO_inl, Int.toNat_natCast, List.length_replicate]
          exact ⟨6, rfl, .inl rfl⟩
        · left
          simp (disch := first | omega | (simp only [List.length_set]; omega)) only [ilt_t, ilt_f, ile_t, ile_f, ieq_t, ieq_f, wr_i, wr_u, fd2, gI, gD, cond_true, cond_false, Option.bind_some, List.length_set, joinO_inl, Int.toNat_natCast, List.length_replicate]
          refine ⟨_, rfl, ⟨k + 1, rfl, h, fun j hjk => ?_⟩, by show ((l.length : Int) - (k + 1)).toNat < ((l.length : Int) - k).toNat; omega⟩
          by_cases e : j = k
          · subst e; omega
          · exact hj j (by omega)
    · right
      simp (disch := first | omega | (simp only [List.length_set]; omega)) only [ilt_t, ilt_f, ile_t, ile_f, ieq_t, ieq_f, wr_i, wr_u, fd2, gI, gD, cond_true, cond_false, Option.bind_some, List.length_set, joinO_inl, Int.toNat_natCast, List.length_replicate]
      exact ⟨0, rfl, .inr ⟨rfl, fun j hjl => hj j (by omega)⟩⟩) ((0, ()), (), ()) ⟨0, rfl, by omega, fun j hj => by omega⟩
  rw [h1]
  rcases h2 with rfl | ⟨rfl, h⟩
  · exact .inl ⟨6, by omega, rfl⟩
  · exact .inr ⟨rfl, by omega, by omega, by omega, h⟩
theorem valS_p {q : List Int} {w : Int} (hl : q.length ≤ 512) (h : ∀ i, i < q.length → 0 ≤ q.getD i 0 ∧ q.getD i 0 < w) : valS q w = some true := by
  unfold valS
  obtain ⟨r, h1, rfl⟩ := loopO_inv (step := valS_step0 q w) (fun s => ∃ k : Nat, s = (((k : Int), ()), (), ()) ∧ k ≤ q.length) (fun s => (q.length - s.1.1).toNat) (fun r => r = true) (by
    rintro _ ⟨k, rfl, hk⟩
    unfold valS_step0
    by_cases g : k < q.length
    · left
      have := h k g
      simp (disch := first | omega | (simp only [List.length_set]; omega)) only [ilt_t, ilt_f, ile_t, ile_f, ieq_t, ieq_f, wr_i, wr_u, fd2, gI, gD, cond_true, cond_false, Option.bind_some, List.length_set, joinO_inl, Int.toNat_natCast, List.length_replicate]
      exact ⟨_, rfl, ⟨k + 1, rfl, g⟩, by show ((q.length : Int) - (k + 1)).toNat < ((q.length : Int) - k).toNat; omega⟩
    · right
      simp (disch := first | omega | (simp only [List.length_set]; omega)) only [ilt_t, ilt_f, ile_t, ile_f, ieq_t, ieq_f, wr_i, wr_u, fd2, gI, gD, cond_true, cond_false, Option.bind_some, List.length_set, joinO_inl, Int.toNat_natCast, List.length_replicate]
      exact ⟨_, rfl, rfl⟩) ((0, ()), (), ()) ⟨0, rfl, by omega⟩
  exact h1
theorem maxL_p {l : List Int} (h1 : 1 ≤ l.length) (hl : l.length ≤ 512) : ∃ m, maxL l = some m ∧ (∃ k, k < l.length ∧ m = l.getD k 0) ∧ ∀ k, k < l.length → l.getD k 0 ≤ m := by
  unfold maxL
  rw [gD (l := l) (i := 0) (by omega)]
  simp (disch := first | omega | (simp only [List.length_set]; omega)) only [ilt_t, ilt_f, ile_t, ile_f, ieq_t, ieq_f, wr_i, wr_u, fd2, gI, gD, cond_true, cond_false, Option.bind_some, List.length_set, joinO_inl, Int.toNat_natCast, List.length_replicate]
  obtain ⟨r, h1, h2⟩ := loopO_inv (step := maxL_step0 l) (fun s => ∃ (m : Int) (k : Nat), s = ((m, (k : Int), ()), (), ()) ∧ 1 ≤ k ∧ k ≤ l.length ∧ (∃ j, j < k ∧ m = l.getD j 0) ∧ ∀ j, j < k → l.getD j 0 ≤ m) (fun s => (l.length - s.1.2.1).toNat) (fun m => (∃ k, k < l.length ∧ m = l.getD k 0) ∧ ∀ k, k < l.length → l.getD k 0 ≤ m) (by
    rintro _ ⟨m, k, rfl, hk1, hk, ⟨j0, hj0, hm⟩, hj⟩
    unfold maxL_step0
    by_cases g : k < l.length
    · left
      by_cases h : m ≤ l.getD k 0
      · simp (disch := first | omega | (simp only [List.length_set]; omega)) only [ilt_t, ilt_f, ile_t, ile_f, ieq_t, ieq_f, wr_i, wr_u, fd2, gI, gD, cond_true, cond_false, Option.bind_some, List.length_set, joinO_inl, Int.toNat_natCast, List.length_replicate]
        refine ⟨_, rfl, ⟨_, k + 1, rfl, by omega, g, ⟨k, by omega, rfl⟩, fun j hjk => ?_⟩, by show ((l.length : Int) - (k + 1)).toNat < ((l.length : Int) - k).toNat; omega⟩
        by_cases e : j = k
        · subst e; omega
        · have := hj j (by omega); omega
      · simp (disch := first | omega | (simp only [List.length_set]; omega)) only [ilt_t, ilt_f, ile_t, ile_f, ieq_t, ieq_f, wr_i, wr_u, fd2, gI, gD, cond_true, cond_false, Option.bind_some, List.length_set, joinO_inl, Int.toNat_natCast, List.length_replicate]
        refine ⟨_, rfl, ⟨_, k + 1, rfl, by omega, g, ⟨j0, by omega, hm⟩, fun j hjk => ?_⟩, by show ((l.length : Int) - (k + 1)).toNat < ((l.length : Int) - k).toNat; omega⟩
        by_cases e : j = k
        · subst e; omega
        · exact hj j (by omega)
    · right
      simp (disch := first | omega | (simp only [List.length_set]; omega)) only [ilt_t, ilt_f, ile_t, ile_f, ieq_t, ieq_f, wr_i, wr_u, fd2, gI, gD, cond_true, cond_false, Option.bind_some, List.length_set, joinO_inl, Int.toNat_natCast, List.length_replicate]
      obtain rfl : k = l.length := by omega
      exact ⟨_, rfl, ⟨j0, hj0, hm⟩, hj⟩) ((l.getD 0 0, 1, ()), (), ()) ⟨_, 1, rfl, by omega, h1, ⟨0, by omega, rfl⟩, fun j hj => by
        obtain rfl : j = 0 := by omega
        exact Int.le_refl _⟩
  exact ⟨r, h1, h2⟩
theorem ord_of {d : List Int} {n : Nat} (hl : d.length = n) (h : ∀ j, j < n → d.getD j 0 = (j : Int)) : d = ord n := by
  apply List.ext_getElem?
  intro i
  by_cases hi : i < n
  · rw [gD (by omega), h i hi]
    unfold ord
    rw [List.getElem?_map, List.getElem?_range hi]; rfl
  · rw [List.getElem?_eq_none (by omega), List.getElem?_eq_none (by rw [ord_len]; omega)]
theorem asgn_p {l : List Int} {W : Nat} (hv : valC l W = some 0) (h : Cok l W) : ∃ a, asgn l W = some (a, 0, ()) ∧ Sched l a W := by
  obtain ⟨hw1, hw2, hl, hc⟩ := h
  unfold asgn
  rw [hv]
  simp (disch := first | omega | (simp only [List.length_set]; omega)) only [ilt_t, ilt_f, ile_t, ile_f, ieq_t, ieq_f, wr_i, wr_u, fd2, gI, gD, cond_true, cond_false, Option.bind_some, List.length_set, joinO_inl, Int.toNat_natCast, List.length_replicate]
  obtain ⟨r, h1, a, rfl, hs⟩ := loopO_inv (step := asgn_step2 l W) (fun s => ∃ (k : Nat) (d : List Int), s = (((k : Int), ()), (), (d, ())) ∧ d.length = l.length ∧ k ≤ l.length ∧ ∀ j, j < k → d.getD j 0 = (j : Int)) (fun s => (l.length - s.1.1).toNat) (fun r => ∃ a, r = (a, 0, ()) ∧ Sched l a W) (by
    rintro _ ⟨k, d, rfl, hd, hk, hj⟩
    unfold asgn_step2
    by_cases g : k < l.length
    · left
      simp (disch := first | omega | (simp only [List.length_set]; omega)) only [ilt_t, ilt_f, ile_t, ile_f, ieq_t, ieq_f, wr_i, wr_u, fd2, gI, gD, cond_true, cond_false, Option.bind_some, List.length_set, joinO_inl, Int.toNat_natCast, List.length_replicate]
      refine ⟨_, rfl, ⟨k + 1, _, rfl, by rw [List.length_set]; exact hd, g, fun j hjk => ?_⟩, by show ((l.length : Int) - (k + 1)).toNat < ((l.length : Int) - k).toNat; omega⟩
      rw [gD_set d k _ j (by omega)]
      split
      · omega
      · exact hj j (by omega)
    · right
      simp (disch := first | omega | (simp only [List.length_set]; omega)) only [ilt_t, ilt_f, ile_t, ile_f, ieq_t, ieq_f, wr_i, wr_u, fd2, gI, gD, cond_true, cond_false, Option.bind_some, List.length_set, joinO_inl, Int.toNat_natCast, List.length_replicate]
      obtain rfl : k = l.length := by omega
      have hdo := ord_of hd hj
      obtain ⟨o, e2, ho⟩ := sortS_p (d := d) (c := l) (fun x hx => by rw [hdo] at hx; exact ord_mem hx) (by omega)
      rw [hdo] at ho
      have hlen : o.length = l.length := by rw [ho.length_eq, ord_len]
      rw [e2]
      simp (disch := first | omega | (simp only [List.length_set]; omega)) only [ilt_t, ilt_f, ile_t, ile_f, ieq_t, ieq_f, wr_i, wr_u, fd2, gI, gD, cond_true, cond_false, Option.bind_some, List.length_set, joinO_inl, Int.toNat_natCast, List.length_replicate]
      obtain ⟨r, h1, a, rfl, hs⟩ := loopO_inv (step := asgn_step1 l ((), o, ((), l, ()), ())) (fun s => ∃ (k : Nat) (loads out : List Int), s = (((k : Int), ()), (), (loads, (out, ()))) ∧ k ≤ l.length ∧ GInv l o W k loads out) (fun s => (l.length - s.1.1).toNat) (fun r => ∃ a, r = (a, 0, ()) ∧ Sched l a W) (by
        rintro _ ⟨k, loads, out, rfl, hk, hg⟩
        have hll := hg.ll
        have hlo := hg.lo
        unfold asgn_step1
        by_cases g : k < l.length
        · left
          have hy := ord_mem (ho.mem_iff.1 (gD_mem (l := o) (i := k) (by omega)))
          have hcy := hc (o.getD k 0).toNat (by omega)
          simp (disch := first | omega | (simp only [List.length_set]; omega)) only [ilt_t, ilt_f, ile_t, ile_f, ieq_t, ieq_f, wr_i, wr_u, fd2, gI, gD, cond_true, cond_false, Option.bind_some, List.length_set, joinO_inl, Int.toNat_natCast, List.length_replicate]
          generalize hy0 : o.getD k 0 = y at *
          obtain ⟨r, h1, who, hw, hmin, rfl⟩ := loopO_inv (step := asgn_step0 l (((k : Int), ()), (), (loads, (out, ()))) y) (fun s => ∃ j who : Nat, s = (((j : Int), (who : Int), ()), (), ()) ∧ j ≤ W ∧ who < W ∧ ∀ i, i < j → loads.getD who 0 ≤ loads.getD i 0) (fun s => (W - s.1.1).toNat)
              (fun r => ∃ who : Nat, who < W ∧ (∀ i, i < W → loads.getD who 0 ≤ loads.getD i 0) ∧ r = .inl ((((k + 1 : Nat) : Int), ()), (), (loads.set who (loads.getD who 0 + l.getD y.toNat 0), (out.set y.toNat (who : Int), ())))) (by
            rintro _ ⟨j, who, rfl, hj, hw, hm⟩
            unfold asgn_step0
            by_cases g2 : j < W
            · left
              by_cases g3 : loads.getD j 0 < loads.getD who 0
              · simp (disch := first | omega | (simp only [List.length_set]; omega)) only [ilt_t, ilt_f, ile_t, ile_f, ieq_t, ieq_f, wr_i, wr_u, fd2, gI, gD, cond_true, cond_false, Option.bind_some, List.length_set, joinO_inl, Int.toNat_natCast, List.length_replicate]
                refine ⟨_, rfl, ⟨j + 1, j, rfl, g2, g2, fun i hi => ?_⟩, by show ((W : Int) - (j + 1)).toNat < ((W : Int) - j).toNat; omega⟩
                by_cases e : i = j
                · subst e; exact Int.le_refl _
                · have := hm i (by omega); omega
              · simp (disch := first | omega | (simp only [List.length_set]; omega)) only [ilt_t, ilt_f, ile_t, ile_f, ieq_t, ieq_f, wr_i, wr_u, fd2, gI, gD, cond_true, cond_false, Option.bind_some, List.length_set, joinO_inl, Int.toNat_natCast, List.length_replicate]
                refine ⟨_, rfl, ⟨j + 1, who, rfl, g2, hw, fun i hi => ?_⟩, by show ((W : Int) - (j + 1)).toNat < ((W : Int) - j).toNat; omega⟩
                by_cases e : i = j
                · subst e; omega
                · exact hm i (by omega)
            · right
              obtain rfl : j = W := by omega
              have hn := hg.nn who hw
              simp (disch := first | omega | (simp only [List.length_set]; omega)) only [ilt_t, ilt_f, ile_t, ile_f, ieq_t, ieq_f, wr_i, wr_u, fd2, gI, gD, cond_true, cond_false, Option.bind_some, List.length_set, joinO_inl, Int.toNat_natCast, List.length_replicate]
              exact ⟨_, rfl, who, hw, hm, rfl⟩) ((0, 0, ()), (), ()) ⟨0, 0, rfl, by omega, by omega, fun i hi => by omega⟩
          rw [h1]
          refine ⟨_, rfl, ⟨k + 1, _, _, rfl, g, ?_⟩, by show ((l.length : Int) - ((k + 1 : Nat) : Int)).toNat < ((l.length : Int) - k).toNat; omega⟩
          have := hg.step ho g hc hw hmin
          rw [hy0] at this
          exact this
        · right
          simp (disch := first | omega | (simp only [List.length_set]; omega)) only [ilt_t, ilt_f, ile_t, ile_f, ieq_t, ieq_f, wr_i, wr_u, fd2, gI, gD, cond_true, cond_false, Option.bind_some, List.length_set, joinO_inl, Int.toNat_natCast, List.length_replicate]
          obtain rfl : k = l.length := by omega
          exact ⟨_, rfl, _, rfl, hg.done ho⟩) ((0, ()), (), (List.replicate W 0, (List.replicate l.length 0, ()))) ⟨0, _, _, rfl, by omega, GInv.zero l o (by omega)⟩
      rw [h1]
      exact ⟨_, rfl, _, rfl, hs⟩) ((0, ()), (), (List.replicate l.length 0, ())) ⟨0, _, rfl, by simp, by omega, fun j hj => by omega⟩
  exact ⟨a, h1, hs⟩
theorem mksp_p {l a : List Int} {W : Nat} (hv : valC l W = some 0) (h : Cok l W) (hs : Sched l a W) :
    ∃ m, mksp l a W = some (m, 0, ()) ∧ (∃ w : Nat, w < W ∧ m = sm (pl l a w) l.length) ∧ ∀ w : Nat, w < W → sm (pl l a w) l.length ≤ m := by
  obtain ⟨hw1, hw2, hl, hc⟩ := h
  have hal := hs.len
  unfold mksp
  rw [hv]
  simp (disch := first | omega | (simp only [List.length_set]; omega)) only [ilt_t, ilt_f, ile_t, ile_f, ieq_t, ieq_f, wr_i, wr_u, fd2, gI, gD, cond_true, cond_false, Option.bind_some, List.length_set, joinO_inl, Int.toNat_natCast, List.length_replicate]
  rw [valS_p (by omega) (fun i hi => hs.rng i (by omega))]
  simp (disch := first | omega | (simp only [List.length_set]; omega)) only [ilt_t, ilt_f, ile_t, ile_f, ieq_t, ieq_f, wr_i, wr_u, fd2, gI, gD, cond_true, cond_false, Option.bind_some, List.length_set, joinO_inl, Int.toNat_natCast, List.length_replicate]
  obtain ⟨r, h1, m, rfl, hm⟩ := loopO_inv (step := mksp_step0 l a) (fun s => ∃ (k : Nat) (loads : List Int), s = (((k : Int), ()), (), (loads, ())) ∧ loads.length = W ∧ k ≤ l.length ∧ ∀ w : Nat, w < W → loads.getD w 0 = sm (pl l a w) k) (fun s => (l.length - s.1.1).toNat)
      (fun r => ∃ m, r = (m, 0, ()) ∧ (∃ w : Nat, w < W ∧ m = sm (pl l a w) l.length) ∧ ∀ w : Nat, w < W → sm (pl l a w) l.length ≤ m) (by
    rintro _ ⟨k, loads, rfl, hll, hk, hj⟩
    unfold mksp_step0
    by_cases g : k < l.length
    · left
      have hr := hs.rng k g
      have hck := hc k g
      have hlw := hj (a.getD k 0).toNat (by omega)
      have hb := pl_bd (a := a) hc (a.getD k 0).toNat k hk
      simp (disch := first | omega | (simp only [List.length_set]; omega)) only [ilt_t, ilt_f, ile_t, ile_f, ieq_t, ieq_f, wr_i, wr_u, fd2, gI, gD, cond_true, cond_false, Option.bind_some, List.length_set, joinO_inl, Int.toNat_natCast, List.length_replicate]
      refine ⟨_, rfl, ⟨k + 1, _, rfl, by rw [List.length_set]; exact hll, g, fun w hw => ?_⟩, by show ((l.length : Int) - (k + 1)).toNat < ((l.length : Int) - k).toNat; omega⟩
      rw [gD_set loads _ _ w (by omega)]
      show _ = sm (pl l a w) k + pl l a w k
      unfold pl
      split
      · rename_i e
        subst e
        rw [if_pos (by omega), hlw]; rfl
      · rename_i e
        rw [if_neg (by omega), hj w hw]
        unfold pl
        omega
    · right
      obtain rfl : k = l.length := by omega
      obtain ⟨m, e2, ⟨w, hw, hm⟩, hm2⟩ := maxL_p (l := loads) (by omega) (by omega)
      simp (disch := first | omega | (simp only [List.length_set]; omega)) only [ilt_t, ilt_f, ile_t, ile_f, ieq_t, ieq_f, wr_i, wr_u, fd2, gI, gD, cond_true, cond_false, Option.bind_some, List.length_set, joinO_inl, Int.toNat_natCast, List.length_replicate]
      rw [e2]
      simp (disch := first | omega | (simp only [List.length_set]; omega)) only [ilt_t, ilt_f, ile_t, ile_f, ieq_t, ieq_f, wr_i, wr_u, fd2, gI, gD, cond_true, cond_false, Option.bind_some, List.length_set, joinO_inl, Int.toNat_natCast, List.length_replicate]
      exact ⟨_, rfl, _, rfl, ⟨w, by omega, by rw [hm, hj w (by omega)]⟩, fun w hw => by rw [← hj w hw]; exact hm2 w (by omega)⟩) ((0, ()), (), (List.replicate W 0, ())) ⟨0, _, rfl, by simp, by omega, fun w hw => by rw [rep0]; rfl⟩
  exact ⟨m, h1, hm⟩
/-- THE LAW. -/
theorem lawM_p (l : List Int) (w : Int) : lawM l w = some true := by
  unfold lawM
  by_cases h64 : (64 : Int) < l.length
  · simp (disch := first | omega | (simp only [List.length_set]; omega)) only [ilt_t, ilt_f, ile_t, ile_f, ieq_t, ieq_f, wr_i, wr_u, fd2, gI, gD, cond_true, cond_false, Option.bind_some, List.length_set, joinO_inl, Int.toNat_natCast, List.length_replicate]
    rfl
  simp (disch := first | omega | (simp only [List.length_set]; omega)) only [ilt_t, ilt_f, ile_t, ile_f, ieq_t, ieq_f, wr_i, wr_u, fd2, gI, gD, cond_true, cond_false, Option.bind_some, List.length_set, joinO_inl, Int.toNat_natCast, List.length_replicate]
  rcases valC_p l w with ⟨e, he, hv⟩ | ⟨hv, hcok⟩
  · have : asgn l w = some ([], e, ()) := by
      unfold asgn
      rw [hv]
      simp (disch := first | omega | (simp only [List.length_set]; omega)) only [ilt_t, ilt_f, ile_t, ile_f, ieq_t, ieq_f, wr_i, wr_u, fd2, gI, gD, cond_true, cond_false, Option.bind_some, List.length_set, joinO_inl, Int.toNat_natCast, List.length_replicate]
    rw [this]
    simp (disch := first | omega | (simp only [List.length_set]; omega)) only [ilt_t, ilt_f, ile_t, ile_f, ieq_t, ieq_f, wr_i, wr_u, fd2, gI, gD, cond_true, cond_false, Option.bind_some, List.length_set, joinO_inl, Int.toNat_natCast, List.length_replicate]
    rfl
  have hcok0 := hcok
  obtain ⟨hw1, hw2, hl, hc⟩ := hcok0
  obtain ⟨W, rfl⟩ : ∃ W : Nat, w = W := ⟨w.toNat, by omega⟩
  obtain ⟨a, e1, hs⟩ := asgn_p hv hcok
  obtain ⟨m, e2, hm1, hm2⟩ := mksp_p hv hcok hs
  have hlaw := hs.law hc hm1 hm2
  have hal := hs.len
  rw [e1]
  simp (disch := first | omega | (simp only [List.length_set]; omega)) only [ilt_t, ilt_f, ile_t, ile_f, ieq_t, ieq_f, wr_i, wr_u, fd2, gI, gD, cond_true, cond_false, Option.bind_some, List.length_set, joinO_inl, Int.toNat_natCast, List.length_replicate]
  rw [e2]
  simp (disch := first | omega | (simp only [List.length_set]; omega)) only [ilt_t, ilt_f, ile_t, ile_f, ieq_t, ieq_f, wr_i, wr_u, fd2, gI, gD, cond_true, cond_false, Option.bind_some, List.length_set, joinO_inl, Int.toNat_natCast, List.length_replicate]
  obtain ⟨r, h1, rfl⟩ := loopO_inv (step := lawM_step0 l W (a, 0, ()) (m, 0, ())) (fun s => ∃ (k : Nat), s = (((k : Int), sm (cs l) k, mxs (cs l) k, ()), (), ()) ∧ k ≤ l.length) (fun s => (l.length - s.1.1).toNat) (fun r => r = true) (by
    rintro _ ⟨k, rfl, hk⟩
    have hsb := sm_bd hc k hk
    have hmb : mxs (cs l) k ≤ 1073741824 := mxs_le (by omega) k fun j hj => (hc j (by omega)).2
    have hmn := mxs_nn (cs l) k
    unfold lawM_step0
    by_cases g : k < l.length
    · left
      have hr := hs.rng k g
      have hck := hc k g
      simp (disch := first | omega | (simp only [List.length_set]; omega)) only [ilt_t, ilt_f, ile_t, ile_f, ieq_t, ieq_f, wr_i, wr_u, fd2, gI, gD, cond_true, cond_false, Option.bind_some, List.length_set, joinO_inl, Int.toNat_natCast, List.length_replicate]
      refine ⟨_, rfl, ⟨k + 1, ?_, g⟩, by show ((l.length : Int) - (k + 1)).toNat < ((l.length : Int) - k).toNat; omega⟩
      have : (bif ile (mxs (cs l) k) (l.getD k 0) then l.getD k 0 else mxs (cs l) k) = mxs (cs l) (k + 1) := by
        show _ = max (mxs (cs l) k) (cs l k)
        unfold cs
        by_cases q : mxs (fun i => l.getD i 0) k ≤ l.getD k 0
        · rw [ile_t q, cond_true]; omega
        · rw [ile_f (by omega), cond_false]; omega
      rw [this]
      rfl
    · right
      obtain rfl : k = l.length := by omega
      obtain ⟨q1, q2, q3, q4⟩ := hlaw
      have hWm : 0 ≤ (W : Int) * m := Int.mul_nonneg (by omega) (by omega)
      have hWx : 0 ≤ ((W : Int) - 1) * mxs (cs l) l.length := Int.mul_nonneg (by omega) hmn
      have hWx2 : ((W : Int) - 1) * mxs (cs l) l.length ≤ 8 * 1073741824 := Int.mul_le_mul (by omega) hmb hmn (by omega)
      simp (disch := first | omega | (simp only [List.length_set]; omega)) only [ilt_t, ilt_f, ile_t, ile_f, ieq_t, ieq_f, wr_i, wr_u, fd2, gI, gD, cond_true, cond_false, Option.bind_some, List.length_set, joinO_inl, Int.toNat_natCast, List.length_replicate]
      exact ⟨_, rfl, rfl⟩) ((0, 0, 0, ()), (), ()) ⟨0, rfl, by omega⟩
  exact h1
end Go.Proofs.YtjdihfpfimkinaaGreatDoor
