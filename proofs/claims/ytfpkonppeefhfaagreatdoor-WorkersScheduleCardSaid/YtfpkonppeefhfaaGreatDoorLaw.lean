/-
  Schedules: the program's Assign, Makespan and Script answer as the document says; the law.
-/
import Derived.Test.YtfpkonppeefhfaaGreatDoorR
set_option linter.unusedSectionVars false
set_option linter.unusedSimpArgs false
set_option linter.unusedVariables false
namespace Go.Proofs.YtfpkonppeefhfaaGreatDoor
open Go.As Go.Ms
theorem gB {l : List Bool} {i : Nat} (h : i < l.length) : l[i]? = some (l.getD i false) := by
 rw [List.getElem?_eq_getElem h, List.getD_eq_getElem?_getD, List.getElem?_eq_getElem h]; rfl
theorem gBI {l : List Bool} {i : Int} (h0 : 0 ≤ i) (h : i < l.length) : l[i.toNat]? = some (l.getD i.toNat false) := gB (by omega)
theorem gB_set (l : List Bool) (i : Nat) (x : Bool) (j : Nat) (h : i < l.length) : (l.set i x).getD j false = if j = i then x else l.getD j false := by
 rw [List.getD_eq_getElem?_getD, List.getD_eq_getElem?_getD, List.getElem?_set]
 by_cases e : i = j
 ·subst e; simp [h]
 ·simp [e, Ne.symm e]
theorem roomC_t {n b : Nat} (h : n * b ≤ 70368744177664 ∧ n ≤ 70368744177664) : roomC n b = true := by
 unfold roomC
 rw [Bool.and_eq_true]
 exact ⟨Nat.ble_eq_true_of_le h.1, Nat.ble_eq_true_of_le h.2⟩
theorem dApp_d {α : Type} (a b : List α) : dApp a b = a ++ b := rfl
def Cok (l : List Int) (w : Int) : Prop := 1 ≤ w ∧ w ≤ 8 ∧ l.length ≤ 256 ∧ ∀ i, i < l.length → 0 ≤ l.getD i 0 ∧ l.getD i 0 ≤ 1073741824
def Cq (l : List Int) (r : Int) : Prop := (r = 6 ∧ ∃ j, j < l.length ∧ ¬ (0 ≤ l.getD j 0 ∧ l.getD j 0 ≤ 1073741824)) ∨ (r = 0 ∧ ∀ j, j < l.length → 0 ≤ l.getD j 0 ∧ l.getD j 0 ≤ 1073741824)
theorem vErr (l : List Int) (w : Int) : (∃ e, e ≠ 0 ∧ valC l w = some e ∧ rErr l w = some e) ∨ (valC l w = some 0 ∧ rErr l w = some 0 ∧ Cok l w) := by
 unfold valC rErr
 by_cases h1 : w < 1
 ·simp (disch := first | omega | (simp only [List.length_set]; omega)) only [ilt_t, ilt_f, ile_t, ile_f, ieq_t, ieq_f, wr_i, wr_u, fd2, gI, gD, cond_true, cond_false, Option.bind_some, List.length_set, joinO_inl, Int.toNat_natCast, List.length_replicate]
  exact .inl ⟨2, by omega, rfl, rfl⟩
 by_cases h2 : 8 < w
 ·simp (disch := first | omega | (simp only [List.length_set]; omega)) only [ilt_t, ilt_f, ile_t, ile_f, ieq_t, ieq_f, wr_i, wr_u, fd2, gI, gD, cond_true, cond_false, Option.bind_some, List.length_set, joinO_inl, Int.toNat_natCast, List.length_replicate]
  exact .inl ⟨2, by omega, rfl, rfl⟩
 by_cases h3 : (256 : Int) < l.length
 ·simp (disch := first | omega | (simp only [List.length_set]; omega)) only [ilt_t, ilt_f, ile_t, ile_f, ieq_t, ieq_f, wr_i, wr_u, fd2, gI, gD, cond_true, cond_false, Option.bind_some, List.length_set, joinO_inl, Int.toNat_natCast, List.length_replicate]
  exact .inl ⟨5, by omega, rfl, rfl⟩
 simp (disch := first | omega | (simp only [List.length_set]; omega)) only [ilt_t, ilt_f, ile_t, ile_f, ieq_t, ieq_f, wr_i, wr_u, fd2, gI, gD, cond_true, cond_false, Option.bind_some, List.length_set, joinO_inl, Int.toNat_natCast, List.length_replicate]
 obtain ⟨r, e1, q1⟩ := loopO_inv (step := valC_step0 l) (fun s => ∃ k : Nat, s = (((k : Int), ()), (), ()) ∧ k ≤ l.length ∧ ∀ j, j < k → 0 ≤ l.getD j 0 ∧ l.getD j 0 ≤ 1073741824) (fun s => (l.length - s.1.1).toNat) (Cq l) (by
  rintro _ ⟨k, rfl, hk, hj⟩
  unfold valC_step0
  by_cases h : k < l.length
  ·simp (disch := first | omega | (simp only [List.length_set]; omega)) only [ilt_t, ilt_f, ile_t, ile_f, ieq_t, ieq_f, wr_i, wr_u, fd2, gI, gD, cond_true, cond_false, Option.bind_some, List.length_set, joinO_inl, Int.toNat_natCast, List.length_replicate]
   by_cases g1 : l.getD k 0 < 0
   ·right
    simp (disch := first | omega | (simp only [List.length_set]; omega)) only [ilt_t, ilt_f, ile_t, ile_f, ieq_t, ieq_f, wr_i, wr_u, fd2, gI, gD, cond_true, cond_false, Option.bind_some, List.length_set, joinO_inl, Int.toNat_natCast, List.length_replicate]
    exact ⟨6, rfl, .inl ⟨rfl, k, h, by omega⟩⟩
   ·by_cases g2 : 1073741824 < l.getD k 0
    ·right
     simp (disch := first | omega | (simp only [List.length_set]; omega)) only [ilt_t, ilt_f, ile_t, ile_f, ieq_t, ieq_f, wr_i, wr_u, fd2, gI, gD, cond_true, cond_false, Option.bind_some, List.length_set, joinO_inl, Int.toNat_natCast, List.length_replicate]
     exact ⟨6, rfl, .inl ⟨rfl, k, h, by omega⟩⟩
    ·left
     simp (disch := first | omega | (simp only [List.length_set]; omega)) only [ilt_t, ilt_f, ile_t, ile_f, ieq_t, ieq_f, wr_i, wr_u, fd2, gI, gD, cond_true, cond_false, Option.bind_some, List.length_set, joinO_inl, Int.toNat_natCast, List.length_replicate]
     refine ⟨_, rfl, ⟨k + 1, rfl, h, fun j hjk => ?_⟩, by show ((l.length : Int) - (k + 1)).toNat < ((l.length : Int) - k).toNat; omega⟩
     by_cases e : j = k
     ·subst e; omega
     ·exact hj j (by omega)
  ·right
   simp (disch := first | omega | (simp only [List.length_set]; omega)) only [ilt_t, ilt_f, ile_t, ile_f, ieq_t, ieq_f, wr_i, wr_u, fd2, gI, gD, cond_true, cond_false, Option.bind_some, List.length_set, joinO_inl, Int.toNat_natCast, List.length_replicate]
   exact ⟨0, rfl, .inr ⟨rfl, fun j hjl => hj j (by omega)⟩⟩) ((0, ()), (), ()) ⟨0, rfl, by omega, fun j hj => by omega⟩
 obtain ⟨r', e2, q2⟩ := loopO_inv (step := rErr_step0 l) (fun s => ∃ k : Nat, s = (((k : Int), ()), (), ()) ∧ k ≤ l.length ∧ ∀ j, j < k → 0 ≤ l.getD j 0 ∧ l.getD j 0 ≤ 1073741824) (fun s => (l.length - s.1.1).toNat) (Cq l) (by
  rintro _ ⟨k, rfl, hk, hj⟩
  unfold rErr_step0
  by_cases h : k < l.length
  ·simp (disch := first | omega | (simp only [List.length_set]; omega)) only [ilt_t, ilt_f, ile_t, ile_f, ieq_t, ieq_f, wr_i, wr_u, fd2, gI, gD, cond_true, cond_false, Option.bind_some, List.length_set, joinO_inl, Int.toNat_natCast, List.length_replicate]
   by_cases g1 : l.getD k 0 < 0
   ·right
    simp (disch := first | omega | (simp only [List.length_set]; omega)) only [ilt_t, ilt_f, ile_t, ile_f, ieq_t, ieq_f, wr_i, wr_u, fd2, gI, gD, cond_true, cond_false, Option.bind_some, List.length_set, joinO_inl, Int.toNat_natCast, List.length_replicate]
    exact ⟨6, rfl, .inl ⟨rfl, k, h, by omega⟩⟩
   ·by_cases g2 : 1073741824 < l.getD k 0
    ·right
     simp (disch := first | omega | (simp only [List.length_set]; omega)) only [ilt_t, ilt_f, ile_t, ile_f, ieq_t, ieq_f, wr_i, wr_u, fd2, gI, gD, cond_true, cond_false, Option.bind_some, List.length_set, joinO_inl, Int.toNat_natCast, List.length_replicate]
     exact ⟨6, rfl, .inl ⟨rfl, k, h, by omega⟩⟩
    ·left
     simp (disch := first | omega | (simp only [List.length_set]; omega)) only [ilt_t, ilt_f, ile_t, ile_f, ieq_t, ieq_f, wr_i, wr_u, fd2, gI, gD, cond_true, cond_false, Option.bind_some, List.length_set, joinO_inl, Int.toNat_natCast, List.length_replicate]
     refine ⟨_, rfl, ⟨k + 1, rfl, h, fun j hjk => ?_⟩, by show ((l.length : Int) - (k + 1)).toNat < ((l.length : Int) - k).toNat; omega⟩
     by_cases e : j = k
     ·subst e; omega
     ·exact hj j (by omega)
  ·right
   simp (disch := first | omega | (simp only [List.length_set]; omega)) only [ilt_t, ilt_f, ile_t, ile_f, ieq_t, ieq_f, wr_i, wr_u, fd2, gI, gD, cond_true, cond_false, Option.bind_some, List.length_set, joinO_inl, Int.toNat_natCast, List.length_replicate]
   exact ⟨0, rfl, .inr ⟨rfl, fun j hjl => hj j (by omega)⟩⟩) ((0, ()), (), ()) ⟨0, rfl, by omega, fun j hj => by omega⟩
 rw [e1, e2]
 rcases q1 with ⟨rfl, j, hj, hn⟩ | ⟨rfl, ha⟩
 ·rcases q2 with ⟨rfl, _⟩ | ⟨rfl, hb⟩
  ·exact .inl ⟨6, by omega, rfl, rfl⟩
  ·exact absurd (hb j hj) hn
 ·rcases q2 with ⟨rfl, j, hj, hn⟩ | ⟨rfl, hb⟩
  ·exact absurd (ha j hj) hn
  ·exact .inr ⟨rfl, rfl, by omega, by omega, by omega, ha⟩
def Qok (q : List Int) (w : Int) : Prop := ∀ i, i < q.length → 0 ≤ q.getD i 0 ∧ q.getD i 0 < w
theorem valS_q {q : List Int} (w : Int) (hl : q.length ≤ 512) : (valS q w = some true ∧ Qok q w) ∨ (valS q w = some false ∧ ∃ j, j < q.length ∧ ¬ (0 ≤ q.getD j 0 ∧ q.getD j 0 < w)) := by
 unfold valS
 obtain ⟨r, h1, h2⟩ := loopO_inv (step := valS_step0 q w) (fun s => ∃ k : Nat, s = (((k : Int), ()), (), ()) ∧ k ≤ q.length ∧ ∀ j, j < k → 0 ≤ q.getD j 0 ∧ q.getD j 0 < w) (fun s => (q.length - s.1.1).toNat)
   (fun r => (r = true ∧ Qok q w) ∨ (r = false ∧ ∃ j, j < q.length ∧ ¬ (0 ≤ q.getD j 0 ∧ q.getD j 0 < w))) (by
  rintro _ ⟨k, rfl, hk, hj⟩
  unfold valS_step0
  by_cases g : k < q.length
  ·simp (disch := first | omega | (simp only [List.length_set]; omega)) only [ilt_t, ilt_f, ile_t, ile_f, ieq_t, ieq_f, wr_i, wr_u, fd2, gI, gD, cond_true, cond_false, Option.bind_some, List.length_set, joinO_inl, Int.toNat_natCast, List.length_replicate]
   by_cases g1 : q.getD k 0 < 0
   ·right
    simp (disch := first | omega | (simp only [List.length_set]; omega)) only [ilt_t, ilt_f, ile_t, ile_f, ieq_t, ieq_f, wr_i, wr_u, fd2, gI, gD, cond_true, cond_false, Option.bind_some, List.length_set, joinO_inl, Int.toNat_natCast, List.length_replicate]
    exact ⟨false, rfl, .inr ⟨rfl, k, g, by omega⟩⟩
   ·by_cases g2 : w ≤ q.getD k 0
    ·right
     simp (disch := first | omega | (simp only [List.length_set]; omega)) only [ilt_t, ilt_f, ile_t, ile_f, ieq_t, ieq_f, wr_i, wr_u, fd2, gI, gD, cond_true, cond_false, Option.bind_some, List.length_set, joinO_inl, Int.toNat_natCast, List.length_replicate]
     exact ⟨false, rfl, .inr ⟨rfl, k, g, by omega⟩⟩
    ·left
     simp (disch := first | omega | (simp only [List.length_set]; omega)) only [ilt_t, ilt_f, ile_t, ile_f, ieq_t, ieq_f, wr_i, wr_u, fd2, gI, gD, cond_true, cond_false, Option.bind_some, List.length_set, joinO_inl, Int.toNat_natCast, List.length_replicate]
     refine ⟨_, rfl, ⟨k + 1, rfl, g, fun j hjk => ?_⟩, by show ((q.length : Int) - (k + 1)).toNat < ((q.length : Int) - k).toNat; omega⟩
     by_cases e : j = k
     ·subst e; omega
     ·exact hj j (by omega)
  ·right
   simp (disch := first | omega | (simp only [List.length_set]; omega)) only [ilt_t, ilt_f, ile_t, ile_f, ieq_t, ieq_f, wr_i, wr_u, fd2, gI, gD, cond_true, cond_false, Option.bind_some, List.length_set, joinO_inl, Int.toNat_natCast, List.length_replicate]
   exact ⟨true, rfl, .inl ⟨rfl, fun j hjl => hj j (by omega)⟩⟩) ((0, ()), (), ()) ⟨0, rfl, by omega, fun j hj => by omega⟩
 rw [h1]
 rcases h2 with ⟨rfl, h⟩ | ⟨rfl, h⟩
 ·exact .inl ⟨rfl, h⟩
 ·exact .inr ⟨rfl, h⟩
theorem ord_of {d : List Int} {n : Nat} (hl : d.length = n) (h : ∀ j, j < n → d.getD j 0 = (j : Int)) : d = ord n := by
 apply List.ext_getElem?
 intro i
 by_cases hi : i < n
 ·rw [gD (by omega), h i hi]
  unfold ord
  rw [List.getElem?_map, List.getElem?_range hi]; rfl
 ·rw [List.getElem?_eq_none (by omega), List.getElem?_eq_none (by rw [ord_len]; omega)]
theorem gr_next (c o : List Int) (W k : Nat) {loads out : List Int} {y : Int} (hg : gr c o W k = (loads, out)) (hy : o.getD k 0 = y) :
  gr c o W (k + 1) = (loads.set (fam loads W) (loads.getD (fam loads W) 0 + c.getD y.toNat 0), out.set y.toNat (fam loads W : Nat)) := by
 show ((gr c o W k).1.set (fam (gr c o W k).1 W) ((gr c o W k).1.getD (fam (gr c o W k).1 W) 0 + c.getD (o.getD k 0).toNat 0), (gr c o W k).2.set (o.getD k 0).toNat ((fam (gr c o W k).1 W : Nat) : Int)) = _
 rw [hg, hy]
theorem asgn_q {l : List Int} {W : Nat} (hv : valC l W = some 0) (h : Cok l W) : ∃ o, Lpt l o ∧ asgn l W = some ((gr l o W l.length).2, 0, ()) := by
 obtain ⟨hw1, hw2, hl, hc⟩ := h
 unfold asgn
 rw [hv]
 simp (disch := first | omega | (simp only [List.length_set]; omega)) only [ilt_t, ilt_f, ile_t, ile_f, ieq_t, ieq_f, wr_i, wr_u, fd2, gI, gD, cond_true, cond_false, Option.bind_some, List.length_set, joinO_inl, Int.toNat_natCast, List.length_replicate]
 obtain ⟨r, h1, o, hL, rfl⟩ := loopO_inv (step := asgn_step2 l W) (fun s => ∃ (k : Nat) (d : List Int), s = (((k : Int), ()), (), (d, ())) ∧ d.length = l.length ∧ k ≤ l.length ∧ ∀ j, j < k → d.getD j 0 = (j : Int)) (fun s => (l.length - s.1.1).toNat) (fun r => ∃ o, Lpt l o ∧ r = ((gr l o W l.length).2, 0, ())) (by
  rintro _ ⟨k, d, rfl, hd, hk, hj⟩
  unfold asgn_step2
  by_cases g : k < l.length
  ·left
   simp (disch := first | omega | (simp only [List.length_set]; omega)) only [ilt_t, ilt_f, ile_t, ile_f, ieq_t, ieq_f, wr_i, wr_u, fd2, gI, gD, cond_true, cond_false, Option.bind_some, List.length_set, joinO_inl, Int.toNat_natCast, List.length_replicate]
   refine ⟨_, rfl, ⟨k + 1, _, rfl, by rw [List.length_set]; exact hd, g, fun j hjk => ?_⟩, by show ((l.length : Int) - (k + 1)).toNat < ((l.length : Int) - k).toNat; omega⟩
   rw [gD_set d k _ j (by omega)]
   split
   ·omega
   ·exact hj j (by omega)
  ·right
   simp (disch := first | omega | (simp only [List.length_set]; omega)) only [ilt_t, ilt_f, ile_t, ile_f, ieq_t, ieq_f, wr_i, wr_u, fd2, gI, gD, cond_true, cond_false, Option.bind_some, List.length_set, joinO_inl, Int.toNat_natCast, List.length_replicate]
   obtain rfl : k = l.length := by omega
   have hdo := ord_of hd hj
   subst hdo
   obtain ⟨o, e2, he, hs⟩ := sortS_q (d := ord l.length) (c := l) (fun x hx => ord_mem hx) (by rw [ord_len]; omega)
   rw [ord_len] at he hs
   have hL := lpt_of he hs
   have hlen := hL.len
   rw [e2]
   simp (disch := first | omega | (simp only [List.length_set]; omega)) only [ilt_t, ilt_f, ile_t, ile_f, ieq_t, ieq_f, wr_i, wr_u, fd2, gI, gD, cond_true, cond_false, Option.bind_some, List.length_set, joinO_inl, Int.toNat_natCast, List.length_replicate]
   obtain ⟨r, h1, rfl⟩ := loopO_inv (step := asgn_step1 l ((), o, ((), l, ()), ())) (fun s => ∃ (k : Nat), s = (((k : Int), ()), (), ((gr l o W k).1, ((gr l o W k).2, ()))) ∧ k ≤ l.length) (fun s => (l.length - s.1.1).toNat) (fun r => r = ((gr l o W l.length).2, 0, ())) (by
    rintro _ ⟨k, rfl, hk⟩
    by_cases g : k < l.length
    ·have hgl := gr_len l o W k
     have hgb := gr_bd (o := o) (W := W) hc (fun j hj => by have := hL.mem hj; omega) k hk
     have hy := hL.mem g
     have hcy := hc (o.getD k 0).toNat (by omega)
     obtain ⟨G, hgr⟩ : ∃ G, gr l o W k = G := ⟨_, rfl⟩
     obtain ⟨loads, out⟩ := G
     have hnext := gr_next l o W k hgr rfl
     rw [hgr] at hgl hgb
     rw [hgr]
     have hll : loads.length = W := hgl.1
     have hlo : out.length = l.length := hgl.2
     replace hgb : ∀ w : Nat, 0 ≤ loads.getD w 0 ∧ loads.getD w 0 ≤ k * 1073741824 := hgb
     unfold asgn_step1
     left
     simp (disch := first | omega | (simp only [List.length_set]; omega)) only [ilt_t, ilt_f, ile_t, ile_f, ieq_t, ieq_f, wr_i, wr_u, fd2, gI, gD, cond_true, cond_false, Option.bind_some, List.length_set, joinO_inl, Int.toNat_natCast, List.length_replicate]
     obtain ⟨r, h1, rfl⟩ := loopO_inv (step := asgn_step0 l (((k : Int), ()), (), (loads, (out, ()))) (o.getD k 0)) (fun s => ∃ j : Nat, s = (((j : Int), ((fam loads j : Nat) : Int), ()), (), ()) ∧ j ≤ W) (fun s => (W - s.1.1).toNat)
       (fun r => r = .inl ((((k + 1 : Nat) : Int), ()), (), (loads.set (fam loads W) (loads.getD (fam loads W) 0 + l.getD (o.getD k 0).toNat 0), (out.set (o.getD k 0).toNat (fam loads W : Nat), ())))) (by
      rintro _ ⟨j, rfl, hj⟩
      unfold asgn_step0
      have hfj := fam_le loads j
      by_cases g2 : j < W
      ·left
       by_cases g3 : loads.getD j 0 < loads.getD (fam loads j) 0
       ·simp (disch := first | omega | (simp only [List.length_set]; omega)) only [ilt_t, ilt_f, ile_t, ile_f, ieq_t, ieq_f, wr_i, wr_u, fd2, gI, gD, cond_true, cond_false, Option.bind_some, List.length_set, joinO_inl, Int.toNat_natCast, List.length_replicate]
        have hf : fam loads (j + 1) = j := by
         show (if loads.getD j 0 < loads.getD (fam loads j) 0 then j else fam loads j) = j
         rw [if_pos g3]
        exact ⟨_, rfl, ⟨j + 1, by rw [hf]; rfl, g2⟩, by show ((W : Int) - (j + 1)).toNat < ((W : Int) - j).toNat; omega⟩
       ·simp (disch := first | omega | (simp only [List.length_set]; omega)) only [ilt_t, ilt_f, ile_t, ile_f, ieq_t, ieq_f, wr_i, wr_u, fd2, gI, gD, cond_true, cond_false, Option.bind_some, List.length_set, joinO_inl, Int.toNat_natCast, List.length_replicate]
        have hf : fam loads (j + 1) = fam loads j := by
         show (if loads.getD j 0 < loads.getD (fam loads j) 0 then j else fam loads j) = fam loads j
         rw [if_neg g3]
        exact ⟨_, rfl, ⟨j + 1, by rw [hf]; rfl, g2⟩, by show ((W : Int) - (j + 1)).toNat < ((W : Int) - j).toNat; omega⟩
      ·right
       obtain rfl : j = W := by omega
       have hn := hgb (fam loads j)
       simp (disch := first | omega | (simp only [List.length_set]; omega)) only [ilt_t, ilt_f, ile_t, ile_f, ieq_t, ieq_f, wr_i, wr_u, fd2, gI, gD, cond_true, cond_false, Option.bind_some, List.length_set, joinO_inl, Int.toNat_natCast, List.length_replicate]
       exact ⟨_, rfl, rfl⟩) ((0, 0, ()), (), ()) ⟨0, rfl, by omega⟩
     rw [h1]
     exact ⟨_, rfl, ⟨k + 1, by rw [hnext], g⟩, by show ((l.length : Int) - ((k + 1 : Nat) : Int)).toNat < ((l.length : Int) - k).toNat; omega⟩
    ·right
     unfold asgn_step1
     obtain rfl : k = l.length := by omega
     simp (disch := first | omega | (simp only [List.length_set]; omega)) only [ilt_t, ilt_f, ile_t, ile_f, ieq_t, ieq_f, wr_i, wr_u, fd2, gI, gD, cond_true, cond_false, Option.bind_some, List.length_set, joinO_inl, Int.toNat_natCast, List.length_replicate]
     exact ⟨_, rfl, rfl⟩) ((0, ()), (), (List.replicate W 0, (List.replicate l.length 0, ()))) ⟨0, rfl, by omega⟩
   rw [h1]
   exact ⟨_, rfl, o, hL, rfl⟩) ((0, ()), (), (List.replicate l.length 0, ())) ⟨0, _, rfl, by simp, by omega, fun j hj => by omega⟩
 exact ⟨o, hL, h1⟩
theorem rAsg_q {l o : List Int} {W : Nat} (hv : rErr l W = some 0) (h : Cok l W) (hL : Lpt l o) : rAsg l W = some ((gr l o W l.length).2, 0, ()) := by
 obtain ⟨hw1, hw2, hl, hc⟩ := h
 unfold rAsg
 rw [hv]
 simp (disch := first | omega | (simp only [List.length_set]; omega)) only [ilt_t, ilt_f, ile_t, ile_f, ieq_t, ieq_f, wr_i, wr_u, fd2, gI, gD, cond_true, cond_false, Option.bind_some, List.length_set, joinO_inl, Int.toNat_natCast, List.length_replicate]
 obtain ⟨r, h1, rfl⟩ := loopO_inv (step := rAsg_step2 l W) (fun s => ∃ (k : Nat) (done : List Bool), s = (((k : Int), ()), (), ((gr l o W k).2, (done, ((gr l o W k).1, ())))) ∧ done.length = l.length ∧ k ≤ l.length ∧ ∀ i : Nat, i < l.length → (done.getD i false = true ↔ ∃ j, j < k ∧ o.getD j 0 = (i : Int))) (fun s => (l.length - s.1.1).toNat) (fun r => r = ((gr l o W l.length).2, 0, ())) (by
  rintro _ ⟨k, done, rfl, hdl, hk, hdone⟩
  by_cases g : k < l.length
  ·have hgl := gr_len l o W k
   have hgb := gr_bd (o := o) (W := W) hc (fun j hj => by have := hL.mem hj; omega) k hk
   have hy := hL.mem g
   have hcy := hc (o.getD k 0).toNat (by omega)
   obtain ⟨G, hgr⟩ : ∃ G, gr l o W k = G := ⟨_, rfl⟩
   obtain ⟨loads, out⟩ := G
   have hnext := gr_next l o W k hgr rfl
   rw [hgr] at hgl hgb
   rw [hgr]
   have hll : loads.length = W := hgl.1
   have hlo : out.length = l.length := hgl.2
   replace hgb : ∀ w : Nat, 0 ≤ loads.getD w 0 ∧ loads.getD w 0 ≤ k * 1073741824 := hgb
   unfold rAsg_step2
   left
   simp (disch := first | omega | (simp only [List.length_set]; omega)) only [ilt_t, ilt_f, ile_t, ile_f, ieq_t, ieq_f, wr_i, wr_u, fd2, gI, gD, cond_true, cond_false, Option.bind_some, List.length_set, joinO_inl, Int.toNat_natCast, List.length_replicate]
   obtain ⟨r, h1, rfl⟩ := loopO_inv (step := rAsg_step1 l W (((k : Int), ()), (), (out, (done, (loads, ()))))) (fun s => ∃ (i : Nat) (b : Int), s = ((b, (i : Int), ()), (), ()) ∧ i ≤ l.length ∧ ((b = -1 ∧ ∀ j, j < i → done.getD j false = true) ∨
     ∃ c : Nat, b = (c : Int) ∧ c < i ∧ done.getD c false = false ∧ ∀ j, j < i → done.getD j false = false → l.getD j 0 ≤ l.getD c 0 ∧ (j < c → l.getD j 0 < l.getD c 0))) (fun s => (l.length - s.1.2.1).toNat)
     (fun r => r = .inl ((((k + 1 : Nat) : Int), ()), (), (out.set (o.getD k 0).toNat (fam loads W : Nat), (done.set (o.getD k 0).toNat true, (loads.set (fam loads W) (loads.getD (fam loads W) 0 + l.getD (o.getD k 0).toNat 0), ()))))) (by
    rintro _ ⟨i, b, rfl, hi, hb⟩
    unfold rAsg_step1
    by_cases g1 : i < l.length
    ·left
     simp (disch := first | omega | (simp only [List.length_set]; omega)) only [ilt_t, ilt_f, ile_t, ile_f, ieq_t, ieq_f, wr_i, wr_u, fd2, gI, gD, cond_true, cond_false, Option.bind_some, List.length_set, joinO_inl, Int.toNat_natCast, List.length_replicate, List.length_cons, List.length_nil, roomC_t, dApp_d, gB, gBI]
     cases hd : done.getD i false with
     | true =>
      simp (disch := first | omega | (simp only [List.length_set]; omega)) only [ilt_t, ilt_f, ile_t, ile_f, ieq_t, ieq_f, wr_i, wr_u, fd2, gI, gD, cond_true, cond_false, Option.bind_some, List.length_set, joinO_inl, Int.toNat_natCast, List.length_replicate, List.length_cons, List.length_nil, roomC_t, dApp_d, gB, gBI]
      refine ⟨_, rfl, ⟨i + 1, b, rfl, g1, ?_⟩, by show ((l.length : Int) - (i + 1)).toNat < ((l.length : Int) - i).toNat; omega⟩
      rcases hb with ⟨hb, ha⟩ | ⟨c, hb, hc1, hc2, hc3⟩
      ·exact .inl ⟨hb, fun j hj => by
        by_cases e : j = i
        ·subst e; exact hd
        ·exact ha j (by omega)⟩
      ·exact .inr ⟨c, hb, by omega, hc2, fun j hj hdj => by
        by_cases e : j = i
        ·subst e; rw [hd] at hdj; cases hdj
        ·exact hc3 j (by omega) hdj⟩
     | false =>
      rcases hb with ⟨rfl, ha⟩ | ⟨c, rfl, hc1, hc2, hc3⟩
      ·simp (disch := first | omega | (simp only [List.length_set]; omega)) only [ilt_t, ilt_f, ile_t, ile_f, ieq_t, ieq_f, wr_i, wr_u, fd2, gI, gD, cond_true, cond_false, Option.bind_some, List.length_set, joinO_inl, Int.toNat_natCast, List.length_replicate, List.length_cons, List.length_nil, roomC_t, dApp_d, gB, gBI]
       refine ⟨_, rfl, ⟨i + 1, (i : Int), rfl, g1, .inr ⟨i, rfl, by omega, hd, fun j hj hdj => ?_⟩⟩, by show ((l.length : Int) - (i + 1)).toNat < ((l.length : Int) - i).toNat; omega⟩
       by_cases e : j = i
       ·subst e; exact ⟨Int.le_refl _, fun q => absurd q (Nat.lt_irrefl _)⟩
       ·have := ha j (by omega)
        rw [hdj] at this; cases this
      ·by_cases g3 : l.getD c 0 < l.getD i 0
       ·simp (disch := first | omega | (simp only [List.length_set]; omega)) only [ilt_t, ilt_f, ile_t, ile_f, ieq_t, ieq_f, wr_i, wr_u, fd2, gI, gD, cond_true, cond_false, Option.bind_some, List.length_set, joinO_inl, Int.toNat_natCast, List.length_replicate, List.length_cons, List.length_nil, roomC_t, dApp_d, gB, gBI]
        refine ⟨_, rfl, ⟨i + 1, (i : Int), rfl, g1, .inr ⟨i, rfl, by omega, hd, fun j hj hdj => ?_⟩⟩, by show ((l.length : Int) - (i + 1)).toNat < ((l.length : Int) - i).toNat; omega⟩
        by_cases e : j = i
        ·subst e; exact ⟨Int.le_refl _, fun q => absurd q (Nat.lt_irrefl _)⟩
        ·have := (hc3 j (by omega) hdj).1
         exact ⟨by omega, fun _ => by omega⟩
       ·simp (disch := first | omega | (simp only [List.length_set]; omega)) only [ilt_t, ilt_f, ile_t, ile_f, ieq_t, ieq_f, wr_i, wr_u, fd2, gI, gD, cond_true, cond_false, Option.bind_some, List.length_set, joinO_inl, Int.toNat_natCast, List.length_replicate, List.length_cons, List.length_nil, roomC_t, dApp_d, gB, gBI]
        refine ⟨_, rfl, ⟨i + 1, (c : Int), rfl, g1, .inr ⟨c, rfl, by omega, hc2, fun j hj hdj => ?_⟩⟩, by show ((l.length : Int) - (i + 1)).toNat < ((l.length : Int) - i).toNat; omega⟩
        by_cases e : j = i
        ·subst e; exact ⟨by omega, fun q => by omega⟩
        ·exact hc3 j (by omega) hdj
    ·right
     obtain rfl : i = l.length := by omega
     have hund : done.getD (o.getD k 0).toNat false = false := by
      cases hq : done.getD (o.getD k 0).toNat false with
      | false => rfl
      | true =>
       obtain ⟨j, hj, ej⟩ := (hdone _ (by omega)).1 hq
       have := hL.inj (by omega) g (show o.getD j 0 = o.getD k 0 by omega)
       omega
     rcases hb with ⟨_, ha⟩ | ⟨c, rfl, hc1, hc2, hc3⟩
     ·have := ha (o.getD k 0).toNat (by omega)
      rw [hund] at this; cases this
     have hbest : o.getD k 0 = (c : Int) := hL.best g hc1 (fun j hj q => by
      have := (hdone c hc1).2 ⟨j, hj, q⟩
      rw [hc2] at this; cases this) (fun j hj hnd => hc3 j hj (by
       cases hq : done.getD j false with
       | false => rfl
       | true =>
        obtain ⟨m, hm, em⟩ := (hdone j hj).1 hq
        exact absurd em (hnd m hm)))
     simp (disch := first | omega | (simp only [List.length_set]; omega)) only [ilt_t, ilt_f, ile_t, ile_f, ieq_t, ieq_f, wr_i, wr_u, fd2, gI, gD, cond_true, cond_false, Option.bind_some, List.length_set, joinO_inl, Int.toNat_natCast, List.length_replicate, List.length_cons, List.length_nil, roomC_t, dApp_d, gB, gBI]
     obtain ⟨r, h1, rfl⟩ := loopO_inv (step := rAsg_step0 l W (((k : Int), ()), (), (out, (done, (loads, ())))) (((c : Int), (l.length : Int), ()), (), ())) (fun s => ∃ j : Nat, s = ((((fam loads j : Nat) : Int), (j : Int), ()), (), ()) ∧ 1 ≤ j ∧ j ≤ W) (fun s => (W - s.1.2.1).toNat)
       (fun r => r = .inl ((((k + 1 : Nat) : Int), ()), (), (out.set c (fam loads W : Nat), (done.set c true, (loads.set (fam loads W) (loads.getD (fam loads W) 0 + l.getD c 0), ()))))) (by
      rintro _ ⟨j, rfl, hj1, hj⟩
      unfold rAsg_step0
      have hfj := fam_le loads j
      by_cases g2 : j < W
      ·left
       by_cases g3 : loads.getD j 0 < loads.getD (fam loads j) 0
       ·simp (disch := first | omega | (simp only [List.length_set]; omega)) only [ilt_t, ilt_f, ile_t, ile_f, ieq_t, ieq_f, wr_i, wr_u, fd2, gI, gD, cond_true, cond_false, Option.bind_some, List.length_set, joinO_inl, Int.toNat_natCast, List.length_replicate, List.length_cons, List.length_nil, roomC_t, dApp_d, gB, gBI]
        have hf : fam loads (j + 1) = j := by
         show (if loads.getD j 0 < loads.getD (fam loads j) 0 then j else fam loads j) = j
         rw [if_pos g3]
        exact ⟨_, rfl, ⟨j + 1, by rw [hf]; rfl, by omega, g2⟩, by show ((W : Int) - (j + 1)).toNat < ((W : Int) - j).toNat; omega⟩
       ·simp (disch := first | omega | (simp only [List.length_set]; omega)) only [ilt_t, ilt_f, ile_t, ile_f, ieq_t, ieq_f, wr_i, wr_u, fd2, gI, gD, cond_true, cond_false, Option.bind_some, List.length_set, joinO_inl, Int.toNat_natCast, List.length_replicate, List.length_cons, List.length_nil, roomC_t, dApp_d, gB, gBI]
        have hf : fam loads (j + 1) = fam loads j := by
         show (if loads.getD j 0 < loads.getD (fam loads j) 0 then j else fam loads j) = fam loads j
         rw [if_neg g3]
        exact ⟨_, rfl, ⟨j + 1, by rw [hf]; rfl, by omega, g2⟩, by show ((W : Int) - (j + 1)).toNat < ((W : Int) - j).toNat; omega⟩
      ·right
       obtain rfl : j = W := by omega
       have hn := hgb (fam loads j)
       have hcc := hc c hc1
       simp (disch := first | omega | (simp only [List.length_set]; omega)) only [ilt_t, ilt_f, ile_t, ile_f, ieq_t, ieq_f, wr_i, wr_u, fd2, gI, gD, cond_true, cond_false, Option.bind_some, List.length_set, joinO_inl, Int.toNat_natCast, List.length_replicate, List.length_cons, List.length_nil, roomC_t, dApp_d, gB, gBI]
       exact ⟨_, rfl, rfl⟩) ((0, 1, ()), (), ()) ⟨1, by rw [fam_one]; rfl, by omega, by omega⟩
     rw [h1, hbest]
     exact ⟨_, rfl, by rw [Int.toNat_natCast]⟩) ((-1, 0, ()), (), ()) ⟨0, -1, rfl, by omega, .inl ⟨rfl, fun j hj => by omega⟩⟩
   rw [h1]
   refine ⟨_, rfl, ⟨k + 1, done.set (o.getD k 0).toNat true, by rw [hnext], by rw [List.length_set]; exact hdl, g, fun i hi => ?_⟩, by show ((l.length : Int) - ((k + 1 : Nat) : Int)).toNat < ((l.length : Int) - k).toNat; omega⟩
   rw [gB_set _ _ _ _ (by omega)]
   split
   ·rename_i e
    exact ⟨fun _ => ⟨k, by omega, by omega⟩, fun _ => rfl⟩
   ·rename_i e
    rw [hdone i hi]
    exact ⟨fun ⟨j, hj, q⟩ => ⟨j, by omega, q⟩, fun ⟨j, hj, q⟩ => ⟨j, by
     by_cases e2 : j = k
     ·subst e2; omega
     ·omega, q⟩⟩
  ·right
   unfold rAsg_step2
   obtain rfl : k = l.length := by omega
   simp (disch := first | omega | (simp only [List.length_set]; omega)) only [ilt_t, ilt_f, ile_t, ile_f, ieq_t, ieq_f, wr_i, wr_u, fd2, gI, gD, cond_true, cond_false, Option.bind_some, List.length_set, joinO_inl, Int.toNat_natCast, List.length_replicate]
   exact ⟨_, rfl, rfl⟩) ((0, ()), (), (List.replicate l.length 0, (List.replicate l.length false, (List.replicate W 0, ())))) ⟨0, _, rfl, by simp, by omega, fun i hi => by
    have : (List.replicate l.length false).getD i false = false := by
     rw [List.getD_eq_getElem?_getD, List.getElem?_replicate]
     split <;> rfl
    rw [this]
    exact ⟨fun q => (by cases q), fun ⟨j, hj, _⟩ => by omega⟩⟩
 exact h1
def ldf (l q : List Int) (W : Nat) : Nat → List Int
 | 0 => List.replicate W 0
 | k + 1 => (ldf l q W k).set (q.getD k 0).toNat ((ldf l q W k).getD (q.getD k 0).toNat 0 + l.getD k 0)
theorem ldf_len (l q : List Int) (W : Nat) : ∀ k, (ldf l q W k).length = W
 | 0 => by simp [ldf]
 | k + 1 => by simp [ldf, ldf_len l q W k]
theorem ldf_bd {l : List Int} (q : List Int) {W : Nat} (hc : ∀ i, i < l.length → 0 ≤ l.getD i 0 ∧ l.getD i 0 ≤ 1073741824) : ∀ k, k ≤ l.length → ∀ w, 0 ≤ (ldf l q W k).getD w 0 ∧ (ldf l q W k).getD w 0 ≤ k * 1073741824
 | 0, _, w => by show 0 ≤ (List.replicate W (0 : Int)).getD w 0 ∧ (List.replicate W (0 : Int)).getD w 0 ≤ _; rw [rep0]; simp
 | k + 1, hk, w => by
  have h1 := ldf_bd (W := W) q hc k (by omega)
  have h2 := hc k (by omega)
  show 0 ≤ (List.set _ _ _).getD w 0 ∧ (List.set _ _ _).getD w 0 ≤ _
  by_cases hw : (q.getD k 0).toNat < (ldf l q W k).length
  ·rw [gD_set _ _ _ _ hw]
   have a := h1 (q.getD k 0).toNat
   have b := h1 w
   split <;> (rw [Int.natCast_add]; omega)
  ·rw [List.set_eq_of_length_le (by omega)]
   have b := h1 w
   rw [Int.natCast_add]; omega
theorem maxL_q {l : List Int} (h1 : 1 ≤ l.length) (hl : l.length ≤ 512) : ∃ m, maxL l = some m ∧ (∃ k, k < l.length ∧ m = l.getD k 0) ∧ ∀ k, k < l.length → l.getD k 0 ≤ m := by
 unfold maxL
 rw [gD (l := l) (i := 0) (by omega)]
 simp (disch := first | omega | (simp only [List.length_set]; omega)) only [ilt_t, ilt_f, ile_t, ile_f, ieq_t, ieq_f, wr_i, wr_u, fd2, gI, gD, cond_true, cond_false, Option.bind_some, List.length_set, joinO_inl, Int.toNat_natCast, List.length_replicate]
 obtain ⟨r, h1, h2⟩ := loopO_inv (step := maxL_step0 l (l.getD 0 0)) (fun s => ∃ (m : Int) (k : Nat), s = ((m, (k : Int), ()), (), ()) ∧ 1 ≤ k ∧ k ≤ l.length ∧ (∃ j, j < k ∧ m = l.getD j 0) ∧ ∀ j, j < k → l.getD j 0 ≤ m) (fun s => (l.length - s.1.2.1).toNat) (fun m => (∃ k, k < l.length ∧ m = l.getD k 0) ∧ ∀ k, k < l.length → l.getD k 0 ≤ m) (by
  rintro _ ⟨m, k, rfl, hk1, hk, ⟨j0, hj0, hm⟩, hj⟩
  unfold maxL_step0
  by_cases g : k < l.length
  ·left
   by_cases h : m ≤ l.getD k 0
   ·simp (disch := first | omega | (simp only [List.length_set]; omega)) only [ilt_t, ilt_f, ile_t, ile_f, ieq_t, ieq_f, wr_i, wr_u, fd2, gI, gD, cond_true, cond_false, Option.bind_some, List.length_set, joinO_inl, Int.toNat_natCast, List.length_replicate]
    refine ⟨_, rfl, ⟨_, k + 1, rfl, by omega, g, ⟨k, by omega, rfl⟩, fun j hjk => ?_⟩, by show ((l.length : Int) - (k + 1)).toNat < ((l.length : Int) - k).toNat; omega⟩
    by_cases e : j = k
    ·subst e; omega
    ·have := hj j (by omega); omega
   ·simp (disch := first | omega | (simp only [List.length_set]; omega)) only [ilt_t, ilt_f, ile_t, ile_f, ieq_t, ieq_f, wr_i, wr_u, fd2, gI, gD, cond_true, cond_false, Option.bind_some, List.length_set, joinO_inl, Int.toNat_natCast, List.length_replicate]
    refine ⟨_, rfl, ⟨_, k + 1, rfl, by omega, g, ⟨j0, by omega, hm⟩, fun j hjk => ?_⟩, by show ((l.length : Int) - (k + 1)).toNat < ((l.length : Int) - k).toNat; omega⟩
    by_cases e : j = k
    ·subst e; omega
    ·exact hj j (by omega)
  ·right
   simp (disch := first | omega | (simp only [List.length_set]; omega)) only [ilt_t, ilt_f, ile_t, ile_f, ieq_t, ieq_f, wr_i, wr_u, fd2, gI, gD, cond_true, cond_false, Option.bind_some, List.length_set, joinO_inl, Int.toNat_natCast, List.length_replicate]
   obtain rfl : k = l.length := by omega
   exact ⟨_, rfl, ⟨j0, hj0, hm⟩, hj⟩) ((l.getD 0 0, 1, ()), (), ()) ⟨_, 1, rfl, by omega, h1, ⟨0, by omega, rfl⟩, fun j hj => by
    obtain rfl : j = 0 := by omega
    exact Int.le_refl _⟩
 exact ⟨r, h1, h2⟩
theorem mk_eq (l q : List Int) (w : Int) (hl : l.length ≤ 300) (hql : q.length ≤ 300) : ∃ r, mksp l q w = some r ∧ rMks l q w = some r := by
 rcases vErr l w with ⟨e, he, hv, hr⟩ | ⟨hv, hr, hcok⟩
 ·refine ⟨(0, e, ()), ?_, ?_⟩
  ·unfold mksp
   rw [hv]
   simp (disch := first | omega | (simp only [List.length_set]; omega)) only [ilt_t, ilt_f, ile_t, ile_f, ieq_t, ieq_f, wr_i, wr_u, fd2, gI, gD, cond_true, cond_false, Option.bind_some, List.length_set, joinO_inl, Int.toNat_natCast, List.length_replicate]
  ·unfold rMks
   rw [hr]
   simp (disch := first | omega | (simp only [List.length_set]; omega)) only [ilt_t, ilt_f, ile_t, ile_f, ieq_t, ieq_f, wr_i, wr_u, fd2, gI, gD, cond_true, cond_false, Option.bind_some, List.length_set, joinO_inl, Int.toNat_natCast, List.length_replicate]
 obtain ⟨hw1, hw2, hl2, hc⟩ := hcok
 obtain ⟨W, rfl⟩ : ∃ W : Nat, w = W := ⟨w.toNat, by omega⟩
 by_cases hlen : q.length = l.length
 case neg =>
  refine ⟨(0, 6, ()), ?_, ?_⟩
  ·unfold mksp
   rw [hv]
   simp (disch := first | omega | (simp only [List.length_set]; omega)) only [ilt_t, ilt_f, ile_t, ile_f, ieq_t, ieq_f, wr_i, wr_u, fd2, gI, gD, cond_true, cond_false, Option.bind_some, List.length_set, joinO_inl, Int.toNat_natCast, List.length_replicate]
  ·unfold rMks
   rw [hr]
   simp (disch := first | omega | (simp only [List.length_set]; omega)) only [ilt_t, ilt_f, ile_t, ile_f, ieq_t, ieq_f, wr_i, wr_u, fd2, gI, gD, cond_true, cond_false, Option.bind_some, List.length_set, joinO_inl, Int.toNat_natCast, List.length_replicate]
 obtain ⟨r, e2, q2⟩ := loopO_inv (step := rMks_step1 l q W 0) (fun s => ∃ k : Nat, s = (((k : Int), ()), (), (ldf l q W k, ())) ∧ k ≤ l.length ∧ ∀ j, j < k → 0 ≤ q.getD j 0 ∧ q.getD j 0 < W) (fun s => (l.length - s.1.1).toNat)
   (fun r => (r = (0, 6, ()) ∧ ∃ j, j < q.length ∧ ¬ (0 ≤ q.getD j 0 ∧ q.getD j 0 < W)) ∨ (Qok q W ∧ ∃ m, r = (m, 0, ()) ∧ (∃ k, k < W ∧ m = (ldf l q W l.length).getD k 0) ∧ ∀ k, k < W → (ldf l q W l.length).getD k 0 ≤ m)) (by
  rintro _ ⟨k, rfl, hk, hj⟩
  have hll := ldf_len l q W k
  have hb := ldf_bd (W := W) q hc k hk
  unfold rMks_step1
  by_cases g : k < l.length
  ·have hck := hc k g
   by_cases g1 : q.getD k 0 < 0
   ·right
    simp (disch := first | omega | (simp only [List.length_set]; omega)) only [ilt_t, ilt_f, ile_t, ile_f, ieq_t, ieq_f, wr_i, wr_u, fd2, gI, gD, cond_true, cond_false, Option.bind_some, List.length_set, joinO_inl, Int.toNat_natCast, List.length_replicate]
    exact ⟨_, rfl, .inl ⟨rfl, k, by omega, by omega⟩⟩
   ·by_cases g2 : (W : Int) ≤ q.getD k 0
    ·right
     simp (disch := first | omega | (simp only [List.length_set]; omega)) only [ilt_t, ilt_f, ile_t, ile_f, ieq_t, ieq_f, wr_i, wr_u, fd2, gI, gD, cond_true, cond_false, Option.bind_some, List.length_set, joinO_inl, Int.toNat_natCast, List.length_replicate]
     exact ⟨_, rfl, .inl ⟨rfl, k, by omega, by omega⟩⟩
    ·left
     have hbk := hb (q.getD k 0).toNat
     simp (disch := first | omega | (simp only [List.length_set]; omega)) only [ilt_t, ilt_f, ile_t, ile_f, ieq_t, ieq_f, wr_i, wr_u, fd2, gI, gD, cond_true, cond_false, Option.bind_some, List.length_set, joinO_inl, Int.toNat_natCast, List.length_replicate]
     refine ⟨_, rfl, ⟨k + 1, rfl, g, fun j hjk => ?_⟩, by show ((l.length : Int) - (k + 1)).toNat < ((l.length : Int) - k).toNat; omega⟩
     by_cases e : j = k
     ·subst e; omega
     ·exact hj j (by omega)
  ·right
   obtain rfl : k = l.length := by omega
   simp (disch := first | omega | (simp only [List.length_set]; omega)) only [ilt_t, ilt_f, ile_t, ile_f, ieq_t, ieq_f, wr_i, wr_u, fd2, gI, gD, cond_true, cond_false, Option.bind_some, List.length_set, joinO_inl, Int.toNat_natCast, List.length_replicate]
   obtain ⟨r, h1, m, rfl, hm⟩ := loopO_inv (step := rMks_step0 l q W 0 (((l.length : Int), ()), (), (ldf l q W l.length, ()))) (fun s => ∃ (m : Int) (j : Nat), s = ((m, (j : Int), ()), (), ()) ∧ j ≤ W ∧ 0 ≤ m ∧ (∀ i, i < j → (ldf l q W l.length).getD i 0 ≤ m) ∧ ((m = 0) ∨ ∃ i, i < j ∧ m = (ldf l q W l.length).getD i 0)) (fun s => (W - s.1.2.1).toNat)
     (fun r => ∃ m, r = (m, 0, ()) ∧ (∃ k, k < W ∧ m = (ldf l q W l.length).getD k 0) ∧ ∀ k, k < W → (ldf l q W l.length).getD k 0 ≤ m) (by
    rintro _ ⟨m, j, rfl, hj1, hm0, hm1, hm2⟩
    unfold rMks_step0
    by_cases g2 : j < W
    ·left
     by_cases g3 : m ≤ (ldf l q W l.length).getD j 0
     ·simp (disch := first | omega | (simp only [List.length_set]; omega)) only [ilt_t, ilt_f, ile_t, ile_f, ieq_t, ieq_f, wr_i, wr_u, fd2, gI, gD, cond_true, cond_false, Option.bind_some, List.length_set, joinO_inl, Int.toNat_natCast, List.length_replicate]
      refine ⟨_, rfl, ⟨_, j + 1, rfl, g2, by omega, fun i hi => ?_, .inr ⟨j, by omega, rfl⟩⟩, by show ((W : Int) - (j + 1)).toNat < ((W : Int) - j).toNat; omega⟩
      by_cases e : i = j
      ·subst e; exact Int.le_refl _
      ·have := hm1 i (by omega); omega
     ·simp (disch := first | omega | (simp only [List.length_set]; omega)) only [ilt_t, ilt_f, ile_t, ile_f, ieq_t, ieq_f, wr_i, wr_u, fd2, gI, gD, cond_true, cond_false, Option.bind_some, List.length_set, joinO_inl, Int.toNat_natCast, List.length_replicate]
      refine ⟨_, rfl, ⟨m, j + 1, rfl, g2, hm0, fun i hi => ?_, hm2.imp id fun ⟨i, hi, e⟩ => ⟨i, by omega, e⟩⟩, by show ((W : Int) - (j + 1)).toNat < ((W : Int) - j).toNat; omega⟩
      by_cases e : i = j
      ·subst e; omega
      ·exact hm1 i (by omega)
    ·right
     obtain rfl : j = W := by omega
     simp (disch := first | omega | (simp only [List.length_set]; omega)) only [ilt_t, ilt_f, ile_t, ile_f, ieq_t, ieq_f, wr_i, wr_u, fd2, gI, gD, cond_true, cond_false, Option.bind_some, List.length_set, joinO_inl, Int.toNat_natCast, List.length_replicate]
     refine ⟨_, rfl, m, rfl, ?_, hm1⟩
     rcases hm2 with rfl | h
     ·have h0 := hm1 0 (by omega)
      have h2 := (hb 0).1
      exact ⟨0, by omega, by omega⟩
     ·exact h) ((0, 0, ()), (), ()) ⟨0, 0, rfl, by omega, by omega, fun i hi => by omega, .inl rfl⟩
   rw [h1]
   exact ⟨_, rfl, .inr ⟨fun i hi => hj i (by omega), m, rfl, hm⟩⟩) ((0, ()), (), (List.replicate W 0, ())) ⟨0, rfl, by omega, fun j hj => by omega⟩
 have hrm : rMks l q W = some r := by
  unfold rMks
  rw [hr]
  simp (disch := first | omega | (simp only [List.length_set]; omega)) only [ilt_t, ilt_f, ile_t, ile_f, ieq_t, ieq_f, wr_i, wr_u, fd2, gI, gD, cond_true, cond_false, Option.bind_some, List.length_set, joinO_inl, Int.toNat_natCast, List.length_replicate]
  exact e2
 refine ⟨r, ?_, hrm⟩
 unfold mksp
 rw [hv]
 simp (disch := first | omega | (simp only [List.length_set]; omega)) only [ilt_t, ilt_f, ile_t, ile_f, ieq_t, ieq_f, wr_i, wr_u, fd2, gI, gD, cond_true, cond_false, Option.bind_some, List.length_set, joinO_inl, Int.toNat_natCast, List.length_replicate]
 rcases valS_q W (show q.length ≤ 512 by omega) with ⟨hvs, hq⟩ | ⟨hvs, j, hj, hn⟩
 ·rw [hvs]
  simp (disch := first | omega | (simp only [List.length_set]; omega)) only [ilt_t, ilt_f, ile_t, ile_f, ieq_t, ieq_f, wr_i, wr_u, fd2, gI, gD, cond_true, cond_false, Option.bind_some, List.length_set, joinO_inl, Int.toNat_natCast, List.length_replicate]
  rcases q2 with ⟨_, j, hj, hn⟩ | ⟨_, m, rfl, ⟨k0, hk0, hm0⟩, hm⟩
  ·exact absurd (hq j hj) hn
  obtain ⟨r, h1, rfl⟩ := loopO_inv (step := mksp_step0 l q) (fun s => ∃ k : Nat, s = (((k : Int), ()), (), (ldf l q W k, ())) ∧ k ≤ l.length) (fun s => (l.length - s.1.1).toNat) (fun r => r = (m, 0, ())) (by
   rintro _ ⟨k, rfl, hk⟩
   have hll := ldf_len l q W k
   have hb := ldf_bd (W := W) q hc k hk
   unfold mksp_step0
   by_cases g : k < l.length
   ·left
    have hck := hc k g
    have hqk := hq k (by omega)
    have hbk := hb (q.getD k 0).toNat
    simp (disch := first | omega | (simp only [List.length_set]; omega)) only [ilt_t, ilt_f, ile_t, ile_f, ieq_t, ieq_f, wr_i, wr_u, fd2, gI, gD, cond_true, cond_false, Option.bind_some, List.length_set, joinO_inl, Int.toNat_natCast, List.length_replicate]
    exact ⟨_, rfl, ⟨k + 1, rfl, g⟩, by show ((l.length : Int) - (k + 1)).toNat < ((l.length : Int) - k).toNat; omega⟩
   ·right
    obtain rfl : k = l.length := by omega
    obtain ⟨m', e3, ⟨k1, hk1, hm1⟩, hm2⟩ := maxL_q (l := ldf l q W l.length) (by omega) (by omega)
    simp (disch := first | omega | (simp only [List.length_set]; omega)) only [ilt_t, ilt_f, ile_t, ile_f, ieq_t, ieq_f, wr_i, wr_u, fd2, gI, gD, cond_true, cond_false, Option.bind_some, List.length_set, joinO_inl, Int.toNat_natCast, List.length_replicate]
    rw [e3]
    have : m' = m := by
     have a := hm k1 (by omega)
     have b := hm2 k0 (by omega)
     omega
    subst this
    exact ⟨_, rfl, rfl⟩) ((0, ()), (), (List.replicate W 0, ())) ⟨0, rfl, by omega⟩
  exact h1
 ·rw [hvs]
  simp (disch := first | omega | (simp only [List.length_set]; omega)) only [ilt_t, ilt_f, ile_t, ile_f, ieq_t, ieq_f, wr_i, wr_u, fd2, gI, gD, cond_true, cond_false, Option.bind_some, List.length_set, joinO_inl, Int.toNat_natCast, List.length_replicate]
  rcases q2 with ⟨rfl, _⟩ | ⟨hq, _⟩
  ·rfl
  ·exact absurd (hq j hj) hn
def acts (q : List Int) : Nat → List (Int × Int × Int × Int × Unit)
 | 0 => []
 | k + 1 => acts q k ++ [(1, q.getD k 0, (k : Int), 0, ()), (2, q.getD k 0, 0, 256, ()), (3, q.getD k 0, 0, 0, ())]
theorem acts_len (q : List Int) : ∀ k, (acts q k).length = 3 * k
 | 0 => rfl
 | k + 1 => by
  show (acts q k ++ _).length = _
  rw [List.length_append, acts_len q k]
  simp; omega
theorem scr_eq (q : List Int) (w : Int) (hql : q.length ≤ 300) : ∃ r, scr q w = some r ∧ rScr q w = some r := by
 unfold scr rScr
 by_cases h1 : w < 1
 ·simp (disch := first | omega | (simp only [List.length_set]; omega)) only [ilt_t, ilt_f, ile_t, ile_f, ieq_t, ieq_f, wr_i, wr_u, fd2, gI, gD, cond_true, cond_false, Option.bind_some, List.length_set, joinO_inl, Int.toNat_natCast, List.length_replicate]
  exact ⟨_, rfl, rfl⟩
 by_cases h2 : 8 < w
 ·simp (disch := first | omega | (simp only [List.length_set]; omega)) only [ilt_t, ilt_f, ile_t, ile_f, ieq_t, ieq_f, wr_i, wr_u, fd2, gI, gD, cond_true, cond_false, Option.bind_some, List.length_set, joinO_inl, Int.toNat_natCast, List.length_replicate]
  exact ⟨_, rfl, rfl⟩
 by_cases h3 : (256 : Int) < q.length
 ·simp (disch := first | omega | (simp only [List.length_set]; omega)) only [ilt_t, ilt_f, ile_t, ile_f, ieq_t, ieq_f, wr_i, wr_u, fd2, gI, gD, cond_true, cond_false, Option.bind_some, List.length_set, joinO_inl, Int.toNat_natCast, List.length_replicate]
  exact ⟨_, rfl, rfl⟩
 simp (disch := first | omega | (simp only [List.length_set]; omega)) only [ilt_t, ilt_f, ile_t, ile_f, ieq_t, ieq_f, wr_i, wr_u, fd2, gI, gD, cond_true, cond_false, Option.bind_some, List.length_set, joinO_inl, Int.toNat_natCast, List.length_replicate]
 obtain ⟨r, e2, q2⟩ := loopO_inv (step := rScr_step0 q w) (fun s => ∃ k : Nat, s = ((acts q k, (k : Int), ()), (), ()) ∧ k ≤ q.length ∧ ∀ j, j < k → 0 ≤ q.getD j 0 ∧ q.getD j 0 < w) (fun s => (q.length - s.1.2.1).toNat)
   (fun r => (r = ([], 6, ()) ∧ ∃ j, j < q.length ∧ ¬ (0 ≤ q.getD j 0 ∧ q.getD j 0 < w)) ∨ (Qok q w ∧ r = (acts q q.length, 0, ()))) (by
  rintro _ ⟨k, rfl, hk, hj⟩
  have hal := acts_len q k
  unfold rScr_step0
  by_cases g : k < q.length
  ·by_cases g1 : q.getD k 0 < 0
   ·right
    simp (disch := first | omega | (simp only [List.length_set]; omega)) only [ilt_t, ilt_f, ile_t, ile_f, ieq_t, ieq_f, wr_i, wr_u, fd2, gI, gD, cond_true, cond_false, Option.bind_some, List.length_set, joinO_inl, Int.toNat_natCast, List.length_replicate, List.length_cons, List.length_nil, roomC_t, dApp_d, gB, gBI]
    exact ⟨_, rfl, .inl ⟨rfl, k, g, by omega⟩⟩
   ·by_cases g2 : w ≤ q.getD k 0
    ·right
     simp (disch := first | omega | (simp only [List.length_set]; omega)) only [ilt_t, ilt_f, ile_t, ile_f, ieq_t, ieq_f, wr_i, wr_u, fd2, gI, gD, cond_true, cond_false, Option.bind_some, List.length_set, joinO_inl, Int.toNat_natCast, List.length_replicate, List.length_cons, List.length_nil, roomC_t, dApp_d, gB, gBI]
     exact ⟨_, rfl, .inl ⟨rfl, k, g, by omega⟩⟩
    ·left
     simp (disch := first | omega | (simp only [List.length_set]; omega)) only [ilt_t, ilt_f, ile_t, ile_f, ieq_t, ieq_f, wr_i, wr_u, fd2, gI, gD, cond_true, cond_false, Option.bind_some, List.length_set, joinO_inl, Int.toNat_natCast, List.length_replicate, List.length_cons, List.length_nil, roomC_t, dApp_d, gB, gBI]
     refine ⟨_, rfl, ⟨k + 1, rfl, g, fun j hjk => ?_⟩, by show ((q.length : Int) - (k + 1)).toNat < ((q.length : Int) - k).toNat; omega⟩
     by_cases e : j = k
     ·subst e; omega
     ·exact hj j (by omega)
  ·right
   obtain rfl : k = q.length := by omega
   simp (disch := first | omega | (simp only [List.length_set]; omega)) only [ilt_t, ilt_f, ile_t, ile_f, ieq_t, ieq_f, wr_i, wr_u, fd2, gI, gD, cond_true, cond_false, Option.bind_some, List.length_set, joinO_inl, Int.toNat_natCast, List.length_replicate, List.length_cons, List.length_nil, roomC_t, dApp_d, gB, gBI]
   exact ⟨_, rfl, .inr ⟨hj, rfl⟩⟩) (([], 0, ()), (), ()) ⟨0, rfl, by omega, fun j hj => by omega⟩
 rw [e2]
 rcases valS_q w (show q.length ≤ 512 by omega) with ⟨hvs, hq⟩ | ⟨hvs, j, hj, hn⟩
 ·rw [hvs]
  simp (disch := first | omega | (simp only [List.length_set]; omega)) only [ilt_t, ilt_f, ile_t, ile_f, ieq_t, ieq_f, wr_i, wr_u, fd2, gI, gD, cond_true, cond_false, Option.bind_some, List.length_set, joinO_inl, Int.toNat_natCast, List.length_replicate]
  rcases q2 with ⟨_, j, hj, hn⟩ | ⟨_, rfl⟩
  ·exact absurd (hq j hj) hn
  obtain ⟨r, h1, rfl⟩ := loopO_inv (step := scr_step0 q) (fun s => ∃ k : Nat, s = ((acts q k, (k : Int), ()), (), ()) ∧ k ≤ q.length) (fun s => (q.length - s.1.2.1).toNat) (fun r => r = (acts q q.length, 0, ())) (by
   rintro _ ⟨k, rfl, hk⟩
   have hal := acts_len q k
   unfold scr_step0
   by_cases g : k < q.length
   ·left
    simp (disch := first | omega | (simp only [List.length_set]; omega)) only [ilt_t, ilt_f, ile_t, ile_f, ieq_t, ieq_f, wr_i, wr_u, fd2, gI, gD, cond_true, cond_false, Option.bind_some, List.length_set, joinO_inl, Int.toNat_natCast, List.length_replicate, List.length_cons, List.length_nil, roomC_t, dApp_d, gB, gBI]
    exact ⟨_, rfl, ⟨k + 1, rfl, g⟩, by show ((q.length : Int) - (k + 1)).toNat < ((q.length : Int) - k).toNat; omega⟩
   ·right
    obtain rfl : k = q.length := by omega
    simp (disch := first | omega | (simp only [List.length_set]; omega)) only [ilt_t, ilt_f, ile_t, ile_f, ieq_t, ieq_f, wr_i, wr_u, fd2, gI, gD, cond_true, cond_false, Option.bind_some, List.length_set, joinO_inl, Int.toNat_natCast, List.length_replicate, List.length_cons, List.length_nil, roomC_t, dApp_d, gB, gBI]
    exact ⟨_, rfl, rfl⟩) (([], 0, ()), (), ()) ⟨0, rfl, by omega⟩
  exact ⟨_, h1, rfl⟩
 ·rw [hvs]
  simp (disch := first | omega | (simp only [List.length_set]; omega)) only [ilt_t, ilt_f, ile_t, ile_f, ieq_t, ieq_f, wr_i, wr_u, fd2, gI, gD, cond_true, cond_false, Option.bind_some, List.length_set, joinO_inl, Int.toNat_natCast, List.length_replicate]
  rcases q2 with ⟨rfl, _⟩ | ⟨hq, _⟩
  ·exact ⟨_, rfl, rfl⟩
  ·exact absurd (hq j hj) hn
theorem eqI_self (a : List Int) (hl : a.length ≤ 512) : eqI a a = some true := by
 unfold eqI
 simp (disch := first | omega | (simp only [List.length_set]; omega)) only [ilt_t, ilt_f, ile_t, ile_f, ieq_t, ieq_f, wr_i, wr_u, fd2, gI, gD, cond_true, cond_false, Option.bind_some, List.length_set, joinO_inl, Int.toNat_natCast, List.length_replicate]
 obtain ⟨r, h1, rfl⟩ := loopO_inv (step := eqI_step0 a a) (fun s => ∃ k : Nat, s = (((k : Int), ()), (), ()) ∧ k ≤ a.length) (fun s => (a.length - s.1.1).toNat) (fun r => r = true) (by
  rintro _ ⟨k, rfl, hk⟩
  unfold eqI_step0
  by_cases g : k < a.length
  ·left
   simp (disch := first | omega | (simp only [List.length_set]; omega)) only [ilt_t, ilt_f, ile_t, ile_f, ieq_t, ieq_f, wr_i, wr_u, fd2, gI, gD, cond_true, cond_false, Option.bind_some, List.length_set, joinO_inl, Int.toNat_natCast, List.length_replicate]
   exact ⟨_, rfl, ⟨k + 1, rfl, g⟩, by show ((a.length : Int) - (k + 1)).toNat < ((a.length : Int) - k).toNat; omega⟩
  ·right
   simp (disch := first | omega | (simp only [List.length_set]; omega)) only [ilt_t, ilt_f, ile_t, ile_f, ieq_t, ieq_f, wr_i, wr_u, fd2, gI, gD, cond_true, cond_false, Option.bind_some, List.length_set, joinO_inl, Int.toNat_natCast, List.length_replicate]
   exact ⟨_, rfl, rfl⟩) ((0, ()), (), ()) ⟨0, rfl, by omega⟩
 exact h1
theorem eqA_self (a : List (Int × Int × Int × Int × Unit)) (hl : a.length ≤ 2048) : eqA a a = some true := by
 unfold eqA
 simp (disch := first | omega | (simp only [List.length_set]; omega)) only [ilt_t, ilt_f, ile_t, ile_f, ieq_t, ieq_f, wr_i, wr_u, fd2, gI, gD, cond_true, cond_false, Option.bind_some, List.length_set, joinO_inl, Int.toNat_natCast, List.length_replicate]
 obtain ⟨r, h1, rfl⟩ := loopO_inv (step := eqA_step0 a a) (fun s => ∃ k : Nat, s = (((k : Int), ()), (), ()) ∧ k ≤ a.length) (fun s => (a.length - s.1.1).toNat) (fun r => r = true) (by
  rintro _ ⟨k, rfl, hk⟩
  unfold eqA_step0
  by_cases g : k < a.length
  ·left
   obtain ⟨x, hx⟩ : ∃ x, a[((k : Int)).toNat]? = some x := ⟨_, List.getElem?_eq_getElem (by omega)⟩
   simp only [hx]
   simp (disch := first | omega | (simp only [List.length_set]; omega)) only [ilt_t, ilt_f, ile_t, ile_f, ieq_t, ieq_f, wr_i, wr_u, fd2, gI, gD, cond_true, cond_false, Option.bind_some, List.length_set, joinO_inl, Int.toNat_natCast, List.length_replicate]
   exact ⟨_, rfl, ⟨k + 1, rfl, g⟩, by show ((a.length : Int) - (k + 1)).toNat < ((a.length : Int) - k).toNat; omega⟩
  ·right
   simp (disch := first | omega | (simp only [List.length_set]; omega)) only [ilt_t, ilt_f, ile_t, ile_f, ieq_t, ieq_f, wr_i, wr_u, fd2, gI, gD, cond_true, cond_false, Option.bind_some, List.length_set, joinO_inl, Int.toNat_natCast, List.length_replicate]
   exact ⟨_, rfl, rfl⟩) ((0, ()), (), ()) ⟨0, rfl, by omega⟩
 exact h1
theorem scr_len {q : List Int} {w : Int} {r : List (Int × Int × Int × Int × Unit) × Int × Unit} (hql : q.length ≤ 300) (e : scr q w = some r) : r.1.length ≤ 2048 := by
 unfold scr at e
 by_cases h1 : w < 1
 ·rw [ilt_t h1, cond_true] at e; cases e; simp
 rw [ilt_f (by omega), cond_false] at e
 by_cases h2 : 8 < w
 ·rw [ilt_t h2, cond_true] at e; cases e; simp
 rw [ilt_f (by omega), cond_false] at e
 by_cases h3 : (256 : Int) < q.length
 ·rw [ilt_t h3, cond_true] at e; cases e; simp
 rw [ilt_f (by omega), cond_false] at e
 rcases valS_q w (show q.length ≤ 512 by omega) with ⟨hvs, hq⟩ | ⟨hvs, _⟩
 ·rw [hvs, Option.bind_some, cond_true, cond_false] at e
  obtain ⟨r', h1, rfl⟩ := loopO_inv (step := scr_step0 q) (fun s => ∃ k : Nat, s = ((acts q k, (k : Int), ()), (), ()) ∧ k ≤ q.length) (fun s => (q.length - s.1.2.1).toNat) (fun r => r = (acts q q.length, 0, ())) (by
   rintro _ ⟨k, rfl, hk⟩
   have hal := acts_len q k
   unfold scr_step0
   by_cases g : k < q.length
   ·left
    simp (disch := first | omega | (simp only [List.length_set]; omega)) only [ilt_t, ilt_f, ile_t, ile_f, ieq_t, ieq_f, wr_i, wr_u, fd2, gI, gD, cond_true, cond_false, Option.bind_some, List.length_set, joinO_inl, Int.toNat_natCast, List.length_replicate, List.length_cons, List.length_nil, roomC_t, dApp_d, gB, gBI]
    exact ⟨_, rfl, ⟨k + 1, rfl, g⟩, by show ((q.length : Int) - (k + 1)).toNat < ((q.length : Int) - k).toNat; omega⟩
   ·right
    obtain rfl : k = q.length := by omega
    simp (disch := first | omega | (simp only [List.length_set]; omega)) only [ilt_t, ilt_f, ile_t, ile_f, ieq_t, ieq_f, wr_i, wr_u, fd2, gI, gD, cond_true, cond_false, Option.bind_some, List.length_set, joinO_inl, Int.toNat_natCast, List.length_replicate, List.length_cons, List.length_nil, roomC_t, dApp_d, gB, gBI]
    exact ⟨_, rfl, rfl⟩) (([], 0, ()), (), ()) ⟨0, rfl, by omega⟩
  rw [h1] at e
  cases e
  rw [acts_len]; omega
 ·rw [hvs, Option.bind_some, cond_false, cond_true] at e; cases e; simp
theorem as_eq (l : List Int) (w : Int) (hl : l.length ≤ 300) : ∃ r, asgn l w = some r ∧ rAsg l w = some r ∧ r.1.length ≤ 512 := by
 rcases vErr l w with ⟨e, he, hv, hr⟩ | ⟨hv, hr, hcok⟩
 ·refine ⟨([], e, ()), ?_, ?_, by simp⟩
  ·unfold asgn
   rw [hv]
   simp (disch := first | omega | (simp only [List.length_set]; omega)) only [ilt_t, ilt_f, ile_t, ile_f, ieq_t, ieq_f, wr_i, wr_u, fd2, gI, gD, cond_true, cond_false, Option.bind_some, List.length_set, joinO_inl, Int.toNat_natCast, List.length_replicate]
  ·unfold rAsg
   rw [hr]
   simp (disch := first | omega | (simp only [List.length_set]; omega)) only [ilt_t, ilt_f, ile_t, ile_f, ieq_t, ieq_f, wr_i, wr_u, fd2, gI, gD, cond_true, cond_false, Option.bind_some, List.length_set, joinO_inl, Int.toNat_natCast, List.length_replicate]
 obtain ⟨W, rfl⟩ : ∃ W : Nat, w = W := ⟨w.toNat, by have := hcok.1; omega⟩
 obtain ⟨o, hL, e1⟩ := asgn_q hv hcok
 exact ⟨_, e1, rAsg_q hr hcok hL, by rw [(gr_len l o W l.length).2]; omega⟩
theorem lawS_p (l q : List Int) (w : Int) : lawS l q w = some true := by
 unfold lawS
 by_cases h1 : (300 : Int) < l.length
 ·simp (disch := first | omega | (simp only [List.length_set]; omega)) only [ilt_t, ilt_f, ile_t, ile_f, ieq_t, ieq_f, wr_i, wr_u, fd2, gI, gD, cond_true, cond_false, Option.bind_some, List.length_set, joinO_inl, Int.toNat_natCast, List.length_replicate]
  rfl
 by_cases h2 : (300 : Int) < q.length
 ·simp (disch := first | omega | (simp only [List.length_set]; omega)) only [ilt_t, ilt_f, ile_t, ile_f, ieq_t, ieq_f, wr_i, wr_u, fd2, gI, gD, cond_true, cond_false, Option.bind_some, List.length_set, joinO_inl, Int.toNat_natCast, List.length_replicate]
  rfl
 simp (disch := first | omega | (simp only [List.length_set]; omega)) only [ilt_t, ilt_f, ile_t, ile_f, ieq_t, ieq_f, wr_i, wr_u, fd2, gI, gD, cond_true, cond_false, Option.bind_some, List.length_set, joinO_inl, Int.toNat_natCast, List.length_replicate]
 obtain ⟨r1, a1, b1, n1⟩ := as_eq l w (by omega)
 obtain ⟨r2, a2, b2⟩ := mk_eq l q w (by omega) (by omega)
 obtain ⟨r3, a3, b3⟩ := scr_eq q w (by omega)
 have n3 := scr_len (by omega) a3
 rw [a1, b1, a2, b2, a3, b3]
 simp only [Option.bind_some]
 rw [eqI_self _ n1, eqA_self _ n3]
 simp only [Option.bind_some, cond_true, ieq_d, decide_true]
 rfl
end Go.Proofs.YtfpkonppeefhfaaGreatDoor
