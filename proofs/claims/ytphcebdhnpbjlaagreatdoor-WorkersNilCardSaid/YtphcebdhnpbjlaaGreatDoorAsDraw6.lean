/-
  AS: regions that draw: every order comes to the same end.
-/
import Derived.Test.YtphcebdhnpbjlaaGreatDoorAsDraw5
set_option linter.unusedSectionVars false
set_option linter.unusedSimpArgs false
set_option linter.unusedVariables false
namespace Go.As
open Go.RowKit (Below)
variable [Gh]
section
variable {F : Fence} {P : Program} {B : Nat} {X : Cx} {O : Nat → Addr → Prop} {w : World} {E : Env} {ih : Nat → Nat → Nat → Code → St → Option (Ex × St)}
  {keep : Bool} {ops : Array Oper} {ds : List (Nat × List Nat)} {bf : Nat → Nat} {k : Nat}

theorem runL_cons (j : Nat) (l : List Nat) (st : St) {n : Nat} : runL E ih keep ops ds k n (j :: l) st = (opAt E ih keep ops ds k n j st).bind (runL E ih keep ops ds k n l) := rfl
theorem opAt_some {n j : Nat} {st st' : St} (e : opAt E ih keep ops ds k n j st = some st') : ∃ o d, ops.toList[j]? = some o ∧ ds[j]? = some d ∧ opD E ih keep ops k n (nwAt E ops j) d.1 d.2 o st = some st' := by
  unfold opAt at e
  split at e
  · rename_i o d ho hd
    exact ⟨o, d, ho, hd, e⟩
  · cases e
theorem opAt_of {n j : Nat} {st st' : St} {o : Oper} {d : Nat × List Nat} (ho : ops.toList[j]? = some o) (hd : ds[j]? = some d) (e : opD E ih keep ops k n (nwAt E ops j) d.1 d.2 o st = some st') : opAt E ih keep ops ds k n j st = some st' := by
  unfold opAt
  rw [ho, hd]; exact e

/-- What none of those before it need come first may come first. -/
theorem bubble (hd : DrOk E ops ds bf) {q : Nat} {oq : Oper} {dq : Nat × List Nat} (hq : ops.toList[q]? = some oq) (hdq : ds[q]? = some dq) : ∀ (l1 : List Nat), (∀ p ∈ l1, p < q ∧ Nat.testBit (bf q) p = false) → ∀ (l2 : List Nat) (st st' : St),
    (dq.1 = 0 ∨ k + news E ops.toList ≤ st.h.length) → runL E ih keep ops ds k (news E ops.toList) (l1 ++ q :: l2) st = some st' →
    ∃ mid, opAt E ih keep ops ds k (news E ops.toList) q st = some mid ∧ runL E ih keep ops ds k (news E ops.toList) (l1 ++ l2) mid = some st'
  | [], _, l2, st, st', _, e => by
    rw [List.nil_append, runL_cons, Option.bind_eq_some_iff] at e
    exact e
  | p :: l1, hl, l2, st, st', hlen, e => by
    rw [List.cons_append, runL_cons, Option.bind_eq_some_iff] at e
    obtain ⟨s1, e1, e2⟩ := e
    obtain ⟨op, dp, hp, hdp, e1'⟩ := opAt_some e1
    obtain ⟨hpq, hbit⟩ := hl p (by simp)
    have hap := (hd.all q p oq op dq dp hpq hq hp hdq hdp).resolve_left (by rw [hbit]; simp)
    obtain ⟨_, hC⟩ := apartC_split hap
    have hlen1 : dq.1 = 0 ∨ k + news E ops.toList ≤ s1.h.length := by
      by_cases h0 : dq.1 = 0
      · exact .inl h0
      · refine .inr ?_
        have hk := hlen.resolve_left h0
        obtain ⟨t, h, lp, df⟩ := st
        rw [opD_eq, Option.map_eq_some_iff] at e1'
        obtain ⟨⟨v, g1, l1', d1⟩, e1', rfl⟩ := e1'
        refine opX_len ?_ (fun hn => nwAt_all hp hn) hk e1'
        rcases hC with h | h | h | h | h | h
        · exact .inl h
        · exact absurd h h0
        · rcases h with h | h | h | h | h | h | h | h <;> omega
        · omega
        · omega
        · omega
    obtain ⟨s2, f1, f2⟩ := bubble hd hq hdq l1 (fun p hp => hl p (by simp [hp])) l2 s1 st' hlen1 e2
    obtain ⟨oq', dq', hq', hdq', f1'⟩ := opAt_some f1
    rw [hq] at hq'; cases hq'
    rw [hdq] at hdq'; cases hdq'
    obtain ⟨s', g1, g2⟩ := opD_swap hap (hlen.elim (fun h => .inr (.inl h)) fun h => .inr (.inr h)) (fun hn => ⟨nwAt_all hp hn, by have := nwAt_lt (E := E) hp hn hpq; omega⟩) (fun hn => nwAt_all hq hn) e1' f1'
    refine ⟨s', opAt_of hq hdq g1, ?_⟩
    rw [List.cons_append, runL_cons, opAt_of hp hdp g2]
    exact f2

/-- From any order to the end that the text's order comes to. -/
theorem any_sound (hih : CodeS F P E ih) (hE : EnvOk F P E) (hF : Fen F) (hd : DrOk E ops ds bf) {q nt : Nat} (hops : ∀ o ∈ ops.toList, opOk nt o = true) {st' : St} {X0 : Cx} {O0 : Nat → Addr → Prop} {w0 : World} {h0 : Heap}
    {Q : Exit → Act → World → Prop} (hQ : ∀ X' O' w' a', SR nt B X' O' w' a' st' → Step B X0 O0 w0 h0 X' O' w' st'.h → Q .normal a' w') :
    ∀ (fuel : Nat) (R : List Nat) (listed : Array Bool) (st : St) (X : Cx) (O : Nat → Addr → Prop) (w : World) (a : Act), R.length ≤ fuel → R.Pairwise (· < ·) → listed.size = ops.size →
      (∀ j, listed.getD j true = false ↔ j ∈ R) → (∀ j, j ∉ R → j < ops.size → ∀ b, Nat.testBit (bf j) b = true → b ∉ R) →
      runL E ih keep ops ds k (news E ops.toList) R st = some st' → SR nt B X O w a st → PS X k (news E ops.toList) st.h → k + news E ops.toList ≤ st.h.length → Step B X0 O0 w0 h0 X O w st.h →
      wpAnyIn F q P .any ops Q fuel listed a w := by
  intro fuel
  have ready : ∀ (R : List Nat) (listed : Array Bool), R.Pairwise (· < ·) → listed.size = ops.size → (∀ j, listed.getD j true = false ↔ j ∈ R) → Region.ready .any ops listed = [] → R = [] := by
    intro R listed hR hsz hli hr
    cases R with
    | nil => rfl
    | cons j R =>
      exfalso
      have hj : j ∈ Region.ready .any ops listed := by
        rw [mem_ready]
        have hjl := (hli j).2 (by simp)
        refine ⟨hjl, ?_⟩
        have hjs : j < ops.size := by
          rcases Nat.lt_or_ge j ops.size with h | h
          · exact h
          · rw [Array.getD_eq_getD_getElem?, Array.getElem?_eq_none (by omega)] at hjl; cases hjl
        refine ⟨ops[j], by simp [hjs], fun e he hb => ?_⟩
        obtain ⟨d, _, h1⟩ := hd.one j ops[j] (by simp [hjs])
        unfold okOne at h1
        rw [Bool.and_eq_true] at h1
        have h2 := List.all_eq_true.1 h1.1 e (by simpa using he)
        rw [hb] at h2
        have h2 : e.on < j := by simpa [Nat.blt_eq] using h2
        cases hg : listed.getD e.on true with
        | false =>
          have := (hli e.on).1 hg
          rcases List.mem_cons.1 this with h | h
          · omega
          · have := (List.pairwise_cons.1 hR).1 _ h; omega
        | true =>
          rw [Array.getD_eq_getD_getElem?, Array.getElem?_eq_getElem (by omega)] at hg ⊢
          exact hg
      rw [hr] at hj; cases hj
  induction fuel with
  | zero =>
    intro R listed st X O w a hl hR hsz hli hbf e s hps hkn hst
    obtain rfl : R = [] := List.length_eq_zero_iff.1 (by omega)
    cases e
    refine ⟨?_, hQ X O w a s hst⟩
    cases hr : Region.ready .any ops listed with
    | nil => rfl
    | cons j l =>
      have : j ∈ Region.ready .any ops listed := by rw [hr]; simp
      rw [mem_ready] at this
      exact absurd ((hli j).1 this.1) (by simp)
  | succ fuel ihf =>
    intro R listed st X O w a hl hR hsz hli hbf e s hps hkn hst
    refine ⟨fun hr => ?_, fun q' hq' => ?_⟩
    · obtain rfl := ready R listed hR hsz hli hr
      cases e
      exact hQ X O w a s hst
    · rw [mem_ready] at hq'
      obtain ⟨hlq, oq, hoq, hafter⟩ := hq'
      have hqR := (hli q').1 hlq
      obtain ⟨l1, l2, rfl⟩ := List.append_of_mem hqR
      have hoq' : ops.toList[q']? = some oq := by simpa using hoq
      have hqs : q' < ops.size := (Array.getElem?_eq_some_iff.1 hoq).1
      obtain ⟨dq, hdq, hone⟩ := hd.one q' oq hoq'
      -- what has to come first has come
      have hclosed : ∀ b, Nat.testBit (bf q') b = true → b ∉ l1 ++ q' :: l2 := fun b hb hbR => by
        obtain ⟨e', he, hbi, hb⟩ := hd.bit q' oq b hoq' hb
        have hon := hafter e' he hbi
        have hnR : e'.on ∉ l1 ++ q' :: l2 := fun h => by
          have := (hli e'.on).2 h
          rw [Array.getD_eq_getD_getElem?] at hon this
          cases hx : listed[e'.on]? with
          | none => rw [hx] at hon; cases hon
          | some x => rw [hx] at hon this; simp only [Option.getD_some] at hon this; rw [hon] at this; cases this
        rcases hb with rfl | hb
        · exact hnR hbR
        · refine hbf e'.on hnR ?_ b hb hbR
          rcases Nat.lt_or_ge e'.on ops.size with h | h
          · exact h
          · rw [Array.getD_eq_getD_getElem?, Array.getElem?_eq_none (by omega)] at hon; cases hon
      have hsplit := List.pairwise_append.1 hR
      obtain ⟨mid, e1, e2⟩ := bubble hd hoq' hdq l1 (fun p hp => ⟨hsplit.2.2 p hp q' (by simp), by
        cases hx : Nat.testBit (bf q') p with
        | false => rfl
        | true => exact absurd (by simp [hp]) (hclosed p hx)⟩) l2 st st' (.inr hkn) e
      obtain ⟨oq2, dq2, h1, h2, e1'⟩ := opAt_some e1
      rw [hoq'] at h1; cases h1
      rw [hdq] at h2; cases h2
      have hone' : (dq.1 = 0 → isPure oq.op = true) ∧ (dq.1 = 2 → isSimple oq.op = true) := by
        unfold okOne at hone
        rw [Bool.and_eq_true] at hone
        refine ⟨fun h => ?_, fun h => ?_⟩
        · have := hone.2; rw [h] at this; exact this
        · have := hone.2; rw [h] at this; exact this
      unfold wpOpIn
      rw [hoq]
      simp only
      refine opD_sound hih hE hF e1' s (hops oq (List.mem_of_getElem? hoq')) hone'.1 hone'.2 hps (fun hn => nwAt_all hoq' hn) hkn fun X' O' w' a' s' hs => ?_
      have hnq : ∀ x ∈ l1 ++ l2, x ≠ q' := fun x hx he => by
        subst he
        rcases List.mem_append.1 hx with hx | hx
        · exact Nat.lt_irrefl _ (hsplit.2.2 _ hx _ (by simp))
        · exact Nat.lt_irrefl _ ((List.pairwise_cons.1 hsplit.2.1).1 _ hx)
      have hmem : ∀ x, x ∈ l1 ++ q' :: l2 ↔ x = q' ∨ x ∈ l1 ++ l2 := fun x => by simp only [List.mem_append, List.mem_cons]; constructor <;> (intro h; rcases h with h | h | h <;> simp [h])
      refine ihf (l1 ++ l2) _ mid X' O' w' a' (by simp only [List.length_append, List.length_cons] at hl ⊢; omega) ?_ (by simp [hsz]) (fun j => ?_) (fun j hj hjs b hb hbR => ?_) e2 s' (hps.step hkn hs) (Nat.le_trans hkn hs.len) (hst.trans hs)
      · exact hR.sublist ((List.Sublist.refl l1).append (List.sublist_cons_self q' l2))
      · by_cases hjq : q' = j
        · subst hjq
          constructor
          · intro h
            exfalso
            rw [Array.getD_eq_getD_getElem?, Array.getElem?_setIfInBounds_self_of_lt (by omega)] at h; cases h
          · intro h; exact absurd rfl (hnq _ h)
        · rw [getD_set_ne true hjq, hli j, hmem]
          constructor
          · intro h; exact h.resolve_left (fun e => hjq e.symm)
          · exact .inr
      · by_cases hjq : j = q'
        · subst hjq
          exact hclosed b hb ((hmem b).2 (.inr hbR))
        · exact hbf j (fun h => ((hmem j).1 h).elim hjq hj) hjs b hb ((hmem b).2 (.inr hbR))
end
end Go.As
