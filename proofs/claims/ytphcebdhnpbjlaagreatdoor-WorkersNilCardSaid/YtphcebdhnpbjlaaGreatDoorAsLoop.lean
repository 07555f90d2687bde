/-
  AS: ranges over functions: a round.
-/
import Derived.Test.YtphcebdhnpbjlaaGreatDoorAsExec
set_option linter.unusedSectionVars false
set_option linter.unusedSimpArgs false
set_option linter.unusedVariables false
namespace Go.As
open Go.RowKit (Below)
variable [Gh]
section
variable {F : Fence} {P : Program} {B : Nat} {X : Cx} {O : Nat → Addr → Prop} {w : World} {h : Heap} {E : Env} {ih : Nat → Nat → Nat → Code → St → Option (Ex × St)}

def Sub (v h : Heap) : Prop := ∀ b k, hget v b = some k → hget h b = some k
theorem HR.view (hr : HR B X O w h) {v : Heap} (hs : Sub v h) (hl : v.length = h.length) : HR B X O w v :=
  ⟨fun b k e => hr.blk b k (hs b k e), hr.own, hr.dis, by rw [hl]; exact hr.lt, hr.ci, hr.wb⟩
theorem BR.known {b : Nat} {k : Blk} {Q : Addr → Prop} (h : BR X w Q b k) : ∃ bi, X.M b = some bi := by
  cases k with
  | cell v => obtain ⟨bi, _, _, h, _⟩ := h; exact ⟨bi, h⟩
  | arr g s ro l => obtain ⟨bi, h, _⟩ := h; exact ⟨bi, h⟩
  | arv g s l => obtain ⟨bi, h, _⟩ := h; exact ⟨bi, h⟩
  | mp es => obtain ⟨bi, _, _, _, h, _⟩ := h; exact ⟨bi, h⟩
  | bld t e s => obtain ⟨bi, _, h, _⟩ := h; exact ⟨bi, h⟩
  | lp f t ps asg body => obtain ⟨bi, _, _, h, _⟩ := h; exact ⟨bi, h⟩

/-- What was hidden from a step is there again behind it. -/
theorem unhide (hr : HR B X O w h) {v v' h' : Heap} {X' : Cx} {O' : Nat → Addr → Prop} {w' : World} (hs : Sub v h) (hl : v.length = h.length) (hl' : h'.length = v'.length) (hr' : HR B X' O' w' v') (st : Step B X O w v X' O' w' v')
    (h1 : ∀ b k, hget h' b = some k → (hget h b = some k ∧ hget v b = none) ∨ hget v' b = some k) (h2 : ∀ b, hget h' b = none → hget h b = none ∧ hget v' b = none) :
    HR B X' O' w' h' ∧ Step B X O w h X' O' w' h' := by
  have hvn : ∀ b, hget h b = none → hget v b = none := fun b e => by
    cases hv : hget v b with
    | none => rfl
    | some k => rw [hs b k hv] at e; cases e
  refine ⟨⟨fun b k e => ?_, hr'.own, hr'.dis, by rw [hl']; exact hr'.lt, hr'.ci, hr'.wb⟩, ⟨by rw [← hl]; exact st.up, by rw [← hl, hl']; exact st.len, ?_⟩⟩
  · rcases h1 b k e with ⟨e1, e2⟩ | e1
    · have hb := hr.blk b k e1
      obtain ⟨bi, hbi⟩ := hb.known
      exact BR.framed st.fr hr'.ci hbi e2 hb (by rw [hl]; exact hr.lt) st.up.le
    · exact hr'.blk b k e1
  · refine ⟨fun b bi e hn => ?_, fun b bi e hn => st.fr.M b bi e (hvn b hn), fun b bi e hn => st.fr.own b bi e (hvn b hn), fun b bi e hn => st.fr.cell b bi e (hvn b hn), fun b bi e hn => st.fr.obj b bi e (hvn b hn), fun b bi e hn => st.fr.blk b bi e (hvn b hn), fun b e => (h2 b e).1, fun b hb e hn => st.fr.unk b (by rw [hl]; exact hb) e (h2 b hn).2⟩
    cases hq : hget h' b with
    | none => rfl
    | some k =>
      rcases h1 b k hq with ⟨e1, _⟩ | e1
      · rw [hn] at e1; cases e1
      · rw [st.fr.hid b bi e (hvn b hn)] at e1; cases e1

theorem DF.nil_of {ds : List Deferred} (d : DF X O w h ds []) : ds = [] := by
  have := d.1
  simpa [All2] using this

/-- An operation that asks for a round. -/
def RoundN (F : Fence) (n : Nat) (P : Program) (B : Nat) (X : Cx) (O : Nat → Addr → Prop) (w : World) (h : Heap) (m : Sem Next) (v : V) (h' : Heap) : Prop :=
  ∃ l f tmps asg body, m.run P w = .ok (.round l f tmps asg body) w ∧ RoundIn F n P l f tmps asg body w fun
    | .returned x, w' => Leaves' B X O w h v h' x w'
    | _, _ => False
theorem RoundN.upon (hF : Fen F) {n : Nat} {o : Oper} {a : Act} {K : Act → World → Prop} {Q : Exit → Act → World → Prop} {m : Sem Next} {v : V} {h' : Heap} (hm : RoundN F (n - 1) P B X O w h m v h')
    (hK : ∀ x w', Leaves' B X O w h v h' x w' → K (a.put o.dst x) w') : o.uponIn F n P a K Q (m.run P w) := by
  obtain ⟨l, f, tmps, asg, body, hr, hc⟩ := hm
  rw [hr]
  exact ⟨hF.room, RoundIn.mono hc fun e w' he => by cases e <;> first | exact hK _ _ he | exact he.elim⟩

/-- What a round does to memory: the loop's record is behind it what it was. -/
theorem Step.round {v v1 v2 : Heap} {X1 X2 : Cx} {O1 O2 : Nat → Addr → Prop} {w1 w2 : World} (hr : HR B X O w v) {b l : Nat} {r rb : Loop} (hO : O b ⟨l, 0, none⟩) (hl : w.heap[l]? = some (.loop r))
    (s1 : Step B X O w v X1 O1 w1 v1) (s2 : Step B X1 O1 (objW w1 l (.loop rb)) v1 X2 O2 w2 v2) : Step B X O w v X2 O2 (objW w2 l (.loop r)) v2 := by
  have hB := (hr.own b _ hO).1
  have l1 := s1.up.obj l _ hl rfl
  have l1' : (objW w1 l (.loop rb)).heap[l]? = some (.loop rb) := objW_same l1
  have l2 := s2.up.obj l _ l1' rfl
  have l3 : (objW w2 l (.loop r)).heap[l]? = some (.loop r) := objW_same l2
  have z1 := s1.up.below.size
  refine ⟨⟨s1.up.le.trans (s2.up.le.less s1.len), s1.up.below.trans ((objW_below w1 _ hB).trans (s2.up.below.trans (objW_below w2 _ hB))), fun a u e hn => ?_, fun q o e lp => ?_⟩, Nat.le_trans s1.len s2.len,
    ⟨fun c ci e hn => s2.fr.hid c ci (s1.fr.M c ci e hn) (s1.fr.hid c ci e hn), fun c ci e hn => s2.fr.M c ci (s1.fr.M c ci e hn) (s1.fr.hid c ci e hn), fun c ci e hn a o => s2.fr.own c ci (s1.fr.M c ci e hn) (s1.fr.hid c ci e hn) a (s1.fr.own c ci e hn a o),
      fun c ci e hn a o u eu => ?_, fun c ci e hn q o ob eo ho => ?_, fun c ci e hn g ho hg => ?_, fun c e => s1.fr.vis c (s2.fr.vis c e), fun c hc e hn => s2.fr.unk c (Nat.lt_of_lt_of_le hc s1.len) (s1.fr.unk c hc e (s2.fr.vis c hn)) hn⟩⟩
  · cases hy : X1.C a with
    | none => exact s2.up.fresh a u e hy
    | some x => exact s1.up.fresh a x hy hn
  · by_cases hq : q = l
    · subst hq; rw [hl] at e; cases e; exact l3
    · have h1 := s1.up.obj q o e lp
      rw [← objW_other w1 (.loop rb) hq] at h1
      have h2 := s2.up.obj q o h1 lp
      rw [objW_other w2 _ hq]; exact h2
  · obtain ⟨p1, q1⟩ := s1.fr.cell c ci e hn a o u eu
    have p1' : (objW w1 l (.loop rb)).cell? a = some u := by rw [objW_cell l1 rfl rfl]; exact p1
    obtain ⟨p2, q2⟩ := s2.fr.cell c ci (s1.fr.M c ci e hn) (s1.fr.hid c ci e hn) a (s1.fr.own c ci e hn a o) u p1'
    rw [objW_cell l2 rfl rfl, objW_frozen l2 rfl rfl]
    rw [objW_frozen l1 rfl rfl] at q2
    exact ⟨p2, q2.trans q1⟩
  · by_cases hq : q = l
    · subst hq; rw [hl] at eo; cases eo; exact l3
    · have h1 := s1.fr.obj c ci e hn q o ob eo ho
      rw [← objW_other w1 (.loop rb) hq] at h1
      have h2 := s2.fr.obj c ci (s1.fr.M c ci e hn) (s1.fr.hid c ci e hn) q (s1.fr.own c ci e hn _ o) ob h1 ho
      rw [objW_other w2 _ hq]; exact h2
  · by_cases hq : g = l
    · subst hq; rw [l3, hl]
    · have h1 := s1.fr.blk c ci e hn g ho hg
      have h2 := s2.fr.blk c ci (s1.fr.M c ci e hn) (s1.fr.hid c ci e hn) g (fun a ea => s1.fr.own c ci e hn a (ho a ea)) (by rw [objW_size]; omega)
      rw [objW_other w2 _ hq, h2, objW_other w1 _ hq, h1]

theorem putPs_nil (xs : List V) (t : Tm) : putPs [] xs t = (match xs with | [] => some t | _ => none) := rfl
theorem putPs_cons (p : Nat) (ps : List Nat) (xs : List V) (t : Tm) : putPs (p :: ps) xs t = (match xs with | [] => none | x :: xs => putPs ps xs (t.set p x)) := rfl
/-- yield's arguments are put in. -/
theorem putPs_sound : ∀ {ps : List Nat} {xs : List V} {t t' : Tm} {tmps : Array Value} {args : List Value}, putPs ps xs t = some t' → All2 (fun v x => VREL X v true [x]) xs args → TR X t tmps → (∀ p ∈ ps, p < tmps.size) →
    args.length = ps.length ∧ TR X t' ((ps.zip args).foldl (fun t (p : Nat × Value) => t.setIfInBounds p.1 p.2) tmps) ∧ ((ps.zip args).foldl (fun t (p : Nat × Value) => t.setIfInBounds p.1 p.2) tmps).size = tmps.size
  | [], xs, t, t', tmps, args, e, ha, ht, _ => by
    rw [putPs_nil] at e
    cases xs with
    | nil => cases e; have : args = [] := by simpa [All2] using ha
             subst this; exact ⟨rfl, ht, rfl⟩
    | cons x xs => cases e
  | p :: ps, xs, t, t', tmps, args, e, ha, ht, hp => by
    rw [putPs_cons] at e
    cases xs with
    | nil => cases e
    | cons x xs =>
      obtain ⟨y, ys, rfl, h1, h2⟩ := ha
      obtain ⟨q1, q2, q3⟩ := putPs_sound (tmps := tmps.setIfInBounds p y) e h2 (ht.set (hp p (by simp)) h1) (fun q hq => by simpa using hp q (by simp [hq]))
      refine ⟨by simp [q1], ?_, ?_⟩
      · simpa using q2
      · simpa using q3

/-- A round. -/
theorem roundV_sound (hih : CodeS F P E ih) (hE : EnvOk F P E) (hF : Fen F) {b : Nat} {xs : List V} {v : V} {h' : Heap} (e : roundV ih b xs h = some (v, h')) (hr : HR B X O w h) {l : Nat} {bi : BI} (hM : X.M b = some bi) (hb : bi.base = some ⟨l, 0, none⟩)
    {args : Array Value} (ha : All2 (fun v x => VREL X v true [x]) xs args.toList) (n : Nat) : RoundN F n P B X O w h (invoke (.fn (.yield l) #[]) args) v h' := by
  unfold roundV at e
  split at e
  · rename_i f t ps asg body hk
    obtain ⟨t0, ht0, e⟩ := Option.bind_eq_some_iff.1 e
    split at e
    · rename_i s1 h1
      split at e
      · rename_i d1
        split at e
        · rename_i s2 h2
          split at e
          · rename_i d2
            cases e
            have hB := hr.blk b _ hk
            obtain ⟨bi', l', r, c1, c2, c3, c4, c5, c6, c7⟩ := hB
            rw [hM] at c1; cases c1
            rw [hb] at c4; cases c4
            obtain ⟨g1, g2⟩ := (hE.gh _ _ _).1 c7.k1
            obtain ⟨g3, g4⟩ := (hE.gh _ _ _).1 c7.k2
            obtain ⟨z1, z2, z3⟩ := putPs_sound (args := args.toList) ht0 ha c7.qt c7.qlt
            have hsz : args.size = r.params.size := by
              have := congrArg List.length c7.qps
              simp at this; simp at z1; omega
            have hfold : ((r.params.zip args).foldl (fun tmps (t, a) => tmps.setIfInBounds t a) r.tmps) = ((ps.zip args.toList).foldl (fun t (p : Nat × Value) => t.setIfInBounds p.1 p.2) r.tmps) := by
              rw [← Array.foldl_toList, Array.toList_zip, c7.qps]
            have hy : (invoke (.fn (.yield l) #[]) args).run P w = .ok (.round l r.fn ((r.params.zip args).foldl (fun tmps (t, a) => tmps.setIfInBounds t a) r.tmps) r.assign r.body) w := by
              show (Instr.yield l args).run P w = _
              exact run_yield c5 hsz
            rw [hfold] at hy
            generalize hT : ((ps.zip args.toList).foldl (fun t (p : Nat × Value) => t.setIfInBounds p.1 p.2) r.tmps) = tm0 at hy z2 z3
            refine ⟨l, r.fn, _, _, _, hy, ?_⟩
            refine roundIn_of_wpIn (hF.fn _) ?_
            rw [c7.qasg, c7.qbody]
            -- the loop is out of sight while the round runs
            have hbl := hget_lt hk
            have hsub : ∀ c k, hget (lset h b none) c = some k → hget h c = some k ∧ c ≠ b := fun c k hc => by
              rw [lset_eq, hget_eq, List.getElem?_set] at hc
              by_cases hcb : b = c
              · subst hcb; simp at hc; split at hc <;> simp at hc
              · rw [if_neg hcb] at hc; exact ⟨by rw [hget_eq]; exact hc, Ne.symm hcb⟩
            have hhid : hget (lset h b none) b = none := by
              cases hc : hget (lset h b none) b with
              | none => rfl
              | some k => exact absurd rfl (hsub b k hc).2
            have hnone : ∀ c, hget (lset h b none) c = none → c = b ∨ hget h c = none := fun c hc => by
              by_cases hcb : c = b
              · exact .inl hcb
              · right
                rw [lset_eq, hget_eq, List.getElem?_set, if_neg (Ne.symm hcb)] at hc
                rw [hget_eq]; exact hc
            have hlen : (lset h b none).length = h.length := by rw [lset_eq, List.length_set]
            have hv : HR B X O w (lset h b none) := ⟨fun c k hc => hr.blk c k (hsub c k hc).1, hr.own, hr.dis, by rw [hlen]; exact hr.lt, hr.ci, hr.wb⟩
            have sr0 : SR r.tmps.size B X O w { tmps := tm0, defers := [] } ⟨t0, lset h b none, [], []⟩ := ⟨z2, z3, hv, ⟨All2.nil, List.Pairwise.nil⟩, rfl⟩
            refine wpIn_mono (hih f 1 0 asg _ _ h1 _ g1 n B X O w _ sr0 (some l) ⟨by decide, g2, r, c5⟩) fun e1 a1 w1 ⟨hex, X1, O1, s1r, p1⟩ => ?_
            cases e1 <;> simp only [ExR] at hex
            have l1 := p1.up.obj l _ c5 rfl
            refine ⟨_, run_beginRound l1 c7.qst, ?_⟩
            have hd1 : a1.defers = [] := DF.nil_of (by have := s1r.df; rw [d1] at this; exact this)
            have hM1 := p1.fr.M b _ hM hhid
            have hO1 := p1.fr.own b _ hM hhid _ c6
            have hh1 := p1.fr.hid b _ hM hhid
            have hno1 : ∀ c k, hget s1.h c = some k → ¬ O1 c ⟨l, 0, none⟩ := fun c k hc o => by
              have := s1r.h.dis c b _ o hO1
              subst this; rw [hh1] at hc; cases hc
            have hr1 : HR B X1 O1 (objW w1 l (.loop { r with state := .busy })) s1.h := s1r.h.obj l1 rfl rfl hno1
            have sr1 : SR r.tmps.size B X1 O1 (objW w1 l (.loop { r with state := .busy })) a1 ⟨s1.t, s1.h, [], []⟩ := ⟨s1r.t, s1r.n, hr1, by rw [hd1]; exact ⟨All2.nil, List.Pairwise.nil⟩, rfl⟩
            have l1' : (objW w1 l (.loop { r with state := .busy })).heap[l]? = some (.loop { r with state := .busy }) := objW_same l1
            refine wpIn_mono (hih f 1 0 body _ _ h2 _ g3 n B X1 O1 _ _ sr1 (some l) ⟨by decide, g4, _, l1'⟩) fun e2 a2 w2 ⟨hex2, X2, O2, s2r, p2⟩ => ?_
            cases e2 <;> simp only [ExR] at hex2
            have l2 := p2.up.obj l _ l1' rfl
            have hend := run_endRound (P := P) none l2
            have hback : ({ ({ r with state := .busy } : Loop) with state := if (none : Option Code).isNone then .ready else .done, pending := none } : Loop) = r := by
              have q1 := c7.qst; have q2 := c7.qpend
              cases r; simp_all
            rw [hback] at hend
            refine ⟨_, _, hend, ?_⟩
            have hM2 := p2.fr.M b _ hM1 hh1
            have hO2 := p2.fr.own b _ hM1 hh1 _ hO1
            have hh2 := p2.fr.hid b _ hM1 hh1
            have hno2 : ∀ c k, hget s2.h c = some k → ¬ O2 c ⟨l, 0, none⟩ := fun c k hc o => by
              have := s2r.h.dis c b _ o hO2
              subst this; rw [hh2] at hc; cases hc
            have hr2 : HR B X2 O2 (objW w2 l (.loop r)) s2.h := s2r.h.obj l2 rfl rfl hno2
            have hst : Step B X O w (lset h b none) X2 O2 (objW w2 l (.loop r)) s2.h := Step.round hv c6 c5 p1 p2
            have hle2 : b ≤ s2.h.length := by have := hst.len; rw [hlen] at this; omega
            have hlt2 : b < s2.h.length := by have := hst.len; rw [hlen] at this; omega
            obtain ⟨u1, u2⟩ := unhide (h' := hput s2.h b (.lp f t ps asg body)) hr (fun c k hc => (hsub c k hc).1) hlen (by rw [hput_len, if_pos hlt2]) hr2 hst (fun c k hc => by
              rw [hget_hput s2.h b c _ hle2] at hc
              by_cases hcb : c = b
              · rw [if_pos hcb] at hc; cases hc
                subst hcb; exact .inl ⟨hk, hhid⟩
              · rw [if_neg hcb] at hc; exact .inr hc) (fun c hc => by
              rw [hget_hput s2.h b c _ hle2] at hc
              by_cases hcb : c = b
              · rw [if_pos hcb] at hc; cases hc
              · rw [if_neg hcb] at hc
                exact ⟨(hnone c (hst.fr.vis c hc)).resolve_left hcb, hc⟩)
            exact ⟨X2, O2, u1, by simp [VREL, REL], u2⟩
          · cases e
        · cases e
      · cases e
    · cases e
  · cases e
end
end Go.As
