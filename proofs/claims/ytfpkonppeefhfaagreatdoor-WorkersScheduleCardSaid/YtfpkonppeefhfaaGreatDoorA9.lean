/-
  AS: the typed evaluator's control.
-/
import Derived.Test.YtfpkonppeefhfaaGreatDoorA8
set_option linter.unusedSectionVars false
set_option linter.unusedSimpArgs false
set_option linter.unusedVariables false
namespace Go.As
variable [Gh]
variable {ρ : Type} {wb : Nat → Bool} {M : Mu} {ch : CH} {h : Heap} {k : KC ρ} {r : ρ} {E : Env}
theorem opt_rel {tc : TC} {t : Tm} (ht : TR2 M tc t) (o : Option Operand) : (∀ v, o.map (vC tc) = some v → ∃ u, o.map (ev t) = some u ∧ VR M v u) ∧ (o.map (vC tc) = none → o.map (ev t) = none) := by
 cases o with
 | none => exact ⟨fun v e => (by cases e), fun _ => rfl⟩
 | some x => exact ⟨fun v e => (by cases e; exact ⟨_, rfl, vC_rel ht x⟩), fun e => (by cases e)⟩
theorem step_s {tc : TC} {t : Tm} (hs : HS M ch h) (ht : TR2 M tc t) {keep : Bool} {op : Op} (e : stepC E wb keep tc op ch k = some r) : OS wb M ch h (stepOp E keep h.length t h op) k r := by
 have hv := fun o => vC_rel ht o
 cases op with
 | move x => exact OS.plain hs (hv x) e
 | assign x => exact OS.plain hs (hv x) e
 | pick c a b => exact pick_s hs (hv c) (hv a) (hv b) e
 | alloc ty => exact alloc_s hs e
 | box ty x => exact box_s hs (hv x) e
 | build ty ps =>
  obtain ⟨l, hl, h1, h2⟩ := evPC_rel ht ps
  show OS wb M ch h (sBuild E h ty (evP (ev t) ps)) k r
  rw [hl]; exact build_s hs h1 h2 e
 | buildSlice ty n ps =>
  obtain ⟨l, hl, h1, h2⟩ := evPC_rel ht ps
  show OS wb M ch h (sBuildSlice E keep h.length h ty n (evP (ev t) ps)) k r
  rw [hl]; exact buildSlice_s hs h1 h2 e
 | load ty a => exact load_s hs (hv a) e
 | store ty a x => exact store_s hs (hv a) (hv x) e
 | nilCheck x => exact nilCheck_s hs (hv x) e
 | binOp op ty x y yt => exact bin_s hs (hv x) (hv y) e
 | unOp op ty x => exact un_s hs (hv x) e
 | convert s d x => exact conv_s hs (hv x) e
 | makeFunc f a c => cases f with
  | func g => exact OS.plain (cv := .fn g (vCs tc a) (vCs tc c)) hs (by simp only [VR]; exact ⟨_, _, rfl, vCs_rel ht a, vCs_rel ht c⟩) e
  | _ => cases e
 | makeSlice ty l c => exact makeSlice_s hs (hv l) (hv c) e
 | slice ty x lo hi mx => exact slice_s hs (hv x) (opt_rel ht lo).1 (opt_rel ht lo).2 (opt_rel ht hi).1 (opt_rel ht hi).2 (opt_rel ht mx).1 (opt_rel ht mx).2 e
 | fieldAddr ty x j => exact fieldAddr_s hs (hv x) e
 | field ty x j => exact field_s hs (hv x) e
 | indexAddr ty x i => exact indexAddr_s hs (hv x) (hv i) e
 | index ty x i => exact index_s hs (hv x) (hv i) e
 | extract x i => exact extract_s hs (hv x) e
 | call c =>
  have e : (match c.callee with
   | .builtin b => builtinC E wb b c.argTypes (vCs tc c.args) ch k
   | _ => none) = some r := e
  split at e
  ·rename_i b hb
   have ha := vCs_rel ht c.args
   have : stepOp E keep h.length t h (.call c) = builtinV E h.length b c.argTypes (evs t c.args) h := by
    show (match c.callee with | .builtin b => builtinV E h.length b c.argTypes (evs t c.args) h | _ => none) = _
    rw [hb]
   rw [this]
   generalize vCs tc c.args = xs at e ha
   generalize evs t c.args = us at ha
   unfold builtinC at e
   split at e
   ·split at e
    ·rename_i x
     replace e := Option.bind_eq_some_iff.1 e; obtain ⟨ty, hty, e⟩ := e
     simp only [VRs] at ha
     obtain ⟨u, r', rfl, q1, rfl⟩ := ha
     show OS wb M ch h ((lget c.argTypes.toList 0).bind fun t => bLen E t h u) k r
     rw [hty, Option.bind_some]
     exact len_s hs q1 e
    ·cases e
   ·split at e
    ·rename_i s x
     simp only [VRs] at ha
     obtain ⟨u, r', rfl, q1, u2, r2, rfl, q2, rfl⟩ := ha
     exact append_s hs q1 q2 e
    ·cases e
   ·split at e
    ·rename_i j a l
     simp only [VRs] at ha
     obtain ⟨u, r', rfl, q1, q2⟩ := ha
     have := q1.int; subst this
     exact min_s hs q2 e
    ·cases e
   ·split at e
    ·rename_i j a l
     simp only [VRs] at ha
     obtain ⟨u, r', rfl, q1, q2⟩ := ha
     have := q1.int; subst this
     exact max_s hs q2 e
    ·cases e
   ·cases e
  ·cases e
 | _ => cases e
theorem putArgs_rel : ∀ {l : List CV} {us : List V}, VRs M l us → ∀ {tc : TC} {t : Tm} (i : Nat), TR2 M tc t → TR2 M (putArgsC l i tc) (putArgs us i t)
 | [], us, h, tc, t, i, ht => by simp only [VRs] at h; subst h; exact ht
 | v :: l, us, h, tc, t, i, ht => by
  simp only [VRs] at h
  obtain ⟨u, r, rfl, h1, h2⟩ := h
  exact putArgs_rel h2 (i + 1) (ht.set h1 i)
theorem tcOf_rel {l : List CV} {us : List V} (h : VRs M l us) (n : Nat) : TR2 M (tcOf n l) (tmOf n us) := putArgs_rel h 0 (TR2.mk M _)
theorem result_rel {tc : TC} {t : Tm} (hs : HS M ch h) (ht : TR2 M tc t) {rv : ResultVar} {v : CV} (e : resultC E tc ch rv = some v) : ∃ u, resultV E h t rv = some u ∧ VR M v u := by
 cases rv with
 | tmp n => cases e; exact ⟨_, rfl, ht.get n⟩
 | cell a ty =>
  have ha := ht.get a
  have e : (match tc.get a, E.ty ty with
   | .ptr b p, some ti => (match hgetC ch b with
    | some (.cell v) => (v.nav p).bind fun v => bif okC ti v then some v else none
    | _ => none)
   | _, _ => none) = some v := e
  split at e
  ·rename_i b p ti hp hty
   rw [hp] at ha
   simp only [VR] at ha
   obtain ⟨c, hc, hu⟩ := ha
   split at e
   ·rename_i w hb
    replace e := Option.bind_eq_some_iff.1 e; obtain ⟨y, hy, e⟩ := e
    cases ho : okC ti y with
    | false => rw [ho, cond_false] at e; cases e
    | true =>
     rw [ho, cond_true] at e
     cases e
     obtain ⟨c', w', q1, q2, q3⟩ := hs.cell b w hb
     rw [hc] at q1
     cases q1
     obtain ⟨z, r1, r2⟩ := q3.nav' hy
     refine ⟨z, ?_, r2⟩
     show (match t.get a, E.ty ty with
      | .ptr b g p, some ti => (loadV h b g p).bind fun v => bif okV ti v then some v else none
      | _, _ => none) = _
     rw [hu, hty]
     show ((loadV h c 0 p).bind fun v => bif okV ti v then some v else none) = _
     unfold loadV
     rw [q2]
     show ((w'.nav p).bind fun v => bif okV ti v then some v else none) = _
     rw [r1, Option.bind_some, (okC_rel r2 ho).1, cond_true]
   ·cases e
  ·cases e
theorem results_rel {tc : TC} {t : Tm} (hs : HS M ch h) (ht : TR2 M tc t) {fn : Func} {v : CV} (e : resultsC E fn tc ch = some v) : ∃ u, resultsV E h fn t = some u ∧ VR M v u := by
 have key : ∀ (l : List ResultVar) {vs : List CV}, resultsLC E tc ch l = some vs → ∃ us, resultsL E h t l = some us ∧ VRs M vs us := by
  intro l
  induction l with
  | nil => intro vs e; cases e; exact ⟨[], rfl, rfl⟩
  | cons rv l ih =>
   intro vs e
   have e : (resultC E tc ch rv).bind (fun v => (resultsLC E tc ch l).map (v :: ·)) = some vs := e
   replace e := Option.bind_eq_some_iff.1 e; obtain ⟨y, hy, e⟩ := e
   obtain ⟨ys, hys, rfl⟩ := Option.map_eq_some_iff.1 e
   obtain ⟨u, q1, q2⟩ := result_rel hs ht hy
   obtain ⟨us, q3, q4⟩ := ih hys
   refine ⟨u :: us, ?_, u, us, rfl, q2, q4⟩
   show (resultV E h t rv).bind (fun v => (resultsL E h t l).map (v :: ·)) = _
   rw [q1, Option.bind_some, q3]; rfl
 unfold resultsC at e
 obtain ⟨vs, h1, h2⟩ := Option.map_eq_some_iff.1 e
 obtain ⟨us, q1, q2⟩ := key _ h1
 unfold resultsV
 rw [q1, Option.map_some]
 subst h2
 cases vs with
 | nil =>
  simp only [VRs] at q2
  subst q2
  exact ⟨_, rfl, VR.mkU rfl⟩
 | cons v l =>
  simp only [VRs] at q2
  obtain ⟨u, us', rfl, q2, q3⟩ := q2
  cases l with
  | nil =>
   simp only [VRs] at q3
   subst q3
   exact ⟨u, rfl, q2⟩
  | cons w l =>
   have q4 := q3
   simp only [VRs] at q3
   obtain ⟨u2, us2, rfl, q5, q6⟩ := q3
   exact ⟨_, rfl, VR.mkU (show VRs M (v :: w :: l) (u :: u2 :: us2) from ⟨u, _, rfl, q2, q4⟩)⟩
def PSy {ρ : Type} (wb : Nat → Bool) (M : Mu) (tc : TC) (ch : CH) (h : Heap) (ws : List Nat) (m : Option (Ex × St)) (k : KX ρ) (r : ρ) : Prop :=
 ∃ ex tc' ch' M' t' h', m = some (ex, ⟨t', h', [], []⟩) ∧ HS M' ch' h' ∧ TR2 M' tc' t' ∧ Fr wb M ch h M' ch' h' ∧ (∀ i, hasN ws i = false → tc'.get i = tc.get i) ∧ k ex tc' ch' = some r
def Good (C : CE) (ih : (ρ : Type) → Nat → Code → (Nat → Bool) → TC → CH → KX ρ → Option ρ) : Prop :=
 ∀ (ρ : Type) (f : Nat) (c : Code) (wb : Nat → Bool) (tc : TC) (ch : CH) (k : KX ρ) (r : ρ), ih ρ f c wb tc ch k = some r → ∀ (M : Mu) (t : Tm) (h : Heap) (cur : Nat), HS M ch h → TR2 M tc t →
  PSy wb M tc ch h (writes c) (X C.E f 0 cur c ⟨t, h, [], []⟩) k r
structure CEOk (C : CE) : Prop where
 sp : ∀ g s, C.sp g = some s → ∀ x y, s.f x = some y → dataC C.E (X C.E) g (s.a.encL x) = some (s.r.enc y)
 spm : ∀ g s, C.spm g = some s → SpecMOk C.E g s
def CSd {ρ : Type} (wb : Nat → Bool) (M : Mu) (ch : CH) (h : Heap) (m : RC) (k : KC ρ) (r : ρ) : Prop :=
 ∃ v h' cv ch' M', m = some (v, h', []) ∧ VR M' cv v ∧ HS M' ch' h' ∧ Fr wb M ch h M' ch' h' ∧ k cv ch' = some r
section
variable {C : CE} {ih : (ρ : Type) → Nat → Code → (Nat → Bool) → TC → CH → KX ρ → Option ρ}
theorem CSd.of {m : R} (s : OS wb M ch h m k r) : CSd wb M ch h (lift [] m) k r := by
 obtain ⟨v, h', cv, ch', M', rfl, q⟩ := s
 exact ⟨v, h', cv, ch', M', rfl, q⟩
theorem inline_s (hih : Good C ih) (hs : HS M ch h) {g : Nat} {args : List CV} {us : List V} (ha : VRs M args us) (e : inlineC C ih g args wb ch k = some r) : CSd wb M ch h (inlineV C.E (X C.E) g us h []) k r := by
 unfold inlineC at e
 replace e := Option.bind_eq_some_iff.1 e; obtain ⟨fn, hfn, e⟩ := e
 replace e := Option.bind_eq_some_iff.1 e; obtain ⟨c, hc, e⟩ := e
 cases hb : Nat.ble (llen args) fn.ntmps with
 | false => rw [hb, cond_false] at e; cases e
 | true =>
  rw [hb, cond_true] at e
  obtain ⟨ex, tc', ch', M', t', h', h1, h2, h3, h4, _, h5⟩ := hih _ _ _ _ _ _ _ _ e M (tmOf fn.ntmps us) h 0 hs (tcOf_rel ha _)
  have hb' : Nat.ble (llen us) fn.ntmps = true := by rw [llen_eq] at hb ⊢; rw [← ha.length]; exact hb
  have hrun : ex = .nm ∨ ex = .ret → runBody C.E (X C.E) g us h [] = some (fn, ⟨t', h', [], []⟩) := fun hx => by
   unfold runBody
   rw [hfn, Option.bind_some, hc, Option.bind_some, hb', cond_true, h1]
   rcases hx with rfl | rfl <;> rfl
  have fin : ex = .nm ∨ ex = .ret → (resultsC C.E fn tc' ch').bind (fun v => k v ch') = some r → CSd wb M ch h (inlineV C.E (X C.E) g us h []) k r := fun hx e => by
   replace e := Option.bind_eq_some_iff.1 e; obtain ⟨v, hv, e⟩ := e
   obtain ⟨u, q1, q2⟩ := results_rel h2 h3 hv
   refine ⟨u, h', v, ch', M', ?_, q2, h2, h4, e⟩
   unfold inlineV
   rw [hrun hx]
   show ((resultsV C.E h' fn t').map fun v => (v, h', [])) = _
   rw [q1]; rfl
  cases ex with
  | exit _ => cases h5
  | nm => exact fin (.inl rfl) h5
  | ret => exact fin (.inr rfl) h5
theorem noData_rel {v : CV} {u : V} (hv : VR M v u) (hn : v.noData = true) : u.data h = none := by
 cases v with
 | ptr b p => simp only [VR] at hv; obtain ⟨_, _, rfl⟩ := hv; simp [V.data, V.dataR]
 | el b n i p => simp only [VR] at hv; obtain ⟨_, _, _, _, _, rfl⟩ := hv; simp [V.data, V.dataR]
 | fn f a c =>
  simp only [VR] at hv
  obtain ⟨as, cs, rfl, h1, h2⟩ := hv
  cases a with
  | nil => cases c with
   | nil => cases hn
   | cons w c =>
    simp only [VRs] at h1 h2
    obtain ⟨y, r', rfl, _⟩ := h2
    subst h1
    simp [V.data, V.dataR]
  | cons w a =>
   simp only [VRs] at h1
   obtain ⟨y, r', rfl, _⟩ := h1
   simp [V.data, V.dataR]
 | _ => cases hn
theorem allData_none : ∀ {args : List CV} {us : List V}, VRs M args us → args.any CV.noData = true → allData h us = none
 | [], us, _, e => by cases e
 | v :: args, us, ha, e => by
  simp only [VRs] at ha
  obtain ⟨u, r, rfl, h1, h2⟩ := ha
  show (V.data h u).bind (fun d => (allData h r).map (d :: ·)) = none
  rw [List.any_cons, Bool.or_eq_true] at e
  rcases e with e | e
  ·rw [noData_rel h1 e]; rfl
  ·rw [allData_none h2 e]; cases V.data h u <;> rfl
theorem after_s (hs : HS M ch h) {t : Ty} {vs : List CV} {x : t.den} {us : List V} (e : CV.dts ch t vs = some x) (hr : VRs M vs us) {rt : Ty} {y : rt.den} {kk : CH → Option ρ} (hk : afterC wb ch rt vs kk = some r) :
  ∃ ch' h', (match V.ownsL us with
   | [] => some (V.im (rt.enc y), h, [])
   | bs => bif (rt.enc y).flat then some (V.im (rt.enc y), h, []) else bif Go.As.allArr h bs then some (V.im (rt.enc y), Go.As.close h bs, []) else none : RC) = some (.im (rt.enc y), h', []) ∧ HS M ch' h' ∧ Fr wb M ch h M ch' h' ∧ kk ch' = some r := by
 have ho := owns_rel hs e hr
 unfold afterC at hk
 cases hf : rt.flat with
 | true =>
  rw [hf, cond_true] at hk
  refine ⟨ch, h, ?_, hs, .refl .., hk⟩
  rw [enc_flat, hf]
  split <;> rfl
 | false =>
  rw [hf, cond_false] at hk
  cases hm : mayClose wb ch (CV.ownsCs vs) with
  | false => rw [hm, cond_false] at hk; cases hk
  | true =>
   rw [hm, cond_true] at hk
   have harr := (owns_arr (ch := ch) t).2 vs x e
   have hmc : ∀ (bs : List Nat), mayClose wb ch bs = true → ∀ b ∈ bs, (∃ n c u l, hgetC ch b = some (.arr n c u l)) → ∃ n c u l, hgetC ch b = some (.arr n c u l) ∧ (c = true ∨ wb b = true) := by
    intro bs
    induction bs with
    | nil => intro _ b hb; cases hb
    | cons a bs ihb =>
     intro hm b hb hx
     have hm : (bif (match hgetC ch a with | some (.arr _ true _ _) => true | _ => wb a) then mayClose wb ch bs else false) = true := hm
     cases hq : (match hgetC ch a with | some (.arr _ true _ _) => true | _ => wb a) with
     | false => rw [hq, cond_false] at hm; cases hm
     | true =>
      rw [hq, cond_true] at hm
      rcases List.mem_cons.1 hb with rfl | hb
      ·obtain ⟨n, c, u, l, hg⟩ := hx
       refine ⟨n, c, u, l, hg, ?_⟩
       rw [hg] at hq
       cases c with
       | true => exact .inl rfl
       | false => exact .inr hq
      ·exact ihb hm b hb hx
   obtain ⟨q1, q2, q3, q4, q5⟩ := HS.close (wb := wb) (CV.ownsCs vs) hs (fun b hb => hmc _ hm b hb (harr b hb))
   refine ⟨_, _, ?_, q1, ⟨.refl M, by rw [q2]; exact Nat.le_refl _, by rw [q3]; exact Nat.le_refl _, fun b _ hb => q4 b hb, nb_same, q5⟩, hk⟩
   rw [ho]
   split
   ·rename_i h0
    rw [h0]; rfl
   ·rw [enc_flat, hf, cond_false, hs.allArr _ harr, cond_true]
theorem allData_map (l : List CV) : True := trivial
theorem HS.empty : HS ⟨fun _ => none, fun _ _ => none⟩ [] [] :=
 ⟨fun b _ e => (by cases b <;> cases e), fun b _ _ _ _ e => (by cases b <;> cases e), fun _ _ _ _ _ q _ => (by cases q), fun b _ _ _ _ e => (by cases b <;> cases e), fun _ _ e => (by cases e), fun _ _ _ e => (by cases e)⟩
theorem call_s (hC : CEOk C) (hih : Good C ih) (hs : HS M ch h) {g : Nat} {args : List CV} {us : List V} (ha : VRs M args us) (e : callVC C ih g args wb ch k = some r) : CSd wb M ch h (callV C.E (X C.E) g us h []) k r := by
 have inl : inlineC C ih g args wb ch k = some r → (C.E.inl g = true ∨ allData h us = none) → CSd wb M ch h (callV C.E (X C.E) g us h []) k r := fun e hq => by
  have := inline_s hih hs ha e
  unfold callV
  rcases hq with hq | hq
  ·rw [hq, cond_true]; exact this
  ·cases hb : C.E.inl g with
   | true => rw [cond_true]; exact this
   | false => rw [cond_false, hq]; exact this
 unfold callVC at e
 split at e
 ·rename_i s hsp
  cases hb : C.E.inl g || args.any CV.noData with
  | false => rw [hb, cond_false] at e; cases e
  | true =>
   rw [hb, cond_true] at e
   rw [Bool.or_eq_true] at hb
   have := callM_s (hC.spm g s hsp) hs ha e
   unfold callV
   rcases hb with hq | hq
   ·rw [hq, cond_true]; exact this
   ·cases hb : C.E.inl g with
    | true => rw [cond_true]; exact this
    | false => rw [cond_false, allData_none ha hq]; exact this
 split at e
 ·rename_i s hsp
  cases hb : C.E.inl g with
  | true => rw [hb, cond_true] at e; cases e
  | false =>
   rw [hb, cond_false] at e
   replace e := Option.bind_eq_some_iff.1 e; obtain ⟨x, hx, e⟩ := e
   replace e := Option.bind_eq_some_iff.1 e; obtain ⟨y, hy, e⟩ := e
   obtain ⟨ch', h', q1, q2, q3, q4⟩ := after_s (y := y) hs hx ha e
   refine ⟨_, h', .sy s.r y, ch', M, ?_, rfl, q2, q3, q4⟩
   unfold callV
   rw [hb, cond_false, dts_rel hs hx ha]
   show ((dataC C.E (X C.E) g (s.a.encL x)).bind fun r => _ : RC) = _
   rw [hC.sp g s hsp x y hy, Option.bind_some]
   exact q1
 ·cases hb : C.E.inl g || args.any CV.noData with
  | true =>
   rw [hb, cond_true] at e
   rw [Bool.or_eq_true] at hb
   exact inl e (hb.imp id fun q => allData_none ha q)
  | false =>
   rw [hb, cond_false] at e
   rw [Bool.or_eq_false_iff] at hb
   cases hm : (C.E.sm g).isNone with
   | false => rw [hm, cond_false] at e; cases e
   | true =>
    rw [hm, cond_true] at e
    replace e := Option.bind_eq_some_iff.1 e; obtain ⟨fn, hfn, e⟩ := e
    replace e := Option.bind_eq_some_iff.1 e; obtain ⟨ts, hts, e⟩ := e
    replace e := Option.bind_eq_some_iff.1 e; obtain ⟨rt, hrt, e⟩ := e
    replace e := Option.bind_eq_some_iff.1 e; obtain ⟨x, hx, e⟩ := e
    obtain ⟨v, h2, cv, ch2, M2, r1, r2, r3, _, r4⟩ := inline_s hih HS.empty (kidsT_rel ts x) e
    replace r4 := Option.bind_eq_some_iff.1 r4; obtain ⟨y, hy, r4⟩ := r4
    obtain ⟨ch', h', q1, q2, q3, q4⟩ := after_s (y := y) hs hx ha r4
    refine ⟨_, h', .sy rt y, ch', M, ?_, rfl, q2, q3, q4⟩
    have hsm : C.E.sm g = none := by simpa using hm
    have hd : dataC C.E (X C.E) g (ts.encL x) = some (rt.enc y) := by
     unfold dataC
     rw [hsm]
     show dataV C.E (X C.E) g (ts.encL x) = _
     unfold dataV
     rw [imap_eq, r1, Option.bind_some]
     exact dt_rel r3 hy r2
    unfold callV
    rw [hb.1, cond_false, dts_rel hs hx ha]
    show ((dataC C.E (X C.E) g (ts.encL x)).bind fun r => _ : RC) = _
    rw [hd, Option.bind_some]
    exact q1
theorem clone_s (hs : HS M ch h) {el : Nat} {args : List CV} {us : List V} (ha : VRs M args us) (e : cloneC C el args ch k = some r) : OS wb M ch h (cloneV C.E h.length el us h) k r := by
 unfold cloneC at e
 split at e
 ·rename_i x
  simp only [VRs] at ha
  obtain ⟨u, r', rfl, q1, rfl⟩ := ha
  replace e := Option.bind_eq_some_iff.1 e; obtain ⟨te, hte, e⟩ := e
  replace e := Option.bind_eq_some_iff.1 e; obtain ⟨t, ht, e⟩ := e
  replace e := Option.bind_eq_some_iff.1 e; obtain ⟨l, hl, e⟩ := e
  cases hb : (okV te te.zero && zeroOk te) && Nat.beq t.wd te.size with
  | false => rw [hb, cond_false] at e; cases e
  | true =>
   rw [hb, cond_true] at e
   rw [Bool.and_eq_true] at hb
   cases hr : roomC l.length te.bytes with
   | false => rw [hr, cond_false] at e; cases e
   | true =>
    rw [hr, cond_true] at e
    obtain ⟨d1, _⟩ := delems_rel hs hl q1
    show OS wb M ch h ((C.E.ty el).bind fun te => (u.delems h).bind fun l => bif (okV te te.zero && zeroOk te) && (firstWd te.size l && room (llen l) te.bytes) then some (.own h.length 1 0 (llen l) false, hput h h.length (.arr 1 te.size 0 l)) else none) k r
    have hf : firstWd te.size (l.map t.enc) = true := by
     cases l with
     | nil => rfl
     | cons y l => show Nat.beq (t.enc y).wd te.size = true; rw [enc_wd]; exact hb.2
    have hroom : room (llen (l.map t.enc)) te.bytes = true := by
     rw [llen_eq, List.length_map]; exact hr
    rw [hte, Option.bind_some, d1, Option.bind_some, hb.1, hf, hroom, ← Nat.eq_of_beq_eq_true hb.2]
    exact OS.newArr hs t l 1 (by simp) e
 ·cases e
theorem callFn_s (hC : CEOk C) (hih : Good C ih) (hs : HS M ch h) {g : Nat} {args : List CV} {us : List V} (ha : VRs M args us) (e : callFnC C ih g args wb ch k = some r) : CSd wb M ch h (callFn C.E (X C.E) h.length g us h []) k r := by
 unfold callFnC at e
 unfold callFn
 split at e
 ·rename_i el hcl
  rw [hcl]
  exact CSd.of (clone_s hs ha e)
 ·rename_i hcl
  cases hx : Nat.beq (C.E.ext g) 0 with
  | false => rw [hx, cond_false] at e; cases e
  | true =>
   rw [hx, cond_true] at e
   rw [hcl, Nat.eq_of_beq_eq_true hx]
   exact call_s hC hih hs ha e
theorem VRs.app : ∀ {a : List CV} {a' : List V} {b : List CV} {b' : List V}, VRs M a a' → VRs M b b' → VRs M (a ++ b) (a' ++ b')
 | [], a', b, b', h1, h2 => by simp only [VRs] at h1; subst h1; exact h2
 | v :: a, a', b, b', h1, h2 => by
  simp only [VRs] at h1
  obtain ⟨u, r, rfl, q1, q2⟩ := h1
  exact ⟨u, r ++ b', rfl, q1, VRs.app q2 h2⟩
noncomputable def opR (E : Env) (nid : Nat) (keep : Bool) (t : Tm) (h : Heap) (op : Op) : RC :=
 match op with
 | .call c => (match c.callee with
  | .builtin _ => lift [] (stepOp E keep nid t h (.call c))
  | _ => goCall E (X E) nid t c h [])
 | op => lift [] (stepOp E keep nid t h op)
theorem opV_R {E : Env} {keep : Bool} {ops : Array Oper} {o : Oper} {t : Tm} {h : Heap} (hg : guardOf ops t o.guard = some true) (hnd : ∀ c, o.op ≠ .defer c) {v : V} {h' : Heap} (hr : opR E h.length keep t h o.op = some (v, h', [])) :
  opV E (X E) keep ops h.length o ⟨t, h, [], []⟩ = some ⟨putDst t o.dst v, h', [], []⟩ := by
 unfold opV
 show (match guardOf ops t o.guard with | none => none | some false => _ | some true => _) = _
 rw [hg]
 obtain ⟨dst, op, ty, pos, after, guard⟩ := o
 cases op with
 | defer c => exact absurd rfl (hnd c)
 | call c =>
  have hr : (match c.callee with
   | .builtin _ => lift [] (stepOp E keep h.length t h (.call c))
   | _ => goCall E (X E) h.length t c h []) = some (v, h', []) := hr
  show (match (match c.callee with
   | .builtin _ => lift [] (stepOp E keep h.length t h (.call c))
   | _ => goCall E (X E) h.length t c h []) with
   | none => none
   | some (v, h, lp) => some (⟨putDst t dst v, h, lp, []⟩ : St)) = _
  rw [hr]
 | _ =>
  unfold opR at hr
  simp only at hr ⊢
  rw [hr]
theorem do_s (hC : CEOk C) (hih : Good C ih) {tc : TC} {t : Tm} (hs : HS M ch h) (ht : TR2 M tc t) {f : Nat} {keep : Bool} {op : Op} (e : doC C ih f keep wb op tc ch k = some r) :
  (∀ c, op ≠ .defer c) ∧ CSd wb M ch h (opR C.E h.length keep t h op) k r := by
 cases op with
 | defer c => cases e
 | call c =>
  refine ⟨fun c q => (by cases q), ?_⟩
  have e1 : (match c.callee with
   | .builtin _ => stepC C.E wb keep tc (.call c) ch k
   | _ => (targetC tc c).bind fun g => callFnC C ih g.1 g.2 wb ch k) = some r := e
  clear e
  show CSd wb M ch h (match c.callee with
   | .builtin _ => lift [] (stepOp C.E keep h.length t h (.call c))
   | _ => goCall C.E (X C.E) h.length t c h []) k r
  cases hcl : c.callee with
  | builtin b =>
   rw [hcl] at e1
   exact CSd.of (step_s hs ht e1)
  | value fo =>
   rw [hcl] at e1
   replace e1 : ((targetC tc c).bind fun g => callFnC C ih g.1 g.2 wb ch k) = some r := e1
   replace e1 := Option.bind_eq_some_iff.1 e1; obtain ⟨g, hg, e1⟩ := e1
   unfold targetC at hg
   rw [hcl] at hg
   replace hg : (match vC tc fo with
    | .fn g a cap => some (g, a ++ (vCs tc c.args ++ cap))
    | _ => none) = some g := hg
   split at hg
   ·rename_i gg a cap hv
    cases hg
    have hfv := vC_rel ht fo
    rw [hv] at hfv
    simp only [VR] at hfv
    obtain ⟨as, cs, hev, h1, h2⟩ := hfv
    have hargs := h1.app ((vCs_rel ht c.args).app h2)
    have := callFn_s hC hih hs hargs e1
    show CSd wb M ch h (goCall C.E (X C.E) h.length t c h []) k r
    unfold goCall yldOf target
    rw [hcl]
    simp only [hev]
    exact this
   ·cases hg
  | invoke rcv nm =>
   rw [hcl] at e1
   replace e1 : ((targetC tc c).bind fun g => callFnC C ih g.1 g.2 wb ch k) = some r := e1
   replace e1 := Option.bind_eq_some_iff.1 e1; obtain ⟨g, hg, e1⟩ := e1
   unfold targetC at hg
   rw [hcl] at hg
   cases hg
 | _ =>
  refine ⟨fun c q => (by cases q), ?_⟩
  unfold doC at e
  exact CSd.of (step_s hs ht e)
theorem TR2.set_slot {M : Mu} {x : CV} : ∀ {t : TC} {u : Tm} {i : Nat}, TR2 M t u → VR M x (u.get i) → TR2 M (t.set i x) u
 | .e, .e, _, _, _ => trivial
 | .n v l r, .n v' l' r', i, ⟨h1, h2, h3⟩, hx => by
  rw [TC.set_n]
  rw [Tm.get_n'] at hx
  by_cases h0 : i = 0
  ·rw [if_pos h0] at hx ⊢; exact ⟨hx, h2, h3⟩
  ·rw [if_neg h0] at hx ⊢
   by_cases hm : i % 2 = 1
   ·rw [if_pos hm] at hx ⊢; exact ⟨h1, TR2.set_slot h2 hx, h3⟩
   ·rw [if_neg hm] at hx ⊢; exact ⟨h1, h2, TR2.set_slot h3 hx⟩
theorem dsts_has : ∀ {l : List Oper} {j : Nat} {o : Oper} {d : Nat}, lget l j = some o → o.dst = some d → hasN (dstsOf l) d = true
 | [], j, _, _, e, _ => by cases e
 | a :: l, 0, o, d, e, hd => by
  have hao : a = o := Option.some.inj e
  rw [← hao] at hd
  show hasN (match a.dst with | some d => d :: dstsOf l | none => dstsOf l) d = true
  rw [hd]
  show (bif Nat.beq d d then true else hasN (dstsOf l) d) = true
  rw [Nat.beq_refl]; rfl
 | a :: l, j + 1, o, d, e, hd => by
  have ih := dsts_has (l := l) (j := j) e hd
  show hasN (match a.dst with | some d => d :: dstsOf l | none => dstsOf l) d = true
  cases a.dst with
  | none => exact ih
  | some q =>
   show (bif Nat.beq q d then true else hasN (dstsOf l) d) = true
   rw [ih]; cases Nat.beq q d <;> rfl
theorem guard_s {tc : TC} {t : Tm} (ht : TR2 M tc t) {ops : Array Oper} {g : Option (Nat × Bool)} {yes no : TC → Option ρ} (e : guardC ops tc g yes no = some r) :
  ∃ tc1, TR2 M tc1 t ∧ (∀ i, hasN (dstsOf ops.toList) i = false → tc1.get i = tc.get i) ∧ ((guardOf ops t g = some true ∧ yes tc1 = some r) ∨ (guardOf ops t g = some false ∧ no tc1 = some r)) := by
 unfold guardC at e
 split at e
 ·exact ⟨tc, ht, fun _ _ => rfl, .inl ⟨rfl, e⟩⟩
 ·rename_i j want
  replace e := Option.bind_eq_some_iff.1 e; obtain ⟨o, ho, e⟩ := e
  replace e := Option.bind_eq_some_iff.1 e; obtain ⟨d, hd, e⟩ := e
  have hg : ∀ v, t.get d = v → guardOf ops t (some (j, want)) = (match v with
    | .im (.bool b) => some (bif b then want else not want)
    | .im (.tup []) => some false
    | _ => none) := fun v hv => by
   show ((lget ops.toList j).bind fun o => o.dst.bind fun d => match t.get d with
    | .im (.bool b) => some (bif b then want else not want)
    | .im (.tup []) => some false
    | _ => none) = _
   rw [ho, Option.bind_some, hd, Option.bind_some, hv]
  have hv := ht.get d
  have hset : ∀ b, t.get d = .im (.bool b) → TR2 M (tc.set d (.sy .bool b)) t ∧ (∀ i, hasN (dstsOf ops.toList) i = false → (tc.set d (.sy .bool b)).get i = tc.get i) := fun b hb =>
   ⟨ht.set_slot (by rw [hb]; rfl), fun i hi => TC.get_set_ne _ _ _ _ fun q => by subst q; rw [dsts_has ho hd] at hi; cases hi⟩
  split at e
  ·rename_i b hb
   rw [hb] at hv
   have := hv.bool
   rw [hg _ this]
   obtain ⟨h1, h2⟩ := hset b this
   cases want <;> cases b <;> first | exact ⟨_, h1, h2, .inl ⟨rfl, e⟩⟩ | exact ⟨_, h1, h2, .inr ⟨rfl, e⟩⟩
  ·rename_i hb
   rw [hb] at hv
   simp only [VR] at hv
   obtain ⟨vs, hv, h2⟩ := hv
   simp only [VRs] at h2
   subst h2
   rw [hg _ hv]
   exact ⟨tc, ht, fun _ _ => rfl, .inr ⟨rfl, e⟩⟩
  ·cases e
theorem putD_rel {tc : TC} {t : Tm} (ht : TR2 M tc t) {v : CV} {u : V} (hv : VR M v u) (d : Option Nat) : TR2 M (putDC tc d v) (putDst t d u) := by
 cases d with
 | none => exact ht
 | some n => exact ht.set hv n
theorem putD_keep {l : List Oper} {o : Oper} (ho : o ∈ l) (tc : TC) (v : CV) (i : Nat) (hi : hasN (dstsOf l) i = false) : (putDC tc o.dst v).get i = tc.get i := by
 cases hd : o.dst with
 | none => rfl
 | some d =>
  refine TC.get_set_ne _ _ _ _ fun q => ?_
  subst q
  obtain ⟨j, hj⟩ := List.getElem?_of_mem ho
  rw [dsts_has (by rw [lget_eq]; exact hj) hd] at hi
  cases hi
theorem run_s (hC : CEOk C) (hih : Good C ih) {f : Nat} {keep : Bool} {ops : Array Oper} : ∀ (l : List Oper) {tc : TC} {t : Tm} {M : Mu} {ch : CH} {h : Heap} {kk : TC → CH → Option ρ}, (∀ o ∈ l, o ∈ ops.toList) → HS M ch h → TR2 M tc t → runC C ih f keep wb ops l tc ch kk = some r →
  ∃ tc' ch' M' t' h', runOps C.E (X C.E) keep ops l ⟨t, h, [], []⟩ = some ⟨t', h', [], []⟩ ∧ HS M' ch' h' ∧ TR2 M' tc' t' ∧ Fr wb M ch h M' ch' h' ∧ (∀ i, hasN (dstsOf ops.toList) i = false → tc'.get i = tc.get i) ∧ kk tc' ch' = some r
 | [], tc, t, M, ch, h, kk, _, hs, ht, e => ⟨tc, ch, M, t, h, rfl, hs, ht, .refl .., fun _ _ => rfl, e⟩
 | o :: l, tc, t, M, ch, h, kk, hl, hs, ht, e => by
  have hput := putD_keep (hl o (List.mem_cons_self ..))
  have hl' : ∀ o ∈ l, o ∈ ops.toList := fun o ho => hl o (List.mem_cons_of_mem _ ho)
  have e : guardC ops tc o.guard (fun tc => doC C ih f keep wb o.op tc ch fun v ch => runC C ih f keep wb ops l (putDC tc o.dst v) ch kk) (fun tc => runC C ih f keep wb ops l (putDC tc o.dst (.tup [])) ch kk) = some r := e
  have hstep : runOps C.E (X C.E) keep ops (o :: l) ⟨t, h, [], []⟩ = (match opV C.E (X C.E) keep ops h.length o ⟨t, h, [], []⟩ with
    | none => none
    | some st' => runOps C.E (X C.E) keep ops l st') := by
   show (match opV C.E (X C.E) keep ops (llen h) o ⟨t, h, [], []⟩ with
    | none => none
    | some st' => runOps C.E (X C.E) keep ops l st') = _
   rw [llen_eq]
  obtain ⟨tc1, ht1, hk1, ⟨hg, e⟩ | ⟨hg, e⟩⟩ := guard_s ht e
  ·obtain ⟨hnd, v, h', cv, ch', M', q1, q2, q3, q4, q5⟩ := do_s hC hih hs ht1 e
   obtain ⟨tc2, ch2, M2, t2, h2, r1, r2, r3, r4, r5, r6⟩ := run_s hC hih l hl' q3 (putD_rel (ht1.mono q4.le) q2 o.dst) q5
   refine ⟨tc2, ch2, M2, t2, h2, ?_, r2, r3, q4.trans r4, fun i hi => (r5 i hi).trans ((hput tc1 cv i hi).trans (hk1 i hi)), r6⟩
   rw [hstep]
   rw [opV_R hg hnd q1]
   exact r1
  ·obtain ⟨tc2, ch2, M2, t2, h2, r1, r2, r3, r4, r5, r6⟩ := run_s hC hih l hl' hs (putD_rel ht1 (v := .tup []) (u := .im (.tup [])) (by simp only [VR]; exact ⟨[], rfl, rfl⟩) o.dst) e
   refine ⟨tc2, ch2, M2, t2, h2, ?_, r2, r3, r4, fun i hi => (r5 i hi).trans ((hput tc1 (.tup []) i hi).trans (hk1 i hi)), r6⟩
   rw [hstep]
   have : opV C.E (X C.E) keep ops h.length o ⟨t, h, [], []⟩ = some ⟨putDst t o.dst (.im (.tup [])), h, [], []⟩ := by
    unfold opV
    rw [hg]
   rw [this]
   exact r1
end
end Go.As
/-
 AS: regions that draw, in the typed evaluator.
-/
namespace Go.As
variable [Gh]
section
variable {ρ : Type} {wb : Nat → Bool} {M : Mu} {ch : CH} {h : Heap} {k : KC ρ} {r : ρ}
variable {C : CE} {ih : (ρ : Type) → Nat → Code → (Nat → Bool) → TC → CH → KX ρ → Option ρ}
theorem ld_same {E : Env} {op : Op} (hp : isLd op = true) {keep : Bool} {nid : Nat} {t : Tm} {v : V} {h h' : Heap} (e : stepOp E keep nid t h op = some (v, h')) : h' = h := by
 unfold isLd at hp
 rw [Bool.or_eq_true] at hp
 rcases hp with hp | hp
 ·have := pure_any hp e nid h
  rw [e] at this
  cases this; rfl
 ·have hq : isSimple op = true ∧ ∀ c, op ≠ .call c := by
   cases op <;> first | (cases hp; done) | exact ⟨rfl, fun c q => by cases q⟩
  have := simple_sub (fun b x e => e) hq.1 hq.2 e nid
  rw [e] at this
  cases this; rfl
theorem len_same {E : Env} {t : Nat} {x v : V} {h h' : Heap} (e : bLen E t h x = some (v, h')) : h' = h := by
 unfold bLen at e
 split at e
 ·cases e; rfl
 ·cases e; rfl
 ·cases e; rfl
 ·cases e; rfl
 ·cases e; rfl
 ·split at e
  ·obtain ⟨_, e⟩ := bif_some e
   cases e; rfl
  ·cases e
 ·cases e
theorem quiet_ld {E : Env} {ih : Nat → Nat → Nat → Code → St → Option (Ex × St)} {op : Op} (hp : isLd op = true) {keep : Bool} {nid : Nat} {t : Tm} {h : Heap} : quietV E ih keep nid t h op = (stepOp E keep nid t h op).map fun r => (r.1, none) := by
 cases op <;> first | (cases hp; done) | rfl
theorem news_zero {E : Env} : ∀ {l : List Oper}, news E l = 0 → ∀ o ∈ l, isNew E o.op = false
 | [], _, o, h => by cases h
 | a :: l, e, o, h => by
  have e : (bif isNew E a.op then 1 else 0) + news E l = 0 := e
  rcases List.mem_cons.1 h with rfl | h
  ·cases hn : isNew E o.op with
   | false => rfl
   | true => rw [hn, cond_true] at e; omega
  ·exact news_zero (by omega) o h
def DS {ρ : Type} (wb : Nat → Bool) (M : Mu) (ch : CH) (h : Heap) (t : Tm) (dst : Option Nat) (m : Option St) (k : KC ρ) (r : ρ) : Prop :=
 ∃ v h' cv ch' M', m = some ⟨putDst t dst v, h', [], []⟩ ∧ VR M' cv v ∧ HS M' ch' h' ∧ Fr wb M ch h M' ch' h' ∧ k cv ch' = some r
theorem do_d (hC : CEOk C) (hih : Good C ih) {tc : TC} {t : Tm} (hs : HS M ch h) (ht : TR2 M tc t) {f : Nat} {keep : Bool} {ops : Array Oper} {o : Oper} {cm : Nat × List Nat} (e : doDC C ih f keep wb cm o.op tc ch k = some r)
  (hg : guardOf ops t o.guard = some true) (hn : cm.1 = 1 → isNew C.E o.op = false) (kk n i : Nat) : DS wb M ch h t o.dst (opD C.E (X C.E) keep ops kk n i cm.1 cm.2 o ⟨t, h, [], []⟩) k r := by
 have quiet : isNew C.E o.op = false → ∀ {x : Option (V × Option Blk)}, quietV C.E (X C.E) keep h.length t h o.op = x → (∃ v h' cv ch' M', x = some (v, none) ∧ h' = h ∧ VR M' cv v ∧ HS M' ch' h' ∧ Fr wb M ch h M' ch' h' ∧ k cv ch' = some r) →
   DS wb M ch h t o.dst (opD C.E (X C.E) keep ops kk n i 1 [] o ⟨t, h, [], []⟩) k r := fun hn {x} hx hy => by
  obtain ⟨v, h', cv, ch', M', rfl, rfl, q2, q3, q4, q5⟩ := hy
  refine ⟨v, h', cv, ch', M', ?_, q2, q3, q4, q5⟩
  unfold opD
  simp only [hg]
  show (bif isNew C.E o.op then (match hget h' (kk + i) with
    | none => (quietV C.E (X C.E) keep (kk + i) t h' o.op).map fun r => (⟨putDst t o.dst r.1, putBlk h' (kk + i) r.2, [], []⟩ : St)
    | some _ => none)
   else (quietV C.E (X C.E) keep (llen h') t h' o.op).bind fun r => (match r.2 with
    | none => some ⟨putDst t o.dst r.1, h', [], []⟩
    | some _ => none)) = _
  rw [hn, cond_false, llen_eq, hx]; rfl
 unfold doDC at e
 split at e
 ·-- pure
  cases hp : isPure o.op with
  | false => rw [hp, cond_false] at e; cases e
  | true =>
   rw [hp, cond_true] at e
   obtain ⟨v, h', cv, ch', M', q1, q2, q3, q4, q5⟩ := step_s hs ht (keep := keep) e
   have hh := ld_same (by unfold isLd; rw [hp]; rfl) q1
   subst hh
   refine ⟨v, h', cv, ch', M', ?_, q2, q3, q4, q5⟩
   unfold opD
   simp only [hg]
   show ((stepOp C.E keep (kk + i) t [] o.op).map fun r => (⟨putDst t o.dst r.1, h', [], []⟩ : St)) = _
   rw [pure_any hp q1 (kk + i) []]; rfl
 ·-- quiet
  replace hn := hn rfl
  replace quiet := @quiet hn
  cases hp : isLd o.op with
  | true =>
   rw [hp, cond_true] at e
   obtain ⟨v, h', cv, ch', M', q1, q2, q3, q4, q5⟩ := step_s hs ht (keep := keep) e
   have hh := ld_same hp q1
   exact quiet (quiet_ld hp) ⟨v, h', cv, ch', M', by rw [q1]; rfl, hh, q2, q3, q4, q5⟩
  | false =>
   rw [hp, cond_false] at e
   split at e
   ·rename_i c hop
    have hq : quietV C.E (X C.E) keep h.length t h o.op = quietV C.E (X C.E) keep h.length t h (.call c) := by rw [hop]
    split at e
    ·rename_i hcl
     obtain ⟨v, h', cv, ch', M', q1, q2, q3, q4, q5⟩ := step_s hs ht (keep := keep) e
     have q1 : (match c.callee with
      | .builtin b => builtinV C.E h.length b c.argTypes (evs t c.args) h
      | _ => none) = some (v, h') := q1
     rw [hcl] at q1
     have q1 : builtinV C.E h.length .len c.argTypes (evs t c.args) h = some (v, h') := q1
     refine quiet (hq.trans ?_) ⟨v, h', cv, ch', M', rfl, ?_, q2, q3, q4, q5⟩
     ·unfold quietV; simp only [hcl]; rw [q1]; rfl
     ·unfold builtinV at q1
      simp only at q1
      split at q1
      ·obtain ⟨tt, _, q1⟩ := Option.bind_eq_some_iff.1 q1
       exact len_same q1
      ·cases q1
    ·rename_i hcl
     obtain ⟨v, h', cv, ch', M', q1, q2, q3, q4, q5⟩ := step_s hs ht (keep := keep) e
     have q1 : (match c.callee with
      | .builtin b => builtinV C.E h.length b c.argTypes (evs t c.args) h
      | _ => none) = some (v, h') := q1
     rw [hcl] at q1
     have q1 : builtinV C.E h.length .min c.argTypes (evs t c.args) h = some (v, h') := q1
     refine quiet (hq.trans ?_) ⟨v, h', cv, ch', M', rfl, ?_, q2, q3, q4, q5⟩
     ·unfold quietV; simp only [hcl]; rw [q1]; rfl
     ·unfold builtinV at q1
      simp only at q1
      split at q1
      ·obtain ⟨n, _, q1⟩ := Option.map_eq_some_iff.1 q1
       cases q1; rfl
      ·cases q1
    ·rename_i hcl
     obtain ⟨v, h', cv, ch', M', q1, q2, q3, q4, q5⟩ := step_s hs ht (keep := keep) e
     have q1 : (match c.callee with
      | .builtin b => builtinV C.E h.length b c.argTypes (evs t c.args) h
      | _ => none) = some (v, h') := q1
     rw [hcl] at q1
     have q1 : builtinV C.E h.length .max c.argTypes (evs t c.args) h = some (v, h') := q1
     refine quiet (hq.trans ?_) ⟨v, h', cv, ch', M', rfl, ?_, q2, q3, q4, q5⟩
     ·unfold quietV; simp only [hcl]; rw [q1]; rfl
     ·unfold builtinV at q1
      simp only at q1
      split at q1
      ·obtain ⟨n, _, q1⟩ := Option.map_eq_some_iff.1 q1
       cases q1; rfl
      ·cases q1
    ·cases e
    ·rename_i hnb
     replace e := Option.bind_eq_some_iff.1 e; obtain ⟨g, hgt, e⟩ := e
     unfold targetC at hgt
     split at hgt
     ·rename_i fo hcl
      split at hgt
      ·rename_i gg a cap hv
       cases hgt
       have hfv := vC_rel ht fo
       rw [hv] at hfv
       simp only [VR] at hfv
       obtain ⟨as, cs, hev, h1, h2⟩ := hfv
       have hargs := h1.app ((vCs_rel ht c.args).app h2)
       unfold hushC at e
       simp only at e
       split at e
       ·cases e
       ·rename_i hclone
        cases hx : Nat.beq (C.E.ext gg) 0 && not (C.E.inl gg) with
        | false => rw [hx, cond_false] at e; cases e
        | true =>
         rw [hx, cond_true] at e
         rw [Bool.and_eq_true] at hx
         split at e
         ·rename_i s hsp
          replace e := Option.bind_eq_some_iff.1 e; obtain ⟨x, hxx, e⟩ := e
          replace e := Option.bind_eq_some_iff.1 e; obtain ⟨y, hy, e⟩ := e
          cases hfl : s.r.flat || noneL (CV.ownsCs (a ++ (vCs tc c.args ++ cap))) with
          | false => rw [hfl, cond_false] at e; cases e
          | true =>
           rw [hfl, cond_true] at e
           refine quiet (x := some (.im (s.r.enc y), none)) (hq.trans ?_) ⟨.im (s.r.enc y), h, .sy s.r y, ch, M, rfl, rfl, rfl, hs, .refl .., e⟩
           unfold quietV target
           simp only [hcl, hev]
           show (match C.E.clone gg with
            | some sz => (cloneV C.E h.length sz (as ++ (evs t c.args ++ cs)) h).map fun r : V × Heap => ((r.1, hget r.2 h.length) : V × Option Blk)
            | none => match C.E.ext gg with
             | 1 => (extV 1 (as ++ (evs t c.args ++ cs)) h).map fun r : V × Heap => ((r.1, none) : V × Option Blk)
             | 2 => (extV 2 (as ++ (evs t c.args ++ cs)) h).map fun r : V × Heap => ((r.1, none) : V × Option Blk)
             | 0 => bif C.E.inl gg then none else (allData h (as ++ (evs t c.args ++ cs))).bind fun ds => (dataC C.E (X C.E) gg ds).bind fun r =>
              (match V.ownsL (as ++ (evs t c.args ++ cs)) with
              | [] => some (V.im r, none)
              | _ => bif r.flat then some (V.im r, none) else none)
             | _ => none) = _
           have hinl : C.E.inl gg = false := by simpa using hx.2
           rw [hclone, Nat.eq_of_beq_eq_true hx.1]
           simp only [hinl, cond_false, dts_rel hs hxx hargs, Option.bind_some, hC.sp gg s hsp x y hy]
           rw [owns_rel hs hxx hargs, enc_flat]
           rw [Bool.or_eq_true] at hfl
           rcases hfl with hfl | hfl
           ·rw [hfl]
            split <;> rfl
           ·generalize CV.ownsCs (a ++ (vCs tc c.args ++ cap)) = l at hfl
            cases l with
            | nil => rfl
            | cons _ _ => cases hfl
         ·cases e
      ·cases hgt
     ·cases hgt
   ·cases e
 ·-- whole
  obtain ⟨hnd, v, h', cv, ch', M', q1, q2, q3, q4, q5⟩ := do_s hC hih hs ht e
  refine ⟨v, h', cv, ch', M', ?_, q2, q3, q4, q5⟩
  have h3 := opV_R hg hnd q1
  unfold opD
  simp only [hg]
  show opV C.E (X C.E) keep ops (llen h) o ⟨t, h, [], []⟩ = _
  rw [llen_eq]; exact h3
 ·cases e
theorem hide_len (k : Nat) : ∀ (m : List Nat) (h : Heap), (hide k m h).length = h.length
 | [], _ => rfl
 | i :: m, h => by
  show (hide k m (lset h (k + i) none)).length = _
  rw [hide_len k m, lset_eq, List.length_set]
theorem hide_get (k c : Nat) : ∀ (m : List Nat) (h : Heap), hget h c = none → hget (hide k m h) c = none
 | [], _, e => e
 | i :: m, h, e => by
  show hget (hide k m (lset h (k + i) none)) c = none
  refine hide_get k c m _ ?_
  rw [hget_eq, lset_eq, List.getElem?_set]
  split
  ·split <;> rfl
  ·rw [← hget_eq]; exact e
theorem hide_same (k : Nat) : ∀ (m : List Nat) (h : Heap), (∀ j ∈ m, hget h (k + j) = none) → hide k m h = h
 | [], _, _ => rfl
 | i :: m, h, e => by
  show hide k m (lset h (k + i) none) = h
  have : lset h (k + i) none = h := by
   rw [lset_eq]
   apply List.ext_getElem?
   intro c
   rw [List.getElem?_set]
   split
   ·rename_i q
    subst q
    have := e i (List.mem_cons_self ..)
    rw [hget_eq] at this
    split
    ·rename_i hlt
     rw [List.getElem?_eq_getElem hlt] at this ⊢
     cases hq : h[k + i] with
     | none => rfl
     | some x => rw [hq] at this; cases this
    ·rename_i hlt
     rw [List.getElem?_eq_none (by omega)]
   ·rfl
  rw [this]
  exact hide_same k m h fun j hj => e j (List.mem_cons_of_mem _ hj)
def ND {ρ : Type} (E : Env) (keep : Bool) (M : Mu) (ch : CH) (h : Heap) (t : Tm) (op : Op) (c : Nat) (k : KC ρ) (r : ρ) : Prop :=
 ∃ v ob cv ch' M', (∀ view : Heap, c ≤ view.length → hget view c = none → quietV E (X E) keep c t view op = some (v, ob)) ∧ VR M' cv v ∧ HS M' ch' (putBlk h c ob) ∧ M.le M' ∧ ch.length ≤ ch'.length ∧
  (∀ b, b < ch.length → hgetC ch' b = hgetC ch b) ∧ (∀ b d, M'.b b = some d → M.b b = some d ∨ d = c) ∧ k cv ch' = some r
theorem nd_b {M : Mu} {n c : Nat} : ∀ b d, (if b = n then some c else M.b b) = some d → M.b b = some d ∨ d = c := fun b d e => by
 split at e
 ·cases e; exact .inr rfl
 ·exact .inl e
theorem nd_arr {E : Env} {keep : Bool} {t : Tm} {op : Op} (hs : HS M ch h) {c : Nat} (hc : c ≤ h.length) (hf : ∀ b, M.b b ≠ some c) (u : Ty) (l : List u.den) {n : Nat} (hn : n = l.length)
  (hq : ∀ view : Heap, quietV E (X E) keep c t view op = some (.own c 0 0 n false, hget (hput view c (.arr 0 u.wd 0 (l.map u.enc))) c)) (e : newC ch (.arr 0 false u l) (fun b ch => k (.own b 0) ch) = some r) : ND E keep M ch h t op c k r := by
 subst hn
 have e : k (.own (llen ch) 0) (ch ++ [some (.arr 0 false u l)]) = some r := e
 rw [llen_eq] at e
 obtain ⟨hle, hs'⟩ := hs.newArrAt u l 0 hc hf
 refine ⟨.own c 0 0 l.length false, some (.arr 0 u.wd 0 (l.map u.enc)), .own ch.length 0, _, _, fun view hv _ => ?_, ?_, hs', hle, by simp, fun b hb => by rw [hgetC_app, if_neg (by omega)], nd_b, e⟩
 ·rw [hq view, hget_hput _ _ _ _ hv, if_pos rfl]
 ·show ∃ s, _ ∧ _
  exact ⟨u.wd, if_pos ⟨rfl, rfl⟩, rfl⟩
theorem allS_im : ∀ (ps : List (Nat × CV)) (ps' : List (Nat × V)), VRs M (ps.map Prod.snd) (ps'.map Prod.snd) → buildSliceC.allS ps = true → ∀ p ∈ ps', ∃ d, p.2 = .im d
 | [], ps', h2, _, p, hp => by
  cases ps' with
  | nil => cases hp
  | cons _ _ => simp only [List.map_nil, VRs] at h2; cases h2
 | q :: ps, ps', h2, e, p, hp => by
  simp only [List.map_cons, VRs] at h2
  obtain ⟨v, rest, he, q1, q2⟩ := h2
  cases ps' with
  | nil => cases he
  | cons p' ps' =>
   cases he
   have e : (match q.2 with | .sy _ _ => buildSliceC.allS ps | _ => false) = true := e
   split at e
   ·rename_i t x hq
    rw [hq] at q1
    simp only [VR] at q1
    rcases List.mem_cons.1 hp with rfl | hp
    ·exact ⟨_, q1⟩
    ·exact allS_im ps ps' q2 e p hp
   ·cases e
theorem fillD_im {sz : Nat} (h1 h2 : Heap) : ∀ (ps : List (Nat × V)) (l : List D), (∀ p ∈ ps, ∃ d, p.2 = .im d) → fillD h1 sz l ps = fillD h2 sz l ps
 | [], _, _ => rfl
 | p :: ps, l, h => by
  obtain ⟨d, hd⟩ := h p (List.mem_cons_self ..)
  show ((p.2.data h1).bind fun d => (lget l p.1).bind fun _ => bif Nat.beq d.wd sz && isPlain p.2 then fillD h1 sz (lset l p.1 d) ps else none) = ((p.2.data h2).bind fun d => (lget l p.1).bind fun _ => bif Nat.beq d.wd sz && isPlain p.2 then fillD h2 sz (lset l p.1 d) ps else none)
  rw [hd]
  show ((lget l p.1).bind fun _ => bif Nat.beq d.wd sz && isPlain (.im d) then fillD h1 sz (lset l p.1 d) ps else none) = ((lget l p.1).bind fun _ => bif Nat.beq d.wd sz && isPlain (.im d) then fillD h2 sz (lset l p.1 d) ps else none)
  rw [fillD_im h1 h2 ps (lset l p.1 d) fun q hq => h q (List.mem_cons_of_mem _ hq)]
theorem im_none : ∀ (ps : List (Nat × V)), (∀ p ∈ ps, ∃ d, p.2 = .im d) → ownsP ps = [] ∧ refsL (ps.map Prod.snd) = []
 | [], _ => ⟨rfl, rfl⟩
 | p :: ps, h => by
  obtain ⟨d, hd⟩ := h p (List.mem_cons_self ..)
  obtain ⟨r1, r2⟩ := im_none ps fun q hq => h q (List.mem_cons_of_mem _ hq)
  constructor
  ·show (match V.owns p.2 with | [] => ownsP ps | bs => bs ++ ownsP ps) = []
   rw [hd]; exact r1
  ·show (match V.refs p.2 with | [] => refsL (ps.map Prod.snd) | r => r ++ refsL (ps.map Prod.snd)) = []
   rw [hd]; exact r2
theorem new_d {tc : TC} {t : Tm} (hs : HS M ch h) (ht : TR2 M tc t) {keep : Bool} {op : Op} {c : Nat} (hc : c ≤ h.length) (hf : ∀ b, M.b b ≠ some c) (e : newDC C keep op tc ch k = some r) : ND C.E keep M ch h t op c k r := by
 unfold newDC at e
 split at e
 ·rename_i ty
  unfold allocC at e
  obtain ⟨ti, hti, e⟩ := Option.bind_eq_some_iff.1 e
  cases hb : okV ti ti.zero && not (Nat.beq ty C.E.bty.1) with
  | false => rw [hb, cond_false] at e; cases e
  | true =>
   rw [hb, cond_true] at e
   rw [Bool.and_eq_true] at hb
   have e : k (.ptr (llen ch) []) (ch ++ [some (.cell (ofV ti.zero))]) = some r := e
   rw [llen_eq] at e
   obtain ⟨hle, hs'⟩ := hs.newCellAt (ofV_rel ti.zero) hc hf
   refine ⟨.ptr c 0 [], some (.cell ti.zero), .ptr ch.length [], _, ⟨fun i => if i = ch.length then some c else M.b i, M.o⟩, fun view hv _ => ?_, (show ∃ d, (if ch.length = ch.length then some c else M.b ch.length) = some d ∧ V.ptr c 0 [] = .ptr d 0 [] from ⟨c, if_pos rfl, rfl⟩), hs', hle, by simp, fun b hb => by rw [hgetC_app, if_neg (by omega)], nd_b, e⟩
   show ((sAlloc C.E c view ty).map fun r => (r.1, hget r.2 c)) = _
   unfold sAlloc
   have : Nat.beq ty C.E.bty.1 = false := by simpa using hb.2
   rw [hti, Option.bind_some, hb.1, cond_true, this, cond_false]
   show some (V.ptr c 0 [], hget (hput view c (.cell ti.zero)) c) = _
   rw [hget_hput _ _ _ _ hv, if_pos rfl]
 ·rename_i ty x
  unfold boxC at e
  obtain ⟨ti, hti, e⟩ := Option.bind_eq_some_iff.1 e
  have hx := vC_rel ht x
  cases hb : okC ti (vC tc x) with
  | false => rw [hb, cond_false] at e; cases e
  | true =>
   rw [hb, cond_true] at e
   have e : k (.ptr (llen ch) []) (ch ++ [some (.cell (vC tc x))]) = some r := e
   rw [llen_eq] at e
   obtain ⟨hle, hs'⟩ := hs.newCellAt hx hc hf
   refine ⟨.ptr c 0 [], some (.cell (ev t x)), .ptr ch.length [], _, ⟨fun i => if i = ch.length then some c else M.b i, M.o⟩, fun view hv _ => ?_, (show ∃ d, (if ch.length = ch.length then some c else M.b ch.length) = some d ∧ V.ptr c 0 [] = .ptr d 0 [] from ⟨c, if_pos rfl, rfl⟩), hs', hle, by simp, fun b hb => by rw [hgetC_app, if_neg (by omega)], nd_b, e⟩
   show ((sBox C.E c view ty (ev t x)).map fun r => (r.1, hget r.2 c)) = _
   unfold sBox
   rw [hti, Option.bind_some, (okC_rel hx hb).1, cond_true]
   show some (V.ptr c 0 [], hget (hput view c (.cell (ev t x))) c) = _
   rw [hget_hput _ _ _ _ hv, if_pos rfl]
 ·rename_i ty n ps
  cases ha : buildSliceC.allS (evPC (vC tc) ps) with
  | false => rw [ha, cond_false] at e; cases e
  | true =>
   rw [ha, cond_true] at e
   obtain ⟨ps', hev, h1, h2⟩ := evPC_rel ht ps
   have him := allS_im _ _ h2 ha
   obtain ⟨ho, hr⟩ := im_none ps' him
   unfold buildSliceC at e
   replace e := Option.bind_eq_some_iff.1 e; obtain ⟨ti, hti, e⟩ := e
   split at e
   ·rename_i el hk
    replace e := Option.bind_eq_some_iff.1 e; obtain ⟨te, hte, e⟩ := e
    replace e := Option.bind_eq_some_iff.1 e; obtain ⟨u, hu, e⟩ := e
    replace e := Option.bind_eq_some_iff.1 e; obtain ⟨z, hz, e⟩ := e
    generalize hps : evPC (vC tc) ps = qs at e h1 h2 ha
    cases hb : (Nat.ble (n * te.size) 16777216 && Nat.ble n 16777216) && (Nat.beq u.wd te.size && (okC te (.sy u z) && (buildSliceC.isNoneN (ownsPC qs) && (not keep || buildSliceC.allS qs)))) with
    | false => rw [hb, cond_false] at e; cases e
    | true =>
     rw [hb, cond_true] at e
     rw [Bool.and_eq_true] at hb
     obtain ⟨b1, b2⟩ := hb
     simp only [Bool.and_eq_true] at b2
     obtain ⟨b2, b3, b4, b5⟩ := b2
     replace e := Option.bind_eq_some_iff.1 e; obtain ⟨l, hl, e⟩ := e
     have hsz := Nat.eq_of_beq_eq_true b2
     obtain ⟨r1, r2, r3⟩ := fillS_rel hs hsz qs ps' _ h1 h2 hl
     refine nd_arr hs hc hf u l (n := n) (by rw [r2]; simp) (fun view => ?_) e
     unfold quietV
     simp only [hev]
     show (bif noRefs (ps'.map Prod.snd) then (sBuildSlice C.E keep c view ty n ps').map fun r => (r.1, hget r.2 c) else none) = _
     unfold noRefs
     rw [hr]
     unfold sBuildSlice
     have hkeep : (keep && anyOwn ps') = false := by
      cases keep with
      | false => rfl
      | true => rw [allS_any qs ps' h2 b5]; rfl
     rw [hti, Option.bind_some]
     simp only [hk]
     rw [hte, Option.bind_some, b1, cond_true, cond_true, zero_rel hz, Option.bind_some, (okC_rel (show VR M (.sy u z) (.im (u.enc z)) from rfl) b3).1, hkeep, reps_eq, ← List.map_replicate, cond_false, fillD_im view h _ _ him, r1, ho, ← hsz]
     rfl
   ·cases e
 ·rename_i ty l cc
  unfold makeSliceC at e
  replace e := Option.bind_eq_some_iff.1 e; obtain ⟨ti, hti, e⟩ := e
  split at e
  ·rename_i el hk
   replace e := Option.bind_eq_some_iff.1 e; obtain ⟨te, hte, e⟩ := e
   replace e := Option.bind_eq_some_iff.1 e; obtain ⟨u, hu, e⟩ := e
   replace e := Option.bind_eq_some_iff.1 e; obtain ⟨z, hz, e⟩ := e
   split at e
   ·rename_i n m hvl hvm
    have hl := vC_rel ht l
    have hcc := vC_rel ht cc
    rw [hvl] at hl
    rw [hvm] at hcc
    have hl := hl.int
    have hcc := hcc.int
    cases hb : Nat.beq u.wd te.size && okC te (.sy u z) with
    | false => rw [hb, cond_false] at e; cases e
    | true =>
     rw [hb, cond_true] at e
     rw [Bool.and_eq_true] at hb
     cases hq : ile 0 n && (ile n m && ile (m * Int.ofNat te.bytes) 70368744177664) with
     | false => rw [hq, cond_false] at e; cases e
     | true =>
      rw [hq, cond_true] at e
      refine nd_arr hs hc hf u (List.replicate n.toNat z) (n := n.toNat) (by simp) (fun view => ?_) e
      show ((sMakeSlice C.E c view ty (ev t l) (ev t cc)).map fun r => (r.1, hget r.2 c)) = _
      unfold sMakeSlice
      rw [hti, Option.bind_some]
      simp only [hk]
      rw [hte, Option.bind_some, zero_rel hz, Option.bind_some, hl, hcc]
      show ((bif okV te (.im (u.enc z)) && (ile 0 n && (ile n m && ile (m * Int.ofNat te.bytes) 70368744177664)) then some (V.own c 0 0 n.toNat false, hput view c (.arr 0 te.size 0 (reps n.toNat (u.enc z)))) else none).map fun r => (r.1, hget r.2 c)) = _
      rw [hq, (okC_rel (show VR M (.sy u z) (.im (u.enc z)) from rfl) hb.2).1, ← Nat.eq_of_beq_eq_true hb.1, reps_eq, ← List.map_replicate]
      rfl
   ·cases e
  ·cases e
 ·rename_i sT dT x
  split at e
  ·rename_i j n hv
   have hx := vC_rel ht x
   rw [hv] at hx
   have hx := hx.int
   unfold convC at e
   split at e
   ·rename_i a k2 _ m hk1 hk2 hm
    cases hm
    have e : k (.sy (.int k2) (wr k2 n)) ch = some r := e
    refine ⟨.im (.int k2 (wr k2 n)), none, _, ch, M, fun view hv hn => ?_, by simp only [VR, Ty.enc], hs, .refl M, Nat.le_refl _, fun _ _ => rfl, fun b d e => .inl e, e⟩
    show ((convV C.E view c sT dT (ev t x)).map fun r => (r.1, hget r.2 c)) = _
    unfold convV
    rw [hx, hk1, hk2]
    show some (V.im (.int k2 (wr k2 n)), hget view c) = _
    rw [hn]
   ·rename_i hm; cases hm
   ·cases e
  ·cases e
 ·cases e
theorem run_d (hC : CEOk C) (hih : Good C ih) {f : Nat} {keep : Bool} {ops : Array Oper} {kk0 n0 : Nat} {M0 : Mu} {ch0 : CH} {h0 : Heap} (h00 : h0.length ≤ kk0) : ∀ (l : List Oper) {ds : List (Nat × List Nat)} {i : Nat} {tc : TC} {t : Tm} {M : Mu} {ch : CH} {h : Heap} {kk : TC → CH → Option ρ}, (∀ o ∈ l, o ∈ ops.toList) → i + news C.E l ≤ n0 → kk0 + n0 ≤ h.length →
  (∀ j, i ≤ j → j < n0 → hget h (kk0 + j) = none ∧ ∀ b, M.b b ≠ some (kk0 + j)) → Fr wb M0 ch0 h0 M ch h → HS M ch h → TR2 M tc t → runDC C ih f keep wb ops n0 l ds i tc ch kk = some r →
  ∃ tc' ch' M' t' h', runOpsD C.E (X C.E) keep ops kk0 n0 l ds i ⟨t, h, [], []⟩ = some ⟨t', h', [], []⟩ ∧ HS M' ch' h' ∧ TR2 M' tc' t' ∧ Fr wb M0 ch0 h0 M' ch' h' ∧ (∀ i, hasN (dstsOf ops.toList) i = false → tc'.get i = tc.get i) ∧ kk tc' ch' = some r
 | [], ds, i, tc, t, M, ch, h, kk, _, _, _, _, hfr, hs, ht, e => ⟨tc, ch, M, t, h, rfl, hs, ht, hfr, fun _ _ => rfl, e⟩
 | o :: l, [], i, tc, t, M, ch, h, kk, _, _, _, _, hfr, hs, ht, e => by cases e
 | o :: l, cm :: ds, i, tc, t, M, ch, h, kk, hl, hnw, hlen, hres, hfr, hs, ht, e => by
  have hput := putD_keep (hl o (List.mem_cons_self ..))
  have hl' : ∀ o ∈ l, o ∈ ops.toList := fun o ho => hl o (List.mem_cons_of_mem _ ho)
  generalize hi' : (bif isNew C.E o.op then i + 1 else i) = i' at *
  have hnw : i + ((bif isNew C.E o.op then 1 else 0) + news C.E l) ≤ n0 := hnw
  have hii : i ≤ i' ∧ i' + news C.E l ≤ n0 := by
   rw [← hi']
   cases hq : isNew C.E o.op with
   | true => rw [hq, cond_true] at hnw; rw [cond_true]; omega
   | false => rw [hq, cond_false] at hnw; rw [cond_false]; omega
  have e : guardC ops tc o.guard (fun tc => stepDC C ih f keep wb n0 i cm o.op tc ch fun v ch => runDC C ih f keep wb ops n0 l ds (bif isNew C.E o.op then i + 1 else i) (putDC tc o.dst v) ch kk) (fun tc => runDC C ih f keep wb ops n0 l ds (bif isNew C.E o.op then i + 1 else i) (putDC tc o.dst (.tup [])) ch kk) = some r := e
  rw [hi'] at e
  have hstep : runOpsD C.E (X C.E) keep ops kk0 n0 (o :: l) (cm :: ds) i ⟨t, h, [], []⟩ = (match opD C.E (X C.E) keep ops kk0 n0 i cm.1 cm.2 o ⟨t, h, [], []⟩ with
    | none => none
    | some st' => runOpsD C.E (X C.E) keep ops kk0 n0 l ds i' st') := by
   rw [← hi']; rfl
  obtain ⟨tc1, ht1, hk1, ⟨hg, e⟩ | ⟨hg, e⟩⟩ := guard_s ht e
  ·unfold stepDC at e
   cases hw : isNew C.E o.op && Nat.beq cm.1 1 with
   | true =>
    rw [hw, cond_true] at e
    rw [Bool.and_eq_true] at hw
    have hi1 : i' = i + 1 := by rw [← hi', hw.1]; rfl
    obtain ⟨hr1, hr2⟩ := hres i (Nat.le_refl _) (by omega)
    obtain ⟨v, ob, cv, ch', M', q1, q2, q3, q4, q5, q6, q7, q8⟩ := new_d hs ht1 (c := kk0 + i) (by omega) hr2 e
    have hpl : h.length ≤ (putBlk h (kk0 + i) ob).length := by
     cases ob with
     | none => exact Nat.le_refl _
     | some b => show _ ≤ (Go.As.hput h (kk0 + i) b).length; rw [hput_len]; split <;> omega
    have hpg : ∀ d, d ≠ kk0 + i → hget (putBlk h (kk0 + i) ob) d = hget h d := fun d hd => by
     cases ob with
     | none => rfl
     | some b => show hget (Go.As.hput h (kk0 + i) b) d = _; rw [hget_hput _ _ _ _ (by omega), if_neg hd]
    have hfr' : Fr wb M0 ch0 h0 M' ch' (putBlk h (kk0 + i) ob) := ⟨hfr.le.trans q4, Nat.le_trans hfr.lc q5, Nat.le_trans hfr.lh hpl, fun b hb hw => (q6 b (Nat.lt_of_lt_of_le hb hfr.lc)).trans (hfr.keep b hb hw),
     fun b d e => (q7 b d e).elim (fun e => hfr.nb b d e) fun q => .inr (by omega), fun d hd hn => (hpg d (by omega)).trans (hfr.out d hd hn)⟩
    obtain ⟨tc2, ch2, M2, t2, h2, r1, r2, r3, r4, r5, r6⟩ := run_d hC hih h00 l hl' hii.2 (Nat.le_trans hlen hpl) (fun j hj hjn => ⟨by rw [hpg _ (by omega)]; exact (hres j (by omega) hjn).1, fun b q => (q7 b _ q).elim ((hres j (by omega) hjn).2 b) (by omega)⟩) hfr' q3 (putD_rel (ht1.mono q4) q2 o.dst) q8
    refine ⟨tc2, ch2, M2, t2, h2, ?_, r2, r3, r4, fun i hi => (r5 i hi).trans ((hput tc1 cv i hi).trans (hk1 i hi)), r6⟩
    rw [hstep]
    have : opD C.E (X C.E) keep ops kk0 n0 i cm.1 cm.2 o ⟨t, h, [], []⟩ = some ⟨putDst t o.dst v, putBlk h (kk0 + i) ob, [], []⟩ := by
     unfold opD
     simp only [hg]
     rw [Nat.eq_of_beq_eq_true hw.2]
     show (bif isNew C.E o.op then (match hget h (kk0 + i) with
      | none => (quietV C.E (X C.E) keep (kk0 + i) t (hide kk0 cm.2 h) o.op).map fun (r : V × Option Blk) => (⟨putDst t o.dst r.1, putBlk h (kk0 + i) r.2, [], []⟩ : St)
      | some _ => none) else (quietV C.E (X C.E) keep (llen h) t (hide kk0 cm.2 h) o.op).bind fun (r : V × Option Blk) => (match r.2 with
       | none => some ⟨putDst t o.dst r.1, h, [], []⟩
       | some _ => none)) = _
     rw [hw.1, cond_true, hr1]
     show ((quietV C.E (X C.E) keep (kk0 + i) t (hide kk0 cm.2 h) o.op).map fun (r : V × Option Blk) => (⟨putDst t o.dst r.1, putBlk h (kk0 + i) r.2, [], []⟩ : St)) = _
     rw [q1 _ (by rw [hide_len]; omega) (hide_get _ _ _ _ hr1)]; rfl
    rw [this]
    exact r1
   | false =>
    rw [hw, cond_false] at e
    have hn1 : (loosen n0 i cm).1 = 1 → isNew C.E o.op = false := fun q => by
     have hc1 : cm.1 = 1 := by
      unfold loosen at q
      cases hb : Nat.beq cm.1 1 && allN (fun j => Nat.ble i j && Nat.blt j n0) cm.2 with
      | true => rw [Bool.and_eq_true] at hb; exact Nat.eq_of_beq_eq_true hb.1
      | false => rw [hb, cond_false] at q; exact q
     cases hq : isNew C.E o.op with
     | false => rfl
     | true => rw [hq, hc1] at hw; cases hw
    obtain ⟨v, h', cv, ch', M', q1, q2, q3, q4, q5⟩ := do_d hC hih hs ht1 e hg hn1 kk0 n0 i
    have hfr' := hfr.trans q4
    obtain ⟨tc2, ch2, M2, t2, h2, r1, r2, r3, r4, r5, r6⟩ := run_d hC hih h00 l hl' hii.2 (Nat.le_trans hlen q4.lh) (fun j hj hjn => by
     obtain ⟨a1, a2⟩ := hres j (by omega) hjn
     refine ⟨(q4.out _ (by omega) a2).trans a1, fun b q => ?_⟩
     rcases q4.nb b _ q with ⟨b0, q⟩ | q
     ·exact a2 b0 q
     ·omega) hfr' q3 (putD_rel (ht1.mono q4.le) q2 o.dst) q5
    refine ⟨tc2, ch2, M2, t2, h2, ?_, r2, r3, r4, fun i hi => (r5 i hi).trans ((hput tc1 cv i hi).trans (hk1 i hi)), r6⟩
    rw [hstep]
    have : opD C.E (X C.E) keep ops kk0 n0 i cm.1 cm.2 o ⟨t, h, [], []⟩ = opD C.E (X C.E) keep ops kk0 n0 i (loosen n0 i cm).1 (loosen n0 i cm).2 o ⟨t, h, [], []⟩ := by
     unfold loosen
     cases hb : Nat.beq cm.1 1 && allN (fun j => Nat.ble i j && Nat.blt j n0) cm.2 with
     | false => rfl
     | true =>
      rw [Bool.and_eq_true] at hb
      rw [cond_true, Nat.eq_of_beq_eq_true hb.1]
      have hh : hide kk0 cm.2 h = h := hide_same _ _ _ fun j hj => by
       have hij := allN_mem hb.2 j hj
       rw [Bool.and_eq_true] at hij
       have hij : i ≤ j ∧ j < n0 := ⟨Nat.le_of_ble_eq_true hij.1, Nat.le_of_ble_eq_true hij.2⟩
       exact (hres j hij.1 hij.2).1
      unfold opD
      simp only [hg, hh]
      rfl
    rw [this, q1]
    exact r1
  ·obtain ⟨tc2, ch2, M2, t2, h2, r1, r2, r3, r4, r5, r6⟩ := run_d hC hih h00 l hl' hii.2 hlen (fun j hj hjn => hres j (by omega) hjn) hfr hs (putD_rel ht1 (v := .tup []) (u := .im (.tup [])) (by simp only [VR]; exact ⟨[], rfl, rfl⟩) o.dst) e
   refine ⟨tc2, ch2, M2, t2, h2, ?_, r2, r3, r4, fun i hi => (r5 i hi).trans ((hput tc1 (.tup []) i hi).trans (hk1 i hi)), r6⟩
   rw [hstep]
   have : opD C.E (X C.E) keep ops kk0 n0 i cm.1 cm.2 o ⟨t, h, [], []⟩ = some ⟨putDst t o.dst (.im (.tup [])), h, [], []⟩ := by
    unfold opD
    rw [hg]
   rw [this]
   exact r1
theorem region_d (hC : CEOk C) (hih : Good C ih) {f id : Nat} {ops : Array Oper} {tc : TC} {t : Tm} {kk : TC → CH → Option ρ} (hs : HS M ch h) (ht : TR2 M tc t) (e : regionC C ih f id wb ops tc ch kk = some r) :
  ∃ tc' ch' M' t' h', regionD C.E (X C.E) f id ops ⟨t, h, [], []⟩ = some ⟨t', h', [], []⟩ ∧ HS M' ch' h' ∧ TR2 M' tc' t' ∧ Fr wb M ch h M' ch' h' ∧ (∀ i, hasN (dstsOf ops.toList) i = false → tc'.get i = tc.get i) ∧ kk tc' ch' = some r := by
 unfold regionC at e
 replace e := Option.bind_eq_some_iff.1 e; obtain ⟨ds, hds, e⟩ := e
 have hfr : Fr wb M ch h M ch (h ++ List.replicate (news C.E ops.toList) none) := ⟨.refl M, Nat.le_refl _, by simp, fun _ _ _ => rfl, nb_same, fun c hc _ => by
  rw [hget_eq, hget_eq, List.getElem?_append_left hc]⟩
 obtain ⟨tc2, ch2, M2, t2, h2, r1, r2⟩ := run_d hC hih (kk0 := h.length) (n0 := news C.E ops.toList) (Nat.le_refl _) (i := 0) ops.toList (fun _ h => h) (by omega) (by simp) (fun j _ hj => ⟨by
  rw [hget_eq, List.getElem?_append_right (by omega), List.getElem?_replicate, if_pos (by omega)]; rfl, fun b q => absurd (hs.len b _ q).2 (by omega)⟩) hfr (hs.pad _) ht e
 refine ⟨tc2, ch2, M2, t2, h2, ?_, r2⟩
 unfold regionD
 rw [hds, Option.bind_some]
 show runOpsD C.E (X C.E) (C.E.keep f) ops (llen h) (news C.E ops.toList) ops.toList ds 0 ⟨t, h ++ reps (news C.E ops.toList) none, [], []⟩ = _
 rw [llen_eq, reps_eq]; exact r1
end
end Go.As
/-
 AS: the typed evaluator is right.
-/
namespace Go.As
variable [Gh]
variable {C : CE} {ih : (ρ : Type) → Nat → Code → (Nat → Bool) → TC → CH → KX ρ → Option ρ}
theorem hasN_app : ∀ (a b : List Nat) (i : Nat), hasN (a ++ b) i = (hasN a i || hasN b i)
 | [], b, i => by simp [hasN]
 | x :: a, b, i => by
  show (bif Nat.beq x i then true else hasN (a ++ b) i) = ((bif Nat.beq x i then true else hasN a i) || hasN b i)
  rw [hasN_app a b i]
  cases Nat.beq x i <;> rfl
def LoopOk (C : CE) (ih : (ρ : Type) → Nat → Code → (Nat → Bool) → TC → CH → KX ρ → Option ρ) : Prop :=
 ∀ (ρ : Type) (f : Nat) (b : Code) (wb : Nat → Bool) (tc : TC) (ch : CH) (k : KX ρ) (r : ρ), loopC C ih f b wb tc ch k = some r → ∀ (M : Mu) (t : Tm) (h : Heap) (cur : Nat), HS M ch h → TR2 M tc t →
  PSy wb M tc ch h (writes b) (X C.E f 0 cur (.loop b) ⟨t, h, [], []⟩) k r
def JoinOk (C : CE) (ih : (ρ : Type) → Nat → Code → (Nat → Bool) → TC → CH → KX ρ → Option ρ) : Prop :=
 ∀ (ρ : Type) (H : Hint) (f : Nat) (a b : Code) (wb : Nat → Bool) (tc : TC) (ch : CH) (k : KX ρ) (r : ρ), joinC ih H f a b wb tc ch k = some r → ∀ (M : Mu) (t : Tm) (h : Heap) (cur : Nat), HS M ch h → TR2 M tc t →
  PSy wb M tc ch h (writes (.seq a b)) (X C.E f 0 cur (.seq a b) ⟨t, h, [], []⟩) k r
theorem cevalB_s (hC : CEOk C) (hih : Good C ih) (hl : LoopOk C ih) (hj : JoinOk C ih) : Good C (fun _ => cevalB C ih) := by
 intro ρ f c wb tc ch k r e M t h cur hs ht
 have plain : ∀ ex, X C.E f 0 cur c ⟨t, h, [], []⟩ = some (ex, ⟨t, h, [], []⟩) → k ex tc ch = some r → PSy wb M tc ch h (writes c) (X C.E f 0 cur c ⟨t, h, [], []⟩) k r := fun ex q1 q2 =>
  ⟨ex, tc, ch, M, t, h, q1, hs, ht, .refl .., fun _ _ => rfl, q2⟩
 cases c with
 | skip => exact plain .nm (by rw [X_eq]; rfl) e
 | label l => exact plain .nm (by rw [X_eq]; rfl) e
 | exit id => exact plain (.exit id) (by rw [X_eq]; rfl) e
 | ret => exact plain .ret (by rw [X_eq]; rfl) e
 | region id ops draw =>
  cases draw with
  | true =>
   obtain ⟨tc', ch', M', t', h', q1, q2, q3, q4, q5, q6⟩ := region_d hC hih hs ht (show regionC C ih f id wb ops tc ch (k .nm) = some r from e)
   refine ⟨.nm, tc', ch', M', t', h', ?_, q2, q3, q4, q5, q6⟩
   rw [X_eq]
   show (match regionD C.E (X C.E) f id ops ⟨t, h, [], []⟩ with
    | some st' => some (Ex.nm, st')
    | none => none) = _
   rw [q1]
  | false =>
   obtain ⟨tc', ch', M', t', h', q1, q2, q3, q4, q5, q6⟩ := run_s hC hih (ops := ops) ops.toList (fun _ h => h) hs ht (show runC C ih f (C.E.keep f) wb ops ops.toList tc ch (k .nm) = some r from e)
   refine ⟨.nm, tc', ch', M', t', h', ?_, q2, q3, q4, q5, q6⟩
   rw [X_eq]
   show (match runOps C.E (X C.E) (C.E.keep f) ops ops.toList ⟨t, h, [], []⟩ with
    | some st' => some (Ex.nm, st')
    | none => none) = _
   rw [q1]
 | seq a b =>
  replace e : (match (keyOf b).bind (C.join f) with
   | some H => joinC ih (H.at tc) f a b wb tc ch k
   | none => ih ρ f a wb tc ch (fun ex tc ch => match ex with | .nm => ih ρ f b wb tc ch k | ex => k ex tc ch)) = some r := e
  split at e
  ·exact hj ρ _ f a b wb tc ch k r e M t h cur hs ht
  obtain ⟨ex, tc1, ch1, M1, t1, h1, q1, q2, q3, q4, q5, q6⟩ := hih ρ f a wb tc ch _ r e M t h cur hs ht
  have hw : ∀ i, hasN (writes (.seq a b)) i = false → hasN (writes a) i = false ∧ hasN (writes b) i = false := fun i hi => by
   have hi : hasN (writes a ++ writes b) i = false := hi
   rw [hasN_app, Bool.or_eq_false_iff] at hi; exact hi
  have hx : X C.E f 0 cur (.seq a b) ⟨t, h, [], []⟩ = (match X C.E f 0 cur a ⟨t, h, [], []⟩ with
    | some (.nm, st') => X C.E f 0 cur b st'
    | r => r) := by rw [X_eq]; rfl
  cases ex with
  | nm =>
   obtain ⟨ex2, tc2, ch2, M2, t2, h2, r1, r2, r3, r4, r5, r6⟩ := hih ρ f b wb tc1 ch1 k r q6 M1 t1 h1 cur q2 q3
   exact ⟨ex2, tc2, ch2, M2, t2, h2, by rw [hx, q1]; exact r1, r2, r3, q4.trans r4, fun i hi => (r5 i (hw i hi).2).trans (q5 i (hw i hi).1), r6⟩
  | exit j => exact ⟨.exit j, tc1, ch1, M1, t1, h1, by rw [hx, q1], q2, q3, q4, fun i hi => q5 i (hw i hi).1, q6⟩
  | ret => exact ⟨.ret, tc1, ch1, M1, t1, h1, by rw [hx, q1], q2, q3, q4, fun i hi => q5 i (hw i hi).1, q6⟩
 | cond c a b =>
  have e : (match vC tc c with
   | .sy .bool t => bif t then ih ρ f a wb tc ch k else ih ρ f b wb tc ch k
   | _ => none) = some r := e
  have hv := vC_rel ht c
  have hx : X C.E f 0 cur (.cond c a b) ⟨t, h, [], []⟩ = (match ev t c with
   | .im (.bool q) => bif q then X C.E f 0 cur a ⟨t, h, [], []⟩ else X C.E f 0 cur b ⟨t, h, [], []⟩
   | _ => none) := by rw [X_eq]; rfl
  split at e
  ·rename_i q hq
   rw [hq] at hv
   rw [hv.bool] at hx
   cases q with
   | true =>
    obtain ⟨ex, tc1, ch1, M1, t1, h1, q1, q2, q3, q4, q5, q6⟩ := hih ρ f a wb tc ch k r e M t h cur hs ht
    exact ⟨ex, tc1, ch1, M1, t1, h1, hx.trans q1, q2, q3, q4, fun i hi => q5 i (by
     have hi : hasN (writes a ++ writes b) i = false := hi
     rw [hasN_app, Bool.or_eq_false_iff] at hi; exact hi.1), q6⟩
   | false =>
    obtain ⟨ex, tc1, ch1, M1, t1, h1, q1, q2, q3, q4, q5, q6⟩ := hih ρ f b wb tc ch k r e M t h cur hs ht
    exact ⟨ex, tc1, ch1, M1, t1, h1, hx.trans q1, q2, q3, q4, fun i hi => q5 i (by
     have hi : hasN (writes a ++ writes b) i = false := hi
     rw [hasN_app, Bool.or_eq_false_iff] at hi; exact hi.2), q6⟩
  ·cases e
 | block id b =>
  obtain ⟨ex, tc1, ch1, M1, t1, h1, q1, q2, q3, q4, q5, q6⟩ := hih ρ f b wb tc ch _ r e M t h id hs ht
  have hx : X C.E f 0 cur (.block id b) ⟨t, h, [], []⟩ = (match X C.E f 0 id b ⟨t, h, [], []⟩ with
   | some (.exit j, st') => bif Nat.beq j id then some (.nm, st') else some (.exit j, st')
   | r => r) := by rw [X_eq]; rfl
  rw [q1] at hx
  cases ex with
  | exit j =>
   have q6 : (bif Nat.beq j id then k .nm tc1 ch1 else k (.exit j) tc1 ch1) = some r := q6
   have hx : X C.E f 0 cur (.block id b) ⟨t, h, [], []⟩ = (bif Nat.beq j id then some (.nm, ⟨t1, h1, [], []⟩) else some (.exit j, ⟨t1, h1, [], []⟩)) := hx
   cases hj : Nat.beq j id with
   | true => rw [hj] at hx q6; exact ⟨.nm, tc1, ch1, M1, t1, h1, hx, q2, q3, q4, q5, q6⟩
   | false => rw [hj] at hx q6; exact ⟨.exit j, tc1, ch1, M1, t1, h1, hx, q2, q3, q4, q5, q6⟩
  | nm => exact ⟨.nm, tc1, ch1, M1, t1, h1, hx, q2, q3, q4, q5, q6⟩
  | ret => exact ⟨.ret, tc1, ch1, M1, t1, h1, hx, q2, q3, q4, q5, q6⟩
 | scope b =>
  obtain ⟨ex, tc1, ch1, M1, t1, h1, q1, q2, q3, q4, q5, q6⟩ := hih ρ f b wb tc ch k r e M t h cur hs ht
  exact ⟨ex, tc1, ch1, M1, t1, h1, by rw [X_eq]; exact q1, q2, q3, q4, q5, q6⟩
 | loop b => exact hl ρ f b wb tc ch k r e M t h cur hs ht
 | _ => cases e
end Go.As
/-
 AS: the head of a loop: what is carried from one round to the next.
-/
namespace Go.As
variable [Gh]
mutual
def Pt.srcs : Pt → CV → List (Option (Nat × Nat) × Nat)
 | .buf _ t, .own b n => [(some (b, n), t.wd)]
 | .buf _ t, _ => [(none, t.wd)]
 | .agg _ l, .agg _ vs => Pt.srcss l vs
 | _, _ => []
def Pt.srcss : List Pt → List CV → List (Option (Nat × Nat) × Nat)
 | p :: l, v :: vs => Pt.srcs p v ++ Pt.srcss l vs
 | _, _ => []
end
def Mu.at (L : Nat) (M : Mu) (src : List (Option (Nat × Nat) × Nat)) : Mu where
 b := fun i => if i < L then M.b i else match src[i - L]? with | some (some (b, _), _) => M.b b | _ => none
 o := fun i n => if i < L then M.o i n else if n = 0 then (match src[i - L]? with | some (some (b, m), _) => M.o b m | some (none, w) => some (.full [], w) | none => none) else none
def NewOk (ch : CH) (s : Option (Nat × Nat) × Nat) (x : Option CB) : Prop :=
 ∃ c t l, x = some (.arr 0 c t l) ∧ s.2 = t.wd ∧ match s.1 with | some (b, m) => ∃ c', hgetC ch b = some (.arr m c' t l) ∧ (c = false → c' = false) | none => l = []
section
variable {M : Mu} {ch : CH} {h : Heap} {L : Nat} {src : List (Option (Nat × Nat) × Nat)}
theorem bufC_s {c : Bool} {t : Ty} {v : CV} {x : List t.den} (e : bufC ch c t v = some x) : (v = .nsl ∧ x = []) ∨ ∃ b n c', v = .own b n ∧ hgetC ch b = some (.arr n c' t x) ∧ (c = false → c' = false) := by
 unfold bufC at e
 split at e
 ·cases e; exact .inl ⟨rfl, rfl⟩
 ·rename_i b n
  split at e
  ·rename_i n' c' u l hb
   cases hq : Nat.beq n n' && (c || not c') with
   | false => rw [hq, cond_false] at e; cases e
   | true =>
    rw [hq, cond_true] at e
    rw [Bool.and_eq_true] at hq
    obtain ⟨he, he2⟩ := cs_rel e
    cases he
    have he2 : x = l := he2
    subst he2
    have := Nat.eq_of_beq_eq_true hq.1
    subst this
    exact .inr ⟨b, n, c', rfl, hb, fun hc => by subst hc; simpa using hq.2⟩
  ·cases e
 ·cases e
mutual
theorem mk_rel : ∀ (p : Pt) (v : CV) {x : p.ty.den} {u : V} {n : Nat}, Pt.get ch p v = some x → VR M v u → L ≤ n → (∀ (j : Nat) (s : Option (Nat × Nat) × Nat), (Pt.srcs p v)[j]? = some s → src[n - L + j]? = some s) →
  VR (M.at L src) (Pt.mk p x n).1 u ∧ (Pt.mk p x n).2 = n + (Pt.srcs p v).length ∧ isU (Pt.mk p x n).1 = false ∧ (Pt.news p x).length = (Pt.srcs p v).length ∧ (∀ (j : Nat) (s : Option (Nat × Nat) × Nat), (Pt.srcs p v)[j]? = some s → ∃ y, (Pt.news p x)[j]? = some y ∧ NewOk ch s y)
 | .val t, v, x, u, n, e, hv, hn, hs => by
  cases v with
  | sy w y =>
   have e : Ty.cs w t y = some x := e
   obtain ⟨rfl, he, _⟩ := cs_enc e
   simp only [VR] at hv
   subst hv
   exact ⟨by simp only [Pt.mk, VR]; rw [he], rfl, rfl, rfl, fun j s q => by simp [Pt.srcs] at q⟩
  | _ => cases e
 | .buf c t, v, x, u, n, e, hv, hn, hs => by
  have e : bufC ch c t v = some x := by cases v <;> exact e
  rcases bufC_s e with ⟨rfl, rfl⟩ | ⟨b, m, c', rfl, hb, hc⟩
  ·simp only [VR] at hv
   subst hv
   have h0 := hs 0 (none, t.wd) rfl
   rw [Nat.add_zero] at h0
   refine ⟨?_, rfl, rfl, rfl, fun j s q => ?_⟩
   ·show ∃ s, (M.at L src).o n 0 = some (V.full [], s) ∧ isSl (.full []) = true
    refine ⟨t.wd, ?_, rfl⟩
    show (if n < L then M.o n 0 else if 0 = 0 then _ else none) = _
    rw [if_neg (by omega), if_pos rfl, h0]
   ·cases j with
    | zero => cases q; exact ⟨_, rfl, c, t, [], rfl, rfl, rfl⟩
    | succ j => simp [Pt.srcs] at q
  ·simp only [VR] at hv
   obtain ⟨s0, hv, hsl⟩ := hv
   have h0 := hs 0 (some (b, m), t.wd) rfl
   rw [Nat.add_zero] at h0
   refine ⟨?_, rfl, rfl, rfl, fun j s q => ?_⟩
   ·show ∃ s, (M.at L src).o n 0 = some (u, s) ∧ isSl u = true
    refine ⟨s0, ?_, hsl⟩
    show (if n < L then M.o n 0 else if 0 = 0 then _ else none) = _
    rw [if_neg (by omega), if_pos rfl, h0]
    exact hv
   ·cases j with
    | zero => cases q; exact ⟨_, rfl, c, t, x, rfl, rfl, c', hb, hc⟩
    | succ j => simp [Pt.srcs] at q
 | .agg w l, v, x, u, n, e, hv, hn, hs => by
  cases v with
  | agg w' vs =>
   have e2 : (bif Nat.beq w w' then Pt.gets ch l vs else none) = some x := e
   cases hw : Nat.beq w w' with
   | false => rw [hw, cond_false] at e2; cases e2
   | true =>
    rw [hw, cond_true] at e2
    have := Nat.eq_of_beq_eq_true hw
    subst this
    simp only [VR] at hv
    obtain ⟨us, rfl, hv, _⟩ := hv
    obtain ⟨h1, h2, h3, h4, h5⟩ := mks_rel l vs e2 hv hn hs
    exact ⟨by simp only [Pt.mk, VR]; exact ⟨us, rfl, h1, h3⟩, h2, rfl, h4, h5⟩
  | _ => cases e
theorem mks_rel : ∀ (l : List Pt) (vs : List CV) {x : (Pt.tys l).den} {us : List V} {n : Nat}, Pt.gets ch l vs = some x → VRs M vs us → L ≤ n → (∀ (j : Nat) (s : Option (Nat × Nat) × Nat), (Pt.srcss l vs)[j]? = some s → src[n - L + j]? = some s) →
  VRs (M.at L src) (Pt.mks l x n).1 us ∧ (Pt.mks l x n).2 = n + (Pt.srcss l vs).length ∧ noU (Pt.mks l x n).1 = true ∧ (Pt.newss l x).length = (Pt.srcss l vs).length ∧ (∀ (j : Nat) (s : Option (Nat × Nat) × Nat), (Pt.srcss l vs)[j]? = some s → ∃ y, (Pt.newss l x)[j]? = some y ∧ NewOk ch s y)
 | [], vs, x, us, n, e, hv, hn, hs => by
  cases vs with
  | nil => exact ⟨hv, rfl, rfl, rfl, fun j s q => by simp [Pt.srcss] at q⟩
  | cons _ _ => cases e
 | p :: l, vs, x, us, n, e, hv, hn, hs => by
  cases vs with
  | nil => cases e
  | cons v vs =>
   have e : (match Pt.get ch p v, Pt.gets ch l vs with
    | some x, some y => some (x, y)
    | _, _ => none) = some x := e
   split at e
   ·rename_i y z e1 e2
    cases e
    simp only [VRs] at hv
    obtain ⟨u, us, rfl, hv1, hv2⟩ := hv
    obtain ⟨h1, h2, h3, h4, h5⟩ := mk_rel p v e1 hv1 hn fun j s q => hs j s (by
     show (Pt.srcs p v ++ Pt.srcss l vs)[j]? = some s
     rw [List.getElem?_append_left (List.getElem?_eq_some_iff.1 q).1]; exact q)
    obtain ⟨g1, g2, g3, g4, g5⟩ := mks_rel l vs (n := (Pt.mk p y n).2) e2 hv2 (by omega) fun j s q => by
     have := hs ((Pt.srcs p v).length + j) s (by
      show (Pt.srcs p v ++ Pt.srcss l vs)[(Pt.srcs p v).length + j]? = some s
      rw [List.getElem?_append_right (by omega)]; simpa using q)
     rw [h2]
     rw [show n + (Pt.srcs p v).length - L + j = n - L + ((Pt.srcs p v).length + j) by omega]
     exact this
    refine ⟨?_, ?_, ?_, ?_, fun j s q => ?_⟩
    ·simp only [Pt.mks, VRs]; exact ⟨u, us, rfl, h1, g1⟩
    ·show (Pt.mks l z (Pt.mk p y n).2).2 = n + (Pt.srcs p v ++ Pt.srcss l vs).length
     rw [g2, h2, List.length_append]; omega
    ·show noU ((Pt.mk p y n).1 :: (Pt.mks l z (Pt.mk p y n).2).1) = true
     simp only [noU, List.all_cons, h3, Bool.not_false, Bool.true_and]
     exact g3
    ·show (Pt.news p y ++ Pt.newss l z).length = (Pt.srcs p v ++ Pt.srcss l vs).length
     rw [List.length_append, List.length_append, h4, g4]
    ·have q : (Pt.srcs p v ++ Pt.srcss l vs)[j]? = some s := q
     show ∃ y', (Pt.news p y ++ Pt.newss l z)[j]? = some y' ∧ NewOk ch s y'
     by_cases hj : j < (Pt.srcs p v).length
     ·rw [List.getElem?_append_left hj] at q
      rw [List.getElem?_append_left (by omega)]
      exact h5 j s q
     ·rw [List.getElem?_append_right (by omega)] at q
      rw [List.getElem?_append_right (by omega), h4]
      exact g5 _ s q
   ·cases e
end
mutual
theorem ids_srcs : ∀ (p : Pt) (v : CV) {x : p.ty.den}, Pt.get ch p v = some x → Pt.ids p v = (Pt.srcs p v).filterMap (fun s => s.1.map Prod.fst)
 | .val t, v, x, e => by cases v <;> simp [Pt.ids, Pt.srcs]
 | .buf c t, v, x, e => by
  have e : bufC ch c t v = some x := by cases v <;> exact e
  rcases bufC_s e with ⟨rfl, rfl⟩ | ⟨b, m, c', rfl, hb, hc⟩
  ·simp [Pt.ids, Pt.srcs]
  ·simp [Pt.ids, Pt.srcs]
 | .agg w l, v, x, e => by
  cases v with
  | agg w' vs =>
   have e : (bif Nat.beq w w' then Pt.gets ch l vs else none) = some x := e
   cases hw : Nat.beq w w' with
   | false => rw [hw, cond_false] at e; cases e
   | true =>
    rw [hw, cond_true] at e
    simp only [Pt.ids, Pt.srcs]
    exact idss_srcs l vs e
  | _ => cases e
theorem idss_srcs : ∀ (l : List Pt) (vs : List CV) {x : (Pt.tys l).den}, Pt.gets ch l vs = some x → Pt.idss l vs = (Pt.srcss l vs).filterMap (fun s => s.1.map Prod.fst)
 | [], vs, x, e => by cases vs <;> simp [Pt.idss, Pt.srcss]
 | p :: l, vs, x, e => by
  cases vs with
  | nil => cases e
  | cons v vs =>
   have e : (match Pt.get ch p v, Pt.gets ch l vs with
    | some x, some y => some (x, y)
    | _, _ => none) = some x := e
   split at e
   ·rename_i y z e1 e2
    simp only [Pt.idss, Pt.srcss, List.filterMap_append, ids_srcs p v e1, idss_srcs l vs e2]
   ·cases e
end
theorem hgetC_none (ch : CH) (b i : Nat) : hgetC (lset ch b none) i = if i = b then none else hgetC ch i := by
 unfold hgetC
 rw [lget_eq, lget_eq, lset_eq]
 by_cases he : i = b
 ·subst he
  rw [if_pos rfl]
  by_cases hl : i < ch.length
  ·rw [List.getElem?_set_self hl]
  ·rw [List.getElem?_eq_none (by simp; omega)]
 ·rw [if_neg he, List.getElem?_set_ne (fun q => he q.symm)]
theorem noneC_get : ∀ (l : List Nat) (ch : CH) (i : Nat), (noneC l ch).length = ch.length ∧ hgetC (noneC l ch) i = if i ∈ l then none else hgetC ch i
 | [], ch, i => ⟨rfl, by simp; rfl⟩
 | b :: l, ch, i => by
  show (noneC l (lset ch b none)).length = _ ∧ hgetC (noneC l (lset ch b none)) i = _
  obtain ⟨h1, h2⟩ := noneC_get l (lset ch b none) i
  refine ⟨h1.trans (by rw [lset_eq, List.length_set]), ?_⟩
  rw [h2, hgetC_none]
  by_cases hb : i = b
  ·subst hb; simp
  ·by_cases hl : i ∈ l <;> simp [hb, hl]
theorem putCells_get : ∀ (l : List (Nat × Pt)) (vs : List CV) (ch : CH) (i : Nat), (∀ p ∈ l, p.1 < ch.length) → l.length = vs.length → (putCellsC l vs ch).length = ch.length ∧
  ((i ∉ fsts l ∧ hgetC (putCellsC l vs ch) i = hgetC ch i) ∨ ∃ (k : Nat) (p : Nat × Pt) (v : CV), l[k]? = some p ∧ p.1 = i ∧ vs[k]? = some v ∧ hgetC (putCellsC l vs ch) i = some (.cell v))
 | [], vs, ch, i, _, _ => ⟨rfl, .inl ⟨by simp [fsts], rfl⟩⟩
 | p :: l, [], ch, i, _, hl => by cases hl
 | p :: l, v :: vs, ch, i, hp, hl => by
  show (putCellsC l vs (hputC ch p.1 (.cell v))).length = _ ∧ ((i ∉ fsts (p :: l) ∧ hgetC (putCellsC l vs (hputC ch p.1 (.cell v))) i = _) ∨ ∃ k q w, _ ∧ _ ∧ _ ∧ hgetC (putCellsC l vs (hputC ch p.1 (.cell v))) i = _)
  have hpl := hp p (List.mem_cons_self ..)
  obtain ⟨h1, h2⟩ := putCells_get l vs (hputC ch p.1 (.cell v)) i (fun q hq => by rw [hputC_length]; exact hp q (List.mem_cons_of_mem _ hq)) (by simpa using hl)
  refine ⟨h1.trans (hputC_length ..), ?_⟩
  rcases h2 with ⟨h2, h3⟩ | ⟨k, q, w, a1, a2, a3, a4⟩
  ·by_cases hi : i = p.1
   ·refine .inr ⟨0, p, v, rfl, hi.symm, rfl, ?_⟩
    rw [h3, hgetC_put _ _ _ _ hpl, if_pos hi]
   ·refine .inl ⟨?_, ?_⟩
    ·rw [fsts_eq] at h2 ⊢
     simp only [List.map_cons, List.mem_cons, not_or]
     exact ⟨hi, h2⟩
    ·rw [h3, hgetC_put _ _ _ _ hpl, if_neg hi]
  ·exact .inr ⟨k + 1, q, w, a1, a2, a3, a4⟩
theorem putArrs_get {ch2 : CH} : ∀ (l : List (Nat × Ty)) (vs : List (Nat × Bool)) {x : (tysA l).den} (ch : CH) (i : Nat), (∀ p ∈ l, p.1 < ch.length) → arrsC ch2 l vs = some x → (putArrs l vs x ch).length = ch.length ∧
  ((i ∉ fsts l ∧ hgetC (putArrs l vs x ch) i = hgetC ch i) ∨ (i ∈ fsts l ∧ (∃ n c t l, hgetC ch2 i = some (.arr n c t l)) ∧ hgetC (putArrs l vs x ch) i = hgetC ch2 i))
 | [], vs, x, ch, i, _, _ => ⟨rfl, .inl ⟨by simp [fsts], rfl⟩⟩
 | p :: l, [], x, ch, i, _, e => by cases e
 | p :: l, (v, c) :: vs, x, ch, i, hp, e => by
  have e : (match hgetC ch2 p.1 with
   | some (.arr v' c' u x) => bif Nat.beq v v' && (bif c then c' else not c') then (match Ty.cs (.slc u) (.slc p.2) x, arrsC ch2 l vs with
    | some x, some y => some (x, y)
    | _, _ => none) else none
   | _ => none) = some x := e
  split at e
  ·rename_i v' c' u x0 hb
   cases hq : Nat.beq v v' && (bif c then c' else not c') with
   | false => rw [hq, cond_false] at e; cases e
   | true =>
    rw [hq, cond_true] at e
    split at e
    ·rename_i y z e1 e2
     cases e
     rw [Bool.and_eq_true] at hq
     have := Nat.eq_of_beq_eq_true hq.1
     subst this
     have hcc : c' = c := by cases c <;> cases c' <;> first | rfl | cases hq.2
     subst hcc
     obtain ⟨he, he2⟩ := cs_rel e1
     cases he
     have he2 : y = x0 := he2
     subst he2
     have hpl := hp p (List.mem_cons_self ..)
     obtain ⟨h1, h2⟩ := putArrs_get l vs (x := z) (hputC ch p.1 (.arr v c' p.2 y)) i (fun q hq => by rw [hputC_length]; exact hp q (List.mem_cons_of_mem _ hq)) e2
     show (putArrs l vs z (hputC ch p.1 (.arr v c' p.2 y))).length = _ ∧ ((i ∉ fsts (p :: l) ∧ hgetC (putArrs l vs z (hputC ch p.1 (.arr v c' p.2 y))) i = _) ∨ (i ∈ fsts (p :: l) ∧ _ ∧ hgetC (putArrs l vs z (hputC ch p.1 (.arr v c' p.2 y))) i = _))
     refine ⟨h1.trans (hputC_length ..), ?_⟩
     rcases h2 with ⟨h2, h3⟩ | ⟨h2, h3, h4⟩
     ·by_cases hi : i = p.1
      ·subst hi
       refine .inr ⟨by simp [fsts_eq], ⟨_, _, _, _, hb⟩, ?_⟩
       rw [h3, hgetC_put _ _ _ _ hpl, if_pos rfl, hb]
      ·refine .inl ⟨?_, ?_⟩
       ·rw [fsts_eq] at h2 ⊢
        simp only [List.map_cons, List.mem_cons, not_or]
        exact ⟨hi, h2⟩
       ·rw [h3, hgetC_put _ _ _ _ hpl, if_neg hi]
     ·exact .inr ⟨by rw [fsts_eq] at h2 ⊢; exact List.mem_cons_of_mem _ h2, h3, h4⟩
    ·cases e
  ·cases e
end
end Go.As
/-
 AS: loops of the typed evaluator.
-/
namespace Go.As
variable [Gh]
theorem TC.get_set_self : ∀ (t : TC) (i : Nat) (x : CV), (t.set i x).get i = x ∨ ((t.set i x).get i = .undef ∧ t.get i = .undef)
 | .e, i, x => .inr ⟨rfl, rfl⟩
 | .n v l r, i, x => by
  rw [TC.set_n]
  by_cases hi : i = 0
  ·rw [if_pos hi, TC.get_n, if_pos hi]; exact .inl rfl
  ·rw [if_neg hi]
   by_cases hm : i % 2 = 1
   ·rw [if_pos hm, TC.get_n, TC.get_n, if_neg hi, if_pos hm, if_neg hi, if_pos hm]; exact TC.get_set_self l _ x
   ·rw [if_neg hm, TC.get_n, TC.get_n, if_neg hi, if_neg hm, if_neg hi, if_neg hm]; exact TC.get_set_self r _ x
theorem like_set : ∀ (t t' : TC) (i : Nat) (x : CV), TC.like t (t'.set i x) = TC.like t t'
 | .e, .e, i, x => rfl
 | .n _ _ _, .e, i, x => rfl
 | t, .n v l r, i, x => by
  rw [TC.set_n]
  cases t with
  | e => split <;> first | rfl | (split <;> rfl)
  | n v0 l0 r0 =>
   split
   ·rfl
   ·split
    ·show (TC.like l0 (l.set (i / 2) x) && TC.like r0 r) = _
     rw [like_set l0 l]; rfl
    ·show (TC.like l0 l && TC.like r0 (r.set (i / 2 - 1) x)) = _
     rw [like_set r0 r]; rfl
theorem like_refl : ∀ t : TC, TC.like t t = true
 | .e => rfl
 | .n v l r => by show (TC.like l l && TC.like r r) = true; rw [like_refl l, like_refl r]; rfl
theorem like_trans : ∀ {a b c : TC}, TC.like a b = true → TC.like a c = true → TC.like b c = true
 | .e, .e, .e, _, _ => rfl
 | .n _ l r, .n _ l' r', .n _ l2 r2, h1, h2 => by
  have h1 : (TC.like l l' && TC.like r r') = true := h1
  have h2 : (TC.like l l2 && TC.like r r2) = true := h2
  rw [Bool.and_eq_true] at h1 h2
  show (TC.like l' l2 && TC.like r' r2) = true
  rw [like_trans h1.1 h2.1, like_trans h1.2 h2.2]; rfl
 | .e, .n _ _ _, _, h, _ => by cases h
 | .e, .e, .n _ _ _, _, h => by cases h
 | .n _ _ _, .e, _, h, _ => by cases h
 | .n _ _ _, .n _ _ _, .e, _, h => by cases h
theorem undefs_get : ∀ (l : List Nat) (t : TC) (i : Nat), (undefs l t).get i = if i ∈ l then .undef else t.get i
 | [], t, i => by simp; rfl
 | a :: l, t, i => by
  show (undefs l (t.set a .undef)).get i = _
  rw [undefs_get l]
  by_cases hl : i ∈ l
  ·simp [hl]
  ·by_cases ha : i = a
   ·subst ha
    rcases TC.get_set_self t i .undef with h | ⟨h, _⟩ <;> simp [hl, h]
   ·rw [TC.get_set_ne _ _ _ _ (fun q => ha q.symm)]; simp [hl, ha]
theorem undefs_like (t0 : TC) : ∀ (l : List Nat) (t : TC), TC.like t0 (undefs l t) = TC.like t0 t
 | [], t => rfl
 | a :: l, t => (undefs_like t0 l (t.set a .undef)).trans (like_set ..)
theorem putsC_get : ∀ (l : List (Nat × Pt)) (vs : List CV) (t : TC) (i : Nat), l.length = vs.length →
  ((i ∉ fsts l ∧ (putsC l vs t).get i = t.get i) ∨ ∃ (k : Nat) (p : Nat × Pt) (v : CV), l[k]? = some p ∧ p.1 = i ∧ vs[k]? = some v ∧ ((putsC l vs t).get i = v ∨ (putsC l vs t).get i = .undef))
 | [], vs, t, i, _ => .inl ⟨by simp [fsts], rfl⟩
 | p :: l, [], t, i, h => by cases h
 | p :: l, v :: vs, t, i, h => by
  show ((i ∉ fsts (p :: l) ∧ (putsC l vs (t.set p.1 v)).get i = t.get i) ∨ ∃ (k : Nat) (q : Nat × Pt) (w : CV), _ ∧ _ ∧ _ ∧ ((putsC l vs (t.set p.1 v)).get i = w ∨ (putsC l vs (t.set p.1 v)).get i = .undef))
  rcases putsC_get l vs (t.set p.1 v) i (by simpa using h) with ⟨h1, h2⟩ | ⟨k, q, w, a1, a2, a3, a4⟩
  ·by_cases hi : i = p.1
   ·subst hi
    refine .inr ⟨0, p, v, rfl, rfl, rfl, ?_⟩
    rw [h2]
    exact (TC.get_set_self t p.1 v).imp id (fun q => q.1)
   ·refine .inl ⟨?_, ?_⟩
    ·rw [fsts_eq] at h1 ⊢
     simp only [List.map_cons, List.mem_cons, not_or]
     exact ⟨hi, h1⟩
    ·rw [h2, TC.get_set_ne _ _ _ _ (fun q => hi q.symm)]
  ·exact .inr ⟨k + 1, q, w, a1, a2, a3, a4⟩
theorem putsC_like (t0 : TC) : ∀ (l : List (Nat × Pt)) (vs : List CV) (t : TC), TC.like t0 (putsC l vs t) = TC.like t0 t
 | [], vs, t => rfl
 | p :: l, [], t => rfl
 | p :: l, v :: vs, t => (putsC_like t0 l vs (t.set p.1 v)).trans (like_set ..)
theorem TR2.of_get {M N : Mu} : ∀ {a b : TC} {t : Tm}, TR2 M a t → TC.like a b = true → (∀ i, VR N (b.get i) (t.get i)) → TR2 N b t
 | .e, .e, .e, _, _, _ => trivial
 | .n _ l r, .n v' l' r', .n u lu ru, h, hl, hg => by
  have hl : (TC.like l l' && TC.like r r') = true := hl
  rw [Bool.and_eq_true] at hl
  refine ⟨?_, TR2.of_get h.2.1 hl.1 fun i => ?_, TR2.of_get h.2.2 hl.2 fun i => ?_⟩
  ·have := hg 0
   rwa [TC.get_n, Tm.get_n', if_pos rfl, if_pos rfl] at this
  ·have := hg (2 * i + 1)
   have e1 : (2 * i + 1) / 2 = i := by omega
   have e2 : (2 * i + 1) % 2 = 1 := by omega
   have e3 : ¬ (2 * i + 1 = 0) := by omega
   rw [TC.get_n, Tm.get_n', if_neg e3, if_neg e3, if_pos e2, if_pos e2, e1] at this
   exact this
  ·have := hg (2 * i + 2)
   have e1 : (2 * i + 2) / 2 - 1 = i := by omega
   have e2 : ¬ ((2 * i + 2) % 2 = 1) := by omega
   have e3 : ¬ (2 * i + 2 = 0) := by omega
   rw [TC.get_n, Tm.get_n', if_neg e3, if_neg e3, if_neg e2, if_neg e2, e1] at this
   exact this
 | .e, .n _ _ _, _, _, h, _ => by cases h
 | .n _ _ _, .e, _, _, h, _ => by cases h
theorem cellsC_rel {M : Mu} {ch : CH} {h : Heap} (hs : HS M ch h) : ∀ {l : List (Nat × Pt)} {ws : List CV}, cellsC ch l = some ws → l.length = ws.length ∧ ∃ us, VRs M ws us ∧
  ∀ (k : Nat) (p : Nat × Pt), l[k]? = some p → ∃ w u c, ws[k]? = some w ∧ us[k]? = some u ∧ hgetC ch p.1 = some (.cell w) ∧ M.b p.1 = some c ∧ hget h c = some (.cell u)
 | [], ws, e => by cases e; exact ⟨rfl, [], rfl, fun k p q => by simp at q⟩
 | p :: l, ws, e => by
  have e : (match hgetC ch p.1 with | some (.cell v) => Option.rec none (fun vs => some (v :: vs)) (cellsC ch l) | _ => none : Option (List CV)) = some ws := e
  split at e
  ·rename_i v hb
   cases hl : cellsC ch l with
   | none => rw [hl] at e; cases e
   | some vs =>
    rw [hl] at e; cases e
    obtain ⟨h1, us, h2, h3⟩ := cellsC_rel hs hl
    obtain ⟨c, u, q1, q2, q3⟩ := hs.cell _ _ hb
    refine ⟨by simp [h1], u :: us, ⟨u, us, rfl, q3, h2⟩, fun k p' hk => ?_⟩
    cases k with
    | zero => simp at hk; subst hk; exact ⟨v, u, c, rfl, rfl, hb, q1, q2⟩
    | succ k => simpa using h3 k p' (by simpa using hk)
  ·cases e
theorem slots_rel {M : Mu} {tc : TC} {t : Tm} (ht : TR2 M tc t) : ∀ (l : List (Nat × Pt)), ∃ us, VRs M (List.rec [] (fun p _ ih => tc.get p.1 :: ih) l : List CV) us ∧ us = l.map fun p => t.get p.1
 | [] => ⟨[], rfl, rfl⟩
 | p :: l => by
  obtain ⟨us, h1, h2⟩ := slots_rel ht l
  exact ⟨t.get p.1 :: us, ⟨_, _, rfl, ht.get p.1, h1⟩, by rw [h2]; rfl⟩
theorem gets_len {ch : CH} : ∀ {l : List Pt} {vs : List CV} {x : (Pt.tys l).den}, Pt.gets ch l vs = some x → l.length = vs.length
 | [], [], _, _ => rfl
 | [], _ :: _, _, e => by cases e
 | _ :: _, [], _, e => by cases e
 | p :: l, v :: vs, x, e => by
  have e : (match Pt.get ch p v, Pt.gets ch l vs with
   | some x, some y => some (x, y)
   | _, _ => none) = some x := e
  split at e
  ·rename_i y z e1 e2
   simp [gets_len e2]
  ·cases e
theorem pts_len (l : List (Nat × Pt)) : (pts l).length = l.length := by
 induction l with
 | nil => rfl
 | cons p l ih => show (p.2 :: pts l).length = _; simp [ih]
theorem mks_len : ∀ (l : List Pt) (x : (Pt.tys l).den) (n : Nat), (Pt.mks l x n).1.length = l.length
 | [], _, _ => rfl
 | p :: l, x, n => by
  show ((Pt.mk p x.1 n).1 :: (Pt.mks l x.2 (Pt.mk p x.1 n).2).1).length = _
  simp [mks_len l]
theorem VRs.at' {M : Mu} : ∀ {l : List CV} {us : List V}, VRs M l us → ∀ {i : Nat} {v : CV} {u : V}, l[i]? = some v → us[i]? = some u → VR M v u := fun h i v u h1 h2 => by
 obtain ⟨u', q1, q2⟩ := h.get h1
 rw [q1] at h2
 cases h2
 exact q2
noncomputable def slotsC (tc : TC) (l : List (Nat × Pt)) : List CV := List.rec [] (fun p _ ih => tc.get p.1 :: ih) l
theorem slotsC_len (tc : TC) (l : List (Nat × Pt)) : (slotsC tc l).length = l.length := by
 induction l with
 | nil => rfl
 | cons p l ih => show (tc.get p.1 :: slotsC tc l).length = _; simp [ih]
theorem hget_some {H : Hint} {vs : List (Nat × Bool)} {tc : TC} {ch : CH} {s : H.ty.den} (e : H.get vs tc ch = some s) :
  Pt.gets ch (pts H.slots) (slotsC tc H.slots) = some s.1 ∧ (∃ l, cellsC ch H.cells = some l ∧ Pt.gets ch (pts H.cells) l = some s.2.1) ∧ arrsC ch H.arrs vs = some s.2.2 := by
 have e : (match Pt.gets ch (pts H.slots) (slotsC tc H.slots), (cellsC ch H.cells).bind (Pt.gets ch (pts H.cells)), arrsC ch H.arrs vs with
  | some x, some y, some z => some (x, (y, z))
  | _, _, _ => none : Option H.ty.den) = some s := e
 split at e
 ·rename_i x y z e1 e2 e3
  cases e
  exact ⟨e1, Option.bind_eq_some_iff.1 e2, e3⟩
 ·cases e
theorem arrsC_lt {ch : CH} : ∀ {l : List (Nat × Ty)} {vs : List (Nat × Bool)} {x : (tysA l).den}, arrsC ch l vs = some x → ∀ p ∈ l, p.1 < ch.length
 | [], _, _, _, p, hp => by cases hp
 | q :: l, [], _, e, _, _ => by cases e
 | q :: l, (v, c) :: vs, x, e, p, hp => by
  have e : (match hgetC ch q.1 with
   | some (.arr v' c' u x) => bif Nat.beq v v' && (bif c then c' else not c') then (match Ty.cs (.slc u) (.slc q.2) x, arrsC ch l vs with
    | some x, some y => some (x, y)
    | _, _ => none) else none
   | _ => none) = some x := e
  split at e
  ·rename_i v' c' u x0 hb
   cases hq : Nat.beq v v' && (bif c then c' else not c') with
   | false => rw [hq, cond_false] at e; cases e
   | true =>
    rw [hq, cond_true] at e
    split at e
    ·rename_i y z e1 e2
     rcases List.mem_cons.1 hp with rfl | hp
     ·exact hgetC_lt hb
     ·exact arrsC_lt e2 p hp
    ·cases e
  ·cases e
theorem hgetC_appL (ch l : CH) (b : Nat) : hgetC (ch ++ l) b = if b < ch.length then hgetC ch b else hgetC l (b - ch.length) := by
 unfold hgetC
 rw [lget_eq, lget_eq, lget_eq]
 by_cases hb : b < ch.length
 ·rw [List.getElem?_append_left hb, if_pos hb]
 ·rw [List.getElem?_append_right (by omega), if_neg hb]
theorem filterMap_inj {α : Type} {f : α → Option Nat} : ∀ {l : List α} {i j : Nat} {x y : α} {o : Nat}, (l.filterMap f).Nodup → l[i]? = some x → l[j]? = some y → f x = some o → f y = some o → i = j
 | [], i, j, x, y, o, _, h, _, _, _ => by simp at h
 | a :: l, i, j, x, y, o, hn, hi, hj, hx, hy => by
  have htl : (l.filterMap f).Nodup := by
   rw [List.filterMap_cons] at hn
   split at hn
   ·exact hn
   ·exact (List.nodup_cons.1 hn).2
  have hne : ∀ (k : Nat) (z : α), l[k]? = some z → f z = some o → f a = some o → False := fun k z hz hfz hfa => by
   rw [List.filterMap_cons, hfa] at hn
   exact (List.nodup_cons.1 hn).1 (List.mem_filterMap.2 ⟨z, List.mem_of_getElem? hz, hfz⟩)
  cases i with
  | zero =>
   cases j with
   | zero => rfl
   | succ j => simp at hi hj; subst hi; exact (hne j y hj hy hx).elim
  | succ i =>
   cases j with
   | zero => simp at hi hj; subst hj; exact (hne i x hi hx hy).elim
   | succ j => simp at hi hj; rw [filterMap_inj htl hi hj hx hy]
theorem refill {H : Hint} {ws ids : List Nat} {vs : List (Nat × Bool)} {M0 M' : Mu} {tc tc2 : TC} {t0 t' : Tm} {ch ch2 : CH} {h0 h' : Heap} {s : H.ty.den}
  (hs0 : HS M0 ch h0) (ht0 : TR2 M0 tc t0) (hs : HS M' ch2 h') (ht : TR2 M' tc2 t') (hle : M0.le M') (hlike : TC.like tc2 tc = true)
  (hcl : ∀ p ∈ H.cells, p.1 < ch.length) (hal : ∀ p ∈ H.arrs, p.1 < ch.length)
  (hkeep : ∀ b, b < ch.length → b ∉ ids → b ∉ fsts H.cells → b ∉ fsts H.arrs → hgetC ch2 b = hgetC ch b)
  (hslot : ∀ i, i ∉ ws → tc2.get i = tc.get i)
  (hnd : (H.ids tc2 ch2).Nodup) (hid : ∀ b ∈ H.ids tc2 ch2, ch.length ≤ b ∨ b ∈ ids) (hd1 : ∀ b ∈ ids, b ∉ fsts H.cells) (hd2 : ∀ b ∈ ids, b ∉ fsts H.arrs)
  (hg : H.get vs tc2 ch2 = some s) :
  ∃ M'', M0.le M'' ∧ HS M'' (H.fill ws ids vs tc ch s).2 h' ∧ TR2 M'' (H.fill ws ids vs tc ch s).1 t' ∧ ch.length ≤ (H.fill ws ids vs tc ch s).2.length ∧
   (∀ b, b < ch.length → b ∉ ids → b ∉ fsts H.cells → b ∉ fsts H.arrs → hgetC (H.fill ws ids vs tc ch s).2 b = hgetC ch b) ∧
   (∀ i, i ∉ ws → i ∉ fsts H.slots → (H.fill ws ids vs tc ch s).1.get i = tc.get i) ∧ (∀ b c, M''.b b = some c → ∃ b0, M'.b b0 = some c) := by
 obtain ⟨g1, ⟨cw, g2, g3⟩, g4⟩ := hget_some hg
 obtain ⟨us, hus, hus2⟩ := slots_rel ht H.slots
 obtain ⟨hcwl, uc, huc, huc2⟩ := cellsC_rel hs g2
 have hus : VRs M' (slotsC tc2 H.slots) us := hus
 generalize hS1 : Pt.srcss (pts H.slots) (slotsC tc2 H.slots) = S1
 generalize hS2 : Pt.srcss (pts H.cells) cw = S2
 have m1 := mks_rel (L := ch.length) (src := S1 ++ S2) (n := llen ch) _ _ g1 hus (by rw [llen_eq]; exact Nat.le_refl _) (fun j q hj => by
  rw [hS1] at hj
  have hjl := (List.getElem?_eq_some_iff.1 hj).1
  rw [llen_eq, Nat.sub_self, Nat.zero_add, List.getElem?_append_left hjl]; exact hj)
 rw [hS1] at m1
 obtain ⟨a1, a2, a3, a4, a5⟩ := m1
 have m2 := mks_rel (L := ch.length) (src := S1 ++ S2) (n := (Pt.mks (pts H.slots) s.1 (llen ch)).2) _ _ g3 huc (by rw [a2, llen_eq]; exact Nat.le_add_right ..) (fun j q hj => by
  rw [hS2] at hj
  rw [a2, llen_eq, List.getElem?_append_right (by omega), show ch.length + S1.length - ch.length + j - S1.length = j by omega]; exact hj)
 rw [hS2] at m2
 obtain ⟨b1, b2, b3, b4, b5⟩ := m2
 generalize hds : (Pt.mks (pts H.cells) s.2.1 (Pt.mks (pts H.slots) s.1 (llen ch)).2).1 = ds at b1 b3
 generalize hcs : (Pt.mks (pts H.slots) s.1 (llen ch)).1 = cs at a1 a3
 have hdsl : ds.length = H.cells.length := by rw [← hds, mks_len, pts_len]
 have hcsl : cs.length = H.slots.length := by rw [← hcs, mks_len, pts_len]
 have f1 : (H.fill ws ids vs tc ch s).1 = putsC H.slots cs (undefs ws tc) := by rw [← hcs]; rfl
 have f2 : (H.fill ws ids vs tc ch s).2 = putArrs H.arrs vs s.2.2 (putCellsC H.cells ds (noneC ids ch)) ++ (Pt.newss (pts H.slots) s.1 ++ Pt.newss (pts H.cells) s.2.1) := by rw [← hds]; rfl
 rw [f1, f2]
 generalize hnw : Pt.newss (pts H.slots) s.1 ++ Pt.newss (pts H.cells) s.2.1 = nw
 have hnwl : nw.length = S1.length + S2.length := by rw [← hnw, List.length_append, a4, b4]
 have hnwok : ∀ (j : Nat) (q : Option (Nat × Nat) × Nat), (S1 ++ S2)[j]? = some q → ∃ y, nw[j]? = some y ∧ NewOk ch2 q y := fun j q hj => by
  rw [← hnw]
  by_cases hjl : j < S1.length
  ·rw [List.getElem?_append_left hjl] at hj
   rw [List.getElem?_append_left (by omega)]; exact a5 j q hj
  ·rw [List.getElem?_append_right (by omega)] at hj
   rw [List.getElem?_append_right (by omega), a4]; exact b5 _ q hj
 have hids : H.ids tc2 ch2 = (S1 ++ S2).filterMap (fun s => s.1.map Prod.fst) := by
  have : H.ids tc2 ch2 = Pt.idss (pts H.slots) (slotsC tc2 H.slots) ++ (match cellsC ch2 H.cells with | some l => Pt.idss (pts H.cells) l | none => []) := rfl
  rw [this, g2, idss_srcs _ _ g1]
  show _ ++ Pt.idss (pts H.cells) cw = _
  rw [idss_srcs _ _ g3, List.filterMap_append, hS1, hS2]
 rw [hids] at hnd hid
 generalize hsrc : S1 ++ S2 = src at a1 b1 hnwok hids hnd hid
 have hsl : src.length = S1.length + S2.length := by rw [← hsrc, List.length_append]
 generalize hcb : putArrs H.arrs vs s.2.2 (putCellsC H.cells ds (noneC ids ch)) = cb
 have hnl : (noneC ids ch).length = ch.length := (noneC_get ids ch 0).1
 have hpl : (putCellsC H.cells ds (noneC ids ch)).length = ch.length := (putCells_get H.cells ds (noneC ids ch) 0 (by rw [hnl]; exact hcl) hdsl.symm).1.trans hnl
 have hcbl : cb.length = ch.length := by rw [← hcb]; exact (putArrs_get H.arrs vs _ 0 (by rw [hpl]; exact hal) g4).1.trans hpl
 have hP : ∀ b, ((∃ n c t l, hgetC ch2 b = some (.arr n c t l)) ∧ b ∈ fsts H.arrs ∧ hgetC cb b = hgetC ch2 b) ∨ (∃ (k : Nat) (q : Nat × Pt) (v : CV), H.cells[k]? = some q ∧ q.1 = b ∧ ds[k]? = some v ∧ hgetC cb b = some (.cell v)) ∨ (b ∈ ids ∧ hgetC cb b = none) ∨
   (b ∉ ids ∧ b ∉ fsts H.cells ∧ b ∉ fsts H.arrs ∧ hgetC cb b = hgetC ch b) := fun b => by
  rw [← hcb]
  rcases (putArrs_get H.arrs vs (putCellsC H.cells ds (noneC ids ch)) b (by rw [hpl]; exact hal) g4).2 with ⟨q1, q2⟩ | ⟨q1, q2, q3⟩
  ·rcases (putCells_get H.cells ds (noneC ids ch) b (by rw [hnl]; exact hcl) hdsl.symm).2 with ⟨r1, r2⟩ | ⟨k, q, v, r1, r2, r3, r4⟩
   ·by_cases hb : b ∈ ids
    ·refine .inr (.inr (.inl ⟨hb, ?_⟩))
     rw [q2, r2, (noneC_get ids ch b).2, if_pos hb]
    ·refine .inr (.inr (.inr ⟨hb, r1, q1, ?_⟩))
     rw [q2, r2, (noneC_get ids ch b).2, if_neg hb]
   ·exact .inr (.inl ⟨k, q, v, r1, r2, r3, q2.trans r4⟩)
  ·exact .inl ⟨q2, q1, q3⟩
 have hD : ∀ b, b < ch.length → (b ∉ ids ∧ b ∉ fsts H.cells ∧ b ∉ fsts H.arrs ∧ hgetC cb b = hgetC ch b) → hgetC cb b = hgetC ch2 b := fun b hb q => q.2.2.2.trans (hkeep b hb q.1 q.2.1 q.2.2.1).symm
 have hle2 : M0.le (M'.at ch.length src) := ⟨fun i c e => by
  show (if i < ch.length then M'.b i else _) = _
  rw [if_pos (hs0.len _ _ e).1]; exact hle.b _ _ e, fun i n x e => by
  show (if i < ch.length then M'.o i n else _) = _
  rw [if_pos (hs0.leno _ _ _ e)]; exact hle.o _ _ _ e⟩
 have hbL : ∀ b, b < ch.length → (M'.at ch.length src).b b = M'.b b := fun b hb => if_pos hb
 have hoL : ∀ b n, b < ch.length → (M'.at ch.length src).o b n = M'.o b n := fun b n hb => if_pos hb
 have hbN : ∀ b, ¬ b < ch.length → (M'.at ch.length src).b b = match src[b - ch.length]? with | some (some (b, _), _) => M'.b b | _ => none := fun b hb => if_neg hb
 have hoN : ∀ b, ¬ b < ch.length → (M'.at ch.length src).o b 0 = match src[b - ch.length]? with | some (some (b, m), _) => M'.o b m | some (none, w) => some (.full [], w) | none => none := fun b hb => (if_neg hb).trans (if_pos rfl)
 have hoN2 : ∀ b n, ¬ b < ch.length → n ≠ 0 → (M'.at ch.length src).o b n = none := fun b n hb hn => (if_neg hb).trans (if_neg hn)
 have hgL : ∀ b, b < ch.length → hgetC (cb ++ nw) b = hgetC cb b := fun b hb => by rw [hgetC_appL, hcbl, if_pos hb]
 have hgN : ∀ b x, ¬ b < ch.length → hgetC (cb ++ nw) b = some x → ∃ q, src[b - ch.length]? = some q ∧ NewOk ch2 q (some x) := fun b x hb e => by
  rw [hgetC_appL, hcbl, if_neg hb] at e
  unfold hgetC at e
  rw [lget_eq] at e
  split at e
  ·rename_i y hy
   have hyl := (List.getElem?_eq_some_iff.1 hy).1
   have hq : src[b - ch.length]? = some (src[b - ch.length]'(by omega)) := List.getElem?_eq_getElem (by omega)
   refine ⟨_, hq, ?_⟩
   obtain ⟨z, z1, z2⟩ := hnwok _ _ hq
   rw [hy] at z1
   cases z1
   rw [← e]; exact z2
  ·cases e
 have HF : HS (M'.at ch.length src) (cb ++ nw) h' := by
  have hor : ∀ b c, hgetC (cb ++ nw) b ≠ none → (M'.at ch.length src).b b = some c → ∃ o, hgetC ch2 o ≠ none ∧ M'.b o = some c ∧
    ((b < ch.length ∧ o = b ∧ (b ∉ ids ∨ b ∈ fsts H.cells ∨ b ∈ fsts H.arrs)) ∨ (¬ b < ch.length ∧ ∃ m w, src[b - ch.length]? = some (some (o, m), w))) := fun b c e1 e2 => by
   by_cases hb : b < ch.length
   ·rw [hbL b hb] at e2
    rw [hgL b hb] at e1
    rcases hP b with ⟨⟨n, c', t, l, w1⟩, w3, w2⟩ | ⟨k, q, v, w1, w2, w3, w4⟩ | w | w
    ·exact ⟨b, by rw [w1]; simp, e2, .inl ⟨hb, rfl, .inr (.inr w3)⟩⟩
    ·obtain ⟨w', u', c', v1, v2, v3, v4, v5⟩ := huc2 k q w1
     rw [w2] at v3
     exact ⟨b, by rw [v3]; simp, e2, .inl ⟨hb, rfl, .inr (.inl (by rw [fsts_eq, ← w2]; exact List.mem_map.2 ⟨q, List.mem_of_getElem? w1, rfl⟩))⟩⟩
    ·exact absurd w.2 e1
    ·exact ⟨b, by rw [← hD b hb w]; exact e1, e2, .inl ⟨hb, rfl, .inl w.1⟩⟩
   ·rw [hbN b hb] at e2
    split at e2
    ·rename_i o m w hq
     obtain ⟨x, hx⟩ := Option.ne_none_iff_exists'.1 e1
     obtain ⟨q, hq2, hok⟩ := hgN b x hb hx
     rw [hq] at hq2; cases hq2
     obtain ⟨c0, t, l, _, _, c', z, _⟩ := hok
     exact ⟨o, by rw [z]; simp, e2, .inr ⟨hb, m, w, hq⟩⟩
    ·cases e2
  refine ⟨fun b cv e => ?_, fun b n cl t l e => ?_, fun b b' c e1 e2 q1 q2 => ?_, fun b n cl t l e m hm => ?_, fun b c e => ?_, fun b n x e => ?_⟩
  ·by_cases hb : b < ch.length
   ·rw [hgL b hb] at e
    rw [hbL b hb]
    rcases hP b with ⟨⟨n, c', t, l, w1⟩, w3, w2⟩ | ⟨k, q, v, w1, w2, w3, w4⟩ | w | w
    ·rw [w2, w1] at e; cases e
    ·rw [w4] at e; cases e
     obtain ⟨w', u', c', v1, v2, v3, v4, v5⟩ := huc2 k q w1
     rw [w2] at v4
     exact ⟨c', u', v4, v5, b1.at' w3 v2⟩
    ·rw [w.2] at e; cases e
    ·have e0 := w.2.2.2 ▸ e
     obtain ⟨c0, v0, p1, p2, p3⟩ := hs0.cell b cv e0
     obtain ⟨c', v', r1, r2, r3⟩ := hs.cell b cv (hD b hb w ▸ e)
     exact ⟨c', v', r1, r2, (VR.back hle _ _ _ p3 r3).mono hle2 _ _⟩
   ·obtain ⟨q, hq, c0, t, l, z, _⟩ := hgN b _ hb e
    cases z
  ·by_cases hb : b < ch.length
   ·rw [hgL b hb] at e
    rw [hbL b hb, hoL b n hb]
    rcases hP b with ⟨_, w3, w2⟩ | ⟨k, q, v, w1, w2, w3, w4⟩ | w | w
    ·exact hs.arr b n cl t l (w2 ▸ e)
    ·rw [w4] at e; cases e
    ·rw [w.2] at e; cases e
    ·exact hs.arr b n cl t l (hD b hb w ▸ e)
   ·obtain ⟨q, hq, c0, t', l', z, hw, hok⟩ := hgN b _ hb e
    cases z
    rw [hoN b hb, hbN b hb]
    rcases q with ⟨_ | ⟨o, m⟩, w⟩
    ·have hok : l = [] := hok
     have hw : w = t.wd := hw
     subst hok
     rw [hq]
     exact ⟨_, by rw [hw], .inl ⟨rfl, rfl, rfl⟩⟩
    ·obtain ⟨c', z, hc⟩ := hok
     rw [hq]
     obtain ⟨u, v1, v2⟩ := hs.arr o m c' t l z
     exact ⟨u, v1, v2.imp id fun ⟨c, g, ro, x1, x2, x3, x4, x5⟩ => ⟨c, g, ro, x1, x2, x3, fun hcl => x4 (hc hcl), x5⟩⟩
  ·obtain ⟨o, p1, p2, p3⟩ := hor b c e1 q1
   obtain ⟨o', p1', p2', p3'⟩ := hor b' c e2 q2
   have ho := hs.inj o o' c p1 p1' p2 p2'
   subst ho
   have mid : ∀ i m w, src[i]? = some (some (o, m), w) → o ∈ src.filterMap (fun s => s.1.map Prod.fst) := fun i m w hi => List.mem_filterMap.2 ⟨_, List.mem_of_getElem? hi, rfl⟩
   have mix : ∀ d, d < ch.length → o = d → (d ∉ ids ∨ d ∈ fsts H.cells ∨ d ∈ fsts H.arrs) → ∀ i m w, src[i]? = some (some (o, m), w) → False := fun d hd hod hx i m w hi => by
    subst hod
    rcases hid o (mid i m w hi) with hh | hh
    ·omega
    ·rcases hx with hx | hx | hx
     ·exact hx hh
     ·exact hd1 o hh hx
     ·exact hd2 o hh hx
   rcases p3 with ⟨hb, ho, hx⟩ | ⟨hb, m, w, hi⟩
   ·rcases p3' with ⟨hb', ho', _⟩ | ⟨hb', m', w', hi'⟩
    ·exact ho.symm.trans ho'
    ·exact (mix b hb ho hx _ _ _ hi').elim
   ·rcases p3' with ⟨hb', ho', hx'⟩ | ⟨hb', m', w', hi'⟩
    ·exact (mix b' hb' ho' hx' _ _ _ hi).elim
    ·have := filterMap_inj hnd hi hi' rfl rfl
     omega
  ·by_cases hb : b < ch.length
   ·rw [hgL b hb] at e
    rw [hoL b m hb]
    rcases hP b with ⟨_, w3, w2⟩ | ⟨k, q, v, w1, w2, w3, w4⟩ | w | w
    ·exact hs.new b n cl t l (w2 ▸ e) m hm
    ·rw [w4] at e; cases e
    ·rw [w.2] at e; cases e
    ·exact hs.new b n cl t l (hD b hb w ▸ e) m hm
   ·exact hoN2 b m hb (by omega)
  ·rw [List.length_append, hcbl, hnwl]
   by_cases hb : b < ch.length
   ·rw [hbL b hb] at e
    exact ⟨by omega, (hs.len b c e).2⟩
   ·rw [hbN b hb] at e
    split at e
    ·rename_i o m w hq
     have := (List.getElem?_eq_some_iff.1 hq).1
     exact ⟨by omega, (hs.len _ c e).2⟩
    ·cases e
  ·rw [List.length_append, hcbl, hnwl]
   by_cases hb : b < ch.length
   ·omega
   ·by_cases hn : n = 0
    ·subst hn
     rw [hoN b hb] at e
     by_cases hq : b - ch.length < src.length
     ·omega
     ·rw [List.getElem?_eq_none (by omega)] at e; cases e
    ·rw [hoN2 b n hb hn] at e; cases e
 refine ⟨M'.at ch.length src, hle2, HF, ?_, by rw [List.length_append, hcbl]; exact Nat.le_add_right .., fun b hb q1 q2 q3 => ?_, fun i hi hj => ?_, fun b c e => ?_⟩
 ·refine ht.of_get (by rw [putsC_like, undefs_like]; exact hlike) fun i => ?_
  rcases putsC_get H.slots cs (undefs ws tc) i hcsl.symm with ⟨q1, q2⟩ | ⟨k, q, v, q1, q2, q3, q4⟩
  ·rw [q2, undefs_get]
   by_cases hi : i ∈ ws
   ·rw [if_pos hi]; trivial
   ·rw [if_neg hi]
    have w := ht.get i
    rw [hslot i hi] at w
    exact (VR.back hle _ _ _ (ht0.get i) w).mono hle2 _ _
  ·rcases q4 with q4 | q4
   ·rw [q4]
    refine a1.at' q3 (?_ : us[k]? = _)
    rw [hus2, List.getElem?_map, q1, ← q2]; rfl
   ·rw [q4]; trivial
 ·rw [hgL b hb]
  rcases hP b with ⟨⟨n, c, t, l, w1⟩, w3, w2⟩ | ⟨k, q, v, w1, w2, w3, w4⟩ | w | w
  ·exact absurd w3 q3
  ·exact absurd (by rw [fsts_eq, ← w2]; exact List.mem_map.2 ⟨q, List.mem_of_getElem? w1, rfl⟩) q2
  ·exact absurd w.1 q1
  ·exact w.2.2.2
 ·rcases putsC_get H.slots cs (undefs ws tc) i hcsl.symm with ⟨q1, q2⟩ | ⟨k, q, v, q1, q2, q3, q4⟩
  ·rw [q2, undefs_get, if_neg hi]
  ·exact absurd (by rw [fsts_eq, ← q2]; exact List.mem_map.2 ⟨q, List.mem_of_getElem? q1, rfl⟩) hj
 ·by_cases hb : b < ch.length
  ·rw [hbL b hb] at e
   exact ⟨b, e⟩
  ·rw [hbN b hb] at e
   split at e
   ·exact ⟨_, e⟩
   ·cases e
end Go.As
/-
 AS: the typed evaluator is right.
-/
namespace Go.As
abbrev anyGh : Gh := ⟨fun _ _ _ => True⟩
theorem ilt_d (x y : Int) : ilt x y = decide (x < y) := @ilt_eq anyGh x y
theorem ile_d (x y : Int) : ile x y = decide (x ≤ y) := @ile_eq anyGh x y
theorem ieq_d (x y : Int) : ieq x y = decide (x = y) := @ieq_eq anyGh x y
theorem wr_d (k : IntKind) (n : Int) : wr k n = k.wrap n := @wr_eq anyGh k n
theorem wr_i64 {n : Int} (h1 : -9223372036854775808 ≤ n) (h2 : n < 9223372036854775808) : wr .i64 n = n := by
 rw [wr_d]
 unfold IntKind.wrap
 simp only [IntKind.bits, IntKind.signed]
 simp
 omega
theorem loopO_some {σ ρ : Type} {step : σ → Option (σ ⊕ ρ)} {s : σ} {r : ρ} (e : loopO step s = some r) : ∃ n, loopN step n s = some r := by
 unfold loopO at e
 split at e
 ·rename_i h
  cases e
  exact ⟨_, h.choose_spec.choose_spec⟩
 ·cases e
theorem loopN_succ {σ ρ : Type} (step : σ → Option (σ ⊕ ρ)) (n : Nat) (s : σ) : loopN step (n + 1) s = match step s with
  | none => none
  | some (.inl s') => loopN step n s'
  | some (.inr r) => some r := rfl
theorem loopN_mono {σ ρ : Type} {step : σ → Option (σ ⊕ ρ)} : ∀ {n : Nat} {s : σ} {r : ρ}, loopN step n s = some r → ∀ m, n ≤ m → loopN step m s = some r
 | 0, _, _, e, _, _ => by cases e
 | n + 1, s, r, e, 0, h => by omega
 | n + 1, s, r, e, m + 1, h => by
  rw [loopN_succ] at e ⊢
  split at e
  ·cases e
  ·exact loopN_mono e m (by omega)
  ·exact e
theorem loopO_of {σ ρ : Type} {step : σ → Option (σ ⊕ ρ)} {s : σ} {r : ρ} {n : Nat} (e : loopN step n s = some r) : loopO step s = some r := by
 unfold loopO
 have h : ∃ n r, loopN step n s = some r := ⟨n, r, e⟩
 rw [dif_pos h]
 have h2 := h.choose_spec.choose_spec
 have a := loopN_mono e (max n h.choose) (Nat.le_max_left ..)
 have b := loopN_mono h2 (max n h.choose) (Nat.le_max_right ..)
 rw [a] at b
 exact b.symm
theorem loopO_next {σ ρ : Type} {step : σ → Option (σ ⊕ ρ)} {s s' : σ} (e : step s = some (.inl s')) : loopO step s = loopO step s' := by
 cases h : loopO step s' with
 | some r =>
  obtain ⟨n, hn⟩ := loopO_some h
  exact loopO_of (n := n + 1) (by rw [loopN_succ, e]; exact hn)
 | none =>
  cases h2 : loopO step s with
  | none => rfl
  | some r =>
   obtain ⟨n, hn⟩ := loopO_some h2
   cases n with
   | zero => cases hn
   | succ n =>
    rw [loopN_succ, e] at hn
    rw [loopO_of hn] at h
    cases h
theorem loopO_out {σ ρ : Type} {step : σ → Option (σ ⊕ ρ)} {s : σ} {r : ρ} (e : step s = some (.inr r)) : loopO step s = some r :=
 loopO_of (n := 1) (by rw [loopN_succ, e])
theorem loopO_inv {σ ρ : Type} {step : σ → Option (σ ⊕ ρ)} (I : σ → Prop) (m : σ → Nat) (Q : ρ → Prop)
  (h : ∀ s, I s → (∃ s', step s = some (.inl s') ∧ I s' ∧ m s' < m s) ∨ ∃ r, step s = some (.inr r) ∧ Q r) : ∀ s, I s → ∃ r, loopO step s = some r ∧ Q r := by
 have : ∀ n s, m s < n → I s → ∃ r, loopO step s = some r ∧ Q r := by
  intro n
  induction n with
  | zero => intro s hs; omega
  | succ n ih =>
   intro s hs hi
   rcases h s hi with ⟨s', e, hi', hm⟩ | ⟨r, e, hq⟩
   ·rw [loopO_next e]; exact ih s' (by omega) hi'
   ·exact ⟨r, loopO_out e, hq⟩
 intro s hi
 exact this (m s + 1) s (Nat.lt_succ_self _) hi
section
variable [Gh]
variable {C : CE} {ih : (ρ : Type) → Nat → Code → (Nat → Bool) → TC → CH → KX ρ → Option ρ}
theorem loop_s (hih : Good C ih) : LoopOk C ih := by
 intro ρ f b wb tc ch k r e M t h cur hs ht
 unfold loopC at e
 replace e := Option.bind_eq_some_iff.1 e; obtain ⟨key, _, e⟩ := e
 cases hu : C.unr f key with
 | true =>
  rw [hu, cond_true] at e
  obtain ⟨ex, tc1, ch1, M1, t1, h1, q1, q2, q3, q4, q5, q6⟩ := hih ρ f b wb tc ch _ r e M t h cur hs ht
  have hx : X C.E f 0 cur (.loop b) ⟨t, h, [], []⟩ = (match X C.E f 0 cur b ⟨t, h, [], []⟩ with
   | some (.nm, st') => X C.E f 0 cur (.loop b) st'
   | r => r) := by rw [X_eq]; rfl
  cases ex with
  | nm =>
   obtain ⟨ex2, tc2, ch2, M2, t2, h2, r1, r2, r3, r4, r5, r6⟩ := hih ρ f (.loop b) wb tc1 ch1 k r q6 M1 t1 h1 cur q2 q3
   exact ⟨ex2, tc2, ch2, M2, t2, h2, by rw [hx, q1]; exact r1, r2, r3, q4.trans r4, fun i hi => (r5 i hi).trans (q5 i hi), r6⟩
  | exit j => exact ⟨.exit j, tc1, ch1, M1, t1, h1, by rw [hx, q1], q2, q3, q4, q5, q6⟩
  | ret => exact ⟨.ret, tc1, ch1, M1, t1, h1, by rw [hx, q1], q2, q3, q4, q5, q6⟩
 | false =>
 rw [hu, cond_false] at e
 replace e := Option.bind_eq_some_iff.1 e; obtain ⟨H, _, e⟩ := e
 replace e := Option.bind_eq_some_iff.1 e; obtain ⟨vs, hvs, e⟩ := e
 cases hc : allN wb (H.ids tc ch) && (allN wb (fsts H.cells) && (allN wb (fsts H.arrs) && ((nodupN (H.ids tc ch ++ (fsts H.cells ++ fsts H.arrs)) && nodupN (fsts H.slots)) && allN (fun i => hasN (writes b) i) (fsts H.slots)))) with
 | false => rw [hc, cond_false] at e; cases e
 | true =>
 rw [hc, cond_true] at e
 simp only [Bool.and_eq_true] at hc
 obtain ⟨c1, c2, c3, ⟨c4, _⟩, c5⟩ := hc
 replace e := Option.bind_eq_some_iff.1 e; obtain ⟨s0, hs0, e⟩ := e
 obtain ⟨n, hn⟩ := loopO_some e
 have nd := nodupN_iff c4
 have nd1 := List.nodup_append.1 nd
 have hd1 : ∀ i ∈ H.ids tc ch, i ∉ fsts H.cells := fun i hi hj => nd1.2.2 i hi i (List.mem_append.2 (.inl hj)) rfl
 have hd2 : ∀ i ∈ H.ids tc ch, i ∉ fsts H.arrs := fun i hi hj => nd1.2.2 i hi i (List.mem_append.2 (.inr hj)) rfl
 obtain ⟨_, ⟨cw, hcw, _⟩, har⟩ := hget_some hs0
 have hcl : ∀ p ∈ H.cells, p.1 < ch.length := fun p hp => by
  obtain ⟨_, us, _, q⟩ := cellsC_rel hs hcw
  obtain ⟨i, hi⟩ := List.getElem?_of_mem hp
  obtain ⟨w, u, c, _, _, q3, _⟩ := q i p hi
  exact hgetC_lt q3
 have hal := arrsC_lt har
 obtain ⟨MH, i1, i2, i3, i4, i5, i6, i7⟩ := refill (ws := writes b) (ids := H.ids tc ch) hs ht hs ht (.refl M) (like_refl tc) hcl hal (fun _ _ _ _ _ => rfl) (fun _ _ => rfl) nd1.1 (fun _ h => .inr h) hd1 hd2 hs0
 have main : ∀ n s MH t' h', loopN (fun s => match H.fill (writes b) (H.ids tc ch) vs tc ch s with
    | (tc1, ch1) => ih (H.ty.den ⊕ ρ) f b (fun i => Nat.ble (llen ch) i || (hasN (fsts H.cells) i || hasN (fsts H.arrs) i)) tc1 ch1 (fun ex tc2 ch2 => match ex with
     | .nm => bif TC.like tc tc2 && (nodupN (H.ids tc2 ch2) && allN (fun b => Nat.ble (llen ch) b) (H.ids tc2 ch2)) then (H.get vs tc2 ch2).map Sum.inl else none
     | ex => (k ex tc2 ch2).map Sum.inr)) n s = some r → M.le MH → HS MH (H.fill (writes b) (H.ids tc ch) vs tc ch s).2 h' → TR2 MH (H.fill (writes b) (H.ids tc ch) vs tc ch s).1 t' →
   h.length ≤ h'.length → ch.length ≤ (H.fill (writes b) (H.ids tc ch) vs tc ch s).2.length →
   (∀ i, i < ch.length → i ∉ H.ids tc ch → i ∉ fsts H.cells → i ∉ fsts H.arrs → hgetC (H.fill (writes b) (H.ids tc ch) vs tc ch s).2 i = hgetC ch i) →
   (∀ i, i ∉ writes b → i ∉ fsts H.slots → (H.fill (writes b) (H.ids tc ch) vs tc ch s).1.get i = tc.get i) →
   (∀ b c, MH.b b = some c → (∃ b0, M.b b0 = some c) ∨ h.length ≤ c) → (∀ c, c < h.length → (∀ b, M.b b ≠ some c) → hget h' c = hget h c) →
   PSy wb M tc ch h (writes b) (X C.E f 0 cur (.loop b) ⟨t', h', [], []⟩) k r := by
  intro n
  induction n with
  | zero => intro s MH t' h' hn; cases hn
  | succ n IH =>
   intro s MH t' h' hn j1 j2 j3 j4 j5 j6 j7 j8 j9
   rw [loopN_succ] at hn
   generalize hF : H.fill (writes b) (H.ids tc ch) vs tc ch s = F at hn j2 j3 j5 j6 j7
   obtain ⟨tc1, ch1⟩ := F
   cases hy : ih (H.ty.den ⊕ ρ) f b (fun i => Nat.ble (llen ch) i || (hasN (fsts H.cells) i || hasN (fsts H.arrs) i)) tc1 ch1 (fun ex tc2 ch2 => match ex with
     | .nm => bif TC.like tc tc2 && (nodupN (H.ids tc2 ch2) && allN (fun b => Nat.ble (llen ch) b) (H.ids tc2 ch2)) then (H.get vs tc2 ch2).map Sum.inl else none
     | ex => (k ex tc2 ch2).map Sum.inr) with
   | none =>
    simp only [hy] at hn
    cases hn
   | some y =>
    simp only [hy] at hn
    obtain ⟨ex, tc2, ch2, M2, t2, h2, q1, q2, q3, q4, q5, q6⟩ := hih _ f b _ tc1 ch1 _ y hy MH t' h' cur j2 j3
    have hx : X C.E f 0 cur (.loop b) ⟨t', h', [], []⟩ = (match X C.E f 0 cur b ⟨t', h', [], []⟩ with
     | some (.nm, st') => X C.E f 0 cur (.loop b) st'
     | r => r) := by rw [X_eq]; rfl
    rw [q1] at hx
    have hkeep : ∀ i, i < ch.length → i ∉ H.ids tc ch → i ∉ fsts H.cells → i ∉ fsts H.arrs → hgetC ch2 i = hgetC ch i := fun i hi a1 a2 a3 => by
     rw [q4.keep i (Nat.lt_of_lt_of_le hi j5) (by
      rw [Bool.or_eq_false_iff, Bool.or_eq_false_iff, llen_eq]
      refine ⟨?_, ?_, ?_⟩
      ·rw [← Bool.not_eq_true, Nat.ble_eq]; omega
      ·rw [← Bool.not_eq_true, hasN_ofmem]; exact a2
      ·rw [← Bool.not_eq_true, hasN_ofmem]; exact a3)]
     exact j6 i hi a1 a2 a3
    have hslot : ∀ i, hasN (writes b) i = false → tc2.get i = tc.get i := fun i hi => by
     rw [q5 i hi]
     exact j7 i (fun hm => by rw [hasN_ofmem.2 hm] at hi; cases hi) (fun hm => by have := allN_mem c5 i hm; rw [hi] at this; cases this)
    have hnb : ∀ i c, M2.b i = some c → (∃ b0, M.b b0 = some c) ∨ h.length ≤ c := fun i c e => (q4.nb i c e).elim (fun ⟨j, ej⟩ => j8 j c ej) fun q => .inr (Nat.le_trans j4 q)
    have hout : ∀ c, c < h.length → (∀ b, M.b b ≠ some c) → hget h2 c = hget h c := fun c hc hn => (q4.out c (Nat.lt_of_lt_of_le hc j4) fun i e => (j8 i c e).elim (fun ⟨j, ej⟩ => hn j ej) fun q => absurd hc (Nat.not_lt.2 q)).trans (j9 c hc hn)
    have out : k ex tc2 ch2 = some r → X C.E f 0 cur (.loop b) ⟨t', h', [], []⟩ = some (ex, ⟨t2, h2, [], []⟩) → PSy wb M tc ch h (writes b) (X C.E f 0 cur (.loop b) ⟨t', h', [], []⟩) k r := fun a1 a2 =>
     ⟨ex, tc2, ch2, M2, t2, h2, a2, q2, q3, ⟨j1.trans q4.le, Nat.le_trans j5 q4.lc, Nat.le_trans j4 q4.lh, fun i hi hw => hkeep i hi
      (fun hm => by rw [allN_mem c1 i hm] at hw; cases hw) (fun hm => by rw [allN_mem c2 i hm] at hw; cases hw) (fun hm => by rw [allN_mem c3 i hm] at hw; cases hw), hnb, hout⟩, hslot, a1⟩
    have other : (k ex tc2 ch2).map Sum.inr = some y → X C.E f 0 cur (.loop b) ⟨t', h', [], []⟩ = some (ex, ⟨t2, h2, [], []⟩) → PSy wb M tc ch h (writes b) (X C.E f 0 cur (.loop b) ⟨t', h', [], []⟩) k r := fun a1 a2 => by
     cases hk : k ex tc2 ch2 with
     | none => rw [hk] at a1; cases a1
     | some r' =>
      rw [hk] at a1
      cases a1
      cases hn
      exact out hk a2
    cases ex with
    | exit j => exact other q6 hx
    | ret => exact other q6 hx
    | nm =>
     have q6 : (bif TC.like tc tc2 && (nodupN (H.ids tc2 ch2) && allN (fun b => Nat.ble (llen ch) b) (H.ids tc2 ch2)) then (H.get vs tc2 ch2).map Sum.inl else none) = some y := q6
     cases hcc : TC.like tc tc2 && (nodupN (H.ids tc2 ch2) && allN (fun b => Nat.ble (llen ch) b) (H.ids tc2 ch2)) with
     | false => rw [hcc, cond_false] at q6; cases q6
     | true =>
      rw [hcc, cond_true] at q6
      simp only [Bool.and_eq_true] at hcc
      obtain ⟨d1, d2, d3⟩ := hcc
      cases hg : H.get vs tc2 ch2 with
      | none => rw [hg] at q6; cases q6
      | some s' =>
       rw [hg] at q6
       cases q6
       obtain ⟨MN, k1, k2, k3, k4, k5, k6, k7⟩ := refill (ws := writes b) (ids := H.ids tc ch) hs ht q2 q3 (j1.trans q4.le) (like_trans d1 (like_refl tc)) hcl hal hkeep (fun i hi => hslot i (by rw [← Bool.not_eq_true, hasN_ofmem]; exact hi))
        (nodupN_iff d2) (fun i hi => .inl (by have := allN_mem d3 i hi; rw [llen_eq] at this; exact Nat.le_of_ble_eq_true this)) hd1 hd2 hg
       rw [hx]
       exact IH s' MN t2 h2 hn k1 k2 k3 (Nat.le_trans j4 q4.lh) k4 k5 k6 (fun i c e => hnb _ c (k7 i c e).choose_spec) hout
 exact main n s0 MH t h hn i1 i2 i3 (Nat.le_refl _) i4 i5 i6 (fun i c e => .inl (i7 i c e)) fun _ _ _ => rfl
theorem join_s (hih : Good C ih) : JoinOk C ih := by
 intro ρ H f a b wb tc ch k r e M t h cur hs ht
 unfold joinC at e
 replace e := Option.bind_eq_some_iff.1 e; obtain ⟨vs, hvs, e⟩ := e
 cases hc : allN wb (H.ids tc ch) && (allN wb (fsts H.cells) && (allN wb (fsts H.arrs) && ((nodupN (H.ids tc ch ++ (fsts H.cells ++ fsts H.arrs)) && nodupN (fsts H.slots)) && (allN (fun i => hasN (writes a) i) (fsts H.slots) && allN (fun b => Nat.blt b (llen ch)) (fsts H.cells ++ fsts H.arrs))))) with
 | false => rw [hc, cond_false] at e; cases e
 | true =>
 rw [hc, cond_true] at e
 simp only [Bool.and_eq_true] at hc
 obtain ⟨c1, c2, c3, ⟨c4, _⟩, c5, c6⟩ := hc
 have nd := nodupN_iff c4
 have nd1 := List.nodup_append.1 nd
 have hd1 : ∀ i ∈ H.ids tc ch, i ∉ fsts H.cells := fun i hi hj => nd1.2.2 i hi i (List.mem_append.2 (.inl hj)) rfl
 have hd2 : ∀ i ∈ H.ids tc ch, i ∉ fsts H.arrs := fun i hi hj => nd1.2.2 i hi i (List.mem_append.2 (.inr hj)) rfl
 have hlt : ∀ i, i ∈ fsts H.cells ++ fsts H.arrs → i < ch.length := fun i hi => by
  have := allN_mem c6 i hi
  rw [llen_eq] at this
  exact Nat.le_of_ble_eq_true this
 have hcl : ∀ p ∈ H.cells, p.1 < ch.length := fun p hp => hlt _ (List.mem_append.2 (.inl (by rw [fsts_eq]; exact List.mem_map.2 ⟨p, hp, rfl⟩)))
 have hal : ∀ p ∈ H.arrs, p.1 < ch.length := fun p hp => hlt _ (List.mem_append.2 (.inr (by rw [fsts_eq]; exact List.mem_map.2 ⟨p, hp, rfl⟩)))
 unfold joinO at e
 replace e := Option.bind_eq_some_iff.1 e; obtain ⟨y, hy, e⟩ := e
 obtain ⟨ex, tc2, ch2, M2, t2, h2, q1, q2, q3, q4, q5, q6⟩ := hih _ f a _ tc ch _ y hy M t h cur hs ht
 have hw : ∀ i, hasN (writes (.seq a b)) i = false → hasN (writes a) i = false ∧ hasN (writes b) i = false := fun i hi => by
  have hi : hasN (writes a ++ writes b) i = false := hi
  rw [hasN_app, Bool.or_eq_false_iff] at hi; exact hi
 have hx : X C.E f 0 cur (.seq a b) ⟨t, h, [], []⟩ = (match X C.E f 0 cur a ⟨t, h, [], []⟩ with
   | some (.nm, st') => X C.E f 0 cur b st'
   | r => r) := by rw [X_eq]; rfl
 rw [q1] at hx
 have hkeep : ∀ i, i < ch.length → i ∉ H.ids tc ch → i ∉ fsts H.cells → i ∉ fsts H.arrs → hgetC ch2 i = hgetC ch i := fun i hi a0 a2 a3 => q4.keep i hi (by
  rw [Bool.or_eq_false_iff, Bool.or_eq_false_iff, Bool.or_eq_false_iff, llen_eq]
  refine ⟨?_, ?_, ?_, ?_⟩
  ·rw [← Bool.not_eq_true, Nat.ble_eq]; omega
  ·rw [← Bool.not_eq_true, hasN_ofmem]; exact a0
  ·rw [← Bool.not_eq_true, hasN_ofmem]; exact a2
  ·rw [← Bool.not_eq_true, hasN_ofmem]; exact a3)
 have hkw : ∀ i, i < ch.length → wb i = false → hgetC ch2 i = hgetC ch i := fun i hi hw => hkeep i hi
  (fun hm => by rw [allN_mem c1 i hm] at hw; cases hw) (fun hm => by rw [allN_mem c2 i hm] at hw; cases hw) (fun hm => by rw [allN_mem c3 i hm] at hw; cases hw)
 have other : (k ex tc2 ch2).map Sum.inr = some y → X C.E f 0 cur (.seq a b) ⟨t, h, [], []⟩ = some (ex, ⟨t2, h2, [], []⟩) → PSy wb M tc ch h (writes (.seq a b)) (X C.E f 0 cur (.seq a b) ⟨t, h, [], []⟩) k r := fun a1 a2 => by
  cases hk : k ex tc2 ch2 with
  | none => rw [hk] at a1; cases a1
  | some r' =>
   rw [hk] at a1
   cases a1
   cases e
   exact ⟨ex, tc2, ch2, M2, t2, h2, a2, q2, q3, ⟨q4.le, q4.lc, q4.lh, hkw, q4.nb, q4.out⟩, fun i hi => q5 i (hw i hi).1, hk⟩
 cases ex with
 | exit j => exact other q6 hx
 | ret => exact other q6 hx
 | nm =>
  have q6 : (bif TC.like tc tc2 && (nodupN (H.ids tc2 ch2) && allN (fun b => Nat.ble (llen ch) b || hasN (H.ids tc ch) b) (H.ids tc2 ch2)) then (H.get vs tc2 ch2).map Sum.inl else none) = some y := q6
  cases hcc : TC.like tc tc2 && (nodupN (H.ids tc2 ch2) && allN (fun b => Nat.ble (llen ch) b || hasN (H.ids tc ch) b) (H.ids tc2 ch2)) with
  | false => rw [hcc, cond_false] at q6; cases q6
  | true =>
   rw [hcc, cond_true] at q6
   simp only [Bool.and_eq_true] at hcc
   obtain ⟨d1, d2, d3⟩ := hcc
   cases hg : H.get vs tc2 ch2 with
   | none => rw [hg] at q6; cases q6
   | some s' =>
    rw [hg] at q6
    cases q6
    obtain ⟨MN, k1, k2, k3, k4, k5, k6, k7⟩ := refill (ws := writes a) (ids := H.ids tc ch) hs ht q2 q3 q4.le (like_trans d1 (like_refl tc)) hcl hal hkeep (fun i hi => q5 i (by rw [← Bool.not_eq_true, hasN_ofmem]; exact hi))
     (nodupN_iff d2) (fun i hi => by
      have := allN_mem d3 i hi
      rw [Bool.or_eq_true, llen_eq, hasN_ofmem] at this
      exact this.imp Nat.le_of_ble_eq_true id) hd1 hd2 hg
    replace e : (match H.fill (writes a) (H.ids tc ch) vs tc ch s' with
     | (tc1, ch1) => ih ρ f b wb tc1 ch1 k) = some r := e
    generalize H.fill (writes a) (H.ids tc ch) vs tc ch s' = F at e k2 k3 k4 k5 k6
    obtain ⟨tc1, ch1⟩ := F
    obtain ⟨ex3, tc3, ch3, M3, t3, h3, r1, r2, r3, r4, r5, r6⟩ := hih ρ f b wb tc1 ch1 k r e MN t2 h2 cur k2 k3
    refine ⟨ex3, tc3, ch3, M3, t3, h3, hx.trans r1, r2, r3, ⟨k1.trans r4.le, Nat.le_trans k4 r4.lc, Nat.le_trans q4.lh r4.lh, fun i hi hw => ?_, fun i c e => ?_, fun c hc hn => ?_⟩, fun i hi => ?_, r6⟩
    ·rw [r4.keep i (Nat.lt_of_lt_of_le hi k4) hw]
     exact k5 i hi (fun hm => by rw [allN_mem c1 i hm] at hw; cases hw) (fun hm => by rw [allN_mem c2 i hm] at hw; cases hw) (fun hm => by rw [allN_mem c3 i hm] at hw; cases hw)
    ·rcases r4.nb i c e with ⟨j, ej⟩ | q
     ·obtain ⟨j', ej'⟩ := k7 j c ej
      exact q4.nb j' c ej'
     ·exact .inr (Nat.le_trans q4.lh q)
    ·refine (r4.out c (Nat.lt_of_lt_of_le hc q4.lh) fun j ej => ?_).trans (q4.out c hc hn)
     obtain ⟨j', ej'⟩ := k7 j c ej
     rcases q4.nb j' c ej' with ⟨j2, e2⟩ | q
     ·exact hn j2 e2
     ·exact absurd hc (Nat.not_lt.2 q)
    ·rw [r5 i (hw i hi).2]
     exact k6 i (fun hm => by have := (hw i hi).1; rw [hasN_ofmem.2 hm] at this; cases this) (fun hm => by have := allN_mem c5 i hm; rw [(hw i hi).1] at this; cases this)
theorem ceval_s (hC : CEOk C) : ∀ n, Good C (ceval C n)
 | 0 => fun ρ f c wb tc ch k r e => by cases e
 | n + 1 => cevalB_s hC (ceval_s hC n) (loop_s (ceval_s hC n)) (join_s (ceval_s hC n))
end
end Go.As
/-
 AS: what a function of the code computes, as a function of its typed arguments.
-/
namespace Go.As
variable [Gh]
def SpecOk (E : Env) (g : Nat) (s : Spec) : Prop := ∀ x y, s.f x = some y → dataC E (X E) g (s.a.encL x) = some (s.r.enc y)
noncomputable def spL (l : List (Nat × Spec)) : Nat → Option Spec := List.rec (fun _ => none) (fun p _ ih i => bif Nat.beq p.1 i then some p.2 else ih i) l
noncomputable def hintL (l : List (Nat × Hint)) : Nat → Option Hint := List.rec (fun _ => none) (fun p _ ih i => bif Nat.beq p.1 i then some p.2 else ih i) l
theorem spL_mem : ∀ {l : List (Nat × Spec)} {i : Nat} {s : Spec}, spL l i = some s → (i, s) ∈ l
 | [], _, _, e => by cases e
 | p :: l, i, s, e => by
  have e : (bif Nat.beq p.1 i then some p.2 else spL l i) = some s := e
  cases hb : Nat.beq p.1 i with
  | true =>
   rw [hb, cond_true] at e
   cases e
   have := Nat.eq_of_beq_eq_true hb
   subst this
   exact List.mem_cons_self ..
  | false =>
   rw [hb, cond_false] at e
   exact List.mem_cons_of_mem _ (spL_mem e)
noncomputable def spmL (l : List (Nat × SpecM)) : Nat → Option SpecM := List.rec (fun _ => none) (fun p _ ih i => bif Nat.beq p.1 i then some p.2 else ih i) l
theorem spmL_mem : ∀ {l : List (Nat × SpecM)} {i : Nat} {s : SpecM}, spmL l i = some s → (i, s) ∈ l
 | [], _, _, e => by cases e
 | p :: l, i, s, e => by
  have e : (bif Nat.beq p.1 i then some p.2 else spmL l i) = some s := e
  cases hb : Nat.beq p.1 i with
  | true =>
   rw [hb, cond_true] at e
   cases e
   have := Nat.eq_of_beq_eq_true hb
   subst this
   exact List.mem_cons_self ..
  | false =>
   rw [hb, cond_false] at e
   exact List.mem_cons_of_mem _ (spmL_mem e)
noncomputable def ceJ (E : Env) (l : List (Nat × Spec)) (lm : List (Nat × SpecM)) (hints joins : Nat → Nat → Option Hint) (unr : Nat → Nat → Bool) : CE := ⟨E, spL l, spmL lm, hints, joins, unr⟩
noncomputable def ceM (E : Env) (l : List (Nat × Spec)) (lm : List (Nat × SpecM)) (hints : Nat → Nat → Option Hint) : CE := ceJ E l lm hints (fun _ _ => none) (fun _ _ => false)
noncomputable def ceL (E : Env) (l : List (Nat × Spec)) (hints : Nat → Nat → Option Hint) : CE := ceM E l [] hints
def AllOk (E : Env) : List (Nat × Spec) → Prop
 | [] => True
 | p :: l => SpecOk E p.1 p.2 ∧ AllOk E l
def AllMOk (E : Env) : List (Nat × SpecM) → Prop
 | [] => True
 | p :: l => SpecMOk E p.1 p.2 ∧ AllMOk E l
theorem AllOk.mem {E : Env} : ∀ {l : List (Nat × Spec)}, AllOk E l → ∀ p ∈ l, SpecOk E p.1 p.2
 | _ :: _, h, p, hp => by
  rcases List.mem_cons.1 hp with rfl | hp
  ·exact h.1
  ·exact h.2.mem p hp
theorem AllMOk.mem {E : Env} : ∀ {l : List (Nat × SpecM)}, AllMOk E l → ∀ p ∈ l, SpecMOk E p.1 p.2
 | _ :: _, h, p, hp => by
  rcases List.mem_cons.1 hp with rfl | hp
  ·exact h.1
  ·exact h.2.mem p hp
theorem ceJ_ok {E : Env} {l : List (Nat × Spec)} {lm : List (Nat × SpecM)} {hints joins : Nat → Nat → Option Hint} {unr : Nat → Nat → Bool} (h : AllOk E l) (hm : AllMOk E lm) : CEOk (ceJ E l lm hints joins unr) :=
 ⟨fun _ _ e => h.mem _ (spL_mem e), fun _ _ e => hm.mem _ (spmL_mem e)⟩
theorem ceM_ok {E : Env} {l : List (Nat × Spec)} {lm : List (Nat × SpecM)} {hints : Nat → Nat → Option Hint} (h : AllOk E l) (hm : AllMOk E lm) : CEOk (ceM E l lm hints) :=
 ⟨fun _ _ e => h.mem _ (spL_mem e), fun _ _ e => hm.mem _ (spmL_mem e)⟩
theorem ceL_ok {E : Env} {l : List (Nat × Spec)} {hints : Nat → Nat → Option Hint} (h : AllOk E l) : CEOk (ceL E l hints) := ceM_ok h trivial
theorem callS_data {C : CE} (hC : CEOk C) {n g : Nat} {ts rt : Ty} {x : ts.den} {y : rt.den} (e : callS C n g ts rt x = some y) : dataV C.E (X C.E) g (ts.encL x) = some (rt.enc y) := by
 obtain ⟨v, h2, cv, ch2, M2, r1, r2, r3, _, r4⟩ := inline_s (ceval_s hC n) HS.empty (kidsT_rel ts x) e
 unfold dataV
 rw [imap_eq, r1, Option.bind_some]
 exact dt_rel r3 r4 r2
theorem SpecOk.ofC {C : CE} (hC : CEOk C) {g : Nat} {s : Spec} (hm : C.E.sm g = none) (n : Nat) (hf : ∀ x y, s.f x = some y → callS C n g s.a s.r x = some y) : SpecOk C.E g s := fun x y e => by
 unfold dataC
 rw [hm]
 exact callS_data hC (hf x y e)
theorem back_app {ch : CH} {n m k : Nat} {w1 w2 : List Bool} {n1 n2 : CH} (a : m = n + w1.length ∧ n1.length = w1.length ∧ ∀ j : Nat, w1[j]? = some true → hgetC ch (n + j) = hgetC n1 j) (b : k = m + w2.length ∧ n2.length = w2.length ∧ ∀ j : Nat, w2[j]? = some true → hgetC ch (m + j) = hgetC n2 j) :
  k = n + (w1 ++ w2).length ∧ (n1 ++ n2).length = (w1 ++ w2).length ∧ ∀ j : Nat, (w1 ++ w2)[j]? = some true → hgetC ch (n + j) = hgetC (n1 ++ n2) j := by
 obtain ⟨a1, a2, a3⟩ := a
 obtain ⟨b1, b2, b3⟩ := b
 refine ⟨by rw [List.length_append]; omega, by simp [a2, b2], fun j e => ?_⟩
 rw [hgetC_appL]
 by_cases hj : j < w1.length
 ·rw [List.getElem?_append_left hj] at e
  rw [if_pos (by omega)]; exact a3 j e
 ·rw [List.getElem?_append_right (by omega)] at e
  rw [if_neg (by omega), a2, ← b3 _ e]
  congr 1; omega
mutual
theorem Ap.back_rel {ch : CH} : ∀ (p : Ap) {x z : p.ty.den} {n m : Nat}, Ap.back ch p x n = some (z, m) → m = n + (Ap.wbs p).length ∧ (Ap.news p z).length = (Ap.wbs p).length ∧ ∀ j : Nat, (Ap.wbs p)[j]? = some true → hgetC ch (n + j) = hgetC (Ap.news p z) j
 | .val t, x, z, n, m, e => by cases e; exact ⟨rfl, rfl, fun j h => by cases h⟩
 | .buf w t, x, z, n, m, e => by
  have e : (bif w then (match hgetC ch n with
   | some (.arr v c u l') => bif Nat.beq v 0 && not c then (match Ty.cs (.slc u) (.slc t) l' with | some y => some (y, n + 1) | none => none) else none
   | _ => none) else some (x, n + 1) : Option (List t.den × Nat)) = some (z, m) := e
  cases w with
  | false => cases e; exact ⟨rfl, rfl, fun j h => by cases j <;> cases h⟩
  | true =>
   rw [cond_true] at e
   split at e
   ·rename_i v c u l' hb
    cases hq : Nat.beq v 0 && not c with
    | false => rw [hq, cond_false] at e; cases e
    | true =>
     rw [hq, cond_true] at e
     rw [Bool.and_eq_true] at hq
     have hv := Nat.eq_of_beq_eq_true hq.1
     have hc : c = false := by simpa using hq.2
     subst hv; subst hc
     split at e
     ·rename_i y hy
      cases e
      obtain ⟨h1, h2⟩ := cs_rel hy
      injection h1 with h1
      subst h1
      have h2 : z = l' := h2
      refine ⟨rfl, rfl, fun j h => ?_⟩
      cases j with
      | zero => rw [Nat.add_zero, hb, ← h2]; rfl
      | succ j => cases h
     ·cases e
   ·cases e
 | .cell w t, x, z, n, m, e => by
  have e : (bif w then (match hgetC ch n with
   | some (.cell (.sy u y)) => (match Ty.cs u t y with | some y => some (y, n + 1) | none => none)
   | _ => none) else some (x, n + 1) : Option (t.den × Nat)) = some (z, m) := e
  cases w with
  | false => cases e; exact ⟨rfl, rfl, fun j h => by cases j <;> cases h⟩
  | true =>
   rw [cond_true] at e
   split at e
   ·rename_i u y hb
    split at e
    ·rename_i y' hy
     cases e
     obtain ⟨h1, h2⟩ := cs_rel hy
     subst h1
     have h2 : z = y := h2
     refine ⟨rfl, rfl, fun j h => ?_⟩
     cases j with
     | zero => rw [Nat.add_zero, hb, ← h2]; rfl
     | succ j => cases h
    ·cases e
   ·cases e
 | .fn f a c, x, z, n, m, e => by
  have e : (match Aps.back ch a x.1 n with
   | some (y, n) => (match Aps.back ch c x.2 n with | some (z, n) => some ((y, z), n) | none => none)
   | none => none : Option (((Aps.ty a).den × (Aps.ty c).den) × Nat)) = some (z, m) := e
  split at e
  ·rename_i y k h1
   split at e
   ·rename_i y2 k2 h2
    cases e
    exact back_app (Aps.back_rel a h1) (Aps.back_rel c h2)
   ·cases e
  ·cases e
theorem Aps.back_rel {ch : CH} : ∀ (l : List Ap) {x z : (Aps.ty l).den} {n m : Nat}, Aps.back ch l x n = some (z, m) → m = n + (Aps.wbs l).length ∧ (Aps.news l z).length = (Aps.wbs l).length ∧ ∀ j : Nat, (Aps.wbs l)[j]? = some true → hgetC ch (n + j) = hgetC (Aps.news l z) j
 | [], x, z, n, m, e => by cases e; exact ⟨rfl, rfl, fun j h => by cases h⟩
 | p :: l, x, z, n, m, e => by
  have e : (match Ap.back ch p x.1 n with
   | some (y, n) => (match Aps.back ch l x.2 n with | some (z, n) => some ((y, z), n) | none => none)
   | none => none : Option ((p.ty.den × (Aps.ty l).den) × Nat)) = some (z, m) := e
  split at e
  ·rename_i y k h1
   split at e
   ·rename_i y2 k2 h2
    cases e
    exact back_app (Ap.back_rel p h1) (Aps.back_rel l h2)
   ·cases e
  ·cases e
end
theorem SpecMOk.of {C : CE} (hC : CEOk C) {g : Nat} {s : SpecM} (n : Nat) (hf : ∀ x y, s.f x = some y → callSM C n g s.ps s.r x = some y) : SpecMOk C.E g s := fun x y e M h us hs ha => by
 obtain ⟨v, h', cv, ch', M', q1, q2, q3, q4, q5⟩ := inline_s (ceval_s hC n) hs ha (hf x y e)
 unfold outM at q5
 obtain ⟨a, h1, q5⟩ := Option.bind_eq_some_iff.1 q5
 obtain ⟨b, h2, q5⟩ := Option.map_eq_some_iff.1 q5
 ·subst q5
  refine ⟨h', ch', M', ?_, q3, q4, fun j hj => ?_⟩
  ·rw [q1]
   unfold immC at h1
   split at h1
   ·rename_i u z
    obtain ⟨rfl, h3⟩ := cs_rel h1
    simp only [VR] at q2
    have h3 : a = z := h3
    rw [q2, h3]
   ·cases h1
  ·obtain ⟨b1, b2⟩ := b
   have := (Aps.back_rel s.ps h2).2.2 j hj
   rw [Nat.zero_add] at this
   exact this
theorem SpecMOk.weak {E : Env} {g : Nat} {ps : List Ap} {r : Ty} {f f' : (Aps.ty ps).den → Option (r.den × (Aps.ty ps).den)} (h : SpecMOk E g ⟨ps, r, f⟩) (hf : ∀ x y, f' x = some y → f x = some y) : SpecMOk E g ⟨ps, r, f'⟩ := fun x y e => h x y (hf x y e)
theorem SpecMOk.lim {E : Env} {g : Nat} {ps : List Ap} {r : Ty} {F : Nat → (Aps.ty ps).den → Option (r.den × (Aps.ty ps).den)} (h : ∀ n, SpecMOk E g ⟨ps, r, F n⟩) {f : (Aps.ty ps).den → Option (r.den × (Aps.ty ps).den)} (hf : ∀ x y, f x = some y → ∃ n, F n x = some y) : SpecMOk E g ⟨ps, r, f⟩ := fun x y e => by
 obtain ⟨n, hn⟩ := hf x y e
 exact h n x y hn
theorem SpecOk.of {E : Env} {l : List (Nat × Spec)} {hints : Nat → Nat → Option Hint} (h : AllOk E l) {g : Nat} {s : Spec} (hm : E.sm g = none) (n : Nat)
  (hf : ∀ x y, s.f x = some y → callS (ceL E l hints) n g s.a s.r x = some y) : SpecOk E g s := fun x y e => by
 unfold dataC
 rw [hm]
 exact callS_data (ceL_ok h) (hf x y e)
noncomputable def selfS (E : Env) (l : List (Nat × Spec)) (hints : Nat → Nat → Option Hint) (n g : Nat) (a r : Ty) : Spec := ⟨a, r, callS (ceL E l hints) n g a r⟩
theorem SpecOk.self {E : Env} {l : List (Nat × Spec)} {hints : Nat → Nat → Option Hint} (h : AllOk E l) {g : Nat} (hm : E.sm g = none) (n : Nat) (a r : Ty) : SpecOk E g (selfS E l hints n g a r) :=
 SpecOk.of h hm n fun _ _ e => e
theorem SpecOk.weak {E : Env} {g : Nat} {a r : Ty} {f f' : a.den → Option r.den} (h : SpecOk E g ⟨a, r, f⟩) (hf : ∀ x y, f' x = some y → f x = some y) : SpecOk E g ⟨a, r, f'⟩ := fun x y e => h x y (hf x y e)
theorem SpecOk.data {E : Env} {g : Nat} {s : Spec} (h : SpecOk E g s) {x : s.a.den} {y : s.r.den} (e : s.f x = some y) (hm : E.sm g = none) : dataV E (X E) g (s.a.encL x) = some (s.r.enc y) := by
 have := h x y e
 unfold dataC at this
 rw [hm] at this
 exact this
end Go.As
