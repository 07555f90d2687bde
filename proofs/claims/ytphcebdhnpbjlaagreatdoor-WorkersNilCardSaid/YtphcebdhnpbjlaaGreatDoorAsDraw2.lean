/-
  AS: an operation of a region that draws its order is sound.
-/
import Derived.Test.YtphcebdhnpbjlaaGreatDoorAsDraw
set_option linter.unusedSectionVars false
set_option linter.unusedSimpArgs false
set_option linter.unusedVariables false
namespace Go.As
open Go.RowKit (Below)
variable [Gh]
section
variable {F : Fence} {P : Program} {B : Nat} {X : Cx} {O : Nat → Addr → Prop} {w : World} {h : Heap} {E : Env} {ih : Nat → Nat → Nat → Code → St → Option (Ex × St)}

theorem putBlk_none (h : Heap) (n : Nat) : putBlk h n none = h := rfl
theorem hput_get {n : Nat} (hle : n ≤ h.length) (k : Blk) : putBlk h n (hget (hput h n k) n) = hput h n k := by rw [hget_hput h n n k hle, if_pos rfl]; rfl
theorem same_get {n : Nat} (hn : hget h n = none) : putBlk h n (hget h n) = h := by rw [hn]; rfl

theorem noRefs_owns : ∀ {l : List V}, noRefs l = true → ∀ v ∈ l, V.refs v = []
  | [], _, v, hv => by cases hv
  | u :: l, hh, v, hv => by
    have e : refsL (u :: l) = (match V.refs u with | [] => refsL l | r => r ++ refsL l) := rfl
    unfold noRefs at hh
    rw [e] at hh
    cases hu : V.refs u with
    | cons a r => rw [hu] at hh; cases hh
    | nil =>
      rw [hu] at hh
      rcases List.mem_cons.1 hv with rfl | hv
      · exact hu
      · exact noRefs_owns (l := l) hh v hv
mutual
theorem ownsR_refsR : ∀ (v : V) (b : Nat), b ∈ v.ownsR → b ∈ v.refsR
  | .own c _ _ _ _, b, h => by simpa [V.ownsR, V.refsR] using h
  | .agg _ l, b, h => by simp only [V.ownsR, V.refsR] at h ⊢; exact ownsRs_refsRs l b h
  | .tup l, b, h => by simp only [V.ownsR, V.refsR] at h ⊢; exact ownsRs_refsRs l b h
  | .ifc _ v, b, h => by simp only [V.ownsR, V.refsR] at h ⊢; exact ownsR_refsR v b h
  | .undef, b, h | .im _, b, h | .full _, b, h | .ptr _ _ _, b, h | .fn _ _ _, b, h | .mp _, b, h | .yld _, b, h => by simp [V.ownsR] at h
theorem ownsRs_refsRs : ∀ (l : List V) (b : Nat), b ∈ V.ownsRs l → b ∈ V.refsRs l
  | [], b, h => by simp [V.ownsRs] at h
  | v :: l, b, h => by
    simp only [V.ownsRs, V.refsRs, List.mem_append] at h ⊢
    exact h.imp (ownsR_refsR v b) (ownsRs_refsRs l b)
end
theorem refs_nil_owns {v : V} (h : V.refs v = []) : v.owns = [] := by
  rw [owns_eq]
  have hr : v.refsR = [] := by cases v <;> simp_all [V.refs, V.refsR]
  cases ho : v.ownsR with
  | nil => rfl
  | cons b r => have := ownsR_refsR v b (by rw [ho]; simp); rw [hr] at this; cases this
theorem ownsP_nil {ps : List (Nat × V)} (h : ∀ p ∈ ps, V.owns p.2 = []) : ownsP ps = [] := by
  induction ps with
  | nil => rfl
  | cons p ps ih => rw [ownsP_cons, h p (by simp)]; exact ih fun q hq => h q (by simp [hq])

/-- An operation that calls nothing, stores nothing: the heap is what it was, or the new block is there. -/
theorem step_quiet {keep : Bool} {n : Nat} {t : Tm} {op : Op} {v : V} {h' : Heap} (hn : hget h n = none) (hle : n ≤ h.length) (e : stepOp E keep n t h op = some (v, h'))
    (h1 : ∀ ty a x, op ≠ .store ty a x) (h2 : ∀ ty m k x, op ≠ .mapUpdate ty m k x) (h3 : ∀ ty m k x, op ≠ .insert ty m k x) (h4 : ∀ c, op ≠ .call c) (h5 : ∀ ty len ps, op = .buildSlice ty len ps → noRefs ((evP (ev t) ps).map Prod.snd) = true) :
    h' = putBlk h n (bif isNew E op then hget h' n else none) := by
  have same : ∀ {b : Bool}, h' = h → h' = putBlk h n (bif b then hget h' n else none) := fun {b} e => by
    subst e; cases b
    · rfl
    · exact (same_get hn).symm
  have new : isNew E op = true → (∃ k, h' = hput h n k) → h' = putBlk h n (bif isNew E op then hget h' n else none) := fun hb ⟨k, e⟩ => by
    subst e; rw [hb, cond_true]; exact (hput_get hle k).symm
  cases op <;> simp only [stepOp] at e <;> try (cases e; done)
  case move x => cases e; exact same rfl
  case assign x => cases e; exact same rfl
  case pick c a b =>
    unfold sPick at e
    split at e
    · rename_i q _; cases q <;> (cases e; exact same rfl)
    · cases e
  case alloc ty =>
    unfold sAlloc at e
    obtain ⟨ti, hti, e⟩ := Option.bind_eq_some_iff.1 e
    obtain ⟨hz, e⟩ := bif_some e
    cases hb : Nat.beq ty E.bty.1 <;> rw [hb] at e <;> (cases e; exact new rfl ⟨_, rfl⟩)
  case box ty x =>
    unfold sBox at e
    obtain ⟨ti, hti, e⟩ := Option.bind_eq_some_iff.1 e
    obtain ⟨hz, e⟩ := bif_some e
    cases e; exact new rfl ⟨_, rfl⟩
  case build ty ps => have := pure_any (op := .build ty ps) rfl (show stepOp E keep n t h (.build ty ps) = some (v, h') from e) n h; simp only [stepOp] at this; rw [e] at this; cases this; exact same rfl
  case buildSlice ty len ps =>
    have hno := h5 ty len ps rfl
    have how : ownsP (evP (ev t) ps) = [] := ownsP_nil fun p hp => refs_nil_owns (noRefs_owns hno p.2 (List.mem_map.2 ⟨p, hp, rfl⟩))
    unfold sBuildSlice at e
    obtain ⟨ti, hti, e⟩ := Option.bind_eq_some_iff.1 e
    split at e
    · obtain ⟨te, hte, e⟩ := Option.bind_eq_some_iff.1 e
      obtain ⟨_, e⟩ := bif_some e
      obtain ⟨z, hz, e⟩ := Option.bind_eq_some_iff.1 e
      cases hv : okV te (.im z) <;> rw [hv] at e <;> simp only [Bool.not_false, Bool.not_true, cond_true, cond_false] at e
      · cases e
      · split at e
        · obtain ⟨_, e⟩ := bif_some e
          rw [how] at e
          cases e; exact new rfl ⟨_, rfl⟩
        · obtain ⟨l, hl, e⟩ := Option.map_eq_some_iff.1 e
          cases e; exact new rfl ⟨_, rfl⟩
    · cases e
  case load ty a =>
    unfold sLoad at e
    obtain ⟨ti, hti, e⟩ := Option.bind_eq_some_iff.1 e
    split at e
    · obtain ⟨u, hu, e⟩ := Option.bind_eq_some_iff.1 e
      obtain ⟨_, e⟩ := bif_some e
      cases e; exact same rfl
    · obtain ⟨_, e⟩ := bif_some e
      cases e; exact same rfl
    · cases e
  case store ty a x => exact absurd rfl (h1 ty a x)
  case nilCheck x =>
    unfold sNilCheck at e
    split at e <;> first | (cases e; exact same rfl) | (cases e; done)
  case binOp op ty x y yt => cases hb : binV E op ty (isConst x || isConst y) (ev t x) (ev t y) <;> rw [hb] at e <;> first | (cases e; done) | (cases e; exact same rfl)
  case unOp op ty x => cases hb : unV op (ev t x) <;> rw [hb] at e <;> first | (cases e; done) | (cases e; exact same rfl)
  case convert s d x =>
    unfold convV at e
    split at e
    · cases e; exact same rfl
    · cases e; exact same rfl
    · split at e
      · cases e; exact new rfl ⟨_, rfl⟩
      · cases e
    · split at e
      · obtain ⟨bs, _, e⟩ := Option.map_eq_some_iff.1 e
        cases e; exact same rfl
      · cases e
    · cases e
  case makeInterface ty x => have := pure_any (op := .makeInterface ty x) rfl (show stepOp E keep n t h (.makeInterface ty x) = some (v, h') from e) n h; simp only [stepOp] at this; rw [e] at this; cases this; exact same rfl
  case makeFunc f a c => have := pure_any (op := .makeFunc f a c) rfl (show stepOp E keep n t h (.makeFunc f a c) = some (v, h') from e) n h; simp only [stepOp] at this; rw [e] at this; cases this; exact same rfl
  case makeSlice ty l c =>
    unfold sMakeSlice at e
    obtain ⟨ti, hti, e⟩ := Option.bind_eq_some_iff.1 e
    split at e
    · obtain ⟨te, hte, e⟩ := Option.bind_eq_some_iff.1 e
      obtain ⟨z, hz, e⟩ := Option.bind_eq_some_iff.1 e
      split at e
      · obtain ⟨_, e⟩ := bif_some e
        cases e; exact new rfl ⟨_, rfl⟩
      · cases e
    · cases e
  case slice ty x lo hi mx => cases hb : sliceV E ty h (ev t x) (lo.map (ev t)) (hi.map (ev t)) (mx.map (ev t)) <;> rw [hb] at e <;> first | (cases e; done) | (cases e; exact same rfl)
  case fieldAddr ty x k => have := pure_any (op := .fieldAddr ty x k) rfl (show stepOp E keep n t h (.fieldAddr ty x k) = some (v, h') from e) n h; simp only [stepOp] at this; rw [e] at this; cases this; exact same rfl
  case field ty x k => have := pure_any (op := .field ty x k) rfl (show stepOp E keep n t h (.field ty x k) = some (v, h') from e) n h; simp only [stepOp] at this; rw [e] at this; cases this; exact same rfl
  case indexAddr ty x i => have := simple_sub (op := .indexAddr ty x i) (fun _ _ hh => hh) rfl (fun c h => by cases h) (show stepOp E keep n t h (.indexAddr ty x i) = some (v, h') from e) n; simp only [stepOp] at this; rw [e] at this; cases this; exact same rfl
  case index ty x i => have := simple_sub (op := .index ty x i) (fun _ _ hh => hh) rfl (fun c h => by cases h) (show stepOp E keep n t h (.index ty x i) = some (v, h') from e) n; simp only [stepOp] at this; rw [e] at this; cases this; exact same rfl
  case extract x i => cases hb : (ev t x).part i <;> rw [hb] at e <;> first | (cases e; done) | (cases e; exact same rfl)
  case makeMap ty r =>
    unfold sMakeMap at e
    split at e
    · split at e <;> first | (cases e; exact new rfl ⟨_, rfl⟩) | (cases e; done)
    · cases e
  case lookup ty m k ok =>
    unfold sLookup at e
    split at e
    · obtain ⟨_, e⟩ := bif_some e
      obtain ⟨es, _, e⟩ := Option.bind_eq_some_iff.1 e
      obtain ⟨i, _, e⟩ := Option.bind_eq_some_iff.1 e
      split at e
      · cases e; exact same rfl
      · obtain ⟨te, _, e⟩ := Option.bind_eq_some_iff.1 e
        obtain ⟨_, e⟩ := bif_some e
        cases e; exact same rfl
    · cases e
  case mapUpdate ty m k x => exact absurd rfl (h2 ty m k x)
  case insert ty m k x => exact absurd rfl (h3 ty m k x)
  case typeAssert x xt ty ok =>
    unfold sAssert at e
    split at e
    · cases e
    · split at e
      · rename_i u d _
        cases hb : Nat.beq u ty <;> rw [hb] at e <;> simp only [cond_true, cond_false] at e
        · obtain ⟨_, e⟩ := bif_some e; cases e; exact same rfl
        · cases e; exact same rfl
      · rename_i u d _
        cases hb : Nat.beq u ty <;> rw [hb] at e <;> simp only [cond_true, cond_false] at e
        · obtain ⟨_, e⟩ := bif_some e; cases e; exact same rfl
        · cases e; exact same rfl
      · obtain ⟨_, e⟩ := bif_some e; cases e; exact same rfl
      · cases e
    · cases e
  case call c => exact absurd rfl (h4 c)

theorem exec_call {a : Act} {o : Oper} {c : Call} (hop : o.op = .call c) : execOp a.eval o = (do let d ← resolve a.eval c o.type; invoke d.target d.args) := by unfold execOp; rw [hop]
theorem call_builtin {a : Act} {o : Oper} {c : Call} {b : Builtin} (hop : o.op = .call c) (hcal : c.callee = .builtin b) :
    execOp a.eval o = builtin b c.argTypes o.type (c.args.map fun | .const _ => true | _ => false) (c.args.map a.eval) := by
  rw [exec_call hop]
  have hres : (resolve a.eval c o.type) = pure { target := .builtin b c.argTypes o.type (c.args.map fun | .const _ => true | _ => false), args := c.args.map a.eval } := by
    unfold resolve; rw [hcal]; rfl
  simp only [hres, pure_bind]
  rfl

theorem quiet_sound (hih : CodeS F P E ih) (hE : EnvOk F P E) (hF : Fen F) (hr : HR B X O w h) {keep : Bool} {nid : Nat} (hn : hget h nid = none) (hM : X.M nid = none) (hle : nid ≤ h.length) {t : Tm} {a : Act} (ht : TR X t a.tmps) {o : Oper} (ho : ∀ x ∈ o.op.operands.toList, okOpd x = true) {v : V} {bo : Option Blk}
    (e : quietV E ih keep nid t h o.op = some (v, bo)) (n : Nat) : CallN F n P B X O w h (execOp a.eval o) v (putBlk h nid bo) := by
  have plain : ∀ {h' : Heap}, stepOp E keep nid t h o.op = some (v, h') → (h' = putBlk h nid bo) → CallN F n P B X O w h (execOp a.eval o) v (putBlk h nid bo) := fun {h'} e1 e2 => by
    rw [← e2]; exact .inl (stepOp_sound hE.toEnvB hr hn hM hle ht ho e1)
  unfold quietV at e
  split at e
  · cases e
  · cases e
  · cases e
  · rename_i c hop
    have bi : ∀ {b : Builtin} {h' : Heap}, c.callee = .builtin b → builtinV E nid b c.argTypes (evs t c.args) h = some (v, h') → h' = putBlk h nid bo → CallN F n P B X O w h (execOp a.eval o) v (putBlk h nid bo) := fun {b h'} hcal e1 e2 =>
      plain (h' := h') (by rw [hop]; simp only [stepOp, hcal]; exact e1) e2
    split at e
    · rename_i hcal
      split at e
      · rename_i b g off len l h1 hb
        obtain ⟨hbn, e⟩ := bif_some e
        have hbn := beq_of hbn; subst hbn
        cases e
        refine bi hcal hb ?_
        unfold builtinV at hb
        simp only at hb
        split at hb
        · obtain ⟨k, rfl⟩ := bAppend_new hn hb
          exact (hput_get hle _).symm
        · cases hb
      · cases e
    · rename_i hcal
      obtain ⟨r, hb, e⟩ := Option.map_eq_some_iff.1 e
      cases e
      refine bi (h' := r.2) hcal hb ?_
      unfold builtinV at hb
      simp only at hb
      split at hb
      · obtain ⟨t', _, hb⟩ := Option.bind_eq_some_iff.1 hb
        unfold bLen at hb
        split at hb <;> first | (cases hb; rfl) | (cases hb; done) | skip
        split at hb
        · obtain ⟨_, hb⟩ := bif_some hb; cases hb; rfl
        · cases hb
      · cases hb
    · rename_i hcal
      obtain ⟨r, hb, e⟩ := Option.map_eq_some_iff.1 e
      cases e
      refine bi (h' := r.2) hcal hb ?_
      unfold builtinV at hb
      simp only at hb
      split at hb
      · obtain ⟨m, _, hb⟩ := Option.map_eq_some_iff.1 hb; cases hb; rfl
      · cases hb
    · rename_i hcal
      obtain ⟨r, hb, e⟩ := Option.map_eq_some_iff.1 e
      cases e
      refine bi (h' := r.2) hcal hb ?_
      unfold builtinV at hb
      simp only at hb
      split at hb
      · obtain ⟨m, _, hb⟩ := Option.map_eq_some_iff.1 hb; cases hb; rfl
      · cases hb
    · cases e
    · -- a function
      rename_i _ _ _ _ hnb
      obtain ⟨⟨g, xs⟩, htar, e⟩ := Option.bind_eq_some_iff.1 e
      obtain ⟨args, ha, hrun⟩ := target_sound hE ht (c := c) (fun x hx => ho x (by rw [hop]; exact hx)) htar o.type
      have fin : ∀ {h' : Heap}, CallN F n P B X O w h (callFunc g args) v h' → CallN F n P B X O w h (execOp a.eval o) v h' := fun {h'} hc => hc.of_run (by rw [exec_call hop]; exact hrun w)
      split at e
      · rename_i sz hsz
        obtain ⟨r, hr', e⟩ := Option.map_eq_some_iff.1 e
        cases e
        have hc := hE.clone g sz hsz n B X O w h hr xs args ha nid hn hM hle r.1 r.2 hr'
        have : r.2 = putBlk h nid (hget r.2 nid) := by
          unfold cloneV at hr'
          split at hr'
          · obtain ⟨te, _, hr'⟩ := Option.bind_eq_some_iff.1 hr'
            obtain ⟨l, _, hr'⟩ := Option.bind_eq_some_iff.1 hr'
            obtain ⟨_, hr'⟩ := bif_some hr'
            cases hr'; exact (hput_get hle _).symm
          · cases hr'
        rw [← this]; exact fin hc
      · have ex : ∀ {x : Nat} {r : V × Heap}, E.ext g = x → x ≠ 0 → extV x xs h = some r → r.2 = h → r.1 = v → bo = none → CallN F n P B X O w h (execOp a.eval o) v (putBlk h nid bo) := fun {x r} e1 e2 e3 e4 e5 e6 => by
          subst e6
          obtain ⟨r1, r2⟩ := r
          simp only at e4 e5
          subst e4; subst e5
          exact fin (hE.ext g (by rw [e1]; exact e2) n B X O w _ hr xs args ha _ _ (by rw [e1]; exact e3))
        split at e
        · rename_i hx
          obtain ⟨r, hr', e⟩ := Option.map_eq_some_iff.1 e
          cases e
          refine ex hx (by decide) hr' ?_ rfl rfl
          unfold extV at hr'
          split at hr' <;> first | (cases hr'; rfl) | (cases hr'; done) | (simp at *; done)
        · rename_i hx
          obtain ⟨r, hr', e⟩ := Option.map_eq_some_iff.1 e
          cases e
          refine ex hx (by decide) hr' ?_ rfl rfl
          unfold extV at hr'
          split at hr' <;> first | (cases hr'; rfl) | (cases hr'; done) | (simp at *; done)
        · cases hinl : E.inl g with
          | true => simp only [hinl, cond_true] at e; cases e
          | false =>
            simp only [hinl, cond_false] at e
            obtain ⟨ds, hds, e⟩ := Option.bind_eq_some_iff.1 e
            obtain ⟨r, hr', e⟩ := Option.bind_eq_some_iff.1 e
            obtain ⟨⟨fn, cd, hpf, hb, hnm⟩, hdata⟩ := dataC_sound hih hE hF hr'
            have hent := callFunc_enter (w := w) hpf hb hnm args
            split at e
            · rename_i hno
              cases e
              refine fin (.inr ⟨g, args, hent, ?_⟩)
              have hS : Shows X w h X.C (fun _ => False) := ⟨.refl _, fun b bi a0 hb => hb.elim⟩
              have hrel := data_REL hr hS hds (fun v hv b hb => nil_of_ownsL hno v hv b hb) ha
              refine (hdata n X.C w args hr.ci hrel).mono fun x w' ⟨C', q1, q2, q3, q4, q5⟩ => ?_
              obtain ⟨g1, g2⟩ := grown_ok hr q1 q2 q3 q4
              exact ⟨X.withC C', O, g1, by simp only [VREL]; exact q5, g2⟩
            · obtain ⟨hfl, e⟩ := bif_some e
              cases e
              refine fin (.inr ⟨g, args, hent, ?_⟩)
              have hrel := data_REL hr (bigView_shows hr) hds (fun _ _ _ _ => trivial) ha
              refine (hdata n _ w args (bigView_ci hr.ci) hrel).mono fun x w' ⟨C', q1, q2, q3, q4, q5⟩ => ?_
              obtain ⟨g1, g2⟩ := grown_same hr q3
              exact ⟨X, O, g1, by simp only [VREL]; exact r.flat_REL true [x] hfl q5, g2⟩
        · cases e
  · rename_i ty len ps hop
    obtain ⟨hno, e⟩ := bif_some e
    obtain ⟨r, hr', e⟩ := Option.map_eq_some_iff.1 e
    cases e
    have he : stepOp E keep nid t h o.op = some (r.1, r.2) := by rw [hop]; simp only [stepOp]; exact hr'
    refine plain he ?_
    have := step_quiet hn hle he (fun _ _ _ hh => by rw [hop] at hh; cases hh) (fun _ _ _ _ hh => by rw [hop] at hh; cases hh) (fun _ _ _ _ hh => by rw [hop] at hh; cases hh) (fun _ hh => by rw [hop] at hh; cases hh) (fun ty' len' ps' hh => by rw [hop] at hh; cases hh; exact hno)
    rw [hop] at this
    exact this
  · rename_i h1 h2 h3 h4 h5
    obtain ⟨r, hr', e⟩ := Option.map_eq_some_iff.1 e
    cases e
    exact plain hr' (step_quiet hn hle hr' (fun a b c hh => h1 a b c hh) (fun a b c d hh => h2 a b c d hh) (fun a b c d hh => h3 a b c d hh) (fun c hh => h4 c hh) (fun a b c hh => absurd hh (h5 a b c)))

/-- The region's own blocks that are not there yet are unknown. -/
def PS (X : Cx) (k n : Nat) (h : Heap) : Prop := ∀ b, k ≤ b → b < k + n → hget h b = none → X.M b = none
theorem PS.step {k n : Nat} (hp : PS X k n h) (hkn : k + n ≤ h.length) {X' : Cx} {O' : Nat → Addr → Prop} {w' : World} {h' : Heap} (st : Step B X O w h X' O' w' h') : PS X' k n h' := fun b h1 h2 hn =>
  st.fr.unk b (by omega) (hp b h1 h2 (st.fr.vis b hn)) hn

theorem hide_hget_none {k i : Nat} {m : List Nat} (hn : hget h i = none) : hget (hide k m h) i = none := by
  rw [hget_hide]; split
  · rfl
  · exact hn
theorem allNone_get : ∀ {l : Heap}, allNone l = true → ∀ b, hget l b = none
  | [], _, b => by simp [hget_eq]
  | none :: l, e, 0 => by simp [hget_eq]
  | none :: l, e, b + 1 => by have := allNone_get (l := l) e b; simpa [hget_eq] using this
  | some _ :: l, e, b => by cases e
theorem hget_append (a b : Heap) (i : Nat) : hget (a ++ b) i = if i < a.length then hget a i else hget b (i - a.length) := by
  rw [hget_eq, hget_eq, hget_eq, List.getElem?_append]; split <;> rfl
theorem hget_drop (a : Heap) (n i : Nat) : hget (a.drop n) i = hget a (n + i) := by rw [hget_eq, hget_eq, List.getElem?_drop]
theorem hget_take (a : Heap) (n i : Nat) : hget (a.take n) i = if i < n then hget a i else none := by
  rw [hget_eq, hget_eq, List.getElem?_take]; split <;> rfl

theorem snap_REL (hr : HR B X O w h) {v : V} {d : D} (e : V.snap h v = some d) {x : Value} (r : VREL X v true [x]) : REL (bigView B X w) d true [x] := by
  unfold V.snap at e
  split at e
  · rename_i b
    split at e
    · rename_i u hb
      obtain ⟨d', hd, e⟩ := Option.map_eq_some_iff.1 e
      subst e
      obtain ⟨bi, a0, ws, h1, h2, h3, h4, h5, h6, h7, h8⟩ := hr.blk b _ hb
      simp only [VREL] at r
      obtain ⟨y, ey, _, bj, hM, hg, hx⟩ := r
      rw [h1] at hM; cases hM
      obtain ⟨a1, e1, e2, e3⟩ := hx h2.symm
      rw [h4] at e1; cases e1
      have hdr := data_sound hr (bigView_shows hr) hd (fun _ _ => trivial) h6
      simp only [REL]
      refine ⟨a0, ws, by rw [ey, e3]; simp [pathOff], h5, hdr, fun j v ev => ?_⟩
      have hj : j < ws.length := (List.getElem?_eq_some_iff.1 ev).1
      have hB := (hr.own b _ (h8 j (Nat.zero_le _) hj).1).1
      unfold bigView
      rw [if_pos hB]; exact h7 j v ev
    · cases e
  · exact data_sound hr (bigView_shows hr) e (fun _ _ => trivial) r
theorem snaps_REL (hr : HR B X O w h) : ∀ {l : List V} {ds : List D} {xs : List Value}, allSnap h l = some ds → All2 (fun v x => VREL X v true [x]) l xs → All2 (fun d x => REL (bigView B X w) d true [x]) ds xs
  | [], ds, xs, e, r => by simp [allSnap] at e; subst e; cases r; exact All2.nil
  | v :: l, ds, xs, e, r => by
    have e : ((V.snap h v).bind fun d => (allSnap h l).map (d :: ·)) = some ds := e
    obtain ⟨d, hd, e⟩ := Option.bind_eq_some_iff.1 e
    obtain ⟨ds', hds, e⟩ := Option.map_eq_some_iff.1 e
    subst e
    obtain ⟨x, r', rfl, rx, rr⟩ := r
    exact All2.cons (snap_REL hr hd rx) (snaps_REL hr hds rr)

theorem opD_sound (hih : CodeS F P E ih) (hE : EnvOk F P E) (hF : Fen F) {keep : Bool} {ops : Array Oper} {k n i cls : Nat} {m : List Nat} {st st' : St} {nt q : Nat} {a : Act} {o : Oper} (e : opD E ih keep ops k n i cls m o st = some st') (s : SR nt B X O w a st) (hok : opOk nt o = true)
    (hpure : cls = 0 → isPure o.op = true) (hsimple : cls = 2 → isSimple o.op = true) (hps : PS X k n st.h) (hi : isNew E o.op = true → i < n) (hkn : k + n ≤ st.h.length)
    {K : Act → World → Prop} {Q : Exit → Act → World → Prop} (hK : ∀ X' O' w' a', SR nt B X' O' w' a' st' → Step B X O w st.h X' O' w' st'.h → K a' w') :
    if Region.wanted o (yielded ops a.tmps) = true then o.wpIn F q P a w K Q else (∀ f, o.about P w a.eval = some f → F.fn f) ∧ K (a.put o.dst undef) w := by
  obtain ⟨hd, ho⟩ := opOk_dst hok
  unfold opD at e
  cases hg : guardOf ops st.t o.guard with
  | none => rw [hg] at e; cases e
  | some b =>
    rw [hg] at e
    have hw := guard_sound s.t hg
    cases b with
    | false =>
      simp only at e
      cases e
      rw [hw, if_neg (by simp)]
      exact ⟨fun f _ => hF.fn f, hK X O w _ (s.put hd (undefRel X)) (.refl _ _ _ _ _)⟩
    | true =>
      simp only at e
      -- what is left to show: the operation, from the whole heap
      have fin : ∀ {v : V} {h' : Heap}, st' = ⟨putDst st.t o.dst v, h', st.lp, st.df⟩ → CallN F (q - 1) P B X O w st.h (execOp a.eval o) v h' →
          if Region.wanted o (yielded ops a.tmps) = true then o.wpIn F q P a w K Q else (∀ f, o.about P w a.eval = some f → F.fn f) ∧ K (a.put o.dst undef) w := fun {v h'} he hc => by
        subst he
        rw [hw, if_pos rfl]
        unfold Oper.wpIn
        refine ⟨fun f _ => hF.fn f, ?_⟩
        rw [hF.round, Oper.semAt_none]
        refine hc.upon hF fun x w' ⟨X', O', q1, q2, q3⟩ => ?_
        exact hK X' O' w' _ ((s.step q1 q3).put hd q2) q3
      -- a step from a view
      have viewed : ∀ {view v' h' : Heap} {v : V} {m : Sem Next}, Sub view st.h → view.length = st.h.length → h'.length = v'.length →
          (∀ b k, hget h' b = some k → (hget st.h b = some k ∧ hget view b = none) ∨ hget v' b = some k) → (∀ b, hget h' b = none → hget st.h b = none ∧ hget v' b = none) →
          CallN F (q - 1) P B X O w view m v v' → CallN F (q - 1) P B X O w st.h m v h' := fun {view v' h' v m} c1 c2 c3 c4 c5 hc => by
        rcases hc with ⟨x, w', X', O', r1, r2, r3, r4⟩ | ⟨f, args, r1, r2⟩
        · obtain ⟨u1, u2⟩ := unhide s.h c1 c2 c3 r2 r4 c4 c5
          exact .inl ⟨x, w', X', O', r1, u1, r3, u2⟩
        · refine .inr ⟨f, args, r1, r2.mono fun x w' ⟨X', O', t1, t2, t3⟩ => ?_⟩
          obtain ⟨u1, u2⟩ := unhide s.h c1 c2 c3 t1 t3 c4 c5
          exact ⟨X', O', u1, t2, u2⟩
      have hhide : ∀ m, HR B X O w (hide k m st.h) := fun m => s.h.view (hide_sub k m st.h) (hide_length k m st.h)
      have hidden : ∀ {nid : Nat} {bo : Option Blk} {v : V} {m : List Nat}, hget st.h nid = none → (bo ≠ none → nid < st.h.length) → nid ≤ st.h.length → CallN F (q - 1) P B X O w (hide k m st.h) (execOp a.eval o) v (putBlk (hide k m st.h) nid bo) →
          CallN F (q - 1) P B X O w st.h (execOp a.eval o) v (putBlk st.h nid bo) := fun {nid bo v m} hn hlt hle hc => by
        cases bo with
        | none =>
          simp only [putBlk_none] at hc ⊢
          refine viewed (hide_sub k m st.h) (hide_length k m st.h) (hide_length k m st.h).symm (fun b kk hb => ?_) (fun b hb => ⟨hb, hide_hget_none hb⟩) hc
          cases hv : hget (hide k m st.h) b with
          | none => exact .inl ⟨hb, rfl⟩
          | some k2 => right; rw [hide_sub k m st.h b k2 hv] at hb; exact hb
        | some bk =>
          have hlt := hlt (by simp)
          have hle2 : nid ≤ (hide k m st.h).length := by rw [hide_length]; exact hle
          have g1 : ∀ b, hget (putBlk st.h nid (some bk)) b = if b = nid then some bk else hget st.h b := fun b => hget_hput st.h nid b bk hle
          have g2 : ∀ b, hget (putBlk (hide k m st.h) nid (some bk)) b = if b = nid then some bk else hget (hide k m st.h) b := fun b => hget_hput _ nid b bk hle2
          refine viewed (hide_sub k m st.h) (hide_length k m st.h) ?_ (fun b kk hb => ?_) (fun b hb => ?_) hc
          · show (hput st.h nid bk).length = (hput (hide k m st.h) nid bk).length
            rw [hput_len, hput_len, hide_length]
          · rw [g1] at hb
            by_cases hbn : b = nid
            · rw [if_pos hbn] at hb
              right; rw [g2, if_pos hbn]; exact hb
            · rw [if_neg hbn] at hb
              cases hv : hget (hide k m st.h) b with
              | none => exact .inl ⟨hb, rfl⟩
              | some k2 => right; rw [g2, if_neg hbn, hv]; rw [hide_sub k m st.h b k2 hv] at hb; exact hb
          · rw [g1] at hb
            by_cases hbn : b = nid
            · rw [if_pos hbn] at hb; cases hb
            · rw [if_neg hbn] at hb
              exact ⟨hb, by rw [g2, if_neg hbn]; exact hide_hget_none hb⟩
      split at e
      · -- by the slots alone
        obtain ⟨r, hr', e⟩ := Option.map_eq_some_iff.1 e
        have hany := pure_any (hpure rfl) (show stepOp E keep (k + i) st.t [] o.op = some (r.1, r.2) from hr') st.h.length st.h
        exact fin e.symm (.inl (stepOp_sound hE.toEnvB s.h (nid_none rfl) (nid_M s.h) (Nat.le_refl _) s.t ho hany))
      · cases hnew : isNew E o.op with
        | true =>
          rw [hnew, cond_true] at e
          have hin := hi hnew
          split at e
          · rename_i hnone
            obtain ⟨r, hr', e⟩ := Option.map_eq_some_iff.1 e
            have hM := hps (k + i) (by omega) (by omega) hnone
            have hc := quiet_sound hih hE hF (hhide m) (hide_hget_none hnone) hM (by rw [hide_length]; omega) s.t ho (v := r.1) (bo := r.2) hr' (q - 1)
            exact fin e.symm (hidden hnone (fun _ => by omega) (by omega) hc)
          · cases e
        | false =>
          rw [hnew, cond_false] at e
          obtain ⟨r, hr', e⟩ := Option.bind_eq_some_iff.1 e
          split at e
          · rename_i hbo
            rw [llen_eq] at hr'
            have hc := quiet_sound hih hE hF (hhide m) (hide_hget_none (nid_none rfl)) (nid_M s.h) (by rw [hide_length]; exact Nat.le_refl _) s.t ho (v := r.1) (bo := r.2) hr' (q - 1)
            rw [hbo] at hc
            have := hidden (nid_none rfl) (fun hh => absurd rfl hh) (Nat.le_refl _) hc
            exact fin (Option.some.inj e).symm this
          · cases e
      · obtain ⟨r, hr', e⟩ := Option.map_eq_some_iff.1 e
        have hsub : Sub (hide k m (st.h.take (k + n))) st.h := (hide_sub k m _).trans (take_sub _ _)
        have hq := simpleV_sub hsub (hsimple rfl) hr' st.h.length
        exact fin e.symm (quiet_sound hih hE hF s.h (nid_none rfl) (nid_M s.h) (Nat.le_refl _) s.t ho hq (q - 1))
      · rw [llen_eq] at e
        exact opV_sound hih hE hF e s hok (nid_none rfl) (nid_M s.h) (Nat.le_refl _) hK
      · split at e
        · rename_i c hop
          obtain ⟨⟨g, xs⟩, htar, e⟩ := Option.bind_eq_some_iff.1 e
          obtain ⟨⟨v, h', lp'⟩, hin, e⟩ := Option.bind_eq_some_iff.1 e
          obtain ⟨hall, e⟩ := bif_some e
          have hvsub : Sub (only (reachIn st.h 0 64 (addNew 0 (refsL xs) [])) st.h) st.h := only_sub _ _
          have hvlen : (only (reachIn st.h 0 64 (addNew 0 (refsL xs) [])) st.h).length = st.h.length := only_length _ _
          have hall := sameH_ok hall
          generalize only (reachIn st.h 0 64 (addNew 0 (refsL xs) [])) st.h = vw at hin hall hvsub hvlen
          rw [s.lp] at hin
          have hvr : HR B X O w vw := s.h.view hvsub hvlen
          obtain ⟨args, ha, hrun⟩ := target_sound hE s.t (c := c) (fun x hx => ho x (by rw [hop]; exact hx)) htar o.type
          obtain ⟨hlp, ⟨fn, cd, hpf, hb, hnm⟩, hcall⟩ := inline_sound hih hE hF hin hvr ha
          have hlen : st.h.length ≤ h'.length := by
            obtain ⟨e1, w1, _, hR, _⟩ := (hcall 0).2 [] (room_all hF _)
            cases e1 with
            | returned x =>
              obtain ⟨X', O', _, _, t3⟩ := hR
              have := t3.len; rw [hvlen] at this; exact this
            | panicked => exact hR.elim
            | outgrown => exact hR.elim
          have hc : CallN F (q - 1) P B X O w vw (execOp a.eval o) v h' :=
            .inr ⟨g, args, by rw [exec_call hop, hrun w]; exact callFunc_enter hpf hb hnm args, hcall (q - 1)⟩
          have hall' : ∀ b, b < st.h.length → hget h' b = hget vw b := fun b hb => by
            rw [hall, llen_eq, hget_take, if_pos hb]
          have hget' : ∀ b, hget (st.h ++ h'.drop (llen st.h)) b = if b < st.h.length then hget st.h b else hget h' b := fun b => by
            rw [hget_append]; split
            · rfl
            · rename_i hb; rw [hget_drop, llen_eq]; congr 1; omega
          have := viewed (h' := st.h ++ h'.drop (llen st.h)) hvsub hvlen (by rw [List.length_append, List.length_drop, llen_eq]; omega) (fun b kk hb => by
              rw [hget'] at hb; split at hb
              · rename_i hlt
                cases hv : hget vw b with
                | none => exact .inl ⟨hb, rfl⟩
                | some k2 =>
                  have := hvsub b k2 hv
                  rw [hb] at this; cases this
                  exact .inr (by rw [hall' b hlt]; exact hv)
              · exact .inr hb) (fun b hb => by
              rw [hget'] at hb; split at hb
              · rename_i hlt
                refine ⟨hb, ?_⟩
                rw [hall' b hlt]
                cases hv : hget vw b with
                | none => rfl
                | some k2 => have := hvsub b k2 hv; rw [hb] at this; cases this
              · rename_i hge
                refine ⟨?_, hb⟩
                rw [hget_eq, List.getElem?_eq_none (by omega)]; rfl) hc
          have e := Option.some.inj e
          subst hlp
          exact fin (by rw [← e, s.lp]) this
        · cases e
      · split at e
        · rename_i ty a' x hop
          split at e
          · rename_i b g p hev
            obtain ⟨_, e⟩ := bif_some e
            obtain ⟨r, hr', e⟩ := Option.map_eq_some_iff.1 e
            have hst : stepOp E keep st.h.length st.t st.h o.op = some (r.1, r.2) := by
              rw [hop]; simp only [stepOp]; rw [hev]; exact hr'
            exact fin e.symm (.inl (stepOp_sound hE.toEnvB s.h (nid_none rfl) (nid_M s.h) (Nat.le_refl _) s.t ho hst))
          · cases e
        · cases e
      · split at e
        · rename_i ty a' x hop
          split at e
          · rename_i b g p hev
            obtain ⟨_, e⟩ := bif_some e
            obtain ⟨r, hr', e⟩ := Option.map_eq_some_iff.1 e
            have hst : stepOp E keep st.h.length st.t st.h o.op = some (r.1, r.2) := by
              rw [hop]; simp only [stepOp]; rw [hev]; exact hr'
            exact fin e.symm (.inl (stepOp_sound hE.toEnvB s.h (nid_none rfl) (nid_M s.h) (Nat.le_refl _) s.t ho hst))
          · cases e
        · cases e
      · split at e
        · rename_i ty a' hop
          split at e
          · rename_i b g p hev
            obtain ⟨r, hr', e⟩ := Option.map_eq_some_iff.1 e
            have hsv : simpleV E ih keep st.h.length st.t (st.h.take k) o.op = some r.1 := by
              rw [hop]; simp only [simpleV, stepOp]; rw [hev, hr']; rfl
            have hq := simpleV_sub (take_sub k st.h) (by rw [hop]; rfl) hsv st.h.length
            exact fin e.symm (quiet_sound hih hE hF s.h (nid_none rfl) (nid_M s.h) (Nat.le_refl _) s.t ho hq (q - 1))
          · cases e
        · cases e
      · split at e
        · rename_i ty x i' hop
          obtain ⟨r, hr', e⟩ := Option.map_eq_some_iff.1 e
          have hsv : simpleV E ih keep st.h.length st.t (st.h.take k) o.op = some r.1 := by
            rw [hop]; simp only [simpleV, stepOp]; rw [hr']; rfl
          have hq := simpleV_sub (take_sub k st.h) (by rw [hop]; rfl) hsv st.h.length
          exact fin e.symm (quiet_sound hih hE hF s.h (nid_none rfl) (nid_M s.h) (Nat.le_refl _) s.t ho hq (q - 1))
        · cases e
      · split at e
        · rename_i c hop
          obtain ⟨⟨g, xs⟩, htar, e⟩ := Option.bind_eq_some_iff.1 e
          obtain ⟨ds, hds, e⟩ := Option.bind_eq_some_iff.1 e
          obtain ⟨r, hr', e⟩ := Option.bind_eq_some_iff.1 e
          obtain ⟨hfl, e⟩ := bif_some e
          obtain ⟨args, ha, hrun⟩ := target_sound hE s.t (c := c) (fun x hx => ho x (by rw [hop]; exact hx)) htar o.type
          obtain ⟨⟨fn, cd, hpf, hb, hnm⟩, hdata⟩ := dataC_sound hih hE hF hr'
          have hrel := snaps_REL (hhide m) hds ha
          have hc : CallN F (q - 1) P B X O w st.h (execOp a.eval o) (.im r) st.h := by
            refine .inr ⟨g, args, by rw [exec_call hop, hrun w]; exact callFunc_enter hpf hb hnm args, ?_⟩
            refine (hdata (q - 1) _ w args (bigView_ci s.h.ci) hrel).mono fun x w' ⟨C', q1, q2, q3, q4, q5⟩ => ?_
            obtain ⟨g1, g2⟩ := grown_same s.h q3
            exact ⟨X, O, g1, by simp only [VREL]; exact r.flat_REL true [x] hfl q5, g2⟩
          exact fin (Option.some.inj e).symm hc
        · cases e
end
end Go.As
