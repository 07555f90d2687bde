/-
  AS: calls, and operations at their place.
-/
import Derived.Test.YtphcebdhnpbjlaaGreatDoorAsLoop
set_option linter.unusedSectionVars false
set_option linter.unusedSimpArgs false
set_option linter.unusedVariables false
namespace Go.As
open Go.RowKit (Below)
variable [Gh]
section
variable {F : Fence} {P : Program} {B : Nat} {X : Cx} {O : Nat → Addr → Prop} {w : World} {h : Heap} {E : Env} {ih : Nat → Nat → Nat → Code → St → Option (Ex × St)}

theorem runDefers_cons (n0 : Nat) (d : Nat × List V) (df : List (Nat × List V)) (h : Heap) (lp : List Rec) : runDefers E ih n0 (d :: df) h lp = (bif isMark d then (bif Nat.ble n0 d.1 then runDefers E ih n0 df h lp else none) else match runBodyS E ih d.1 d.2 h lp with
    | some (fn, st) => (match st.df with
      | [] => (match resultsV E st.h fn st.t with
        | some _ => runDefers E ih n0 df st.h st.lp
        | none => none)
      | _ => none)
    | none => none) := rfl

theorem All2.put {b D : Nat} {o : Obj} : ∀ {df : List (Nat × List V)} {ds : List Deferred}, All2 (DFe X O w h) df ds → (∀ d ∈ ds, d.target ≠ .collected D) → All2 (DFe X O (objW w D o) h) df ds
  | [], _, r, _ => by simpa [All2] using r
  | p :: df, _, r, hn => by
    obtain ⟨d, ds', rfl, r1, r2⟩ := r
    refine All2.cons (r1.elim (fun ⟨hm, D', bi, e1, e2, e3⟩ => .inl ⟨hm, D', bi, e1, ?_, e3⟩) (fun hh => .inr hh)) (All2.put (b := b) r2 fun d hd => hn d (by simp [hd]))
    rw [objW_other w o (fun e => hn d (by simp) (by rw [e1, e]))]; exact e2
/-- An object that was not known when it began. -/
theorem Step.obj {X0 : Cx} {O0 : Nat → Addr → Prop} {w0 : World} {h0 : Heap} (s : Step B X0 O0 w0 h0 X O w h) (hr : HR B X O w h) {b D : Nat} {o' o : Obj} (hO : O b ⟨D, 0, none⟩) (hb : X0.M b = none) (hl : w.heap[D]? = some o') (h1 : o'.isCells = false) (h2 : o.isCells = false)
    (h3 : Obj.lp o' = false) : Step B X0 O0 w0 h0 X O (objW w D o) h := by
  have hne : ∀ c ci, X0.M c = some ci → hget h0 c = none → ∀ g, O0 c ⟨g, 0, none⟩ → g ≠ D := fun c ci e hn g ho hg => by
    subst hg
    have := hr.dis c b _ (s.fr.own c ci e hn _ ho) hO
    subst this; rw [hb] at e; cases e
  refine ⟨⟨s.up.le, s.up.below.trans (objW_below w o (hr.own b _ hO).1), s.up.fresh, fun r q e l => ?_⟩, s.len, ⟨s.fr.hid, s.fr.M, s.fr.own, fun c ci e hn a ho v ev => ?_, fun c ci e hn r ho q eq hq => ?_, fun c ci e hn g ho hg => ?_, s.fr.vis, s.fr.unk⟩⟩
  · have := s.up.obj r q e l
    rw [objW_other w o (fun hrD => by subst hrD; rw [hl] at this; cases this; rw [h3] at l; cases l)]; exact this
  · rw [objW_cell hl h1 h2, objW_frozen hl h1 h2]; exact s.fr.cell c ci e hn a ho v ev
  · rw [objW_other w o (hne c ci e hn r ho)]; exact s.fr.obj c ci e hn r ho q eq hq
  · rw [objW_other w o (hne c ci e hn g (ho _ rfl))]; exact s.fr.blk c ci e hn g ho hg

theorem defers_sound (hih : CodeS F P E ih) (hE : EnvOk F P E) (hF : Fen F) {fn : Func} {tmps : Array Value} {t : Tm} {R : Ending → World → Prop} {B : Nat} {X0 : Cx} {O0 : Nat → Addr → Prop} {w0 : World} {h0 : Heap} (hX0 : X0.lt h0.length) : ∀ (df : List (Nat × List V)) {n : Nat} {X : Cx} {O : Nat → Addr → Prop} {w : World} {h h2 : Heap} {lp2 : List Rec} {ds : List Deferred},
    runDefers E ih h0.length df h [] = some (h2, lp2) → DF X O w h ds df → HR B X O w h → Step B X0 O0 w0 h0 X O w h → TR X t tmps →
    (∀ X' O' w', HR B X' O' w' h2 → TR X' t tmps → Step B X0 O0 w0 h0 X' O' w' h2 → ∃ v, (results fn tmps).run P w' = .ok v w' ∧ R (.returned v) w') → LeavesInM F n P fn tmps R ds .returning w ∧ lp2 = []
  | [], n, X, O, w, h, h2, lp2, ds, e, hd, hr, hst, ht, hR => by
    have e : some (h, ([] : List Rec)) = some (h2, lp2) := e
    cases e
    have := DF.nil_of hd; subst this
    exact ⟨hR X O w hr ht hst, rfl⟩
  | d :: df, n, X, O, w, h, h2, lp2, ds, e, hd, hr, hst, ht, hR => by
    rw [runDefers_cons] at e
    obtain ⟨⟨dd, ds', rfl, hdd, hrest⟩, hpw⟩ := hd
    obtain ⟨hpw1, hpw2⟩ := List.pairwise_cons.1 hpw
    rcases hdd with ⟨hm, D, bi, htar, hD, hM, hhid, hO⟩ | ⟨hm, cap, htar, hargs⟩
    · -- the mark of a loop
      rw [hm, cond_true] at e
      obtain ⟨hle, e⟩ := bif_some e
      have hb0 : X0.M d.1 = none := by
        cases hx : X0.M d.1 with
        | none => rfl
        | some ci => have := hX0 _ _ hx; have := ble_of hle; omega
      have hno : ∀ b k, hget h b = some k → ¬ O b ⟨D, 0, none⟩ := fun b k hk ho => by
        have := hr.dis b d.1 _ ho hO
        subst this; rw [hhid] at hk; cases hk
      obtain ⟨q1, q2⟩ := defers_sound hih hE hF (fn := fn) (t := t) (tmps := tmps) (R := R) hX0 df (n := n) e ⟨All2.put (b := 0) (o := .deferred none) hrest fun d' hd' => hpw1 d' hd' D htar, hpw2⟩ (hr.obj hD rfl rfl hno) (hst.obj hr hO hb0 hD rfl rfl rfl) ht hR
      exact ⟨⟨by simp, .inl ⟨D, _, htar, run_takeDeferred hD, q1⟩⟩, q2⟩
    rw [hm, cond_false] at e
    split at e
    · rename_i fn' st hrun
      split at e
      · rename_i hdf
        split at e
        · rename_i rv hrv
          obtain ⟨c, r, hfn, hbody, hble, hx, hrr⟩ := runBodyS_some hrun
          obtain ⟨hpf, hname, hcode⟩ := hE.fn _ _ hfn
          have hs := start_SR (X := X) hr hargs hble
          obtain ⟨dt, da⟩ := dd
          simp only at htar; subst htar
          have hinv : (invoke (Target.fn (.func d.1) cap) da).run P w = .ok (.enter d.1 (da ++ cap)) w := by
            show (callFunc d.1 (da ++ cap)).run P w = _
            exact callFunc_enter hpf hbody hname _
          -- what is left behind the deferred call
          have hlast : ∀ (X1 : Cx) (O1 : Nat → Addr → Prop) (w1 : World) (a1 : Act) (e1 : Exit), ExR r e1 → SR fn'.ntmps B X1 O1 w1 a1 st → Step B X O w h X1 O1 w1 st.h →
              a1.defers = [] ∧ (∃ v, (results fn' a1.tmps).run P w1 = .ok v w1) ∧ LeavesInM F n P fn tmps R ds' .returning w1 ∧ lp2 = [] := fun X1 O1 w1 a1 e1 hex s1 p1 => by
            have had : a1.defers = [] := DF.nil_of (by have := s1.df; rw [hdf] at this; exact this)
            obtain ⟨v, hv, _⟩ := results_sound hE.toEnvTy s1.h s1.t hrv
            have hlp := s1.lp
            rw [hlp] at e
            have hrec := defers_sound hih hE hF (fn := fn) (t := t) (tmps := tmps) (R := R) hX0 df (n := n) e (DF.step hr.lt p1 ⟨hrest, hpw2⟩) s1.h (hst.trans p1) (ht.mono hr.lt p1.up.le) hR
            exact ⟨had, ⟨v, hv⟩, hrec⟩
          have hx2 : ∀ (c₀ : Frame) (cs : List Frame), c₀.mode = .returning → c.wpSIn F (n - 1) P (fun e a' cs' w' => cs' = c₀ :: cs ∧ Post fn'.ntmps B X O w ⟨tmOf fn'.ntmps d.2, h, [], []⟩ (r, st) e a' w') { tmps := (da ++ cap) ++ Array.replicate (fn'.ntmps - (da ++ cap).size) undef, defers := [] } (c₀ :: cs) w := fun c₀ cs hu =>
            execS_sound hih hE hF (by simp only [recoverD, hu]) (n := n - 1) 64 hx (hcode c hbody) hs
          have hroomAll : ∀ k, F.room k := fun k d hd => by rw [hF.depth] at hd; cases hd
          have hlp2 : lp2 = [] := by
            obtain ⟨e1, a1, cs1, w1, _, ⟨_, hex, X1, O1, s1, p1⟩, _⟩ := hx2 { (default : Frame) with mode := .returning } [] rfl { (default : Frame) with kind := .deferred, roundOf := none } [] rfl rfl (hF.fn _) (hroomAll _)
            exact (hlast X1 O1 w1 a1 e1 hex s1 p1).2.2.2
          refine ⟨⟨by simp, .inr ⟨hF.room, _, cap, d.1, da ++ cap, rfl, hinv, fun g _ => hF.fn g, ?_⟩⟩, hlp2⟩
          refine callsDIn_of_wpSIn hpf hbody (hF.fn _) fun c₀ cs hu => ?_
          intro b kk hb hro hFn hroom
          obtain ⟨e1, a1, cs1, w1, hl, ⟨rfl, hex, X1, O1, s1, p1⟩, harr⟩ := hx2 c₀ cs hu b kk hb hro hFn hroom
          refine ⟨e1, a1, _, w1, hl, ?_, harr⟩
          obtain ⟨had, ⟨v, hv⟩, hlv, _⟩ := hlast X1 O1 w1 a1 e1 hex s1 p1
          have hcc : ({ c₀ with mode := FrameMode.returning } : Frame) = c₀ := by rw [← hu]
          rcases hrr with rfl | rfl
          · cases e1 <;> simp only [ExR] at hex
            exact ⟨had, .returning, by rw [hcc], v, hv, hlv⟩
          · cases e1 <;> simp only [ExR] at hex
            exact ⟨had, .returning, by rw [hcc], v, hv, hlv⟩
        · cases e
      · cases e
    · cases e

theorem room_all {F : Fence} (hF : Fen F) (k : Nat) : F.room k := fun d hd => by rw [hF.depth] at hd; cases hd
theorem wpIn_some {n : Nat} (hF : Fen F) {c : Code} {Q : Exit → Act → World → Prop} {a : Act} (hw : c.wpIn F n P Q a w) : ∃ e a' w', Q e a' w' := by
  obtain ⟨e, a', w', q, _⟩ := hw { (default : Frame) with roundOf := none } [] [] hF.round.symm (hF.fn _) (room_all hF _)
  exact ⟨e, a', w', q⟩

/-- A call whose body is run in the caller's heap. -/
theorem inline_sound (hih : CodeS F P E ih) (hE : EnvOk F P E) (hF : Fen F) {f : Nat} {args : List V} {v : V} {h' : Heap} {lp' : List Rec} (e : inlineV E ih f args h [] = some (v, h', lp')) (hr : HR B X O w h) {xs : Array Value} (ha : All2 (fun v x => VREL X v true [x]) args xs.toList) :
    lp' = [] ∧ (∃ fn c, P.funcs[f]? = some fn ∧ fn.body = some c ∧ (fn.name == "runtime.NumGoroutine") = false) ∧ ∀ n, CallOk F n P f xs w (Leaves' B X O w h v h') := by
  unfold inlineV at e
  split at e
  · rename_i fn st hrun
    obtain ⟨c, r, hfn, hbody, hble, hx, hrr⟩ := runBody_some hrun
    obtain ⟨hpf, hname, hcode⟩ := hE.fn _ _ hfn
    have hs := start_SR (X := X) hr ha hble
    let R : Ending → World → Prop := fun | .returned x, w' => Leaves' B X O w h v h' x w' | _, _ => False
    -- the frame leaves
    have hlast : ∀ (n : Nat) (X1 : Cx) (O1 : Nat → Addr → Prop) (w1 : World) (a1 : Act), SR fn.ntmps B X1 O1 w1 a1 st → Step B X O w h X1 O1 w1 st.h → LeavesInM F n P fn a1.tmps R a1.defers .returning w1 ∧ lp' = [] := fun n X1 O1 w1 a1 s1 p1 => by
      split at e
      · rename_i hdf
        obtain ⟨v', hv, e⟩ := Option.map_eq_some_iff.1 e
        cases e
        have had : a1.defers = [] := DF.nil_of (by have := s1.df; rw [hdf] at this; exact this)
        obtain ⟨x, hx1, hx2⟩ := results_sound hE.toEnvTy s1.h s1.t hv
        rw [had]
        exact ⟨⟨x, hx1, X1, O1, s1.h, hx2, p1⟩, s1.lp⟩
      · obtain ⟨hl, hd, e⟩ := Option.bind_eq_some_iff.1 e
        obtain ⟨v', hv, e⟩ := Option.map_eq_some_iff.1 e
        cases e
        obtain ⟨h2, lp2⟩ := hl
        rw [s1.lp, llen_eq] at hd
        exact defers_sound hih hE hF hr.lt st.df (n := n) hd s1.df s1.h p1 s1.t fun X' O' w' q1 q2 q3 => by
          obtain ⟨x, hx1, hx2⟩ := results_sound hE.toEnvTy q1 q2 hv
          exact ⟨x, hx1, X', O', q1, hx2, q3⟩
    have hw : ∀ n, c.wpIn F n P (Post fn.ntmps B X O w ⟨tmOf fn.ntmps args, h, [], []⟩ (r, st)) { tmps := xs ++ Array.replicate (fn.ntmps - xs.size) undef, defers := [] } w := fun n =>
      hih.out hF hx (hcode c hbody) n B X O w _ hs
    refine ⟨?_, ⟨fn, c, hpf, hbody, hname⟩, fun n => ?_⟩
    · obtain ⟨e1, a1, w1, hex, X1, O1, s1, p1⟩ := wpIn_some hF (hw 0)
      exact (hlast 0 X1 O1 w1 a1 s1 p1).2
    · have := callsIn_of_wp_marks (F := F) (n := n) (P := P) (R := R) hpf hbody (hF.fn f) (wpIn_mono (hw n) fun e1 a1 w1 ⟨hex, X1, O1, s1, p1⟩ => by
        rcases hrr with rfl | rfl
        · cases e1 <;> simp only [ExR] at hex
          exact (hlast n X1 O1 w1 a1 s1 p1).1
        · cases e1 <;> simp only [ExR] at hex
          exact (hlast n X1 O1 w1 a1 s1 p1).1) hF.round
      exact CallsIn.mono this fun e w' he => by cases e <;> exact he
  · cases e

/-- A call whose arguments and results are data. -/
theorem vals_im {C : IV} {M : Nat → Option BI} {L : Nat → Option Nat} {ds : List D} {xs : List Value} (h : All2 (fun d x => REL C d true [x]) ds xs) : All2 (fun v x => VREL ⟨C, M, L⟩ v true [x]) (imap ds) xs := by
  rw [imap_eq]
  exact All2.map_left.1 (h.imp fun d x r => by simp only [VREL]; exact r)
theorem dataV_sound (hih : CodeS F P E ih) (hE : EnvOk F P E) (hF : Fen F) {f : Nat} {ds : List D} {d : D} (e : dataV E ih f ds = some d) :
    (∃ fn c, P.funcs[f]? = some fn ∧ fn.body = some c ∧ (fn.name == "runtime.NumGoroutine") = false) ∧ DataOk F P f ds d := by
  unfold dataV at e
  obtain ⟨⟨v, h', lp'⟩, he, hd⟩ := Option.bind_eq_some_iff.1 e
  have key : ∀ (C : IV) (w : World) (args : Array Value), CI C w → All2 (fun d x => REL C d true [x]) ds args.toList → (∃ fn c, P.funcs[f]? = some fn ∧ fn.body = some c ∧ (fn.name == "runtime.NumGoroutine") = false) ∧ ∀ n, CallOk F n P f args w fun x w' => ∃ C', C.le C' ∧ CI C' w' ∧ Below w.heap.size w w' ∧ (∀ a v, C' a = some v → C a = none → w.heap.size ≤ a.block) ∧ REL C' d true [x] := fun C w args hci ha => by
    let X : Cx := ⟨C, fun _ => none, fun _ => none⟩
    have hr : HR w.heap.size X (fun _ _ => False) w [] := ⟨fun b k e => (by simp [hget, lget] at e), fun _ _ h => h.elim, fun _ _ _ h => h.elim, fun _ _ e => (by cases e), hci, Nat.le_refl _⟩
    obtain ⟨_, hb, hc⟩ := inline_sound hih hE hF he hr (vals_im ha)
    refine ⟨hb, fun n => (hc n).mono fun x w' ⟨X', O', q1, q2, q3⟩ => ?_⟩
    have hci' := q1.ci
    refine ⟨bigView w.heap.size X' w', q3.up.le.C.trans (bigView_le hci'), bigView_ci hci', q3.up.below, fun a v e hn => ?_, data_sound q1 (bigView_shows q1) hd (fun _ _ => trivial) q2⟩
    unfold bigView at e
    split at e
    · assumption
    · exact q3.up.fresh a v e hn
  refine ⟨?_, fun n C w args hci ha => (key C w args hci ha).2 n⟩
  -- some arguments there are: none is asked of memory but that they stand for data; the function's own facts hang on no world
  unfold inlineV at he
  split at he
  · rename_i fn st hrun
    obtain ⟨c, r, hfn, hbody, _, _, _⟩ := runBody_some hrun
    obtain ⟨hpf, hname, _⟩ := hE.fn _ _ hfn
    exact ⟨fn, c, hpf, hbody, hname⟩
  · cases he

theorem dataC_sound (hih : CodeS F P E ih) (hE : EnvOk F P E) (hF : Fen F) {f : Nat} {ds : List D} {d : D} (e : dataC E ih f ds = some d) :
    (∃ fn c, P.funcs[f]? = some fn ∧ fn.body = some c ∧ (fn.name == "runtime.NumGoroutine") = false) ∧ DataOk F P f ds d := by
  unfold dataC at e
  split at e
  · rename_i S hS
    split at e
    · rename_i r hr
      cases e
      obtain ⟨h1, h2⟩ := hE.sm _ _ hS
      exact ⟨h1, h2 _ _ hr⟩
    · exact dataV_sound hih hE hF e
  · exact dataV_sound hih hE hF e

theorem nil_of_ownsL {l : List V} (h : V.ownsL l = []) : ∀ v ∈ l, ∀ b ∈ v.owns, False := fun v hv b hb => by
  have := ownsL_mem hv hb; rw [h] at this; cases this

theorem callV_sound (hih : CodeS F P E ih) (hE : EnvOk F P E) (hF : Fen F) {f : Nat} {args : List V} {v : V} {h' : Heap} {lp' : List Rec} (e : callV E ih f args h [] = some (v, h', lp')) (hr : HR B X O w h) {xs : Array Value} (ha : All2 (fun v x => VREL X v true [x]) args xs.toList) :
    lp' = [] ∧ ∀ n, CallN F n P B X O w h (callFunc f xs) v h' := by
  have inl : inlineV E ih f args h [] = some (v, h', lp') → lp' = [] ∧ ∀ n, CallN F n P B X O w h (callFunc f xs) v h' := fun e => by
    obtain ⟨h1, ⟨fn, c, hpf, hb, hn⟩, h2⟩ := inline_sound hih hE hF e hr ha
    exact ⟨h1, fun n => .inr ⟨f, xs, callFunc_enter hpf hb hn xs, h2 n⟩⟩
  unfold callV at e
  cases hinl : E.inl f with
  | true => rw [hinl, cond_true] at e; exact inl e
  | false =>
    rw [hinl, cond_false] at e
    split at e
    · rename_i ds hds
      obtain ⟨r, hr', e⟩ := Option.bind_eq_some_iff.1 e
      obtain ⟨⟨fn, c, hpf, hb, hn⟩, hdata⟩ := dataC_sound hih hE hF hr'
      have hent := callFunc_enter (w := w) hpf hb hn xs
      split at e
      · rename_i hno
        cases e
        refine ⟨rfl, fun n => .inr ⟨f, xs, hent, ?_⟩⟩
        have hS : Shows X w h X.C (fun _ => False) := ⟨.refl _, fun b bi a0 hb => hb.elim⟩
        have hrel := data_REL hr hS hds (fun v hv b hb => nil_of_ownsL hno v hv b hb) ha
        refine (hdata n X.C w xs hr.ci hrel).mono fun x w' ⟨C', q1, q2, q3, q4, q5⟩ => ?_
        obtain ⟨g1, g2⟩ := grown_ok hr q1 q2 q3 q4
        exact ⟨X.withC C', O, g1, by simp only [VREL]; exact q5, g2⟩
      · cases hfl : r.flat with
        | true =>
          rw [hfl, cond_true] at e
          cases e
          refine ⟨rfl, fun n => .inr ⟨f, xs, hent, ?_⟩⟩
          have hrel := data_REL hr (bigView_shows hr) hds (fun _ _ _ _ => trivial) ha
          refine (hdata n _ w xs (bigView_ci hr.ci) hrel).mono fun x w' ⟨C', q1, q2, q3, q4, q5⟩ => ?_
          obtain ⟨g1, g2⟩ := grown_same hr q3
          exact ⟨X, O, g1, by simp only [VREL]; exact r.flat_REL true [x] hfl q5, g2⟩
        | false =>
          rw [hfl, cond_false] at e
          obtain ⟨hal, e⟩ := bif_some e
          cases e
          refine ⟨rfl, fun n => .inr ⟨f, xs, hent, ?_⟩⟩
          obtain ⟨C, O1, k1, k2, k3, k4, k5, k6, k7, k8, k9⟩ := close_sound (V.ownsL args) hr hal
          have hshow := close_shows hal k2 k7
          have hrel := data_REL hr hshow hds (fun v hv b hb => ownsL_mem hv hb) ha
          have hst : Step B X O w h (X.withC C) O1 w (close h (V.ownsL args)) := ⟨Up.withC _ k2 k4, by rw [k5]; exact Nat.le_refl _, close_FR hal (fun b hb => (k8 b).2 hb) (fun b => (k8 b).1) k9⟩
          refine (hdata n C w xs k3 hrel).mono fun x w' ⟨C', q1, q2, q3, q4, q5⟩ => ?_
          obtain ⟨g1, g2⟩ := grown_ok k1 q1 q2 q3 q4
          exact ⟨_, O1, g1, by simp only [VREL]; exact q5, hst.trans g2⟩
    · exact inl e

theorem callFn_sound (hih : CodeS F P E ih) (hE : EnvOk F P E) (hF : Fen F) {nid g : Nat} {args : List V} {v : V} {h' : Heap} {lp' : List Rec} (e : callFn E ih nid g args h [] = some (v, h', lp')) (hr : HR B X O w h) (hn : hget h nid = none) (hM : X.M nid = none) (hle : nid ≤ h.length)
    {xs : Array Value} (ha : All2 (fun v x => VREL X v true [x]) args xs.toList) : lp' = [] ∧ ∀ n, CallN F n P B X O w h (callFunc g xs) v h' := by
  have lifted : ∀ {r : R}, lift [] r = some (v, h', lp') → lp' = [] ∧ r = some (v, h') := fun {r} e => by
    cases r with
    | none => cases e
    | some x =>
      have e : some (x.1, x.2, ([] : List Rec)) = some (v, h', lp') := e
      cases e; exact ⟨rfl, rfl⟩
  unfold callFn at e
  split at e
  · rename_i sz hsz
    obtain ⟨h1, h2⟩ := lifted e
    exact ⟨h1, fun n => hE.clone g sz hsz n B X O w h hr args xs ha nid hn hM hle v h' h2⟩
  · split at e
    · exact callV_sound hih hE hF e hr ha
    · rename_i hx
      obtain ⟨h1, h2⟩ := lifted e
      exact ⟨h1, fun n => hE.ext g (fun h0 => hx h0) n B X O w h hr args xs ha v h' h2⟩

/-- Which function is called. -/
theorem target_sound (hE : EnvOk F P E) {t : Tm} {a : Act} (ht : TR X t a.tmps) {c : Call} (hc : ∀ x ∈ c.operands.toList, okOpd x = true) {g : Nat} {xs : List V} (e : target E t c = some (g, xs)) (ty : TypeId) :
    ∃ args : Array Value, All2 (fun v x => VREL X v true [x]) xs args.toList ∧ ∀ w, (do let d ← resolve a.eval c ty; invoke d.target d.args : Sem Next).run P w = (callFunc g args).run P w := by
  have hargs : (∀ x ∈ c.args.toList, okOpd x = true) := fun x hx => hc x (by unfold Call.operands; simp only [Array.toList_append, List.mem_append]; exact .inr hx)
  have hev := evs_sound ht hargs
  have hflat : ∀ {l : List V} {wss : List (List Value)}, VRELs X l true wss → All2 (fun v x => VREL X v true [x]) l wss.flatten := by
    intro l
    induction l with
    | nil => intro wss h; simp only [VRELs] at h; subst h; exact All2.nil
    | cons v l ih =>
      intro wss h
      simp only [VRELs] at h
      obtain ⟨ws, r, rfl, h1, h2⟩ := h
      obtain ⟨y, rfl⟩ := VREL.single h1
      exact All2.cons h1 (ih h2)
  unfold target at e
  split at e
  · cases e
  · rename_i f hcal
    have hf : VREL X (ev t f) true [a.eval f] := ev_sound ht (hc f (by unfold Call.operands; rw [hcal]; simp))
    split at e
    · rename_i g' as cap hg
      cases e
      rw [hg] at hf
      simp only [VREL] at hf
      obtain ⟨fs, cs, w1, w2, e1, h1, h2, h3, h4⟩ := hf
      refine ⟨(fs ++ c.args.map a.eval) ++ cs, ?_, fun w => ?_⟩
      · have q1 := hflat h1
        have q3 := hflat h3
        rw [← h2] at q1; rw [← h4] at q3
        simp only [Array.toList_append, List.append_assoc]
        exact q1.app (hev.app q3)
      · have hres : resolve a.eval c ty = pure { target := .fn (.func g) cs, args := fs ++ c.args.map a.eval } := by
          unfold resolve; rw [hcal]
          show Deferred.ofValue (a.eval f) _ = _
          rw [(List.cons.inj e1).1]; rfl
        simp only [hres, pure_bind]
        rfl
    · rename_i g' hg
      cases e
      rw [hg] at hf
      simp only [VREL, REL] at hf
      refine ⟨(#[] ++ c.args.map a.eval) ++ #[], by simpa using hev, fun w => ?_⟩
      have hres : resolve a.eval c ty = pure { target := .fn (.func g) #[], args := #[] ++ c.args.map a.eval } := by
        unfold resolve; rw [hcal]
        show Deferred.ofValue (a.eval f) _ = _
        rw [(List.cons.inj hf).1]; rfl
      simp only [hres, pure_bind]
      rfl
    · cases e
  · rename_i r nm hcal
    have hr : VREL X (ev t r) true [a.eval r] := ev_sound ht (hc r (by unfold Call.operands; rw [hcal]; simp))
    have fin : ∀ {u : Nat} {y : Value} {v : V}, a.eval r = .iface u y → VREL X v true [y] → E.meth u nm = some g → xs = v :: evs t c.args →
        ∃ args : Array Value, All2 (fun v x => VREL X v true [x]) xs args.toList ∧ ∀ w, (do let d ← resolve a.eval c ty; invoke d.target d.args : Sem Next).run P w = (callFunc g args).run P w := fun {u y v} hrv hy hm hxs => by
      subst hxs
      refine ⟨#[y] ++ c.args.map a.eval, ?_, fun w => ?_⟩
      · rw [Array.toList_append]; exact All2.cons hy hev
      · have hres : resolve a.eval c ty = pure { target := .fn (.method nm) #[], args := #[a.eval r] ++ c.args.map a.eval } := by
          unfold resolve; rw [hcal]
        have hmm := hE.meth u nm g hm y w
        have hget0 : (#[Value.iface u y] ++ c.args.map a.eval)[0]? = some (.iface u y) := by
          rw [← Array.getElem?_toList, Array.toList_append]; rfl
        have hext : (#[Value.iface u y] ++ c.args.map a.eval).extract 1 (#[Value.iface u y] ++ c.args.map a.eval).size = c.args.map a.eval := by
          apply Array.toList_inj.1
          simp only [Array.toList_extract, List.extract, Array.toList_append, Array.size_append]
          simp only [List.singleton_append, List.drop_succ_cons, List.drop_zero]
          rw [List.take_of_length_le (by simp)]
        simp only [hres, pure_bind, invoke, hrv, hget0, hext, callMethod, Sem.run_bind, program]
        simp only [Sem.run, Result.andThen_ok, hmm]
    split at e
    · rename_i u v hg
      obtain ⟨g', hm, e⟩ := Option.map_eq_some_iff.1 e
      cases e
      rw [hg] at hr
      simp only [VREL] at hr
      obtain ⟨y, e1, hy⟩ := hr
      exact fin (List.cons.inj e1).1 hy hm rfl
    · rename_i u d hg
      obtain ⟨g', hm, e⟩ := Option.map_eq_some_iff.1 e
      cases e
      rw [hg] at hr
      simp only [VREL, REL] at hr
      obtain ⟨y, e1, hy⟩ := hr
      exact fin (List.cons.inj e1).1 (by simp only [VREL]; exact hy) hm rfl
    · cases e

/-! ### an operation at its place -/
theorem CallN.upon (hF : Fen F) {n : Nat} {o : Oper} {a : Act} {K : Act → World → Prop} {Q : Exit → Act → World → Prop} {m : Sem Next} {v : V} {h' : Heap} (hm : CallN F (n - 1) P B X O w h m v h')
    (hK : ∀ x w', Leaves' B X O w h v h' x w' → K (a.put o.dst x) w') : o.uponIn F n P a K Q (m.run P w) := by
  rcases hm with ⟨x, w', X', O', hr, q1, q2, q3⟩ | ⟨f, args, hr, hc⟩
  · rcases hr with hr | ⟨hr, rfl⟩ <;> rw [hr]
    · exact hK _ _ ⟨X', O', q1, q2, q3⟩
    · exact hK _ _ ⟨X', O', q1, q2, q3⟩
  · rw [hr]
    exact ⟨hF.room, CallsIn.mono hc fun e w' he => by cases e <;> first | exact hK _ _ he | exact he.elim⟩
theorem CallN.of_run {n : Nat} {m m' : Sem Next} {v : V} {h' : Heap} (hm : CallN F n P B X O w h m v h') (e : m'.run P w = m.run P w) : CallN F n P B X O w h m' v h' := by
  unfold CallN OpN at *
  rw [e]; exact hm

theorem opVal_sound (hih : CodeS F P E ih) (hE : EnvOk F P E) (hF : Fen F) {keep : Bool} {nid : Nat} {st : St} {nt : Nat} {a : Act} (s : SR nt B X O w a st) {o : Oper} (ho : ∀ x ∈ o.op.operands.toList, okOpd x = true) (hn : hget st.h nid = none) (hM : X.M nid = none) (hle : nid ≤ st.h.length) {v : V} {h' : Heap} {lp' : List Rec}
    (e : (match o.op with
        | .call c => (match c.callee with
          | .builtin _ => lift st.lp (stepOp E keep nid st.t st.h o.op)
          | _ => goCall E ih nid st.t c st.h st.lp)
        | op => lift st.lp (stepOp E keep nid st.t st.h op)) = some (v, h', lp')) : lp' = [] ∧ ∀ n, CallN F n P B X O w st.h (execOp a.eval o) v h' ∨ RoundN F n P B X O w st.h (execOp a.eval o) v h' := by
  have lifted : ∀ {r : R}, lift st.lp r = some (v, h', lp') → lp' = [] ∧ r = some (v, h') := fun {r} e => by
    rw [s.lp] at e
    cases r with
    | none => cases e
    | some x =>
      have e : some (x.1, x.2, ([] : List Rec)) = some (v, h', lp') := e
      cases e; exact ⟨rfl, rfl⟩
  have plain : lift st.lp (stepOp E keep nid st.t st.h o.op) = some (v, h', lp') → lp' = [] ∧ ∀ n, CallN F n P B X O w st.h (execOp a.eval o) v h' ∨ RoundN F n P B X O w st.h (execOp a.eval o) v h' := fun e => by
    obtain ⟨h1, h2⟩ := lifted e
    exact ⟨h1, fun n => .inl <| .inl (stepOp_sound hE.toEnvB s.h hn hM hle s.t ho h2)⟩
  split at e
  · rename_i c hop
    split at e
    · rename_i b hcal; exact plain e
    · rename_i hnb
      have hex : execOp a.eval o = (do let d ← resolve a.eval c o.type; invoke d.target d.args) := by unfold execOp; rw [hop]
      unfold goCall at e
      split at e
      · -- a loop's yield
        rename_i b xs hy
        obtain ⟨h1, h2⟩ := lifted e
        refine ⟨h1, fun n => .inr ?_⟩
        rw [hex]
        unfold yldOf at hy
        split at hy
        · rename_i f hcal
          split at hy
          · rename_i b' hev
            cases hy
            have hf : VREL X (ev st.t f) true [a.eval f] := ev_sound s.t (ho f (by rw [hop]; simp [Op.operands, Call.operands, hcal]))
            rw [hev] at hf
            simp only [VREL] at hf
            obtain ⟨l, e1, bi, e2, e3, e4⟩ := hf
            have ha := evs_sound s.t (l := c.args) (fun x hx => ho x (by rw [hop]; simp only [Op.operands, Call.operands, hcal, Array.toList_append, List.mem_append]; exact .inr hx))
            have hres : (resolve a.eval c o.type) = pure { target := .fn (.yield l) #[], args := #[] ++ c.args.map a.eval } := by
              unfold resolve; rw [hcal]
              show Deferred.ofValue (a.eval f) _ = _
              rw [(List.cons.inj e1).1]; rfl
            simp only [hres, pure_bind]
            have hemp : (#[] ++ c.args.map a.eval : Array Value) = c.args.map a.eval := by simp
            rw [hemp]
            exact roundV_sound hih hE hF h2 s.h e2 e3 ha n
          · cases hy
        · cases hy
      obtain ⟨⟨g, xs⟩, htar, e⟩ := Option.bind_eq_some_iff.1 e
      rw [s.lp] at e
      obtain ⟨args, ha, hrun⟩ := target_sound hE s.t (c := c) (fun x hx => ho x (by rw [hop]; exact hx)) htar o.type
      obtain ⟨h1, h2⟩ := callFn_sound hih hE hF e s.h hn hM hle ha
      refine ⟨h1, fun n => .inl ((h2 n).of_run ?_)⟩
      rw [hex]; exact hrun w
  · exact plain e

theorem opV_sound (hih : CodeS F P E ih) (hE : EnvOk F P E) (hF : Fen F) {keep : Bool} {ops : Array Oper} {nid : Nat} {st st' : St} {nt n : Nat} {a : Act} {o : Oper} (e : opV E ih keep ops nid o st = some st') (s : SR nt B X O w a st) (hok : opOk nt o = true) (hn : hget st.h nid = none) (hM : X.M nid = none) (hle : nid ≤ st.h.length)
    {K : Act → World → Prop} {Q : Exit → Act → World → Prop} (hK : ∀ X' O' w' a', SR nt B X' O' w' a' st' → Step B X O w st.h X' O' w' st'.h → K a' w') :
    if Region.wanted o (yielded ops a.tmps) = true then o.wpIn F n P a w K Q else (∀ f, o.about P w a.eval = some f → F.fn f) ∧ K (a.put o.dst undef) w := by
  obtain ⟨hd, ho⟩ := opOk_dst hok
  unfold opV at e
  cases hg : guardOf ops st.t o.guard with
  | none => rw [hg] at e; cases e
  | some b =>
    rw [hg] at e
    have hw := guard_sound s.t hg
    cases b with
    | false =>
      simp only at e
      cases e
      rw [hw, if_neg (by simp)]
      exact ⟨fun f _ => hF.fn f, hK X O w _ (s.put hd (undefRel X)) (.refl _ _ _ _ _)⟩
    | true =>
      simp only at e
      rw [hw, if_pos rfl]
      unfold Oper.wpIn
      refine ⟨fun f _ => hF.fn f, ?_⟩
      rw [hF.round, Oper.semAt_none]
      split at e
      · -- a deferred call
        rename_i c hop
        split at e
        · rename_i f hcal
          split at e
          · rename_i g as cap hgv
            obtain ⟨hmk, e⟩ : isMark (g, as ++ (evs st.t c.args ++ cap)) = false ∧ some (⟨putDst st.t o.dst .undef, st.h, st.lp, (g, as ++ (evs st.t c.args ++ cap)) :: st.df⟩ : St) = some st' := by
              cases hmk : isMark (g, as ++ (evs st.t c.args ++ cap)) with
              | true => rw [hmk, cond_true] at e; cases e
              | false => rw [hmk, cond_false] at e; exact ⟨rfl, e⟩
            cases e
            have hf : VREL X (ev st.t f) true [a.eval f] := ev_sound s.t (ho f (by rw [hop]; simp [Op.operands, Call.operands, hcal]))
            rw [hgv] at hf
            simp only [VREL] at hf
            obtain ⟨fs, cs, w1, w2, e1, h1, h2, h3, h4⟩ := hf
            have hev := evs_sound s.t (l := c.args) (fun x hx => ho x (by rw [hop]; simp only [Op.operands, Call.operands, hcal, Array.toList_append, List.mem_append]; exact .inr hx))
            have hres : (resolve a.eval c o.type) = pure { target := .fn (.func g) cs, args := fs ++ c.args.map a.eval } := by
              unfold resolve; rw [hcal]
              show Deferred.ofValue (a.eval f) _ = _
              rw [(List.cons.inj e1).1]; rfl
            have hrun : (execOp a.eval o).run P w = .ok (.defer { target := .fn (.func g) cs, args := fs ++ c.args.map a.eval }) w := by
              unfold execOp; rw [hop]; simp only [hres, pure_bind]; rfl
            rw [hrun]
            have hflat : ∀ {l : List V} {wss : List (List Value)}, VRELs X l true wss → All2 (fun v x => VREL X v true [x]) l wss.flatten := by
              intro l
              induction l with
              | nil => intro wss h; simp only [VRELs] at h; subst h; exact All2.nil
              | cons v l ih =>
                intro wss h
                simp only [VRELs] at h
                obtain ⟨ws, r, rfl, h1, h2⟩ := h
                obtain ⟨y, rfl⟩ := VREL.single h1
                exact All2.cons h1 (ih h2)
            have q1 := hflat h1
            have q3 := hflat h3
            rw [← h2] at q1; rw [← h4] at q3
            have s2 : SR nt B X O w { a with defers := { target := .fn (.func g) cs, args := fs ++ c.args.map a.eval } :: a.defers } ⟨st.t, st.h, st.lp, (g, as ++ (evs st.t c.args ++ cap)) :: st.df⟩ :=
              ⟨s.t, s.n, s.h, ⟨All2.cons (.inr ⟨hmk, cs, rfl, by simp only [Array.toList_append, List.append_assoc]; exact q1.app (hev.app q3)⟩) s.df.1, List.pairwise_cons.2 ⟨fun d' _ D hD => (by cases hD), s.df.2⟩⟩, s.lp⟩
            exact hK X O w _ (s2.put hd (undefR X undef)) (.refl _ _ _ _ _)
          · cases e
        · cases e
      · rename_i hnd
        split at e
        · cases e
        · rename_i v h1 lp1 hx
          cases e
          obtain ⟨rfl, hc⟩ := opVal_sound hih hE hF s ho hn hM hle hx
          have hK' : ∀ x w', Leaves' B X O w st.h v h1 x w' → K (a.put o.dst x) w' := ?_
          · exact (hc (n - 1)).elim (fun h => h.upon hF hK') (fun h => h.upon hF hK')
          intro x w' ⟨X', O', q1, q2, q3⟩
          have s1 := (s.step q1 q3).put hd q2
          exact hK X' O' w' _ ⟨s1.t, s1.n, s1.h, s1.df, rfl⟩ q3

theorem runOps_cons (keep : Bool) (ops : Array Oper) (o : Oper) (l : List Oper) (st : St) : runOps E ih keep ops (o :: l) st = (match opV E ih keep ops (llen st.h) o st with
    | none => none
    | some st' => runOps E ih keep ops l st') := rfl

theorem runOps_sound (hih : CodeS F P E ih) (hE : EnvOk F P E) (hF : Fen F) {keep : Bool} {ops : Array Oper} {nt n : Nat} {Q : Exit → Act → World → Prop} : ∀ (l : List Oper) (i : Nat), ops.toList.drop i = l → (∀ o ∈ l, opOk nt o = true) →
    ∀ {B : Nat} {X : Cx} {O : Nat → Addr → Prop} {w : World} {a : Act} {st st' : St}, SR nt B X O w a st → runOps E ih keep ops l st = some st' →
      (∀ X' O' w' a', SR nt B X' O' w' a' st' → Step B X O w st.h X' O' w' st'.h → Q .normal a' w') → wpOpsIn F n P ops Q (List.range' i l.length) a w
  | [], i, _, _, B, X, O, w, a, st, st', s, e, hQ => by
    have e : some st = some st' := e
    cases e
    exact hQ X O w a s (.refl _ _ _ _ _)
  | o :: l, i, hl, hok, B, X, O, w, a, st, st', s, e, hQ => by
    have hi : ops[i]? = some o := by
      rw [← Array.getElem?_toList]
      have : (ops.toList.drop i)[0]? = some o := by rw [hl]; rfl
      rw [List.getElem?_drop] at this; simpa using this
    have hl2 : ops.toList.drop (i + 1) = l := by
      rw [← List.drop_drop, hl]; rfl
    rw [List.length_cons, List.range'_succ]
    simp only [wpOpsIn, hi]
    rw [runOps_cons] at e
    split at e
    · cases e
    · rename_i st1 h1
      rw [llen_eq] at h1
      exact opV_sound hih hE hF h1 s (hok o (by simp)) (nid_none rfl) (nid_M s.h) (Nat.le_refl _) fun X' O' w' a' s' p' =>
        runOps_sound hih hE hF l (i + 1) hl2 (fun o' h' => hok o' (by simp [h'])) s' e fun X2 O2 w2 a2 s2 p2 => hQ X2 O2 w2 a2 s2 (p'.trans p2)
end
end Go.As
