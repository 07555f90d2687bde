/-
  AS: slices.Clone.
-/
import Derived.Test.YtphcebdhnpbjlaaGreatDoorAsMemo
set_option linter.unusedSectionVars false
set_option linter.unusedSimpArgs false
set_option linter.unusedVariables false
namespace Go.As
open Go.RowKit (Below)
variable [Gh]
section
variable {F : Fence} {P : Program} {B : Nat} {X : Cx} {O : Nat → Addr → Prop} {w : World} {h : Heap} {E : Env}

/-- The body of slices.Clone at a slice type T (bt: bool). -/
def clone0 (T : Nat) : Array Oper := #[{ dst := some 2, op := Op.assign (Operand.const (Value.slice none 0 0)), type := T, pos := "slices.go:355", after := #[], guard := none }]
def clone1 (T bt : Nat) : Array Oper := #[{ dst := some 3, op := Op.move (Operand.tmp 0), type := T, pos := "slices.go:357", after := #[], guard := none },
  { dst := some 4, op := Op.binOp BinOp.eql T (Operand.tmp 3) (Operand.const (Value.slice none 0 0)) T, type := bt, pos := "slices.go:357", after := #[{ on := 0, ground := Ground.data }], guard := none }]
def clone2 (T : Nat) : Array Oper := #[{ dst := some 2, op := Op.assign (Operand.const (Value.slice none 0 0)), type := T, pos := "slices.go:358", after := #[], guard := none }]
def clone3 (T : Nat) : Array Oper := #[{ dst := some 5, op := Op.buildSlice T 0 #[], type := T, pos := "slices.go:362", after := #[], guard := none },
  { dst := some 6, op := Op.move (Operand.tmp 0), type := T, pos := "slices.go:362", after := #[], guard := none },
  { dst := some 7, op := Op.call { callee := Callee.builtin Builtin.append, args := #[Operand.tmp 5, Operand.tmp 6], argTypes := #[T, T] }, type := T, pos := "slices.go:362",
    after := #[{ on := 0, ground := Ground.data }, { on := 1, ground := Ground.data }], guard := none },
  { dst := some 2, op := Op.assign (Operand.tmp 7), type := T, pos := "slices.go:362",
    after := #[{ on := 2, ground := Ground.data }, { on := 2, ground := Ground.chain }, { on := 0, ground := Ground.phase }, { on := 1, ground := Ground.phase }, { on := 2, ground := Ground.phase }], guard := none }]
def cloneCode (T bt : Nat) : Code :=
  (Code.region 0 (clone0 T) false).seq (((Code.region 1 (clone1 T bt) false).seq (Code.cond (Operand.tmp 4) ((Code.region 2 (clone2 T) false).seq Code.ret) Code.skip)).seq ((Code.region 3 (clone3 T) false).seq Code.ret))

/-- One operation that is no call of a function. -/
theorem op_at (hE : EnvB P E) (hF : Fen F) {ops : Array Oper} {o : Oper} {nt n : Nat} {a : Act} {st : St} (s : SR nt B X O w a st) (hg : o.guard = none) (hd : noD o = true) (hok : opOk nt o = true) {nid : Nat} {v : V} {h' : Heap} (hn : hget st.h nid = none) (hM : X.M nid = none) (hle : nid ≤ st.h.length)
    (e : stepOp E false nid st.t st.h o.op = some (v, h')) {K : Act → World → Prop} {Q : Exit → Act → World → Prop} (hK : ∀ X' O' w' a', SR nt B X' O' w' a' ⟨putDst st.t o.dst v, h', st.lp, st.df⟩ → Step B X O w st.h X' O' w' h' → K a' w') :
    if Region.wanted o (yielded ops a.tmps) = true then o.wpIn F n P a w K Q else (∀ f, o.about P w a.eval = some f → F.fn f) ∧ K (a.put o.dst undef) w := by
  obtain ⟨hdd, ho⟩ := opOk_dst hok
  have hw : Region.wanted o (yielded ops a.tmps) = true := by unfold Region.wanted; rw [hg]
  rw [if_pos hw]
  unfold Oper.wpIn
  refine ⟨fun f _ => hF.fn f, ?_⟩
  rw [noD_sem hd]
  obtain ⟨x, w1, X1, O1, hrun, q1, q2, q3⟩ := stepOp_sound hE s.h hn hM hle s.t ho e
  have s1 := (s.step q1 q3).put hdd q2
  rcases hrun with hrun | ⟨hrun, rfl⟩ <;> rw [hrun] <;> exact hK X1 O1 w1 _ s1 q3

theorem eql_nil {T el : Nat} (hT : P.underlying T = some (.slice el)) (b : Option Addr) (n c : Nat) : (do eqGuard .eql T (.tmp 3) (.const (.slice none 0 0)) (.slice b n c) (.slice none 0 0); binOp .eql T (.slice b n c) (.slice none 0 0) : Sem Value).run P w = .ok (.bool b.isNone) w := by
  have h1 : (eqGuard .eql T (.tmp 3) (.const (.slice none 0 0)) (.slice b n c) (.slice none 0 0)).run P w = .ok () w := by simp [eqGuard]
  have h2 : (Op.equal T (.slice b n c) (.slice none 0 0)).run P w = .ok b.isNone w := by
    unfold Op.equal
    rw [show Op.maxDepth = 9999 + 1 from rfl]
    unfold Op.equalIn
    cases b <;> simp [run_underlying hT]
  simp [h1, binOp, h2]

theorem hput_hput (h : Heap) {n : Nat} (a b : Blk) (hn : n ≤ h.length) : hput (hput h n a) n b = hput h n b := by
  have h1 := hput_len h n a
  have h2 := hput_len h n b
  have h3 := hput_len (hput h n a) n b
  have hlt : n < (hput h n a).length := by rw [h1]; split <;> omega
  rw [if_pos hlt, h1] at h3
  refine heap_ext (by rw [h3, h2]) fun i => ?_
  rw [hget_hput _ n i b (by omega), hget_hput h n i b hn, hget_hput h n i a hn]
  split <;> rfl
theorem delems_put {x : V} {l : List D} {nid : Nat} {k : Blk} (hl : x.delems h = some l) (hn : hget h nid = none) (hle : nid ≤ h.length) : x.delems (hput h nid k) = some l ∧ isArv (hput h nid k) x = false := by
  unfold V.delems at hl
  split at hl
  · exact ⟨hl, rfl⟩
  · exact ⟨hl, rfl⟩
  · rename_i b g off len lim
    split at hl
    · rename_i g' s ro l' hb
      have hne : b ≠ nid := fun e => by subst e; rw [hn] at hb; cases hb
      have hb' : hget (hput h nid k) b = some (.arr g' s ro l') := by rw [hget_hput h nid b k hle, if_neg hne]; exact hb
      constructor
      · unfold V.delems; simp only [hb']; exact hl
      · unfold isArv; simp only [hb']
    · cases hl
  · cases hl

theorem clone_sound (hE : EnvB P E) (hF : Fen F) {g T bt el : Nat} {fn : Func} {ti te : TI} (hf : P.funcs[g]? = some fn) (hb : fn.body = some (cloneCode T bt)) (hname : (fn.name == "runtime.NumGoroutine") = false) (hnt : fn.ntmps = 8) (hres : fn.results = #[.tmp 2])
    (hT : E.ty T = some ti) (hTk : ti.k = .slc el) (hel : E.ty el = some te) (n : Nat) (hr : HR B X O w h) (xs : List V) (args : Array Value) (ha : All2 (fun v x => VREL X v true [x]) xs args.toList)
    (nid : Nat) (hn : hget h nid = none) (hM : X.M nid = none) (hle : nid ≤ h.length) (v : V) (h' : Heap) (e : cloneV E nid el xs h = some (v, h')) : CallN F n P B X O w h (callFunc g args) v h' := by
  have hTu : P.underlying T = some (.slice el) := by have := (hE.ty T ti hT).kind; rw [hTk] at this; exact this
  unfold cloneV at e
  split at e
  · rename_i x
    rw [hel, Option.bind_some] at e
    obtain ⟨l, hl, e⟩ := Option.bind_eq_some_iff.1 e
    obtain ⟨hc, e⟩ := bif_some e
    cases e
    simp only [Bool.and_eq_true] at hc
    obtain ⟨⟨hz, hzd⟩, hfw, hroom⟩ := hc
    obtain ⟨vx, r, ea, rx, rr⟩ := ha
    cases rr
    have harg : args = #[vx] := by apply Array.toList_inj.1; rw [ea]
    subst harg
    refine .inr ⟨g, #[vx], callFunc_enter hf hb hname _, ?_⟩
    refine callsIn_of_wp hf hb (hF.fn g) ?_ hF.round
    obtain ⟨ax, nx, cx, e1, e2, e3, e4, e5⟩ := delems_cells hr hl rx
    subst e1
    have s0 : SR 8 B X O w { tmps := #[Value.slice ax nx cx] ++ Array.replicate (fn.ntmps - 1) undef, defers := [] } ⟨tmOf 8 [x], h, [], []⟩ := by
      have := start_SR hr (l := [x]) (args := #[Value.slice ax nx cx]) (All2.cons rx All2.nil) (nt := 8) rfl
      rw [hnt]; exact this
    show (cloneCode T bt).wpIn F n P (bodyPost P fn _) { tmps := #[Value.slice ax nx cx] ++ Array.replicate (fn.ntmps - 1) undef, defers := [] } w
    have hev0 : ({ tmps := #[Value.slice ax nx cx] ++ Array.replicate (fn.ntmps - 1) undef, defers := [] } : Act).tmps.getD 0 undef = .slice ax nx cx := by
      show (#[Value.slice ax nx cx] ++ Array.replicate (fn.ntmps - 1) undef).getD 0 undef = _
      rw [Array.getD_eq_getD_getElem?, Array.getElem?_append_left (by simp)]; rfl
    have hsz0 : ({ tmps := #[Value.slice ax nx cx] ++ Array.replicate (fn.ntmps - 1) undef, defers := [] } : Act).tmps.size = 8 := s0.n
    generalize ({ tmps := #[Value.slice ax nx cx] ++ Array.replicate (fn.ntmps - 1) undef, defers := [] } : Act) = a0 at s0 hev0 hsz0 ⊢
    have hfull : VREL X (.full []) true [.slice none 0 0] := by simp only [VREL]; exact ⟨_, rfl, none, 0, rfl, rfl, Nat.zero_le _, .inl rfl⟩
    -- what a frame has at the end
    have hend : ∀ {X1 : Cx} {O1 : Nat → Addr → Prop} {w1 : World} {a1 : Act} {st : St}, SR 8 B X1 O1 w1 a1 st → st.df = [] →
        (∀ y, VREL X1 (st.t.get 2) true [y] → ∃ X2 O2, HR B X2 O2 w1 (hput h nid (.arr 1 te.size 0 l)) ∧ VREL X2 (.own nid 1 0 (llen l) false) true [y] ∧ Step B X O w h X2 O2 w1 (hput h nid (.arr 1 te.size 0 l))) →
        bodyPost P fn (fun e w' => match e with | .returned x => Leaves' B X O w h (.own nid 1 0 (llen l) false) (hput h nid (.arr 1 te.size 0 l)) x w' | _ => False) .ret a1 w1 := fun {X1 O1 w1 a1 st} s1 hdf hk => by
      have had : a1.defers = [] := DF.nil_of (by have := s1.df; rw [hdf] at this; exact this)
      obtain ⟨y, hy1, hy2⟩ := results_sound hE.toEnvTy s1.h s1.t (fn := fn) (v := st.t.get 2) (by unfold resultsV; rw [hres]; rfl)
      obtain ⟨X2, O2, q1, q2, q3⟩ := hk _ hy2
      exact ⟨had, y, hy1, X2, O2, q1, q2, q3⟩
    refine wpIn_seq (wpIn_region ?_)
    show wpOpsIn F n P (clone0 T) _ [0] a0 w
    refine (show Oper.wpIn F n P _ a0 w _ _ from ?_)
    refine ⟨fun f _ => hF.fn f, ?_⟩
    rw [noD_sem (by rfl)]
    have s1 := s0.put (dst := some 2) (fun d hd => by cases hd; decide) hfull
    show Code.wpIn F n P _ _ (a0.put (some 2) (.slice none 0 0)) w
    generalize ha1 : a0.put (some 2) (.slice none 0 0) = a1 at s1 ⊢
    have hev1 : a1.tmps.getD 0 undef = .slice ax nx cx := by
      rw [← ha1]
      show (a0.tmps.setIfInBounds 2 (.slice none 0 0)).getD 0 undef = _
      rw [Array.getD_eq_getD_getElem?, Array.getElem?_setIfInBounds, if_neg (by decide), ← Array.getD_eq_getD_getElem?]
      exact hev0
    refine wpIn_seq (wpIn_seq (wpIn_region ?_))
    show wpOpsIn F n P (clone1 T bt) _ [0, 1] a1 w
    refine (show Oper.wpIn F n P _ a1 w _ _ from ?_)
    refine ⟨fun f _ => hF.fn f, ?_⟩
    rw [noD_sem (by rfl)]
    have hmv : VREL X x true [a1.eval (.tmp 0)] := by
      show VREL X x true [a1.tmps.getD 0 undef]
      rw [hev1]; exact rx
    have s2 := s1.put (dst := some 3) (fun d hd => by cases hd; decide) hmv
    show wpOpsIn F n P (clone1 T bt) _ [1] (a1.put (some 3) (a1.eval (.tmp 0))) w
    generalize ha2 : a1.put (some 3) (a1.eval (.tmp 0)) = a2 at s2 ⊢
    have hev2 : a2.eval (.tmp 3) = .slice ax nx cx := by
      rw [← ha2]
      show (a1.tmps.setIfInBounds 3 (a1.tmps.getD 0 undef)).getD 3 undef = _
      have hs : 3 < a1.tmps.size := by have := s1.n; omega
      rw [hev1, Array.getD_eq_getD_getElem?, Array.getElem?_setIfInBounds_self_of_lt hs]; rfl
    refine (show Oper.wpIn F n P _ a2 w _ _ from ?_)
    refine ⟨fun f _ => hF.fn f, ?_⟩
    rw [noD_sem (by rfl)]
    have hrun : (execOp a2.eval ((clone1 T bt)[1]'(by show 1 < 2; decide))).run P w = .ok (.value (.bool ax.isNone)) w := by
      show (do pure (Next.value (← (do eqGuard .eql T (.tmp 3) (.const (.slice none 0 0)) (a2.eval (.tmp 3)) (.slice none 0 0); binOp .eql T (a2.eval (.tmp 3)) (.slice none 0 0)))) : Sem Next).run P w = _
      rw [hev2]
      have := eql_nil (w := w) hTu ax nx cx
      rw [Sem.run_bind, this]; rfl
    rw [hrun]
    have s3 := s2.put (dst := some 4) (fun d hd => by cases hd; decide) (v := .im (.bool ax.isNone)) (x := .bool ax.isNone) (by simp [VREL, REL])
    show Code.wpIn F n P _ _ (a2.put (some 4) (.bool ax.isNone)) w
    generalize ha3 : a2.put (some 4) (.bool ax.isNone) = a3 at s3 ⊢
    have hev3 : a3.eval (.tmp 4) = .bool ax.isNone := by
      rw [← ha3]
      show (a2.tmps.setIfInBounds 4 _).getD 4 undef = _
      have hs : 4 < a2.tmps.size := by have := s2.n; omega
      rw [Array.getD_eq_getD_getElem?, Array.getElem?_setIfInBounds_self_of_lt hs]; rfl
    refine wpIn_cond hev3 ?_
    cases ax with
    | none =>
      -- nil
      have hnx : nx = 0 := by
        rcases e5 with e5 | ⟨a0', _, _, q, _⟩
        · exact e5
        · cases q
      have hl0 : l = [] := List.eq_nil_of_length_eq_zero (by omega)
      subst hl0
      show Code.wpIn F n P _ _ a3 w
      refine wpIn_seq (wpIn_region ?_)
      show wpOpsIn F n P (clone2 T) _ [0] a3 w
      refine (show Oper.wpIn F n P _ a3 w _ _ from ?_)
      refine ⟨fun f _ => hF.fn f, ?_⟩
      rw [noD_sem (by rfl)]
      have s4 := s3.put (dst := some 2) (fun d hd => by cases hd; decide) hfull
      show Code.wpIn F n P _ _ (a3.put (some 2) (.slice none 0 0)) w
      refine wpIn_ret ?_
      refine hend s4 rfl fun y hy => ?_
      have hg2 : (putDst (putDst (putDst (putDst (tmOf 8 [x]) (some 2) (.full [])) (some 3) x) (some 4) (.im (.bool (none : Option Addr).isNone))) (some 2) (.full [])).get 2 = .full [] := rfl
      have hy : VREL X (.full []) true [y] := by rw [← hg2]; exact hy
      simp only [VREL] at hy
      obtain ⟨y', ey, ya, yn, y1, y2, _, _⟩ := hy
      cases ey; subst y1
      have yn0 : yn = 0 := y2
      subst yn0
      let bi : BI := ⟨1, ya, te.size, 0, false⟩
      have hbr : BR (X.withM nid bi) w (fun _ => False) nid (.arr 1 te.size 0 []) := ⟨bi, Cx.withM_same _ _ _, rfl, rfl, ⟨Nat.le_refl _, Nat.le_refl _⟩, Nat.zero_le _, .inl rfl⟩
      refine ⟨X.withM nid bi, _, hr.add hn hM hle (.refl w) (Nat.le_refl _) bi (fun _ => False) _ (fun _ h => h.elim) hbr, ?_, ⟨Up.add hM (.refl _ _) (.refl w) _ bi, by rw [hput_len]; split <;> omega, .add hM hle (.refl w) bi _ _⟩⟩
      simp only [VREL]
      exact ⟨_, rfl, ⟨ya, 0, rfl, Nat.le_refl _, by decide, .inl rfl⟩, bi, Cx.withM_same _ _ _, Nat.le_refl _, fun _ => ⟨ya, 0, rfl, Nat.le_refl _, by decide, Nat.le_refl _, (fun h => by cases h), .inl rfl⟩⟩
    | some a00 =>
      show Code.wpIn F n P _ _ a3 w
      refine wpIn_skip ?_
      refine wpIn_seq (wpIn_region ?_)
      show wpOpsIn F n P (clone3 T) _ [0, 1, 2, 3] a3 w
      simp only [wpOpsIn]
      have hbs : stepOp E false nid (putDst (putDst (putDst (tmOf 8 [x]) (some 2) (.full [])) (some 3) x) (some 4) (.im (.bool (some a00 : Option Addr).isNone))) h (.buildSlice T 0 #[]) = some (.own nid 0 0 0 false, hput h nid (.arr 0 te.size 0 [])) := by
        show sBuildSlice E false nid h T 0 [] = _
        unfold sBuildSlice
        rw [hT, Option.bind_some, hTk]
        simp only [hel, Option.bind_some]
        unfold zeroOk at hzd
        split at hzd
        · rename_i z hz2
          rw [hz2]
          simp only [Option.bind_some, hzd, Bool.not_true, cond_false]
          simp [fillD, allArr, ownsP, close, reps]
          rfl
        · cases hzd
      refine op_at hE hF s3 rfl rfl rfl hn hM hle hbs fun X4 O4 w4 a4 s4 p4 => ?_
      have s4 : SR 8 B X4 O4 w4 a4 ⟨putDst (putDst (putDst (putDst (tmOf 8 [x]) (some 2) (.full [])) (some 3) x) (some 4) (.im (.bool (some a00 : Option Addr).isNone))) (some 5) (.own nid 0 0 0 false), hput h nid (.arr 0 te.size 0 []), [], []⟩ := s4
      refine op_at (nid := (hput h nid (.arr 0 te.size 0 [])).length) hE hF s4 rfl rfl rfl (nid_none rfl) (nid_M s4.h) (Nat.le_refl _) (v := x) (h' := hput h nid (.arr 0 te.size 0 [])) rfl fun X5 O5 w5 a5 s5 p5 => ?_
      have s5 : SR 8 B X5 O5 w5 a5 ⟨putDst (putDst (putDst (putDst (putDst (tmOf 8 [x]) (some 2) (.full [])) (some 3) x) (some 4) (.im (.bool (some a00 : Option Addr).isNone))) (some 5) (.own nid 0 0 0 false)) (some 6) x, hput h nid (.arr 0 te.size 0 []), [], []⟩ := s5
      have hd5 := delems_put (k := .arr 0 te.size 0 []) hl hn hle
      have hap : builtinV E (hput h nid (.arr 0 te.size 0 [])).length .append #[T, T] [.own nid 0 0 0 false, x] (hput h nid (.arr 0 te.size 0 [])) = some (.own nid 1 0 (0 + llen l) false, hput (hput h nid (.arr 0 te.size 0 [])) nid (.arr 1 te.size 0 ([] ++ l))) := by
        have hg0 : hget (hput h nid (.arr 0 te.size 0 [])) nid = some (.arr 0 te.size 0 []) := by rw [hget_hput h nid nid _ hle, if_pos rfl]
        show bAppend E _ #[T, T] (.own nid 0 0 0 false) x _ = _
        unfold bAppend
        show ((E.ty T).bind _) = _
        rw [hT, Option.bind_some, hTk]
        simp only [hel, Option.bind_some]
        show (Option.bind (some T) _) = _
        rw [Option.bind_some, hz, cond_true]
        have hkT : E.kind T = some (.slc el) := by unfold Env.kind; rw [hT]; simp [hTk]
        unfold appendX
        rw [hkT]
        have hisn : isArv (hput h nid (.arr 0 te.size 0 [])) (.own nid 0 0 0 false) = false := by unfold isArv; simp only [hg0]
        simp only [isIntK, cond_false, hisn, hd5.2, Bool.or_self]
        have hnew : newElems E te T x (hput h nid (.arr 0 te.size 0 [])) = some l := by
          unfold newElems
          rw [hkT]
          have hk2 : (x.delems (hput h nid (.arr 0 te.size 0 []))).bind (fun l => bif firstWd te.size l then some l else none) = some l := by
            rw [hd5.1, Option.bind_some, hfw, cond_true]
          cases x <;> exact hk2
        rw [hnew, Option.bind_some]
        unfold appendTo
        simp only [hg0, cond_false]
        have hcut : cutOk 0 0 0 0 ([] : List D) = true := rfl
        rw [hcut]
        have hrm : room (0 + llen l) te.bytes = true := by rw [Nat.zero_add]; exact hroom
        simp only [Nat.beq_refl, hrm, Bool.and_self, Nat.ble_eq_true_of_le (Nat.le_refl 0), cond_true]
        rfl
      have hstep : stepOp E false (hput h nid (.arr 0 te.size 0 [])).length (putDst (putDst (putDst (putDst (putDst (tmOf 8 [x]) (some 2) (.full [])) (some 3) x) (some 4) (.im (.bool (some a00 : Option Addr).isNone))) (some 5) (.own nid 0 0 0 false)) (some 6) x) (hput h nid (.arr 0 te.size 0 []))
          (.call { callee := Callee.builtin Builtin.append, args := #[Operand.tmp 5, Operand.tmp 6], argTypes := #[T, T] }) = some (.own nid 1 0 (0 + llen l) false, hput (hput h nid (.arr 0 te.size 0 [])) nid (.arr 1 te.size 0 ([] ++ l))) := by
        have hevs : evs (putDst (putDst (putDst (putDst (putDst (tmOf 8 [x]) (some 2) (.full [])) (some 3) x) (some 4) (.im (.bool (some a00 : Option Addr).isNone))) (some 5) (.own nid 0 0 0 false)) (some 6) x) #[Operand.tmp 5, Operand.tmp 6] = [.own nid 0 0 0 false, x] := rfl
        show builtinV E _ .append #[T, T] (evs _ #[Operand.tmp 5, Operand.tmp 6]) _ = _
        rw [hevs]
        exact hap
      refine op_at (nid := (hput h nid (.arr 0 te.size 0 [])).length) hE hF s5 rfl rfl rfl (nid_none rfl) (nid_M s5.h) (Nat.le_refl _) hstep fun X6 O6 w6 a6 s6 p6 => ?_
      have s6 : SR 8 B X6 O6 w6 a6 ⟨putDst (putDst (putDst (putDst (putDst (putDst (tmOf 8 [x]) (some 2) (.full [])) (some 3) x) (some 4) (.im (.bool (some a00 : Option Addr).isNone))) (some 5) (.own nid 0 0 0 false)) (some 6) x) (some 7) (.own nid 1 0 (0 + llen l) false), hput (hput h nid (.arr 0 te.size 0 [])) nid (.arr 1 te.size 0 ([] ++ l)), [], []⟩ := s6
      refine op_at (nid := (hput (hput h nid (.arr 0 te.size 0 [])) nid (.arr 1 te.size 0 ([] ++ l))).length) hE hF s6 rfl rfl rfl (nid_none rfl) (nid_M s6.h) (Nat.le_refl _) (v := .own nid 1 0 (0 + llen l) false) (h' := hput (hput h nid (.arr 0 te.size 0 [])) nid (.arr 1 te.size 0 ([] ++ l))) rfl fun X7 O7 w7 a7 s7 p7 => ?_
      show Code.wpIn F n P _ _ a7 w7
      refine wpIn_ret ?_
      refine hend s7 rfl fun y hy => ?_
      have hy : VREL X7 (.own nid 1 0 (0 + llen l) false) true [y] := hy
      rw [Nat.zero_add] at hy
      have hh : hput (hput h nid (.arr 0 te.size 0 [])) nid (.arr 1 te.size 0 ([] ++ l)) = hput h nid (.arr 1 te.size 0 l) := by rw [hput_hput h _ _ hle]; rfl
      have s7h := s7.h
      have st := ((p4.trans p5).trans p6).trans p7
      simp only [hh] at s7h st
      exact ⟨X7, O7, s7h, hy, st⟩
  · cases e
end
end Go.As
