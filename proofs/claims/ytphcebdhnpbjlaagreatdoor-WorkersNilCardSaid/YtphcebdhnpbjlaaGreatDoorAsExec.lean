/-
  AS: the evaluator is sound, up to regions that draw their order.
-/
import Derived.Test.YtphcebdhnpbjlaaGreatDoorAsCall
set_option linter.unusedSectionVars false
set_option linter.unusedSimpArgs false
set_option linter.unusedVariables false
namespace Go.As
open Go.RowKit (Below)
variable [Gh]

def ExR : Ex → Exit → Prop
  | .nm, .normal => True
  | .exit i, .exit j => i = j
  | .ret, .ret => True
  | _, _ => False
def Post (nt B : Nat) (X : Cx) (O : Nat → Addr → Prop) (w : World) (st : St) (r : Ex × St) : Exit → Act → World → Prop := fun e a' w' =>
  ExR r.1 e ∧ ∃ X' O', SR nt B X' O' w' a' r.2 ∧ Step B X O w st.h X' O' w' r.2.h
/-- Code runs as the evaluator says. -/
def fAt (F : Fence) (rd : Option Nat) : Fence := { F with round := rd }
theorem fAt_none {F : Fence} (hF : Fen F) : fAt F none = F := by
  have := hF.round
  cases F; simp only [fAt] at *; rw [this]
/-- Where code runs: in an activation (fb = 0), or in a round of the loop l. -/
def RdOk (w : World) (fb : Nat) (c : Code) : Option Nat → Prop
  | none => fb = 0
  | some l => fb ≠ 0 ∧ noDefer c = true ∧ ∃ r, w.heap[l]? = some (.loop r)
def CodeS (F : Fence) (P : Program) (E : Env) (ih : Nat → Nat → Nat → Code → St → Option (Ex × St)) : Prop :=
  ∀ (f fb cur : Nat) (c : Code) (st : St) (r : Ex × St), ih f fb cur c st = some r → ∀ nt, codeOk E f nt c = true → ∀ (n B : Nat) (X : Cx) (O : Nat → Addr → Prop) (w : World) (a : Act), SR nt B X O w a st → ∀ rd, RdOk w fb c rd → c.wpIn (fAt F rd) n P (Post nt B X O w st r) a w
theorem CodeS.out {F : Fence} {P : Program} {E : Env} {ih : Nat → Nat → Nat → Code → St → Option (Ex × St)} (hih : CodeS F P E ih) (hF : Fen F) {f cur : Nat} {c : Code} {st : St} {r : Ex × St} (e : ih f 0 cur c st = some r) {nt : Nat} (hc : codeOk E f nt c = true)
    (n B : Nat) (X : Cx) (O : Nat → Addr → Prop) (w : World) (a : Act) (s : SR nt B X O w a st) : c.wpIn F n P (Post nt B X O w st r) a w := by
  have := hih f 0 cur c st r e nt hc n B X O w a s none rfl
  rwa [fAt_none hF] at this

section
variable {F : Fence} {P : Program} {B : Nat} {X : Cx} {O : Nat → Addr → Prop} {w : World} {h : Heap} {E : Env} {ih : Nat → Nat → Nat → Code → St → Option (Ex × St)}

theorem SR.step {nt : Nat} {a : Act} {st : St} (s : SR nt B X O w a st) {X' : Cx} {O' : Nat → Addr → Prop} {w' : World} {h' : Heap} (hr : HR B X' O' w' h') (hs : Step B X O w st.h X' O' w' h') : SR nt B X' O' w' a ⟨st.t, h', st.lp, st.df⟩ :=
  ⟨s.t.mono s.h.lt hs.up.le, s.n, hr, s.df.step s.h.lt hs, s.lp⟩
theorem SR.put {nt : Nat} {a : Act} {st : St} (s : SR nt B X O w a st) {dst : Option Nat} (hd : ∀ d, dst = some d → d < nt) {v : V} {x : Value} (r : VREL X v true [x]) : SR nt B X O w (a.put dst x) ⟨putDst st.t dst v, st.h, st.lp, st.df⟩ :=
  ⟨s.t.put (fun d e => by rw [s.n]; exact hd d e) r, by rw [put_size]; exact s.n, s.h, by rw [put_defers']; exact s.df, s.lp⟩

/-! ### is it wanted? -/
theorem guard_sound {t : Tm} {a : Act} (ht : TR X t a.tmps) {ops : Array Oper} {o : Oper} {b : Bool} (e : guardOf ops t o.guard = some b) : Region.wanted o (yielded ops a.tmps) = b := by
  unfold guardOf at e
  unfold Region.wanted
  cases hg : o.guard with
  | none => rw [hg] at e; cases e; rfl
  | some g =>
    obtain ⟨j, want⟩ := g
    rw [hg] at e
    simp only at e ⊢
    obtain ⟨o', ho, e⟩ := Option.bind_eq_some_iff.1 e
    obtain ⟨d, hd, e⟩ := Option.bind_eq_some_iff.1 e
    rw [lget_eq, Array.getElem?_toList] at ho
    have hy : yielded ops a.tmps j = (match a.tmps[d]? with | some (.bool b) => some b | _ => none) := by
      unfold yielded; rw [ho]; simp only [Option.bind_some, hd]; rfl
    have hr := ht d
    split at e
    · rename_i c hc
      rw [hc] at hr
      simp only [VREL, REL] at hr
      have hv : a.tmps.getD d undef = .bool c := (List.cons.inj hr).1
      have hs : a.tmps[d]? = some (.bool c) := by
        rw [Array.getD_eq_getD_getElem?] at hv
        cases hx : a.tmps[d]? with
        | none => rw [hx] at hv; simp [undef] at hv
        | some y => rw [hx] at hv; simp at hv; rw [hv]
      rw [hy, hs]
      cases c <;> cases want <;> simp_all
    · rename_i hc
      rw [hc] at hr
      simp only [VREL, REL] at hr
      obtain ⟨ts, wss, e1, _⟩ := hr
      have hv : a.tmps.getD d undef = .tuple ts := (List.cons.inj e1).1
      cases e
      rw [hy]
      have : ∀ c, a.tmps[d]? ≠ some (.bool c) := fun c hx => by
        rw [Array.getD_eq_getD_getElem?, hx] at hv; simp at hv
      split
      · rename_i c hx; exact absurd hx (this c)
      · cases want <;> rfl
    · cases e

/-! ### calls -/
theorem callFunc_enter {g : Nat} {fn : Func} {c : Code} (hf : P.funcs[g]? = some fn) (hb : fn.body = some c) (hn : (fn.name == "runtime.NumGoroutine") = false) (args : Array Value) : (callFunc g args).run P w = .ok (.enter g args) w := by
  have hn' : ¬ fn.name = "runtime.NumGoroutine" := fun e => by rw [e] at hn; simp at hn
  simp [callFunc, program, Sem.run, hf, hn', hb]

theorem data_REL (hr : HR B X O w h) {C : IV} {S : Nat → Prop} (hS : Shows X w h C S) : ∀ {l : List V} {ds : List D} {xs : List Value}, allData h l = some ds → (∀ v ∈ l, ∀ b ∈ v.owns, S b) → All2 (fun v x => VREL X v true [x]) l xs → All2 (fun d x => REL C d true [x]) ds xs
  | [], ds, xs, e, _, r => by simp [allData] at e; subst e; cases r; exact All2.nil
  | v :: l, ds, xs, e, hs, r => by
    have e : ((V.data h v).bind fun d => (allData h l).map (d :: ·)) = some ds := e
    obtain ⟨d, hd, e⟩ := Option.bind_eq_some_iff.1 e
    obtain ⟨ds', hds, e⟩ := Option.map_eq_some_iff.1 e
    subst e
    obtain ⟨x, r', rfl, rx, rr⟩ := r
    exact All2.cons (data_sound hr hS hd (hs v (by simp)) rx) (data_REL hr hS hds (fun u hu => hs u (by simp [hu])) rr)
theorem ownsL_cons (v : V) (l : List V) : V.ownsL (v :: l) = (match v with | .im _ => V.ownsL l | v => v.owns ++ V.ownsL l) := rfl
theorem ownsL_mem {v : V} {l : List V} (hv : v ∈ l) {b : Nat} (hb : b ∈ v.owns) : b ∈ V.ownsL l := by
  induction l with
  | nil => cases hv
  | cons u l ih =>
    rw [ownsL_cons]
    rcases List.mem_cons.1 hv with rfl | hv
    · cases v <;> first | (cases hb; done) | exact List.mem_append_left _ hb
    · have := ih hv
      cases u <;> first | exact this | exact List.mem_append_right _ this

mutual
theorem D.flat_REL {C C' : IV} : ∀ (d : D) (m : Bool) (vs : List Value), d.flat = true → REL C d m vs → REL C' d m vs
  | .bool _, _, _, _, k | .nil, _, _, _, k | .fn _, _, _, _, k | .nfn, _, _, _, k | .inil, _, _, _, k | .mnil, _, _, _, k | .int _ _, _, _, _, k | .str _, _, _, _, k => by simpa [REL] using k
  | .ref _, _, _, h, _ => by simp [D.flat] at h
  | .slc _, _, _, h, _ => by simp [D.flat] at h
  | .agg w l, true, _, h, k => by
    simp only [REL] at k ⊢
    obtain ⟨cs, wss, e, h1, h2, h3⟩ := k
    exact ⟨cs, wss, e, h1, D.flats_REL l false wss (by simpa [D.flat] using h) h2, h3⟩
  | .agg w l, false, _, h, k => by
    simp only [REL] at k ⊢
    obtain ⟨wss, e, h2, h3⟩ := k
    exact ⟨wss, e, D.flats_REL l false wss (by simpa [D.flat] using h) h2, h3⟩
  | .tup l, true, _, h, k => by
    simp only [REL] at k ⊢
    obtain ⟨ts, wss, e, h2, h3⟩ := k
    exact ⟨ts, wss, e, D.flats_REL l true wss (by simpa [D.flat] using h) h2, h3⟩
  | .tup l, false, _, _, k => by simp [REL] at k
  | .ifc t d, _, _, h, k => by
    simp only [REL] at k ⊢
    obtain ⟨x, e, r⟩ := k
    exact ⟨x, e, D.flat_REL d true [x] (by simpa [D.flat] using h) r⟩
theorem D.flats_REL {C C' : IV} : ∀ (l : List D) (m : Bool) (wss : List (List Value)), D.flats l = true → RELs C l m wss → RELs C' l m wss
  | [], _, _, _, k => by simpa [RELs] using k
  | d :: l, m, _, h, k => by
    simp only [D.flats, Bool.and_eq_true] at h
    simp only [RELs] at k ⊢
    obtain ⟨ws, r, e, h1, h2⟩ := k
    exact ⟨ws, r, e, D.flat_REL d m ws h.1 h1, D.flats_REL l m r h.2 h2⟩
end

/-- The world has grown, more is immutable, and the blocks are what they were. -/
theorem grown_ok (hr : HR B X O w h) {w' : World} {C' : IV} (hC : X.C.le C') (hci : CI C' w') (hb : Below w.heap.size w w') (hf : ∀ a v, C' a = some v → X.C a = none → w.heap.size ≤ a.block) :
    HR B (X.withC C') O w' h ∧ Step B X O w h (X.withC C') O w' h := by
  have hk := Keep.of_below hb
  have hn : ∀ b a, O b a → C' a = none := fun b a o => by
    obtain ⟨_, h2, h3⟩ := hr.own b a o
    cases e : C' a with
    | none => rfl
    | some v => have := hf a v e h3; omega
  refine ⟨(hr.keep hk hb.size).more hC hci hn, ⟨⟨hC, fun _ bi _ e => ⟨bi, e, Nat.le_refl _, fun _ => rfl, fun _ => rfl⟩, fun _ _ e => e⟩, hb.mono hr.wb, fun a v e hn => Nat.le_trans hr.wb (hf a v e hn), fun r o e _ => hk.obj r o e⟩, Nat.le_refl _, ?_⟩
  exact ⟨fun _ _ _ e => e, fun _ _ e _ => e, fun _ _ _ _ _ o => o, fun _ _ _ _ _ _ _ e => ⟨hk.cell _ _ e, hk.frozen _ _ e⟩, fun _ _ _ _ _ _ _ e _ => hk.obj _ _ e, fun _ _ _ _ g _ hg => hk.block g hg, fun _ e => e, fun _ _ e _ => e⟩
theorem grown_same (hr : HR B X O w h) {w' : World} (hb : Below w.heap.size w w') : HR B X O w' h ∧ Step B X O w h X O w' h := by
  have hk := Keep.of_below hb
  exact ⟨hr.keep hk hb.size, ⟨.refl _ _, hb.mono hr.wb, fun a v e hn => (by rw [hn] at e; cases e), fun r o e _ => hk.obj r o e⟩, Nat.le_refl _, .keep hk⟩

/-! ### a body -/
theorem runBody_some {f : Nat} {args : List V} {lp : List Rec} {fn : Func} {st : St} (e : runBody E ih f args h lp = some (fn, st)) :
    ∃ c r, E.fn f = some fn ∧ fn.body = some c ∧ Nat.ble (llen args) fn.ntmps = true ∧ ih f 0 0 c ⟨tmOf fn.ntmps args, h, lp, []⟩ = some (r, st) ∧ (r = .nm ∨ r = .ret) := by
  unfold runBody at e
  obtain ⟨fn', hf, e⟩ := Option.bind_eq_some_iff.1 e
  obtain ⟨c, hc, e⟩ := Option.bind_eq_some_iff.1 e
  cases hb : Nat.ble (llen args) fn'.ntmps with
  | false => rw [hb] at e; cases e
  | true =>
    rw [hb, cond_true] at e
    split at e
    · cases e
    · rename_i ex st' hne hx
      cases e
      refine ⟨c, ex, hf, hc, hb, hx, ?_⟩
      cases ex with
      | nm => exact .inl rfl
      | ret => exact .inr rfl
      | exit i => exact (hne i rfl).elim
    · cases e
theorem runBodyS_some {f : Nat} {args : List V} {lp : List Rec} {fn : Func} {st : St} (e : runBodyS E ih f args h lp = some (fn, st)) :
    ∃ c r, E.fn f = some fn ∧ fn.body = some c ∧ Nat.ble (llen args) fn.ntmps = true ∧ execS E ih f 0 64 c ⟨tmOf fn.ntmps args, h, lp, []⟩ = some (r, st) ∧ (r = .nm ∨ r = .ret) := by
  unfold runBodyS at e
  obtain ⟨fn', hf, e⟩ := Option.bind_eq_some_iff.1 e
  obtain ⟨c, hc, e⟩ := Option.bind_eq_some_iff.1 e
  cases hb : Nat.ble (llen args) fn'.ntmps with
  | false => rw [hb] at e; cases e
  | true =>
    rw [hb, cond_true] at e
    split at e
    · cases e
    · rename_i ex st' hne hx
      cases e
      refine ⟨c, ex, hf, hc, hb, hx, ?_⟩
      cases ex with
      | nm => exact .inl rfl
      | ret => exact .inr rfl
      | exit i => exact (hne i rfl).elim
    · cases e

/-! ### deferred calls -/
theorem recOps_cons (keep : Bool) (ops : Array Oper) (o : Oper) (l : List Oper) (st : St) : recOps E keep ops (o :: l) st = (match guardOf ops st.t o.guard with
    | none => none
    | some false => recOps E keep ops l ⟨putDst st.t o.dst (.im (.tup [])), st.h, st.lp, st.df⟩
    | some true => bif isRecover o then recOps E keep ops l ⟨putDst st.t o.dst (.im .inil), st.h, st.lp, st.df⟩
      else bif isCall o then none else match stepOp E keep (llen st.h) st.t st.h o.op with
        | none => none
        | some (v, h) => recOps E keep ops l ⟨putDst st.t o.dst v, h, st.lp, st.df⟩) := rfl
theorem undefRel (X : Cx) : VREL X (.im (.tup [])) true [undef] := by simp only [VREL, REL]; exact ⟨#[], [], rfl, by simp [RELs], rfl⟩
theorem nid_none {n : Nat} (h0 : n = h.length) : hget h n = none := by subst h0; simp [hget_eq]
theorem nid_M (hr : HR B X O w h) : X.M h.length = none := by
  cases e : X.M h.length with
  | none => rfl
  | some bi => exact absurd (hr.lt _ _ e) (Nat.lt_irrefl _)

theorem opOk_dst {nt : Nat} {o : Oper} (h : opOk nt o = true) : (∀ d, o.dst = some d → d < nt) ∧ ∀ x ∈ o.op.operands.toList, okOpd x = true := by
  unfold opOk at h
  rw [Bool.and_eq_true] at h
  refine ⟨fun d e => ?_, fun x hx => List.all_eq_true.1 h.2 x hx⟩
  rw [e] at h
  exact Nat.le_of_ble_eq_true h.1

theorem recOps_sound (hE : EnvOk F P E) (hF : Fen F) {keep : Bool} {ops : Array Oper} {cs : List Frame} (hcs : recoverD cs = none) {nt n : Nat} {Q : Exit → Act → List Frame → World → Prop} : ∀ (l : List Oper) (i : Nat), ops.toList.drop i = l → (∀ o ∈ l, opOk nt o = true) →
    ∀ {B : Nat} {X : Cx} {O : Nat → Addr → Prop} {w : World} {a : Act} {st st' : St}, SR nt B X O w a st → recOps E keep ops l st = some st' →
      (∀ X' O' w' a', SR nt B X' O' w' a' st' → Step B X O w st.h X' O' w' st'.h → Q .normal a' cs w') → wpOpsSIn F n P ops Q (List.range' i l.length) a cs w
  | [], i, _, _, B, X, O, w, a, st, st', s, e, hQ => by
    have e : some st = some st' := e
    cases e
    exact hQ X O w a s (.refl _ _ _ _ _)
  | o :: l, i, hl, hok, B, X, O, w, a, st, st', s, e, hQ => by
    have hi : ops[i]? = some o := by
      rw [← Array.getElem?_toList]
      have : (ops.toList.drop i)[0]? = some o := by rw [hl]; rfl
      rw [List.getElem?_drop] at this; simpa using this
    have hl2 : ops.toList.drop (i + 1) = l := by
      rw [← List.drop_drop, hl]; rfl
    obtain ⟨hd, ho⟩ := opOk_dst (hok o (by simp))
    rw [List.length_cons, List.range'_succ]
    simp only [wpOpsSIn, hi]
    refine ⟨fun f _ => hF.fn f, ?_⟩
    rw [recOps_cons] at e
    cases hg : guardOf ops st.t o.guard with
    | none => rw [hg] at e; cases e
    | some b =>
      rw [hg] at e
      have hw := guard_sound s.t hg
      cases b with
      | false =>
        simp only at e
        rw [hw]
        simp only [Bool.false_eq_true, if_false]
        exact recOps_sound hE hF hcs l (i + 1) hl2 (fun o' h' => hok o' (by simp [h'])) (s.put hd (undefRel X)) e hQ
      | true =>
        simp only at e
        rw [hw]
        simp only [if_true]
        cases hrec : isRecover o with
        | true =>
          rw [hrec, cond_true] at e
          have hrun : (execOp a.eval o).run P w = .ok .recover w := by
            unfold isRecover at hrec
            split at hrec
            · rename_i c hc
              split at hrec
              · rename_i hcal
                have hres : (resolve a.eval c o.type) = pure { target := .builtin .recover c.argTypes o.type (c.args.map fun | .const _ => true | _ => false), args := c.args.map a.eval } := by
                  unfold resolve; rw [hcal]; rfl
                unfold execOp
                rw [hc]
                simp only [hres, pure_bind, invoke]
                rfl
              · cases hrec
            · cases hrec
          rw [hrun]
          simp only [hcs]
          exact recOps_sound hE hF hcs l (i + 1) hl2 (fun o' h' => hok o' (by simp [h'])) (s.put hd (by simp [VREL, REL])) e hQ
        | false =>
          rw [hrec, cond_false] at e
          cases hcall : isCall o with
          | true => rw [hcall] at e; cases e
          | false =>
            rw [hcall, cond_false] at e
            split at e
            · cases e
            · rename_i v h1 hs
              rw [llen_eq] at hs
              obtain ⟨x, w1, X1, O1, hrun, q1, q2, q3⟩ := stepOp_sound hE.toEnvB s.h (nid_none rfl) (nid_M s.h) (Nat.le_refl _) s.t ho hs
              have s1 := (s.step q1 q3).put hd q2
              have hk : wpOpsSIn F n P ops Q (List.range' (i + 1) l.length) (a.put o.dst x) cs w1 :=
                recOps_sound hE hF hcs l (i + 1) hl2 (fun o' h' => hok o' (by simp [h'])) s1 e (fun X' O' w' a' s' hs' => hQ X' O' w' a' s' (q3.trans hs'))
              rcases hrun with hrun | ⟨hrun, rfl⟩ <;> rw [hrun] <;> exact hk

theorem execS_succ (f fb n : Nat) (c : Code) (st : St) : execS E ih f fb (n + 1) c st = (match c with
    | .seq a b => (match execS E ih f fb n a st with
      | some (.nm, st') => execS E ih f fb n b st'
      | r => r)
    | .cond c a b => (match ev st.t c with
      | .im (.bool t) => bif t then execS E ih f fb n a st else execS E ih f fb n b st
      | _ => none)
    | .region id ops false => bif ops.toList.any isRecover then (match recOps E (E.keep f) ops ops.toList st with
      | some st' => some (.nm, st')
      | none => none) else ih f fb 0 (.region id ops false) st
    | c => ih f fb 0 c st) := rfl

theorem cond_sound {nt : Nat} {a : Act} {st : St} (s : SR nt B X O w a st) {c : Operand} (hc : okOpd c = true) {t : Bool} (e : ev st.t c = .im (.bool t)) : a.eval c = .bool t := by
  have := ev_sound s.t hc
  rw [e] at this
  simp only [VREL, REL] at this
  exact (List.cons.inj this).1

theorem execS_sound (hih : CodeS F P E ih) (hE : EnvOk F P E) (hF : Fen F) {cs : List Frame} (hcs : recoverD cs = none) {f nt n : Nat} : ∀ (k : Nat) {c : Code} {st : St} {r : Ex × St}, execS E ih f 0 k c st = some r → codeOk E f nt c = true →
    ∀ {B : Nat} {X : Cx} {O : Nat → Addr → Prop} {w : World} {a : Act}, SR nt B X O w a st → c.wpSIn F n P (fun e a' cs' w' => cs' = cs ∧ Post nt B X O w st r e a' w') a cs w
  | 0, _, _, _, e, _, _, _, _, _, _, _ => by cases e
  | k + 1, c, st, r, e, hc, B, X, O, w, a, s => by
    have base : ih f 0 0 c st = some r → c.wpSIn F n P (fun e a' cs' w' => cs' = cs ∧ Post nt B X O w st r e a' w') a cs w := fun e =>
      wpSIn_of_wpIn hF.round (wpIn_mono (hih.out hF e hc n B X O w a s) fun e a' w' hp => ⟨rfl, hp⟩)
    rw [execS_succ] at e
    split at e
    · rename_i x y
      simp only [codeOk, Bool.and_eq_true] at hc
      refine wpSIn_seq ?_
      split at e
      · rename_i st1 h1
        have hx := execS_sound hih hE hF hcs (n := n) k h1 hc.1 s
        intro b kk hb hro hFn hroom
        obtain ⟨e1, a1, cs1, w1, hl, ⟨rfl, hex, X1, O1, s1, p1⟩, harr⟩ := hx b kk hb hro hFn hroom
        refine ⟨e1, a1, _, w1, hl, ?_, harr⟩
        cases e1 <;> simp only [ExR] at hex
        intro b2 kk2 hb2 hro2 hFn2 hroom2
        obtain ⟨e2, a2, cs2, w2, hl2, ⟨hcs2, hex2, X2, O2, s2, p2⟩, harr2⟩ := execS_sound hih hE hF hcs (n := n) k e hc.2 s1 b2 kk2 hb2 hro2 hFn2 hroom2
        exact ⟨e2, a2, cs2, w2, hl2, ⟨hcs2, hex2, X2, O2, s2, p1.trans p2⟩, harr2⟩
      · rename_i hne
        have hx := execS_sound hih hE hF hcs (n := n) k e hc.1 s
        intro b kk hb hro hFn hroom
        obtain ⟨e1, a1, cs1, w1, hl, ⟨hcs1, hex, X1, O1, s1, p1⟩, harr⟩ := hx b kk hb hro hFn hroom
        refine ⟨e1, a1, _, w1, hl, ?_, harr⟩
        obtain ⟨r1, r2⟩ := r
        cases e1 with
        | normal =>
          cases r1 <;> simp only [ExR] at hex
          exact absurd e (hne r2)
        | _ => exact ⟨hcs1, hex, X1, O1, s1, p1⟩
    · rename_i x y z
      simp only [codeOk, Bool.and_eq_true] at hc
      split at e
      · rename_i t ht
        have hv := cond_sound s hc.1 ht
        refine wpSIn_cond hv ?_
        cases t with
        | true => exact execS_sound hih hE hF hcs k (by simpa using e) hc.2.1 s
        | false => exact execS_sound hih hE hF hcs k (by simpa using e) hc.2.2 s
      · cases e
    · rename_i id ops
      cases ha : ops.toList.any isRecover with
      | false => rw [ha, cond_false] at e; exact base e
      | true =>
        rw [ha, cond_true] at e
        split at e
        · rename_i st1 h1
          cases e
          simp only [codeOk, Bool.and_eq_true] at hc
          refine wpSIn_region ?_
          have := recOps_sound hE hF hcs (n := n) (Q := fun e a' cs' w' => cs' = cs ∧ Post nt B X O w st (.nm, st1) e a' w') ops.toList 0 (by simp) (fun o ho => List.all_eq_true.1 hc.1 o ho) s h1 (fun X' O' w' a' s' hs => ⟨rfl, trivial, X', O', s', hs⟩)
          rw [List.range_eq_range']
          simpa using this
        · cases e
    · exact base e
end
end Go.As
