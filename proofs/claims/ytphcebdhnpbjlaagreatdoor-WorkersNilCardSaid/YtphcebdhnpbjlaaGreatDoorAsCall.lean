/-
  AS: calls: a frame's slots at the start, results, calls whose arguments and results are data.
-/
import Derived.Test.YtphcebdhnpbjlaaGreatDoorAsStep
import Derived.RecoverIn
set_option linter.unusedSectionVars false
set_option linter.unusedSimpArgs false
set_option linter.unusedVariables false
namespace Go.As
open Go.RowKit (Below)
variable [Gh]

/-- A fence that lets everything in. -/
structure Fen (F : Fence) : Prop where
  fn : ∀ f, F.fn f
  depth : F.depth = none
  round : F.round = none
theorem Fen.room {F : Fence} {n : Nat} (h : Fen F) : F.depth.isSome = true → 1 ≤ n := fun e => by rw [h.depth] at e; cases e
theorem Fen.wide : Fen Fence.wide := ⟨fun _ => trivial, rfl, rfl⟩

/-- A call returns, and what it returns and leaves is as R says. -/
def CallOk (F : Fence) (n : Nat) (P : Program) (f : FuncId) (args : Array Value) (w : World) (R : Value → World → Prop) : Prop :=
  CallsIn F n P f args w fun
    | .returned v, w' => R v w'
    | _, _ => False
theorem CallOk.mono {F : Fence} {n : Nat} {P : Program} {f : FuncId} {args : Array Value} {w : World} {R R' : Value → World → Prop} (h : CallOk F n P f args w R) (hr : ∀ v w', R v w' → R' v w') : CallOk F n P f args w R' :=
  CallsIn.mono h fun e w' he => by cases e <;> first | exact hr _ _ he | exact he

/-- What a call (or an operation) leaves. -/
def Leaves' (B : Nat) (X : Cx) (O : Nat → Addr → Prop) (w : World) (h : Heap) (v : V) (h' : Heap) (x : Value) (w' : World) : Prop :=
  ∃ X' O', HR B X' O' w' h' ∧ VREL X' v true [x] ∧ Step B X O w h X' O' w' h'
/-- An operation that yields a value, or enters a function. -/
def CallN (F : Fence) (n : Nat) (P : Program) (B : Nat) (X : Cx) (O : Nat → Addr → Prop) (w : World) (h : Heap) (m : Sem Next) (v : V) (h' : Heap) : Prop :=
  OpN P B X O w h m v h' ∨ ∃ f args, m.run P w = .ok (.enter f args) w ∧ CallOk F n P f args w (Leaves' B X O w h v h')

/-! ### what is looked at once -/
noncomputable def opOk (nt : Nat) (o : Oper) : Bool := (match o.dst with | some d => Nat.blt d nt | none => true) && o.op.operands.toList.all okOpd
noncomputable def noDefer : Code → Bool
  | .region _ ops _ => ops.toList.all fun o => match o.op with | .defer _ => false | _ => true
  | .seq a b => noDefer a && noDefer b
  | .cond _ a b => noDefer a && noDefer b
  | .block _ b => noDefer b
  | .loop b => noDefer b
  | .scope b => noDefer b
  | .rangeFunc _ _ a b => noDefer a && noDefer b
  | _ => true
noncomputable def codeOk (E : Env) (f nt : Nat) : Code → Bool
  | .region id ops draw => ops.toList.all (opOk nt) && (bif draw then (match E.dr f id with | some ds => drOk E ops ds | none => true) else true)
  | .seq a b => codeOk E f nt a && codeOk E f nt b
  | .cond c a b => okOpd c && (codeOk E f nt a && codeOk E f nt b)
  | .block _ b => codeOk E f nt b
  | .loop b => codeOk E f nt b
  | .scope b => codeOk E f nt b
  | .rangeFunc g ps a b => okOpd g && (ps.toList.all (fun p => Nat.blt p nt) && ((codeOk E f nt a && noDefer a) && (codeOk E f nt b && noDefer b)))
  | _ => true
/-- Data in, data out. -/
def DataOk (F : Fence) (P : Program) (g : Nat) (ds : List D) (d : D) : Prop :=
  ∀ (n : Nat) (C : IV) (w : World) (args : Array Value), CI C w → All2 (fun d x => REL C d true [x]) ds args.toList →
    CallOk F n P g args w fun x w' => ∃ C', C.le C' ∧ CI C' w' ∧ Below w.heap.size w w' ∧ (∀ a v, C' a = some v → C a = none → w.heap.size ≤ a.block) ∧ REL C' d true [x]

structure EnvOk (F : Fence) (P : Program) (E : Env) : Prop extends EnvB P E where
  mixed : P.follows .mixedOrders = true
  gh : ∀ f nt c, Gh.K f nt c ↔ (codeOk E f nt c = true ∧ noDefer c = true)
  fn : ∀ f fn, E.fn f = some fn → P.funcs[f]? = some fn ∧ (fn.name == "runtime.NumGoroutine") = false ∧ ∀ c, fn.body = some c → codeOk E f fn.ntmps c = true
  meth : ∀ u nm g, E.meth u nm = some g → ∀ v w, (method (P.types.size + Made.depth) u v nm).run P w = .ok (g, v) w
  sm : ∀ g S, E.sm g = some S → (∃ fn c, P.funcs[g]? = some fn ∧ fn.body = some c ∧ (fn.name == "runtime.NumGoroutine") = false) ∧ ∀ ds d, S ds = some d → DataOk F P g ds d
  ext : ∀ g, E.ext g ≠ 0 → ∀ (n B : Nat) (X : Cx) (O : Nat → Addr → Prop) (w : World) (h : Heap), HR B X O w h → ∀ (xs : List V) (args : Array Value), All2 (fun v x => VREL X v true [x]) xs args.toList → ∀ v h', extV (E.ext g) xs h = some (v, h') →
    CallN F n P B X O w h (callFunc g args) v h'
  clone : ∀ g sz, E.clone g = some sz → ∀ (n B : Nat) (X : Cx) (O : Nat → Addr → Prop) (w : World) (h : Heap), HR B X O w h → ∀ (xs : List V) (args : Array Value), All2 (fun v x => VREL X v true [x]) xs args.toList →
    ∀ nid, hget h nid = none → X.M nid = none → nid ≤ h.length → ∀ v h', cloneV E nid sz xs h = some (v, h') → CallN F n P B X O w h (callFunc g args) v h'

/-- A state of the evaluator, and a frame's. -/
def DFe (X : Cx) (O : Nat → Addr → Prop) (w : World) (h : Heap) (p : Nat × List V) (d : Deferred) : Prop :=
  (isMark p = true ∧ ∃ D bi, d.target = .collected D ∧ w.heap[D]? = some (.deferred (some [])) ∧ X.M p.1 = some bi ∧ hget h p.1 = none ∧ O p.1 ⟨D, 0, none⟩) ∨
  (isMark p = false ∧ ∃ cap, d.target = .fn (.func p.1) cap ∧ All2 (fun v x => VREL X v true [x]) p.2 (d.args ++ cap).toList)
def Apart2 (d d' : Deferred) : Prop := ∀ D, d.target = .collected D → d'.target ≠ .collected D
def DF (X : Cx) (O : Nat → Addr → Prop) (w : World) (h : Heap) (ds : List Deferred) (df : List (Nat × List V)) : Prop := All2 (DFe X O w h) df ds ∧ ds.Pairwise Apart2
structure SR (nt B : Nat) (X : Cx) (O : Nat → Addr → Prop) (w : World) (a : Act) (st : St) : Prop where
  t : TR X st.t a.tmps
  n : a.tmps.size = nt
  h : HR B X O w st.h
  df : DF X O w st.h a.defers st.df
  lp : st.lp = []

section
variable {F : Fence} {P : Program} {B : Nat} {X : Cx} {O : Nat → Addr → Prop} {w : World} {h : Heap} {E : Env}

theorem vals_mono {n : Nat} {X Y : Cx} (hX : X.lt n) (hXY : X.le n Y) {l : List V} {xs : List Value} (h : All2 (fun v x => VREL X v true [x]) l xs) : All2 (fun v x => VREL Y v true [x]) l xs :=
  h.imp fun v x r => VREL.mono hXY _ _ _ (VREL.low hX _ _ _ r) r
theorem DF.step {X' : Cx} {O' : Nat → Addr → Prop} {w' : World} {h' : Heap} (hX : X.lt h.length) (hs : Step B X O w h X' O' w' h') {ds : List Deferred} {df : List (Nat × List V)} (d : DF X O w h ds df) : DF X' O' w' h' ds df :=
  ⟨d.1.imp fun p d h => h.elim (fun ⟨hm, D, bi, e1, e2, e3, e4, e5⟩ => .inl ⟨hm, D, bi, e1, hs.fr.obj p.1 bi e3 e4 D e5 _ e2 rfl, hs.fr.M _ _ e3 e4, hs.fr.hid _ _ e3 e4, hs.fr.own _ _ e3 e4 _ e5⟩)
    (fun ⟨hm, cap, e, r⟩ => .inr ⟨hm, cap, e, vals_mono hX hs.up.le r⟩), d.2⟩

/-! ### a frame begins -/
theorem putArgs_cons (v : V) (l : List V) (i : Nat) (t : Tm) : putArgs (v :: l) i t = putArgs l (i + 1) (t.set i v) := rfl
theorem putArgs_get : ∀ (l : List V) (i : Nat) (t : Tm) (j : Nat), ((putArgs l i t).get j = t.get j ∧ (j < i ∨ i + l.length ≤ j)) ∨ (∃ v, l[j - i]? = some v ∧ i ≤ j ∧ ((putArgs l i t).get j = v ∨ (putArgs l i t).get j = .undef))
  | [], i, t, j => .inl ⟨rfl, by simp; omega⟩
  | v :: l, i, t, j => by
    rw [putArgs_cons]
    rcases putArgs_get l (i + 1) (t.set i v) j with ⟨e, hj⟩ | ⟨u, hu, hj, e⟩
    · by_cases hji : j = i
      · subst hji
        refine .inr ⟨v, by simp, Nat.le_refl _, ?_⟩
        rw [e]; exact Tm.get_set_same t j v
      · refine .inl ⟨by rw [e]; exact Tm.get_set_other t i j v hji, ?_⟩
        simp only [List.length_cons]; omega
    · refine .inr ⟨u, ?_, by omega, e⟩
      rw [show j - i = (j - (i + 1)) + 1 from by omega]; simpa using hu
theorem All2.getD {l : List V} {xs : List Value} (h : All2 (fun v x => VREL X v true [x]) l xs) {i : Nat} {v : V} (e : l[i]? = some v) : ∃ x, xs[i]? = some x ∧ VREL X v true [x] := h.get e

theorem start_TR {l : List V} {args : Array Value} (h : All2 (fun v x => VREL X v true [x]) l args.toList) (nt : Nat) : TR X (tmOf nt l) (args ++ Array.replicate (nt - args.size) undef) := fun i => by
  unfold tmOf
  rcases putArgs_get l 0 (Tm.mk (depOf nt)) i with ⟨e, hi⟩ | ⟨v, hv, _, e⟩
  · rw [e, Tm.get_mk]; exact undefR _ _
  · obtain ⟨x, hx, rx⟩ := h.get (i := i) (x := v) (by simpa using hv)
    have hg : (args ++ Array.replicate (nt - args.size) undef).getD i undef = x := by
      have hx' : args[i]? = some x := by rw [← Array.getElem?_toList]; exact hx
      have hlt : i < args.size := (Array.getElem?_eq_some_iff.1 hx').1
      rw [Array.getD_eq_getD_getElem?, Array.getElem?_append_left hlt, hx']; rfl
    rw [hg]
    rcases e with e | e <;> rw [e]
    · exact rx
    · exact undefR _ _

theorem start_SR (hr : HR B X O w h) {l : List V} {args : Array Value} (ha : All2 (fun v x => VREL X v true [x]) l args.toList) {nt : Nat} (hn : Nat.ble (llen l) nt = true) :
    SR nt B X O w { tmps := args ++ Array.replicate (nt - args.size) undef, defers := [] } ⟨tmOf nt l, h, [], []⟩ := by
  refine ⟨start_TR ha nt, ?_, hr, ⟨All2.nil, List.Pairwise.nil⟩, rfl⟩
  have := ble_of hn
  rw [llen_eq, ← ha.len, Array.length_toList] at this
  simp; omega

/-! ### results -/
/-- One result. -/
def resF (tmps : Array Value) : ResultVar → Sem Value
  | .tmp t => pure (tmps.getD t undef)
  | .cell a t => do loadVar t (← asAddr (tmps.getD a undef))
theorem results_eq (fn : Func) (tmps : Array Value) : results fn tmps = (do let vs ← fn.results.mapM (resF tmps); pure (if h : vs.size = 1 then vs[0] else .tuple vs)) := by
  unfold results
  have : (fun x : ResultVar => match x with
    | .tmp t => (pure (tmps.getD t undef) : Sem Value)
    | .cell a t => do loadVar t (← asAddr (tmps.getD a undef))) = resF tmps := by funext x; cases x <;> rfl
  rw [← this]
  rfl
theorem resultV_sound (hE : EnvTy P E) (hr : HR B X O w h) {t : Tm} {tmps : Array Value} (ht : TR X t tmps) {r : ResultVar} {v : V} (e : resultV E h t r = some v) :
    ∃ x, (resF tmps r).run P w = .ok x w ∧ VREL X v true [x] := by
  unfold resultV at e
  cases r with
  | tmp i => cases e; exact ⟨_, rfl, ht i⟩
  | cell a ty =>
    simp only at e
    split at e
    · rename_i b g p ti hg hti
      obtain ⟨u, hu, e⟩ := Option.bind_eq_some_iff.1 e
      obtain ⟨hok, e⟩ := bif_some e
      cases e
      have := ht a
      rw [hg] at this
      simp only [VREL] at this
      obtain ⟨y, ey, rp⟩ := this
      obtain ⟨ad, ws, q1, q2, q3, q4⟩ := loadV_sound hr hu rp
      obtain ⟨x, q5, q6⟩ := run_loadVar_ok (P := P) (hE.ty _ _ hti) hok q3 q4
      refine ⟨x, ?_, q6⟩
      unfold resF
      simp only [(List.cons.inj ey).1, q1, Sem.run_bind]
      simp [asAddr, q5]
    · cases e

theorem resultsL_cons (r : ResultVar) (l : List ResultVar) (t : Tm) : resultsL E h t (r :: l) = (resultV E h t r).bind fun v => (resultsL E h t l).map (v :: ·) := rfl
theorem resultsL_sound (hE : EnvTy P E) (hr : HR B X O w h) {t : Tm} {tmps : Array Value} (ht : TR X t tmps) : ∀ {l : List ResultVar} {vs : List V}, resultsL E h t l = some vs →
    ∃ xs, (l.mapM (resF tmps)).run P w = .ok xs w ∧ All2 (fun v x => VREL X v true [x]) vs xs
  | [], vs, e => by simp [resultsL] at e; subst e; exact ⟨[], by simp, All2.nil⟩
  | r :: l, vs, e => by
    rw [resultsL_cons] at e
    obtain ⟨v, hv, e⟩ := Option.bind_eq_some_iff.1 e
    obtain ⟨vs', hvs, e⟩ := Option.map_eq_some_iff.1 e
    subst e
    obtain ⟨x, h1, h2⟩ := resultV_sound hE hr ht hv
    obtain ⟨xs, h3, h4⟩ := resultsL_sound hE hr ht hvs
    refine ⟨x :: xs, ?_, All2.cons h2 h4⟩
    rw [List.mapM_cons]
    simp only [Sem.run_bind, h1, Result.andThen_ok, h3]
    rfl

theorem tup_all {vs : List V} {xs : List Value} (h : All2 (fun v x => VREL X v true [x]) vs xs) : VREL X (.tup vs) true [.tuple xs.toArray] := by
  simp only [VREL]
  have hfl : ∀ l : List Value, (l.map fun x => [x]).flatten = l := by intro l; induction l <;> simp_all
  refine ⟨xs.toArray, xs.map fun x => [x], rfl, ?_, by rw [hfl]⟩
  clear hfl
  induction vs generalizing xs with
  | nil => cases h; simp [VRELs]
  | cons v vs ih => obtain ⟨x, r, rfl, h1, h2⟩ := h; simp only [VRELs, List.map_cons]; exact ⟨_, _, rfl, h1, ih h2⟩

theorem results_sound (hE : EnvTy P E) (hr : HR B X O w h) {t : Tm} {tmps : Array Value} (ht : TR X t tmps) {fn : Func} {v : V} (e : resultsV E h fn t = some v) : ∃ x, (results fn tmps).run P w = .ok x w ∧ VREL X v true [x] := by
  unfold resultsV at e
  obtain ⟨vs, hvs, e⟩ := Option.map_eq_some_iff.1 e
  obtain ⟨xs, h1, h2⟩ := resultsL_sound hE hr ht hvs
  have hrun : (results fn tmps).run P w = .ok (if h : xs.toArray.size = 1 then xs.toArray[0] else .tuple xs.toArray) w := by
    rw [results_eq, Array.mapM_eq_mapM_toList]
    simp only [Sem.run_bind, Sem.run_map]
    rw [h1]; rfl
  split at e
  · subst e
    obtain ⟨x, r, rfl, rx, rr⟩ := h2
    cases rr
    exact ⟨x, by rw [hrun]; simp, rx⟩
  · rename_i hne
    subst e
    have hl := h2.len
    refine ⟨.tuple xs.toArray, ?_, VREL_mkTup (tup_all h2)⟩
    rw [hrun, dif_neg]
    intro h1'
    have : vs.length = 1 := by rw [← hl]; simpa using h1'
    obtain ⟨v, rfl⟩ := List.length_eq_one_iff.1 this
    exact hne v rfl
end
end Go.As
