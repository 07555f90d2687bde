/-
  AS: the evaluator without a bound on its steps. A call of the evaluator that ends uses finitely many of its own calls; so the evaluators of bounded depth have a limit, and the limit is its own unfolding.
-/
import Derived.Test.YtfpkonppeefhfaaGreatDoorA6
set_option linter.unusedSectionVars false
set_option linter.unusedSimpArgs false
set_option linter.unusedVariables false
namespace Go.As
noncomputable section
abbrev IH := Nat → Nat → Nat → Code → St → Option (Ex × St)
structure Ask where
 f : Nat
 fb : Nat
 cur : Nat
 c : Code
 st : St
 r : Ex × St
def Holds (S : List Ask) (ih : IH) : Prop := ∀ p ∈ S, ih p.f p.fb p.cur p.c p.st = some p.r
def FS {α : Type} (c : IH → Option α) : Prop := ∀ ih r, c ih = some r → ∃ S, Holds S ih ∧ ∀ ih', Holds S ih' → c ih' = some r
theorem FS.const {α : Type} (o : Option α) : FS (fun _ => o) := fun _ _ h => ⟨[], (fun _ h => by cases h), fun _ _ => h⟩
theorem FS.ask (f fb cur : Nat) (c : Code) (st : St) : FS (fun ih => ih f fb cur c st) := fun ih r h =>
 ⟨[⟨f, fb, cur, c, st, r⟩], (fun p hp => by cases List.mem_singleton.1 hp; exact h), fun ih' h' => h' _ (List.mem_singleton.2 rfl)⟩
theorem FS.bind {α β : Type} {c : IH → Option α} {k : α → IH → Option β} (hc : FS c) (hk : ∀ x, FS (k x)) : FS (fun ih => (c ih).bind fun x => k x ih) := fun ih r h => by
 obtain ⟨x, h1, h2⟩ := Option.bind_eq_some_iff.1 h
 obtain ⟨S, s1, s2⟩ := hc ih x h1
 obtain ⟨T, t1, t2⟩ := hk x ih r h2
 refine ⟨S ++ T, fun p hp => ?_, fun ih' h' => ?_⟩
 ·rcases List.mem_append.1 hp with hp | hp
  ·exact s1 p hp
  ·exact t1 p hp
 ·show (c ih').bind _ = _
  rw [s2 ih' fun p hp => h' p (List.mem_append.2 (.inl hp)), Option.bind_some]
  exact t2 ih' fun p hp => h' p (List.mem_append.2 (.inr hp))
theorem FS.of {α : Type} {c d : IH → Option α} (h : FS d) (e : ∀ ih, c ih = d ih) : FS c := by
 have : c = d := funext e
 rw [this]; exact h
theorem FS.mat {α β : Type} {c : IH → Option α} {F : IH → Option β} (hc : FS c) (k : α → IH → Option β) (hk : ∀ x, FS (k x)) (e0 : ∀ ih, c ih = none → F ih = none) (e1 : ∀ ih x, c ih = some x → F ih = k x ih) : FS F :=
 (hc.bind hk).of fun ih => by
  cases h : c ih with
  | none => rw [e0 ih h]; rfl
  | some x => rw [e1 ih x h]; rfl
theorem FS.cond {α : Type} {b : Bool} {c d : IH → Option α} (hc : FS c) (hd : FS d) : FS (fun ih => bif b then c ih else d ih) := by
 cases b
 ·exact hd
 ·exact hc
theorem FS.map {α β : Type} {c : IH → Option α} (hc : FS c) (g : α → β) : FS (fun ih => (c ih).map g) :=
 (hc.bind (k := fun x _ => some (g x)) fun x => FS.const _).of fun ih => by cases c ih <;> rfl
section
variable (E : Env)
theorem runBody_fs (f : Nat) (args : List V) (h : Heap) (lp : List Rec) : FS (fun ih => runBody E ih f args h lp) := by
 unfold runBody
 refine FS.bind (FS.const _) fun fn => FS.bind (FS.const _) fun c => ?_
 have : FS (fun ih : IH => bif Nat.ble (llen args) fn.ntmps then ih f 0 0 c ⟨tmOf fn.ntmps args, h, lp, []⟩ else none) := FS.cond (FS.ask _ _ _ _ _) (FS.const _)
 refine FS.mat this (fun x _ => match x with | (.exit _, _) => none | (_, st) => some (fn, st)) (fun x => FS.const _) (fun ih e => ?_) (fun ih x e => ?_)
 ·simp only [e]
 ·simp only [e]; obtain ⟨ex, st⟩ := x; cases ex <;> rfl
theorem execS_fs (f fb : Nat) : ∀ (n : Nat) (c : Code) (st : St), FS (fun ih => execS E ih f fb n c st)
 | 0, c, st => FS.const none
 | n + 1, c, st => by
  have sq : ∀ a b, FS (fun ih => execS E ih f fb (n + 1) (.seq a b) st) := fun a b =>
   FS.mat (execS_fs f fb n a st) (fun x ih => match x with | (.nm, st') => execS E ih f fb n b st' | r => some r) (fun x => by obtain ⟨ex, st'⟩ := x; cases ex <;> first | exact execS_fs f fb n b st' | exact FS.const _)
    (fun ih e => by show (match execS E ih f fb n a st with | some (.nm, st') => execS E ih f fb n b st' | r => r) = none; rw [e]) (fun ih x e => by
     show (match execS E ih f fb n a st with | some (.nm, st') => execS E ih f fb n b st' | r => r) = _
     rw [e]; obtain ⟨ex, st'⟩ := x; cases ex <;> rfl)
  cases c with
  | seq a b => exact sq a b
  | cond c a b =>
   show FS (fun ih => match ev st.t c with | .im (.bool t) => bif t then execS E ih f fb n a st else execS E ih f fb n b st | _ => none)
   split
   ·exact FS.cond (execS_fs f fb n a st) (execS_fs f fb n b st)
   ·exact FS.const _
  | region id ops draw =>
   cases draw with
   | true => exact FS.ask _ _ _ _ _
   | false => exact FS.cond (c := fun _ => match recOps E (E.keep f) ops ops.toList st with | some st' => some (.nm, st') | none => none) (FS.const _) (FS.ask _ _ _ _ _)
  | _ => exact FS.ask _ _ _ _ _
theorem runBodyS_fs (f : Nat) (args : List V) (h : Heap) (lp : List Rec) : FS (fun ih => runBodyS E ih f args h lp) := by
 unfold runBodyS
 refine FS.bind (FS.const _) fun fn => FS.bind (FS.const _) fun c => ?_
 have : FS (fun ih : IH => bif Nat.ble (llen args) fn.ntmps then execS E ih f 0 64 c ⟨tmOf fn.ntmps args, h, lp, []⟩ else none) := FS.cond (execS_fs E f 0 64 c _) (FS.const _)
 refine FS.mat this (fun x _ => match x with | (.exit _, _) => none | (_, st) => some (fn, st)) (fun x => FS.const _) (fun ih e => ?_) (fun ih x e => ?_)
 ·simp only [e]
 ·simp only [e]; obtain ⟨ex, st⟩ := x; cases ex <;> rfl
theorem runDefers_fs (n0 : Nat) : ∀ (df : List (Nat × List V)) (h : Heap) (lp : List Rec), FS (fun ih => runDefers E ih n0 df h lp)
 | [], h, lp => FS.const _
 | d :: df, h, lp => by
  show FS (fun ih => bif isMark d then (bif Nat.ble n0 d.1 then runDefers E ih n0 df h lp else none) else match runBodyS E ih d.1 d.2 h lp with
   | some (fn, st) => (match st.df with
    | [] => (match resultsV E st.h fn st.t with
     | some _ => runDefers E ih n0 df st.h st.lp
     | none => none)
    | _ => none)
   | none => none)
  refine FS.cond (FS.cond (runDefers_fs n0 df h lp) (FS.const _)) ?_
  refine FS.mat (runBodyS_fs E d.1 d.2 h lp) (fun x ih => match x.2.df with
    | [] => (match resultsV E x.2.h x.1 x.2.t with
     | some _ => runDefers E ih n0 df x.2.h x.2.lp
     | none => none)
    | _ => none) (fun x => ?_) (fun ih e => by simp only [e]) (fun ih x e => by simp only [e])
  split
  ·split
   ·exact runDefers_fs n0 df _ _
   ·exact FS.const _
  ·exact FS.const _
theorem inlineV_fs (f : Nat) (args : List V) (h : Heap) (lp : List Rec) : FS (fun ih => inlineV E ih f args h lp) := by
 unfold inlineV
 refine FS.mat (runBody_fs E f args h lp) (fun x ih => match x.2.df with
  | [] => (resultsV E x.2.h x.1 x.2.t).map fun v => (v, x.2.h, x.2.lp)
  | df => (runDefers E ih (llen h) df x.2.h x.2.lp).bind fun r => (resultsV E r.1 x.1 x.2.t).map fun v => (v, r.1, r.2)) (fun x => ?_) (fun ih e => by simp only [e]) (fun ih x e => by obtain ⟨fn, st⟩ := x; simp only [e]; cases st.df <;> rfl)
 split
 ·exact FS.const _
 ·exact FS.bind (runDefers_fs E _ _ _ _) fun r => FS.const _
theorem dataV_fs (f : Nat) (args : List D) : FS (fun ih => dataV E ih f args) := by
 unfold dataV
 exact FS.bind (inlineV_fs E f _ _ _) fun r => FS.const _
theorem dataC_fs (f : Nat) (args : List D) : FS (fun ih => dataC E ih f args) := by
 unfold dataC
 split
 ·split
  ·exact FS.const _
  ·exact dataV_fs E f args
 ·exact dataV_fs E f args
theorem callV_fs (f : Nat) (args : List V) (h : Heap) (lp : List Rec) : FS (fun ih => callV E ih f args h lp) := by
 unfold callV
 refine FS.cond (inlineV_fs E f args h lp) ?_
 split
 ·exact FS.bind (dataC_fs E f _) fun r => FS.const _
 ·exact inlineV_fs E f args h lp
theorem callFn_fs (nid g : Nat) (args : List V) (h : Heap) (lp : List Rec) : FS (fun ih => callFn E ih nid g args h lp) := by
 unfold callFn
 split
 ·exact FS.const _
 ·split
  ·exact callV_fs E g args h lp
  ·exact FS.const _
theorem roundV_fs (b : Nat) (xs : List V) (h : Heap) : FS (fun ih => roundV ih b xs h) := by
 unfold roundV
 split
 ·rename_i f t ps asg body _
  refine FS.bind (FS.const _) fun t0 => ?_
  refine FS.mat (FS.ask f 1 0 asg _) (fun x ih => match x with
   | (.nm, s1) => (match s1.df with
    | [] => (match ih f 1 0 body ⟨s1.t, s1.h, [], []⟩ with
     | some (.nm, s2) => (match s2.df with
      | [] => some (.im (.bool true), hput s2.h b (.lp f t ps asg body))
      | _ => none)
     | _ => none)
    | _ => none)
   | _ => none) (fun x => ?_) (fun ih e => by
    have e : ih f 1 0 asg ⟨t0, lset h b none, [], []⟩ = none := e
    rw [e]) (fun ih x e => by
    have e : ih f 1 0 asg ⟨t0, lset h b none, [], []⟩ = some x := e
    rw [e]; obtain ⟨ex, s1⟩ := x; cases ex <;> rfl)
  obtain ⟨ex, s1⟩ := x
  cases ex with
  | nm =>
   show FS (fun ih : IH => match s1.df with
    | [] => (match ih f 1 0 body ⟨s1.t, s1.h, [], []⟩ with
     | some (.nm, s2) => (match s2.df with
      | [] => (some (V.im (.bool true), hput s2.h b (.lp f t ps asg body)) : R)
      | _ => none)
     | _ => none)
    | _ => none)
   split
   ·refine FS.mat (FS.ask f 1 0 body _) (fun x _ => match x with
     | (.nm, s2) => (match s2.df with
      | [] => some (.im (.bool true), hput s2.h b (.lp f t ps asg body))
      | _ => none)
     | _ => none) (fun x => FS.const _) (fun ih e => by
     have e : ih f 1 0 body ⟨s1.t, s1.h, [], []⟩ = none := e
     rw [e]) (fun ih x e => by
     have e : ih f 1 0 body ⟨s1.t, s1.h, [], []⟩ = some x := e
     rw [e]; obtain ⟨ex, s2⟩ := x; cases ex <;> rfl)
   ·exact FS.const _
  | exit _ => exact FS.const _
  | ret => exact FS.const _
 ·exact FS.const _
theorem lift_fs (lp : List Rec) {c : IH → R} (hc : FS c) : FS (fun ih => lift lp (c ih)) :=
 (hc.map fun x => (x.1, x.2, lp)).of fun ih => by cases c ih <;> rfl
theorem goCall_fs (nid : Nat) (t : Tm) (c : Call) (h : Heap) (lp : List Rec) : FS (fun ih => goCall E ih nid t c h lp) := by
 unfold goCall
 split
 ·exact lift_fs lp (roundV_fs _ _ _)
 ·exact FS.bind (FS.const _) fun g => callFn_fs E _ _ _ _ _
theorem opV_fs (keep : Bool) (ops : Array Oper) (nid : Nat) (o : Oper) (st : St) : FS (fun ih => opV E ih keep ops nid o st) := by
 have key : ∀ c : IH → RC, FS c → FS (fun ih => match c ih with | none => none | some (v, h, lp) => some (⟨putDst st.t o.dst v, h, lp, st.df⟩ : St)) := fun c hc =>
  FS.mat hc (fun x _ => some ⟨putDst st.t o.dst x.1, x.2.1, x.2.2, st.df⟩) (fun x => FS.const _) (fun ih e => by simp only [e]) (fun ih x e => by simp only [e])
 unfold opV
 split
 ·exact FS.const _
 ·exact FS.const _
 ·split
  ·exact FS.const _
  ·refine key (fun ih => match o.op with
    | .call c => (match c.callee with
     | .builtin _ => lift st.lp (stepOp E keep nid st.t st.h o.op)
     | _ => goCall E ih nid st.t c st.h st.lp)
    | op => lift st.lp (stepOp E keep nid st.t st.h op)) ?_
   split
   ·split
    ·exact FS.const _
    ·exact goCall_fs E _ _ _ _ _
   ·exact FS.const _
theorem runOps_fs (keep : Bool) (ops : Array Oper) : ∀ (l : List Oper) (st : St), FS (fun ih => runOps E ih keep ops l st)
 | [], st => FS.const _
 | o :: l, st => by
  show FS (fun ih => match opV E ih keep ops (llen st.h) o st with
   | none => none
   | some st' => runOps E ih keep ops l st')
  exact FS.mat (opV_fs E keep ops _ o st) (fun x ih => runOps E ih keep ops l x) (fun x => runOps_fs keep ops l x) (fun ih e => by
   have e : opV E ih keep ops (llen st.h) o st = none := e
   show (match opV E ih keep ops (llen st.h) o st with | none => none | some st' => runOps E ih keep ops l st') = none
   rw [e]) (fun ih x e => by
   have e : opV E ih keep ops (llen st.h) o st = some x := e
   show (match opV E ih keep ops (llen st.h) o st with | none => none | some st' => runOps E ih keep ops l st') = _
   rw [e])
theorem dataArm_fs (view : Heap) (g : Nat) (args : List V) (k : D → Option (V × Option Blk)) : FS (fun ih => (allData view args).bind fun ds => (dataC E ih g ds).bind fun r => k r) :=
 FS.bind (FS.const _) fun ds => FS.bind (dataC_fs E g ds) fun r => FS.const _
theorem quietV_fs (keep : Bool) (nid : Nat) (t : Tm) (view : Heap) (op : Op) : FS (fun ih => quietV E ih keep nid t view op) := by
 unfold quietV
 split
 all_goals first
  | exact FS.const _
  | skip
 split
 all_goals first
  | exact FS.const _
  | skip
 refine FS.bind (FS.const _) fun g => ?_
 split
 ·exact FS.const _
 ·split
  ·exact FS.const _
  ·exact FS.const _
  ·exact FS.cond (FS.const _) (FS.bind (FS.const _) fun ds => FS.bind (dataC_fs E _ ds) fun r => FS.const _)
  ·exact FS.const _
theorem simpleV_fs (keep : Bool) (nid : Nat) (t : Tm) (view : Heap) (op : Op) : FS (fun ih => simpleV E ih keep nid t view op) := by
 unfold simpleV
 split
 ·split
  ·exact FS.const _
  ·exact FS.const _
  ·refine FS.bind (FS.const _) fun g => FS.cond (FS.const _) ?_
   split
   ·exact FS.bind (FS.const _) fun ds => FS.bind (dataC_fs E _ ds) fun r => FS.const _
   ·exact FS.const _
 ·exact FS.const _
theorem opD_fs (keep : Bool) (ops : Array Oper) (k n i cls : Nat) (m : List Nat) (o : Oper) (st : St) : FS (fun ih => opD E ih keep ops k n i cls m o st) := by
 unfold opD
 split
 ·exact FS.const _
 ·exact FS.const _
 ·split
  ·exact FS.const _
  ·refine FS.cond ?_ ?_
   ·split
    ·exact (quietV_fs E keep _ _ _ _).map _
    ·exact FS.const _
   ·exact FS.bind (quietV_fs E keep _ _ _ _) fun r => FS.const _
  ·exact (simpleV_fs E keep _ _ _ _).map _
  ·exact opV_fs E keep ops _ o st
  ·split
   ·exact FS.bind (FS.const _) fun g => FS.bind (inlineV_fs E _ _ _ _) fun r => FS.const _
   ·exact FS.const _
  ·exact FS.const _
  ·exact FS.const _
  ·exact FS.const _
  ·exact FS.const _
  ·split
   ·exact FS.bind (FS.const _) fun g => FS.bind (FS.const _) fun ds => FS.bind (dataC_fs E _ ds) fun r => FS.const _
   ·exact FS.const _
theorem runOpsD_fs (keep : Bool) (ops : Array Oper) (k n : Nat) : ∀ (l : List Oper) (ds : List (Nat × List Nat)) (i : Nat) (st : St), FS (fun ih => runOpsD E ih keep ops k n l ds i st)
 | [], ds, i, st => FS.const _
 | o :: l, [], i, st => FS.const _
 | o :: l, (c, m) :: ds, i, st => by
  show FS (fun ih => match opD E ih keep ops k n i c m o st with
   | none => none
   | some st' => runOpsD E ih keep ops k n l ds (bif isNew E o.op then i + 1 else i) st')
  exact FS.mat (opD_fs E keep ops k n i c m o st) (fun x ih => runOpsD E ih keep ops k n l ds (bif isNew E o.op then i + 1 else i) x) (fun x => runOpsD_fs keep ops k n l ds _ x) (fun ih e => by simp only [e]) (fun ih x e => by simp only [e])
theorem regionD_fs (f id : Nat) (ops : Array Oper) (st : St) : FS (fun ih => regionD E ih f id ops st) := by
 unfold regionD
 exact FS.bind (FS.const _) fun ds => runOpsD_fs E _ ops _ _ _ ds _ _
theorem execB_fs (f fb cur : Nat) (c : Code) (st : St) : FS (fun ih => execB E ih f fb cur c st) := by
 cases c with
 | region id ops draw =>
  show FS (fun ih => match (bif draw then regionD E ih f id ops st else runOps E ih (E.keep f) ops ops.toList st) with
   | some st' => (some (Ex.nm, st') : Option (Ex × St))
   | none => none)
  exact FS.mat (FS.cond (b := draw) (regionD_fs E f id ops st) (runOps_fs E (E.keep f) ops ops.toList st)) (fun x _ => some (Ex.nm, x)) (fun x => FS.const _) (fun ih e => by simp only [e]) (fun ih x e => by simp only [e])
 | seq a b =>
  show FS (fun ih : IH => match ih f fb cur a st with
   | some (.nm, st') => ih f fb cur b st'
   | r => r)
  exact FS.mat (FS.ask f fb cur a st) (fun x ih => match x with | (.nm, st') => ih f fb cur b st' | r => some r) (fun x => by obtain ⟨ex, st'⟩ := x; cases ex <;> first | exact FS.ask _ _ _ _ _ | exact FS.const _)
   (fun ih e => by simp only [e]) (fun ih x e => by simp only [e]; obtain ⟨ex, st'⟩ := x; cases ex <;> rfl)
 | cond c a b =>
  show FS (fun ih : IH => match ev st.t c with
   | .im (.bool t) => bif t then ih f fb cur a st else ih f fb cur b st
   | _ => none)
  split
  ·exact FS.cond (FS.ask _ _ _ _ _) (FS.ask _ _ _ _ _)
  ·exact FS.const _
 | block id b =>
  show FS (fun ih : IH => match ih f fb id b st with
   | some (.exit j, st') => bif Nat.beq j id then some (.nm, st') else some (.exit j, st')
   | r => r)
  exact FS.mat (FS.ask f fb id b st) (fun x _ => match x with | (.exit j, st') => bif Nat.beq j id then some (.nm, st') else some (.exit j, st') | r => some r) (fun x => FS.const _)
   (fun ih e => by simp only [e]) (fun ih x e => by simp only [e]; obtain ⟨ex, st'⟩ := x; cases ex <;> rfl)
 | loop b =>
  show FS (fun ih : IH => match ih f fb cur b st with
   | some (.nm, st') => ih f fb cur (.loop b) st'
   | r => r)
  exact FS.mat (FS.ask f fb cur b st) (fun x ih => match x with | (.nm, st') => ih f fb cur (.loop b) st' | r => some r) (fun x => by obtain ⟨ex, st'⟩ := x; cases ex <;> first | exact FS.ask _ _ _ _ _ | exact FS.const _)
   (fun ih e => by simp only [e]) (fun ih x e => by simp only [e]; obtain ⟨ex, st'⟩ := x; cases ex <;> rfl)
 | scope b => exact FS.ask _ _ _ _ _
 | rangeFunc g ps asg body =>
  show FS (fun ih : IH => match (match ev st.t g with | .fn g a cap => some (g, a, cap) | .im (.fn g) => some (g, [], []) | _ => none : Option (Nat × List V × List V)) with
   | some (g, a, cap) => (match inlineV E ih g (a ++ (.yld (llen st.h + 1) :: cap)) (st.h ++ [none, some (.lp f st.t ps.toList asg body)]) st.lp with
    | some (_, h', lp) => (match hget h' (llen st.h + 1) with
     | some (.lp ..) => (some (Ex.nm, ⟨st.t, lset h' (llen st.h + 1) none, lp, bif Nat.beq fb 0 then (llen st.h, [V.undef]) :: st.df else st.df⟩) : Option (Ex × St))
     | _ => none)
    | none => none)
   | none => none)
  split
  ·rename_i g a cap _
   exact FS.mat (inlineV_fs E g (a ++ (.yld (llen st.h + 1) :: cap)) (st.h ++ [none, some (.lp f st.t ps.toList asg body)]) st.lp) (fun x _ => match hget x.2.1 (llen st.h + 1) with
     | some (.lp ..) => some (Ex.nm, ⟨st.t, lset x.2.1 (llen st.h + 1) none, x.2.2, bif Nat.beq fb 0 then (llen st.h, [V.undef]) :: st.df else st.df⟩)
     | _ => none) (fun x => FS.const _) (fun ih e => by simp only [e]) (fun ih x e => by simp only [e])
  ·exact FS.const _
 | _ => exact FS.const _
end
theorem exec_succ (E : Env) (n : Nat) : exec E (n + 1) = execB E (exec E n) := rfl
theorem exec_up (E : Env) : ∀ (n f fb cur : Nat) (c : Code) (st : St) (r : Ex × St), exec E n f fb cur c st = some r → exec E (n + 1) f fb cur c st = some r
 | 0, _, _, _, _, _, _, h => by cases h
 | n + 1, f, fb, cur, c, st, r, h => by
  obtain ⟨S, h1, h2⟩ := execB_fs E f fb cur c st (exec E n) r h
  exact h2 _ fun p hp => exec_up E n _ _ _ _ _ _ (h1 p hp)
theorem exec_mono (E : Env) {n m : Nat} (hnm : n ≤ m) {f fb cur : Nat} {c : Code} {st : St} {r : Ex × St} (h : exec E n f fb cur c st = some r) : exec E m f fb cur c st = some r := by
 obtain ⟨k, rfl⟩ := Nat.exists_eq_add_of_le hnm
 clear hnm
 induction k with
 | zero => exact h
 | succ k ih => exact exec_up E _ _ _ _ _ _ _ ih
open Classical in
def X (E : Env) : IH := fun f fb cur c st => if h : ∃ n r, exec E n f fb cur c st = some r then some h.choose_spec.choose else none
theorem X_some {E : Env} {f fb cur : Nat} {c : Code} {st : St} {r : Ex × St} : X E f fb cur c st = some r ↔ ∃ n, exec E n f fb cur c st = some r := by
 unfold X
 constructor
 ·intro h
  split at h
  ·rename_i q
   have := q.choose_spec.choose_spec
   cases h
   exact ⟨_, this⟩
  ·cases h
 ·rintro ⟨n, h⟩
  have q : ∃ n r, exec E n f fb cur c st = some r := ⟨n, r, h⟩
  rw [dif_pos q]
  have h2 := q.choose_spec.choose_spec
  have a := exec_mono E (Nat.le_max_left n q.choose) h
  have b := exec_mono E (Nat.le_max_right n q.choose) h2
  rw [a] at b
  exact congrArg some (Option.some.inj b).symm
theorem holds_X {E : Env} : ∀ {S : List Ask}, Holds S (X E) → ∃ n, Holds S (exec E n)
 | [], _ => ⟨0, (fun _ h => by cases h)⟩
 | p :: S, h => by
  obtain ⟨n, hn⟩ := X_some.1 (h p (List.mem_cons_self ..))
  obtain ⟨m, hm⟩ := holds_X (S := S) fun q hq => h q (List.mem_cons_of_mem _ hq)
  refine ⟨max n m, fun q hq => ?_⟩
  rcases List.mem_cons.1 hq with rfl | hq
  ·exact exec_mono E (Nat.le_max_left ..) hn
  ·exact exec_mono E (Nat.le_max_right ..) (hm q hq)
theorem X_eq (E : Env) (f fb cur : Nat) (c : Code) (st : St) : X E f fb cur c st = execB E (X E) f fb cur c st := by
 apply Option.ext
 intro r
 constructor
 ·intro h
  obtain ⟨n, hn⟩ := X_some.1 h
  have hn := exec_up E n _ _ _ _ _ _ hn
  obtain ⟨S, h1, h2⟩ := execB_fs E f fb cur c st (exec E n) r hn
  exact h2 _ fun p hp => X_some.2 ⟨n, h1 p hp⟩
 ·intro h
  obtain ⟨S, h1, h2⟩ := execB_fs E f fb cur c st (X E) r h
  obtain ⟨n, hn⟩ := holds_X h1
  exact X_some.2 ⟨n + 1, h2 _ hn⟩
theorem X_sound [Gh] {F : Fence} {P : Program} {E : Env} (hE : EnvOk F P E) (hF : Fen F) : CodeS F P E (X E) := fun f fb cur c st r h => by
 obtain ⟨n, hn⟩ := X_some.1 h
 exact exec_sound hE hF n f fb cur c st r hn
end
end Go.As
/-
 AS: a second evaluator, over typed values: a datum may be a value of Lean's that is left open. What it answers is then an expression over these values. Definitions alone.
-/
namespace Go.As
noncomputable section
inductive CV where
 | undef
 | sy (t : Ty) (x : t.den)
 | rf (t : Ty) (x : t.den)
 | dat (d : D)
 | nsl
 | agg (w : Nat) (l : List CV)
 | tup (l : List CV)
 | own (b v : Nat)
 | ptr (b : Nat) (p : List (Nat × Nat))
 | el (b v i : Nat) (p : List (Nat × Nat))
 | fn (f : Nat) (a c : List CV)
 | ful (t : Ty) (l : List t.den)
 | win (b v : Nat) (o : Option Nat) (n : Nat) (lim : Bool)
 deriving Inhabited
def nAdd (a b : Nat) : Nat := a + b
def nSub (a b : Nat) : Nat := a - b
def lTake {α : Type} (l : List α) (n : Nat) : List α := l.take n
def lDrop {α : Type} (l : List α) (n : Nat) : List α := l.drop n
def cutW {α : Type} (o : Option Nat) (n : Nat) (l : List α) : List α := match o with | none => lTake l n | some o => lTake (lDrop l o) n
def offW (o i : Option Nat) : Option Nat := match i with
 | none => o
 | some i => (match o with | none => some i | some o => some (nAdd o i))
def offI (o : Option Nat) (i : Nat) : Nat := match o with | none => i | some o => nAdd o i
def lenW (j : Nat) (i : Option Nat) : Nat := match i with | none => j | some i => nSub j i
def isNilL {α : Type} (l : List α) : Bool := match l with | [] => true | _ :: _ => false
def isU (v : CV) : Bool := match v with | .undef => true | _ => false
def noU (l : List CV) : Bool := l.all fun v => !isU v
inductive CB where
 | cell (v : CV)
 | arr (v : Nat) (c : Bool) (t : Ty) (l : List t.den)
abbrev CH := List (Option CB)
inductive TC where
 | e
 | n (v : CV) (l r : TC)
def TC.get (t : TC) : Nat → CV :=
 TC.rec (fun _ => CV.undef) (fun v _ _ gl gr i => Bool.rec (Bool.rec (gr (Nat.sub (Nat.div i 2) 1)) (gl (Nat.div i 2)) (Nat.beq (Nat.mod i 2) 1)) v (Nat.beq i 0)) t
def TC.set (t : TC) : Nat → CV → TC :=
 TC.rec (fun _ _ => TC.e) (fun v l r sl sr i x => Bool.rec (Bool.rec (TC.n v l (sr (Nat.sub (Nat.div i 2) 1) x)) (TC.n v (sl (Nat.div i 2) x) r) (Nat.beq (Nat.mod i 2) 1)) (TC.n x l r) (Nat.beq i 0)) t
def TC.mk (d : Nat) : TC := Nat.rec TC.e (fun _ t => TC.n .undef t t) d
def hgetC (h : CH) (b : Nat) : Option CB := match lget h b with | some (some x) => some x | _ => none
def hputC (h : CH) (b : Nat) (x : CB) : CH := lset h b (some x)
def kidsT : (l : Ty) → l.den → List CV
 | .cn t l, x => .sy t x.1 :: kidsT l x.2
 | _, _ => []
def CV.kids : CV → Option (List CV)
 | .sy (.st _ l) x => some (kidsT l x)
 | .agg _ l => some l
 | _ => none
def CV.part (v : CV) (i : Nat) : Option CV :=
 match v with
 | .sy (.tup l) x => lget (kidsT l x) i
 | .tup l => lget l i
 | _ => none
def CV.wd : CV → Nat
 | .sy t _ => t.wd
 | .dat d => d.wd
 | .agg w _ => w
 | _ => 1
def wdsC (l : List CV) : Nat → Nat :=
 List.rec (fun _ => 0) (fun v _ ih i => match i with | 0 => 0 | j + 1 => v.wd + ih j) l
structure TX where
 t : Ty
 x : t.den
def allSy (l : List CV) : Option TX :=
 List.rec (some ⟨.nl, ()⟩) (fun v _ ih => match v with
  | .sy t x => Option.rec none (fun r => some ⟨.cn t r.t, (x, r.x)⟩) ih
  | _ => none) l
def mkA (w : Nat) (l : List CV) : CV := Option.rec (CV.agg w l) (fun r => CV.sy (.st w r.t) r.x) (allSy l)
def mkU (l : List CV) : CV := Option.rec (CV.tup l) (fun r => CV.sy (.tup r.t) r.x) (allSy l)
def CV.kid (v : CV) (k o : Nat) : Option CV := v.kids.bind fun l => bif Nat.beq (wdsC l k) o then lget l k else none
def CV.nav (v : CV) (p : List (Nat × Nat)) : Option CV :=
 List.rec (fun v => some v) (fun s _ ih v => (CV.kid v s.1 s.2).bind ih) p v
def CV.put (x : CV) (p : List (Nat × Nat)) (v : CV) : Option CV :=
 List.rec (fun v => bif Nat.beq x.wd v.wd && not (isU v) then some x else none) (fun s _ ih v =>
  v.kids.bind fun l => bif Nat.beq (wdsC l s.1) s.2 then (lget l s.1).bind fun c => (ih c).map fun c' => mkA v.wd (lset l s.1 c') else none) p v
mutual
def ofD : D → CV
 | .bool b => .sy .bool b
 | .int k n => .sy (.int k) n
 | .str s => .sy .str s
 | .agg w l => mkA w (ofDs l)
 | .tup l => mkU (ofDs l)
 | d => .dat d
def ofDs : List D → List CV
 | [] => []
 | d :: l => ofD d :: ofDs l
end
mutual
def ofV : V → CV
 | .im d => ofD d
 | .full [] => .nsl
 | .agg w l => bif noU (ofVs l) && (allIm l).isNone then mkA w (ofVs l) else .undef
 | .fn f [] [] => .fn f [] []
 | _ => .undef
def ofVs : List V → List CV
 | [] => []
 | v :: l => ofV v :: ofVs l
end
mutual
def CV.dt (ch : CH) : (t : Ty) → CV → Option t.den
 | t, .sy u x => Ty.cs u t x
 | .slc _, .nsl => some []
 | .slc t, .own b v => match hgetC ch b with
  | some (.arr v' _ u l) => bif Nat.beq v v' then Ty.cs (.slc u) (.slc t) l else none
  | _ => none
 | .slc t, .ful u l => Ty.cs (.slc u) (.slc t) l
 | .slc t, .win b v o n _ => match hgetC ch b with
  | some (.arr v' _ u l) => bif Nat.beq v v' then Ty.cs (.slc u) (.slc t) (cutW o n l) else none
  | _ => none
 | .st w l, .agg w' vs => bif Nat.beq w w' then CV.dts ch l vs else none
 | .tup l, .tup vs => CV.dts ch l vs
 | _, _ => none
def CV.dts (ch : CH) : (l : Ty) → List CV → Option l.den
 | .nl, [] => some ()
 | .cn t l, v :: vs => match CV.dt ch t v, CV.dts ch l vs with
  | some x, some y => some (x, y)
  | _, _ => none
 | _, _ => none
end
mutual
def CV.ownsC : CV → List Nat
 | .own b _ => [b]
 | .win b _ _ _ _ => [b]
 | .agg _ l => CV.ownsCs l
 | .tup l => CV.ownsCs l
 | _ => []
def CV.ownsCs : List CV → List Nat
 | [] => []
 | v :: l => v.ownsC ++ CV.ownsCs l
end
def CV.noData : CV → Bool
 | .ptr _ _ | .el _ _ _ _ => true
 | .fn _ (_ :: _) _ => true
 | .fn _ _ (_ :: _) => true
 | _ => false
def closeC (ch : CH) (bs : List Nat) : CH :=
 List.rec (fun h => h) (fun b _ ih h => match hgetC h b with
  | some (.arr v _ t l) => ih (hputC h b (.arr v true t l))
  | _ => ih h) bs ch
structure Spec where
 a : Ty
 r : Ty
 f : a.den → Option r.den
inductive Pt where
 | val (t : Ty)
 | buf (c : Bool) (t : Ty)
 | agg (w : Nat) (l : List Pt)
structure Hint where
 slots : List (Nat × Pt)
 cells : List (Nat × Pt)
 arrs : List (Nat × Ty)
inductive Ap where
 | val (t : Ty)
 | buf (w : Bool) (t : Ty)
 | cell (w : Bool) (t : Ty)
 | fn (f : Nat) (a c : List Ap)
mutual
def Ap.ty : Ap → Ty
 | .val t => t
 | .buf _ t => .slc t
 | .cell _ t => t
 | .fn _ a c => .cn (Aps.ty a) (Aps.ty c)
def Aps.ty : List Ap → Ty
 | [] => .nl
 | p :: l => .cn p.ty (Aps.ty l)
end
mutual
def Ap.get (ch : CH) : (p : Ap) → CV → Option p.ty.den
 | .val t, .sy u x => Ty.cs u t x
 | .buf w t, .own b n => match hgetC ch b with
  | some (.arr n' c u l) => bif Nat.beq n n' && (bif w then not c else c) then Ty.cs (.slc u) (.slc t) l else none
  | _ => none
 | .cell _ t, .ptr b [] => match hgetC ch b with
  | some (.cell (.sy u x)) => Ty.cs u t x
  | _ => none
 | .fn f a c, .fn f' a' c' => bif Nat.beq f f' then (match Aps.get ch a a', Aps.get ch c c' with
  | some x, some y => some (x, y)
  | _, _ => none) else none
 | _, _ => none
def Aps.get (ch : CH) : (l : List Ap) → List CV → Option (Aps.ty l).den
 | [], [] => some ()
 | p :: l, v :: vs => match Ap.get ch p v, Aps.get ch l vs with
  | some x, some y => some (x, y)
  | _, _ => none
 | _, _ => none
end
mutual
def Ap.src : Ap → CV → List (Nat × Nat)
 | .buf _ _, .own b n => [(b, n)]
 | .cell _ _, .ptr b _ => [(b, 0)]
 | .fn _ a c, .fn _ a' c' => Aps.src a a' ++ Aps.src c c'
 | _, _ => []
def Aps.src : List Ap → List CV → List (Nat × Nat)
 | p :: l, v :: vs => p.src v ++ Aps.src l vs
 | _, _ => []
end
mutual
def Ap.wbs : Ap → List Bool
 | .val _ => []
 | .buf w _ => [w]
 | .cell w _ => [w]
 | .fn _ a c => Aps.wbs a ++ Aps.wbs c
def Aps.wbs : List Ap → List Bool
 | [] => []
 | p :: l => p.wbs ++ Aps.wbs l
end
mutual
def Ap.mk : (p : Ap) → p.ty.den → Nat → CV × Nat
 | .val t, x, n => (.sy t x, n)
 | .buf _ _, _, n => (.own n 0, n + 1)
 | .cell _ _, _, n => (.ptr n [], n + 1)
 | .fn f a c, x, n => match Aps.mk a x.1 n with | (as, n) => match Aps.mk c x.2 n with | (cs, n) => (.fn f as cs, n)
def Aps.mk : (l : List Ap) → (Aps.ty l).den → Nat → List CV × Nat
 | [], _, n => ([], n)
 | p :: l, x, n => match Ap.mk p x.1 n with | (v, n) => match Aps.mk l x.2 n with | (vs, n) => (v :: vs, n)
end
mutual
def Ap.news : (p : Ap) → p.ty.den → CH
 | .val _, _ => []
 | .buf w t, l => [some (.arr 0 (not w) t l)]
 | .cell _ t, x => [some (.cell (.sy t x))]
 | .fn _ a c, x => Aps.news a x.1 ++ Aps.news c x.2
def Aps.news : (l : List Ap) → (Aps.ty l).den → CH
 | [], _ => []
 | p :: l, x => Ap.news p x.1 ++ Aps.news l x.2
end
mutual
def Ap.back (ch : CH) : (p : Ap) → p.ty.den → Nat → Option (p.ty.den × Nat)
 | .val _, x, n => some (x, n)
 | .buf w t, l, n => bif w then (match hgetC ch n with
  | some (.arr v c u l') => bif Nat.beq v 0 && not c then (match Ty.cs (.slc u) (.slc t) l' with | some y => some (y, n + 1) | none => none) else none
  | _ => none) else some (l, n + 1)
 | .cell w t, x, n => bif w then (match hgetC ch n with
  | some (.cell (.sy u y)) => (match Ty.cs u t y with | some y => some (y, n + 1) | none => none)
  | _ => none) else some (x, n + 1)
 | .fn _ a c, x, n => match Aps.back ch a x.1 n with
  | some (y, n) => (match Aps.back ch c x.2 n with | some (z, n) => some ((y, z), n) | none => none)
  | none => none
def Aps.back (ch : CH) : (l : List Ap) → (Aps.ty l).den → Nat → Option ((Aps.ty l).den × Nat)
 | [], _, n => some ((), n)
 | p :: l, x, n => match Ap.back ch p x.1 n with
  | some (y, n) => (match Aps.back ch l x.2 n with | some (z, n) => some ((y, z), n) | none => none)
  | none => none
end
def put1 (ch : CH) (q : Nat × Nat) (y : Option CB) : CH :=
 match y with
 | some (.cell v) => hputC ch q.1 (.cell v)
 | some (.arr _ c t l) => hputC ch q.1 (.arr q.2 c t l)
 | none => ch
def putS : List (Nat × Nat) → List Bool → CH → CH → CH
 | q :: S, w :: ws, y :: nw, ch => putS S ws nw (bif w then put1 ch q y else ch)
 | _, _, _, ch => ch
def wrS : List (Nat × Nat) → List Bool → List Nat
 | q :: S, w :: ws => bif w then q.1 :: wrS S ws else wrS S ws
 | _, _ => []
structure SpecM where
 ps : List Ap
 r : Ty
 f : (Aps.ty ps).den → Option (r.den × (Aps.ty ps).den)
structure CE where
 E : Env
 sp : Nat → Option Spec
 spm : Nat → Option SpecM
 hint : Nat → Nat → Option Hint
 join : Nat → Nat → Option Hint
 unr : Nat → Nat → Bool
section
variable {ρ : Type}
abbrev KC (ρ : Type) := CV → CH → Option ρ
def cnst (v : Value) : CV := Option.rec .undef ofV (ofVal v)
def vC (tc : TC) (o : Operand) : CV :=
 match o with
 | .tmp n => tc.get n
 | .const v => cnst v
 | .func f => .fn f [] []
 | .global _ => .undef
def vCs (tc : TC) (l : Array Operand) : List CV := List.rec [] (fun o _ ih => vC tc o :: ih) l.toList
def okAC (k : TK) (v : CV) : Bool :=
 match v with
 | .sy (.st _ _) _ => okAgg.isA k
 | .sy (.tup _) _ => false
 | .sy .nl _ => false
 | .sy (.cn _ _) _ => false
 | .sy _ _ => not (okAgg.isA k)
 | .dat d => okAgg.okD k d
 | .agg _ _ => okAgg.isA k
 | .tup _ | .undef => false
 | _ => not (okAgg.isA k)
def okC (ti : TI) (v : CV) : Bool := Nat.beq v.wd ti.size && okAC ti.k v
def newC (ch : CH) (b : CB) (k : Nat → CH → Option ρ) : Option ρ := k (llen ch) (ch ++ [some b])
def pickC (c a b : CV) (ch : CH) (k : KC ρ) : Option ρ :=
 match c with
 | .sy .bool t => (match a, b with
  | .sy u x, .sy u' y => Option.rec (bif t then k a ch else k b ch) (fun y' => k (.sy u (bif t then x else y')) ch) (Ty.cs u' u y)
  | _, _ => bif t then k a ch else k b ch)
 | _ => none
def allocC (E : Env) (t : Nat) (ch : CH) (k : KC ρ) : Option ρ :=
 (E.ty t).bind fun ti => bif okV ti ti.zero && not (Nat.beq t E.bty.1) then newC ch (.cell (ofV ti.zero)) fun b ch => k (.ptr b []) ch else none
def boxC (E : Env) (t : Nat) (x : CV) (ch : CH) (k : KC ρ) : Option ρ :=
 (E.ty t).bind fun ti => bif okC ti x then newC ch (.cell x) fun b ch => k (.ptr b []) ch else none
def isPlainC (v : CV) : Bool := match v with | .undef | .tup _ | .sy (.tup _) _ | .sy .nl _ | .sy (.cn _ _) _ => false | .dat (.tup _) => false | _ => true
def fillC (place : Nat → Option (Nat × Nat)) (ps : List (Nat × CV)) (kids : List CV) : Option (List CV) :=
 List.rec (fun l => some l) (fun p _ ih l => (place p.1).bind fun os => (lget l p.1).bind fun c =>
  bif Nat.beq (wdsC l p.1) os.1 && (Nat.beq c.wd os.2 && (Nat.beq p.2.wd os.2 && isPlainC p.2)) then ih (lset l p.1 p.2) else none) ps kids
def evPC (e : Operand → CV) (ps : Array (Nat × Operand)) : List (Nat × CV) := List.rec [] (fun p _ ih => (p.1, e p.2) :: ih) ps.toList
def buildC (E : Env) (t : Nat) (ps : List (Nat × CV)) (ch : CH) (k : KC ρ) : Option ρ :=
 (E.ty t).bind fun ti => (ofV ti.zero).kids.bind fun l =>
  match ti.k with
  | .st fs => (fillC (fun i => (lget fs i).map (fun f => (f.1, f.2.1))) ps l).bind fun l' => k (mkA ti.zero.wd l') ch
  | .arr _ el => (E.ty el).bind fun te => (fillC (fun i => some (i * te.size, te.size)) ps l).bind fun l' => k (mkA ti.zero.wd l') ch
  | _ => none
def fillS (ch : CH) (t : Ty) (ps : List (Nat × CV)) (l : List t.den) : Option (List t.den) :=
 List.rec (fun l => some l) (fun p _ ih l => (CV.dt ch t p.2).bind fun x => bif Nat.blt p.1 (llen l) && isPlainC p.2 then ih (l.set p.1 x) else none) ps l
def ownsPC (ps : List (Nat × CV)) : List Nat := List.rec [] (fun p _ ih => p.2.ownsC ++ ih) ps
def buildSliceC (E : Env) (keep : Bool) (t n : Nat) (ps : List (Nat × CV)) (ch : CH) (k : KC ρ) : Option ρ :=
 (E.ty t).bind fun ti => match ti.k with
  | .slc el => (E.ty el).bind fun te => (tyOf E 12 el).bind fun u => (CV.dt [] u (ofV te.zero)).bind fun z =>
    bif (Nat.ble (n * te.size) 16777216 && Nat.ble n 16777216) && (Nat.beq u.wd te.size && (okC te (.sy u z) && (isNoneN (ownsPC ps) && (not keep || allS ps)))) then
     (fillS ch u ps (List.replicate n z)).bind fun l => newC ch (.arr 0 false u l) fun b ch => k (.own b 0) ch
    else none
  | _ => none
where
 isNoneN (l : List Nat) : Bool := match l with | [] => true | _ => false
 allS (ps : List (Nat × CV)) : Bool := List.rec true (fun p _ ih => match p.2 with | .sy _ _ => ih | _ => false) ps
def loadC (E : Env) (t : Nat) (a : CV) (ch : CH) (k : KC ρ) : Option ρ :=
 (E.ty t).bind fun ti => match a with
  | .ptr b p => (match hgetC ch b with
   | some (.cell v) => (v.nav p).bind fun v => bif okC ti v then k v ch else none
   | _ => none)
  | .rf u x => bif okC ti (.sy u x) then k (.sy u x) ch else none
  | .el b v i p => (match hgetC ch b with
   | some (.arr v' _ u l) => bif Nat.beq v v' then (l[i]?).bind fun x => (CV.nav (.sy u x) p).bind fun y => bif okC ti y then k y ch else none else none
   | _ => none)
  | _ => none
def putT (t : Ty) (x : CV) (p : List (Nat × Nat)) (y : t.den) : Option t.den :=
 match p with
 | [] => bif Nat.beq x.wd t.wd then CV.dt [] t x else none
 | q :: p => match x with
  | .sy u z => (match CV.put (.sy u z) (q :: p) (.sy t y) with
   | some (.sy t' y') => Ty.cs t' t y'
   | _ => none)
  | _ => none
def storeC (E : Env) (wb : Nat → Bool) (t : Nat) (a x : CV) (ch : CH) (k : KC ρ) : Option ρ :=
 (E.ty t).bind fun ti => bif okC ti x then (match a with
  | .ptr b p => bif wb b then (match hgetC ch b with
   | some (.cell v) => (x.put p v).bind fun v' => k .undef (hputC ch b (.cell v'))
   | _ => none) else none
  | .el b v i p => bif wb b then (match hgetC ch b with
   | some (.arr v' false u l) => bif Nat.beq v v' then (l[i]?).bind fun y => (putT u x p y).bind fun y' => k .undef (hputC ch b (.arr v' false u (l.set i y'))) else none
   | _ => none) else none
  | _ => none) else none
def nilCheckC (x : CV) (ch : CH) (k : KC ρ) : Option ρ := match x with | .ptr b p => k (.ptr b p) ch | .el b v i p => k (.el b v i p) ch | .rf t y => k (.rf t y) ch | _ => none
def eqTy : (t : Ty) → t.den → t.den → Bool
 | .bool, a, b => a == b
 | .int _, a, b => ieq a b
 | .str, a, b => seq a b
 | .st _ l, a, b => eqTy l a b
 | .nl, _, _ => true
 | .cn t l, a, b => eqTy t a.1 b.1 && eqTy l a.2 b.2
 | _, _, _ => false
def cmpTy : Ty → Bool
 | .bool | .int _ | .str | .nl => true
 | .st _ l => cmpTy l
 | .cn t l => cmpTy t && cmpTy l
 | _ => false
def tyIs (E : Env) (u : Ty) (t : Nat) : Bool := argOk E 12 t u && cmpTy u
def kI (k : IntKind) (ch : CH) (kk : KC ρ) (n : Int) : Option ρ := kk (.sy (.int k) n) ch
def kB (ch : CH) (kk : KC ρ) (b : Bool) : Option ρ := kk (.sy .bool b) ch
def arithC (op : BinOp) (k : IntKind) (x y : Int) (ch : CH) (kk : KC ρ) : Option ρ :=
 match op with
 | .add => kI k ch kk (wr k (x + y))
 | .sub => kI k ch kk (wr k (x - y))
 | .mul => kI k ch kk (wr k (x * y))
 | .quo => bif ieq y 0 then none else kI k ch kk (wr k (x.tdiv y))
 | .rem => bif ieq y 0 then none else kI k ch kk (x.tmod y)
 | .and => kI k ch kk (wr k (Int.ofNat (Nat.land (word k x) (word k y))))
 | .or => kI k ch kk (wr k (Int.ofNat (Nat.lor (word k x) (word k y))))
 | .xor => kI k ch kk (wr k (Int.ofNat (Nat.xor (word k x) (word k y))))
 | .andNot => kI k ch kk (wr k (Int.ofNat (Nat.land (word k x) (2 ^ kb k - 1 - word k y))))
 | .eql => kB ch kk (ieq x y)
 | .neq => kB ch kk (not (ieq x y))
 | .lss => kB ch kk (ilt x y)
 | .leq => kB ch kk (ile x y)
 | .gtr => kB ch kk (ilt y x)
 | .geq => kB ch kk (ile y x)
 | .shl => bif ilt y 0 then none else kI k ch kk (wr k (x * Int.ofNat (2 ^ Nat.min y.toNat (kb k))))
 | .shr => bif ilt y 0 then none else kI k ch kk (x.fdiv (Int.ofNat (2 ^ Nat.min y.toNat (kb k))))
def binC (E : Env) (op : BinOp) (t : Nat) (x y : CV) (ch : CH) (k : KC ρ) : Option ρ :=
 match x, y with
 | .sy (.int j) a, .sy (.int j') b => (match op with
  | .shl => arithC .shl j a b ch k
  | .shr => arithC .shr j a b ch k
  | op => bif keq j j' then arithC op j a b ch k else none)
 | .sy u a, .sy u' b => bif tyIs E u t then (Ty.cs u' u b).bind fun b => (match op with
  | .eql => kB ch k (eqTy u a b)
  | .neq => kB ch k (not (eqTy u a b))
  | _ => none) else none
 | _, _ => none
def unC (op : UnOp) (x : CV) (ch : CH) (k : KC ρ) : Option ρ :=
 match op, x with
 | .not, .sy .bool b => kB ch k (not b)
 | .neg, .sy (.int j) n => kI j ch k (wr j (0 - n))
 | .xor, .sy (.int j) n => kI j ch k (wr j (Int.ofNat (2 ^ kb j - 1 - word j n)))
 | _, _ => none
def convC (E : Env) (s d : Nat) (x : CV) (ch : CH) (k : KC ρ) : Option ρ :=
 match E.kind s, E.kind d, x with
 | some (.int _), some (.int j), .sy (.int _) n => kI j ch k (wr j n)
 | some .str, some .str, .sy .str b => k (.sy .str b) ch
 | _, _, _ => none
def makeSliceC (E : Env) (t : Nat) (l c : CV) (ch : CH) (k : KC ρ) : Option ρ :=
 (E.ty t).bind fun ti => match ti.k with
  | .slc el => (E.ty el).bind fun te => (tyOf E 12 el).bind fun u => (CV.dt [] u (ofV te.zero)).bind fun z => (match l, c with
   | .sy (.int .i64) n, .sy (.int .i64) m => bif Nat.beq u.wd te.size && okC te (.sy u z) then
    bif ile 0 n && (ile n m && ile (m * Int.ofNat te.bytes) 70368744177664) then newC ch (.arr 0 false u (List.replicate n.toNat z)) fun b ch => k (.own b 0) ch else none
    else none
   | _, _ => none)
  | _ => none
def boundC (hi : Nat) (x : Option CV) (dflt : Nat) (k : Nat → Option ρ) : Option ρ :=
 match x with
 | none => k dflt
 | some (.sy (.int _) n) => bif ile 0 n && ile n (Int.ofNat hi) then k n.toNat else none
 | _ => none
def cutC (len : Nat) (lo hi : Option CV) (k : Option Nat → Nat → Option ρ) : Option ρ :=
 boundC len hi len fun j => match lo with
  | none => k none j
  | some (.sy (.int _) n) => bif ile 0 n && ile n (Int.ofNat j) then k (some n.toNat) j else none
  | _ => none
def cutMC (len : Nat) (lo : Option CV) (hi : Option CV) (mx : CV) (k : Option Nat → Nat → Option ρ) : Option ρ :=
 match hi, mx with
 | some (.sy (.int _) a), .sy (.int _) b => bif ile 0 b && ile b (Int.ofNat len) then (bif ile 0 a && ile a b then (bif ieq a b then (match lo with
  | none => k none a.toNat
  | some (.sy (.int _) n) => bif ile 0 n && ile n a then k (some n.toNat) a.toNat else none
  | _ => none) else none) else none) else none
 | _, _ => none
def limC (lim : Bool) (hi : Option CV) (k : Bool → Option ρ) : Option ρ := bif lim then (match hi with | none => k true | some _ => none) else k false
def sliceC (E : Env) (t : Nat) (x : CV) (lo hi mx : Option CV) (ch : CH) (k : KC ρ) : Option ρ :=
 (E.ty t).bind fun ti => match ti.k, x with
  | .slc el, .sy (.slc u) l => (E.ty el).bind fun te => bif Nat.beq u.wd te.size then (match mx with
   | none => boundC l.length hi l.length fun j => boundC j lo 0 fun i => k (.sy (.slc u) ((l.drop i).take (j - i))) ch
   | some m => cutMC l.length lo hi m fun i j => k (.ful u (cutW i (lenW j i) l)) ch) else none
  | .slc el, .ful u l => (E.ty el).bind fun te => bif Nat.beq u.wd te.size then (match mx with
   | none => cutC l.length lo hi fun i j => bif ieq (Int.ofNat j) (Int.ofNat l.length) then k (.ful u (cutW i (lenW j i) l)) ch else k (.sy (.slc u) (cutW i (lenW j i) l)) ch
   | some m => cutMC l.length lo hi m fun i j => k (.ful u (cutW i (lenW j i) l)) ch) else none
  | .slc el, .own b v => (E.ty el).bind fun te => (match hgetC ch b with
   | some (.arr v' _ u l) => bif Nat.beq v v' && Nat.beq u.wd te.size then (match mx with
    | none => cutC l.length lo hi fun i j => k (.win b v i (lenW j i) false) ch
    | some m => cutMC l.length lo hi m fun i j => k (.win b v i (lenW j i) true) ch) else none
   | _ => none)
  | .slc el, .win b v o n lim => (E.ty el).bind fun te => (match hgetC ch b with
   | some (.arr v' _ u l) => bif Nat.beq v v' && Nat.beq u.wd te.size then (match mx with
    | none => limC lim hi fun lim => cutC n lo hi fun i j => k (.win b v (offW o i) (lenW j i) lim) ch
    | some m => cutMC n lo hi m fun i j => k (.win b v (offW o i) (lenW j i) true) ch) else none
   | _ => none)
  | .str, .sy .str l => (match mx with
   | none => boundC l.length hi l.length fun j => boundC j lo 0 fun i => k (.sy .str ((l.drop i).take (j - i))) ch
   | some _ => none)
  | _, _ => none
def fieldAddrC (E : Env) (t : Nat) (x : CV) (j : Nat) (ch : CH) (k : KC ρ) : Option ρ :=
 (E.ty t).bind fun ti => match ti.k with
  | .st fs => (lget fs j).bind fun f => bif Nat.beq f.2.1 0 then none else (match x with
   | .ptr b p => k (.ptr b (p ++ [(j, f.1)])) ch
   | .el b v i p => k (.el b v i (p ++ [(j, f.1)])) ch
   | .rf u y => (match CV.kid (.sy u y) j f.1 with
    | some (.sy u' y') => bif Nat.beq u'.wd f.2.1 then k (.rf u' y') ch else none
    | _ => none)
   | _ => none)
  | _ => none
def fieldC (E : Env) (t : Nat) (x : CV) (j : Nat) (ch : CH) (k : KC ρ) : Option ρ :=
 (E.ty t).bind fun ti => match ti.k with
  | .st fs => (lget fs j).bind fun f => (E.ty f.2.2).bind fun tf => (x.kid j f.1).bind fun v => bif Nat.beq v.wd f.2.1 && okAC tf.k v then k v ch else none
  | _ => none
def indexAddrC (E : Env) (t : Nat) (x i : CV) (ch : CH) (k : KC ρ) : Option ρ :=
 match i with
 | .sy (.int _) n => (E.ty t).bind fun ti => (match ti.k with
  | .slc el => (E.ty el).bind fun te => (match x with
   | .sy (.slc u) l => bif Nat.beq u.wd te.size then (bif ile 0 n then (l[n.toNat]?).bind fun y => k (.rf u y) ch else none) else none
   | .own b v => (match hgetC ch b with
    | some (.arr v' _ u l) => bif Nat.beq v v' && Nat.beq u.wd te.size then (bif ile 0 n && ilt n (Int.ofNat l.length) then k (.el b v n.toNat []) ch else none) else none
    | _ => none)
   | .ful u l => bif Nat.beq u.wd te.size then (bif ile 0 n then (l[n.toNat]?).bind fun y => k (.rf u y) ch else none) else none
   | .win b v o m _ => (match hgetC ch b with
    | some (.arr v' _ u l) => bif Nat.beq v v' && Nat.beq u.wd te.size then (bif ile 0 n && ilt n (Int.ofNat m) then k (.el b v (offI o n.toNat) []) ch else none) else none
    | _ => none)
   | _ => none)
  | .arr m el => (E.ty el).bind fun te => bif ile 0 n && (ilt n (Int.ofNat m) && Nat.blt 0 te.size) then (match x with
   | .ptr b p => k (.ptr b (p ++ [(n.toNat, n.toNat * te.size)])) ch
   | .rf u y => (match CV.kid (.sy u y) n.toNat (n.toNat * te.size) with
    | some (.sy u' y') => bif Nat.beq u'.wd te.size then k (.rf u' y') ch else none
    | _ => none)
   | _ => none) else none
  | _ => none)
 | _ => none
def indexC (E : Env) (t : Nat) (x i : CV) (ch : CH) (k : KC ρ) : Option ρ :=
 match i, x with
 | .sy (.int _) n, .sy .str s => (E.ty t).bind fun ti => (match ti.k with
  | .str => bif ile 0 n then (s[n.toNat]?).bind fun c => k (.sy (.int .u8) (Int.ofNat c)) ch else none
  | _ => none)
 | .sy (.int _) n, x => (E.ty t).bind fun ti => (match ti.k with
  | .arr m el => (E.ty el).bind fun te => bif ile 0 n && ilt n (Int.ofNat m) then (x.kid n.toNat (n.toNat * te.size)).bind fun w => bif okC te w then k w ch else none else none
  | _ => none)
 | _, _ => none
def lenC (E : Env) (t : Nat) (x : CV) (ch : CH) (k : KC ρ) : Option ρ :=
 match E.kind t, x with
 | some (.slc _), .sy (.slc _) l => kI .i64 ch k (Int.ofNat l.length)
 | some (.slc _), .nsl => kI .i64 ch k 0
 | some (.slc _), .own b v => (match hgetC ch b with
  | some (.arr v' _ _ l) => bif Nat.beq v v' then kI .i64 ch k (Int.ofNat l.length) else none
  | _ => none)
 | some .str, .sy .str s => kI .i64 ch k (Int.ofNat s.length)
 | some (.slc _), .ful _ l => kI .i64 ch k (Int.ofNat l.length)
 | some (.slc _), .win _ _ _ n _ => kI .i64 ch k (Int.ofNat n)
 | _, _ => none
def dApp {α : Type} (a b : List α) : List α := a ++ b
def roomC (n bytes : Nat) : Bool := Nat.ble (n * bytes) 70368744177664 && Nat.ble n 70368744177664
def newsC (E : Env) (te : TI) (u : Ty) (t : Nat) (x : CV) (ch : CH) : Option (List u.den) :=
 match E.kind t with
 | some (.slc _) => bif Nat.beq u.wd te.size then CV.dt ch (.slc u) x else none
 | _ => none
def appendC (E : Env) (wb : Nat → Bool) (ts : Array Nat) (s x : CV) (ch : CH) (k : KC ρ) : Option ρ :=
 ((lget ts.toList 0).bind E.ty).bind fun ti => match ti.k with
  | .slc el => (E.ty el).bind fun te => (lget ts.toList 1).bind fun tx => bif okV te te.zero then (tyOf E 12 el).bind fun u => (newsC E te u tx x ch).bind fun new => (match s with
   | .nsl => bif roomC new.length te.bytes then newC ch (.arr 0 false u new) fun b ch => k (.own b 0) ch else none
   | .own b v => bif wb b then (match hgetC ch b with
    | some (.arr v' c u' l) => bif Nat.beq v v' then (Ty.cs (.slc u') (.slc u) l).bind fun l => bif roomC (l.length + new.length) te.bytes then k (.own b (v + 1)) (hputC ch b (.arr (v + 1) c u (dApp l new))) else none else none
    | _ => none) else none
   | .ful u' l => (Ty.cs (.slc u') (.slc u) l).bind fun l => bif roomC (l.length + new.length) te.bytes then newC ch (.arr 0 (isNilL new) u (dApp l new)) fun b ch => k (.own b 0) ch else none
   | .win b v o n lim => bif lim then (bif isNilL new then none else (match hgetC ch b with
    | some (.arr v' _ u' l) => bif Nat.beq v v' then (Ty.cs (.slc u') (.slc u) l).bind fun l => bif roomC (n + new.length) te.bytes then newC ch (.arr 0 false u (dApp (cutW o n l) new)) fun b ch => k (.own b 0) ch else none else none
    | _ => none)) else none
   | _ => none) else none
  | _ => none
def minC (j : IntKind) (l : List CV) (ch : CH) (k : KC ρ) : Int → Option ρ :=
 List.rec (fun a => kI j ch k a) (fun v _ ih a => match v with | .sy (.int j') b => bif keq j j' then ih (bif ile a b then a else b) else none | _ => none) l
def maxC (j : IntKind) (l : List CV) (ch : CH) (k : KC ρ) : Int → Option ρ :=
 List.rec (fun a => kI j ch k a) (fun v _ ih a => match v with | .sy (.int j') b => bif keq j j' then ih (bif ile a b then b else a) else none | _ => none) l
def builtinC (E : Env) (wb : Nat → Bool) (b : Builtin) (ts : Array Nat) (xs : List CV) (ch : CH) (k : KC ρ) : Option ρ :=
 match b with
 | .len => (match xs with | [x] => (lget ts.toList 0).bind fun t => lenC E t x ch k | _ => none)
 | .append => (match xs with | [s, x] => appendC E wb ts s x ch k | _ => none)
 | .min => (match xs with | .sy (.int j) a :: l => minC j l ch k a | _ => none)
 | .max => (match xs with | .sy (.int j) a :: l => maxC j l ch k a | _ => none)
 | _ => none
def stepC (E : Env) (wb : Nat → Bool) (keep : Bool) (tc : TC) (op : Op) (ch : CH) (k : KC ρ) : Option ρ :=
 match op with
 | .move x => k (vC tc x) ch
 | .assign x => k (vC tc x) ch
 | .pick c a b => pickC (vC tc c) (vC tc a) (vC tc b) ch k
 | .alloc ty => allocC E ty ch k
 | .box ty x => boxC E ty (vC tc x) ch k
 | .build ty ps => buildC E ty (evPC (vC tc) ps) ch k
 | .buildSlice ty n ps => buildSliceC E keep ty n (evPC (vC tc) ps) ch k
 | .load ty a => loadC E ty (vC tc a) ch k
 | .store ty a x => storeC E wb ty (vC tc a) (vC tc x) ch k
 | .nilCheck x => nilCheckC (vC tc x) ch k
 | .binOp op ty x y _ => binC E op ty (vC tc x) (vC tc y) ch k
 | .unOp op _ x => unC op (vC tc x) ch k
 | .convert s d x => convC E s d (vC tc x) ch k
 | .makeFunc (.func g) a c => k (.fn g (vCs tc a) (vCs tc c)) ch
 | .makeSlice ty l c => makeSliceC E ty (vC tc l) (vC tc c) ch k
 | .slice ty x lo hi mx => sliceC E ty (vC tc x) (lo.map (vC tc)) (hi.map (vC tc)) (mx.map (vC tc)) ch k
 | .fieldAddr ty x j => fieldAddrC E ty (vC tc x) j ch k
 | .field ty x j => fieldC E ty (vC tc x) j ch k
 | .indexAddr ty x i => indexAddrC E ty (vC tc x) (vC tc i) ch k
 | .index ty x i => indexC E ty (vC tc x) (vC tc i) ch k
 | .extract x i => ((vC tc x).part i).bind fun v => k v ch
 | .call c => (match c.callee with
  | .builtin b => builtinC E wb b c.argTypes (vCs tc c.args) ch k
  | _ => none)
 | _ => none
abbrev KX (ρ : Type) := Ex → TC → CH → Option ρ
def putArgsC (l : List CV) : Nat → TC → TC := List.rec (fun _ t => t) (fun v _ ih i t => ih (i + 1) (t.set i v)) l
def tcOf (n : Nat) (args : List CV) : TC := putArgsC args 0 (TC.mk (depOf n))
def resultC (E : Env) (tc : TC) (ch : CH) (r : ResultVar) : Option CV :=
 match r with
 | .tmp n => some (tc.get n)
 | .cell a ty => match tc.get a, E.ty ty with
  | .ptr b p, some ti => (match hgetC ch b with
   | some (.cell v) => (v.nav p).bind fun v => bif okC ti v then some v else none
   | _ => none)
  | _, _ => none
def resultsLC (E : Env) (tc : TC) (ch : CH) (l : List ResultVar) : Option (List CV) :=
 List.rec (some []) (fun r _ ih => (resultC E tc ch r).bind fun v => ih.map (v :: ·)) l
def resultsC (E : Env) (fn : Func) (tc : TC) (ch : CH) : Option CV :=
 (resultsLC E tc ch fn.results.toList).map fun l => match l with
  | [v] => v
  | l => mkU l
def dstsOf (l : List Oper) : List Nat := List.rec [] (fun o _ ih => match o.dst with | some d => d :: ih | none => ih) l
def writes (c : Code) : List Nat :=
 Code.rec [] (fun _ ops _ => dstsOf ops.toList) (fun _ _ a b => a ++ b) (fun _ _ _ a b => a ++ b) (fun _ _ a => a) (fun _ a => a) (fun _ ps _ _ a b => ps.toList ++ (a ++ b)) (fun _ => []) (fun _ a => a) (fun _ => []) (fun _ => []) [] (fun _ => []) c
def keyOf (c : Code) : Option Nat :=
 Code.rec none (fun id _ _ => some id) (fun _ _ a b => Option.rec b some a) (fun _ _ _ a b => Option.rec b some a) (fun _ _ a => a) (fun _ a => a) (fun _ _ _ _ a b => Option.rec b some a) (fun _ => none) (fun _ a => a) (fun _ => none) (fun _ => none) none (fun _ => none) c
mutual
def Pt.ty : Pt → Ty
 | .val t => t
 | .buf _ t => .slc t
 | .agg _ l => Pt.tys l
def Pt.tys : List Pt → Ty
 | [] => .nl
 | p :: l => .cn p.ty (Pt.tys l)
end
def bufC (ch : CH) (c : Bool) (t : Ty) (v : CV) : Option (List t.den) :=
 match v with
 | .nsl => some []
 | .own b n => match hgetC ch b with
  | some (.arr n' c' u l) => bif Nat.beq n n' && (c || not c') then Ty.cs (.slc u) (.slc t) l else none
  | _ => none
 | _ => none
mutual
def Pt.get (ch : CH) : (p : Pt) → CV → Option p.ty.den
 | .val t, .sy u x => Ty.cs u t x
 | .buf c t, v => bufC ch c t v
 | .agg w l, .agg w' vs => bif Nat.beq w w' then Pt.gets ch l vs else none
 | _, _ => none
def Pt.gets (ch : CH) : (l : List Pt) → List CV → Option (Pt.tys l).den
 | [], [] => some ()
 | p :: l, v :: vs => match Pt.get ch p v, Pt.gets ch l vs with
  | some x, some y => some (x, y)
  | _, _ => none
 | _, _ => none
end
mutual
def Pt.mk : (p : Pt) → p.ty.den → Nat → CV × Nat
 | .val t, x, n => (.sy t x, n)
 | .buf _ _, _, n => (.own n 0, n + 1)
 | .agg w l, x, n => match Pt.mks l x n with | (vs, n) => (.agg w vs, n)
def Pt.mks : (l : List Pt) → (Pt.tys l).den → Nat → List CV × Nat
 | [], _, n => ([], n)
 | p :: l, x, n => match Pt.mk p x.1 n with | (v, n) => match Pt.mks l x.2 n with | (vs, n) => (v :: vs, n)
end
mutual
def Pt.news : (p : Pt) → p.ty.den → CH
 | .val _, _ => []
 | .buf c t, l => [some (.arr 0 c t l)]
 | .agg _ l, x => Pt.newss l x
def Pt.newss : (l : List Pt) → (Pt.tys l).den → CH
 | [], _ => []
 | p :: l, x => Pt.news p x.1 ++ Pt.newss l x.2
end
def pts (l : List (Nat × Pt)) : List Pt := List.rec [] (fun p _ ih => p.2 :: ih) l
def tysA (l : List (Nat × Ty)) : Ty := List.rec .nl (fun p _ ih => .cn (.slc p.2) ih) l
def Hint.ty (H : Hint) : Ty := .cn (Pt.tys (pts H.slots)) (.cn (Pt.tys (pts H.cells)) (tysA H.arrs))
def cellsC (ch : CH) (l : List (Nat × Pt)) : Option (List CV) :=
 List.rec (some []) (fun p _ ih => match hgetC ch p.1 with | some (.cell v) => Option.rec none (fun vs => some (v :: vs)) ih | _ => none) l
def versC (ch : CH) (l : List (Nat × Ty)) : Option (List (Nat × Bool)) :=
 List.rec (some []) (fun p _ ih => match hgetC ch p.1 with | some (.arr v c _ _) => Option.rec none (fun vs => some ((v, c) :: vs)) ih | _ => none) l
def arrsC (ch : CH) : (l : List (Nat × Ty)) → List (Nat × Bool) → Option (tysA l).den
 | [], _ => some ()
 | p :: l, (v, c) :: vs => match hgetC ch p.1 with
  | some (.arr v' c' u x) => bif Nat.beq v v' && (bif c then c' else not c') then (match Ty.cs (.slc u) (.slc p.2) x, arrsC ch l vs with
   | some x, some y => some (x, y)
   | _, _ => none) else none
  | _ => none
 | _ :: _, [] => none
def Hint.get (H : Hint) (vs : List (Nat × Bool)) (tc : TC) (ch : CH) : Option H.ty.den :=
 match Pt.gets ch (pts H.slots) (List.rec [] (fun p _ ih => tc.get p.1 :: ih) H.slots : List CV), (cellsC ch H.cells).bind (Pt.gets ch (pts H.cells)), arrsC ch H.arrs vs with
 | some x, some y, some z => some (x, (y, z))
 | _, _, _ => none
def putsC (l : List (Nat × Pt)) : List CV → TC → TC :=
 List.rec (fun _ t => t) (fun p _ ih vs t => match vs with | v :: vs => ih vs (t.set p.1 v) | [] => t) l
def undefs (l : List Nat) : TC → TC := List.rec (fun t => t) (fun i _ ih t => ih (t.set i .undef)) l
def putCellsC (l : List (Nat × Pt)) : List CV → CH → CH :=
 List.rec (fun _ h => h) (fun p _ ih vs h => match vs with | v :: vs => ih vs (hputC h p.1 (.cell v)) | [] => h) l
def putArrs : (l : List (Nat × Ty)) → List (Nat × Bool) → (tysA l).den → CH → CH
 | [], _, _, h => h
 | p :: l, (v, c) :: vs, x, h => putArrs l vs x.2 (hputC h p.1 (.arr v c p.2 x.1))
 | _ :: _, [], _, h => h
def noneC (l : List Nat) : CH → CH := List.rec (fun h => h) (fun b _ ih h => ih (lset h b none)) l
def Hint.fill (H : Hint) (ws : List Nat) (ids : List Nat) (vs : List (Nat × Bool)) (tc : TC) (ch : CH) (s : H.ty.den) : TC × CH :=
 match Pt.mks (pts H.slots) s.1 (llen ch) with
 | (cs, n) => match Pt.mks (pts H.cells) s.2.1 n with
  | (ds, _) => (putsC H.slots cs (undefs ws tc), putArrs H.arrs vs s.2.2 (putCellsC H.cells ds (noneC ids ch)) ++ (Pt.newss (pts H.slots) s.1 ++ Pt.newss (pts H.cells) s.2.1))
mutual
def Pt.ids : Pt → CV → List Nat
 | .buf _ _, .own b _ => [b]
 | .agg _ l, .agg _ vs => Pt.idss l vs
 | _, _ => []
def Pt.idss : List Pt → List CV → List Nat
 | p :: l, v :: vs => p.ids v ++ Pt.idss l vs
 | _, _ => []
end
def Hint.ids (H : Hint) (tc : TC) (ch : CH) : List Nat :=
 Pt.idss (pts H.slots) (List.rec [] (fun p _ ih => tc.get p.1 :: ih) H.slots : List CV) ++ (match cellsC ch H.cells with | some l => Pt.idss (pts H.cells) l | none => [])
def fsts {α : Type} (l : List (Nat × α)) : List Nat := List.rec [] (fun p _ ih => p.1 :: ih) l
def allN (f : Nat → Bool) (l : List Nat) : Bool := List.rec true (fun a _ ih => bif f a then ih else false) l
def nodupN (l : List Nat) : Bool := List.rec true (fun a l ih => bif hasN l a then false else ih) l
def TC.like : TC → TC → Bool
 | .e, .e => true
 | .n _ l r, .n _ l' r' => TC.like l l' && TC.like r r'
 | _, _ => false
def loopN {σ ρ : Type} (step : σ → Option (σ ⊕ ρ)) (n : Nat) : σ → Option ρ :=
 Nat.rec (fun _ => none) (fun _ ih s => match step s with
  | none => none
  | some (.inl s') => ih s'
  | some (.inr r) => some r) n
open Classical in
def loopO {σ ρ : Type} (step : σ → Option (σ ⊕ ρ)) (s : σ) : Option ρ := if h : ∃ n r, loopN step n s = some r then some h.choose_spec.choose else none
def joinO {σ ρ : Type} (m : Option (σ ⊕ ρ)) (k : σ → Option ρ) : Option ρ := m.bind fun x => match x with | .inl s => k s | .inr r => some r
section
variable (C : CE) (ih : (ρ : Type) → Nat → Code → (Nat → Bool) → TC → CH → KX ρ → Option ρ)
def putDC (t : TC) (d : Option Nat) (v : CV) : TC := Option.rec t (fun n => t.set n v) d
def mayClose (wb : Nat → Bool) (ch : CH) (bs : List Nat) : Bool :=
 allN (fun b => match hgetC ch b with | some (.arr _ true _ _) => true | _ => wb b) bs
def afterC (wb : Nat → Bool) (ch : CH) (r : Ty) (args : List CV) (k : CH → Option ρ) : Option ρ :=
 bif r.flat then k ch else bif mayClose wb ch (CV.ownsCs args) then k (closeC ch (CV.ownsCs args)) else none
def tysOf (E : Env) (l : List Nat) : Option Ty := List.rec (some .nl) (fun t _ ih => (tyOf E 12 t).bind fun a => ih.map fun l => .cn a l) l
def resTy (E : Env) (l : List Nat) : Option Ty := match l with | [t] => tyOf E 12 t | l => (tysOf E l).map .tup
def inlineC {ρ : Type} (g : Nat) (args : List CV) (wb : Nat → Bool) (ch : CH) (k : KC ρ) : Option ρ :=
 (C.E.fn g).bind fun fn => fn.body.bind fun c => bif Nat.ble (llen args) fn.ntmps then
  ih ρ g c wb (tcOf fn.ntmps args) ch (fun ex tc ch => match ex with | .exit _ => none | _ => (resultsC C.E fn tc ch).bind fun v => k v ch) else none
def callMC {ρ : Type} (s : SpecM) (args : List CV) (wb : Nat → Bool) (ch : CH) (k : KC ρ) : Option ρ :=
 match Aps.get ch s.ps args with
 | some x => bif nodupN (fsts (Aps.src s.ps args)) && allN wb (wrS (Aps.src s.ps args) (Aps.wbs s.ps)) then
   (s.f x).bind fun y => k (.sy s.r y.1) (putS (Aps.src s.ps args) (Aps.wbs s.ps) (Aps.news s.ps y.2) ch) else none
 | none => none
def callVC {ρ : Type} (g : Nat) (args : List CV) (wb : Nat → Bool) (ch : CH) (k : KC ρ) : Option ρ :=
 match C.spm g with
 | some s => bif C.E.inl g || args.any CV.noData then callMC s args wb ch k else none
 | none =>
 match C.sp g with
 | some s => bif C.E.inl g then none else (CV.dts ch s.a args).bind fun x => (s.f x).bind fun y => afterC wb ch s.r args fun ch => k (.sy s.r y) ch
 | none => bif C.E.inl g || args.any CV.noData then inlineC C ih g args wb ch k else
  bif (C.E.sm g).isNone then
   (C.E.fn g).bind fun fn => (tysOf C.E fn.params.toList).bind fun ts => (resTy C.E fn.resultTypes.toList).bind fun rt => (CV.dts ch ts args).bind fun x =>
    inlineC C ih g (kidsT ts x) (fun _ => true) [] fun v ch2 => (CV.dt ch2 rt v).bind fun y => afterC wb ch rt args fun ch => k (.sy rt y) ch
  else none
def cloneC {ρ : Type} (el : Nat) (xs : List CV) (ch : CH) (k : KC ρ) : Option ρ :=
 match xs with
 | [x] => (C.E.ty el).bind fun te => (tyOf C.E 12 el).bind fun u => (CV.dt ch (.slc u) x).bind fun l => bif (okV te te.zero && zeroOk te) && Nat.beq u.wd te.size then (bif roomC l.length te.bytes then newC ch (.arr 0 false u l) fun b ch => k (.own b 0) ch else none) else none
 | _ => none
def callFnC {ρ : Type} (g : Nat) (args : List CV) (wb : Nat → Bool) (ch : CH) (k : KC ρ) : Option ρ :=
 match C.E.clone g with
 | some el => cloneC C el args ch k
 | none => bif Nat.beq (C.E.ext g) 0 then callVC C ih g args wb ch k else none
def targetC (tc : TC) (c : Call) : Option (Nat × List CV) :=
 match c.callee with
 | .value f => (match vC tc f with
  | .fn g a cap => some (g, a ++ (vCs tc c.args ++ cap))
  | _ => none)
 | _ => none
def isDefer (o : Op) : Bool := match o with | .defer _ => true | _ => false
def doC {ρ : Type} (f : Nat) (keep : Bool) (wb : Nat → Bool) (op : Op) (tc : TC) (ch : CH) (k : KC ρ) : Option ρ :=
 match op with
 | .defer _ => none
 | .call c => (match c.callee with
  | .builtin _ => stepC C.E wb keep tc (.call c) ch k
  | _ => (targetC tc c).bind fun g => callFnC C ih g.1 g.2 wb ch k)
 | op => stepC C.E wb keep tc op ch k
def guardC {ρ : Type} (ops : Array Oper) (tc : TC) (g : Option (Nat × Bool)) (yes no : TC → Option ρ) : Option ρ :=
 match g with
 | none => yes tc
 | some (j, want) => (lget ops.toList j).bind fun o => o.dst.bind fun d => match tc.get d with
  | .sy .bool b => bif want then (bif b then yes (tc.set d (.sy .bool true)) else no (tc.set d (.sy .bool false))) else (bif b then no (tc.set d (.sy .bool true)) else yes (tc.set d (.sy .bool false)))
  | .tup [] => no tc
  | _ => none
def runC {ρ : Type} (f : Nat) (keep : Bool) (wb : Nat → Bool) (ops : Array Oper) (l : List Oper) : TC → CH → (TC → CH → Option ρ) → Option ρ :=
 List.rec (fun tc ch k => k tc ch) (fun o _ rs tc ch k =>
  guardC ops tc o.guard (fun tc => doC C ih f keep wb o.op tc ch fun v ch => rs (putDC tc o.dst v) ch k) (fun tc => rs (putDC tc o.dst (.tup [])) ch k)) l
def isLd (op : Op) : Bool := isPure op || (match op with | .load .. | .indexAddr .. | .index .. => true | _ => false)
def noneL {α : Type} (l : List α) : Bool := match l with | [] => true | _ => false
def hushC {ρ : Type} (g : Nat) (args : List CV) (ch : CH) (k : KC ρ) : Option ρ :=
 match C.E.clone g with
 | some _ => none
 | none => bif Nat.beq (C.E.ext g) 0 && not (C.E.inl g) then (match C.sp g with
  | some s => (CV.dts ch s.a args).bind fun x => (s.f x).bind fun y => bif s.r.flat || noneL (CV.ownsCs args) then k (.sy s.r y) ch else none
  | none => none) else none
def doDC {ρ : Type} (f : Nat) (keep : Bool) (wb : Nat → Bool) (cm : Nat × List Nat) (op : Op) (tc : TC) (ch : CH) (k : KC ρ) : Option ρ :=
 match cm with
 | (0, _) => bif isPure op then stepC C.E wb keep tc op ch k else none
 | (1, []) => bif isLd op then stepC C.E wb keep tc op ch k else (match op with
  | .call c => (match c.callee with
   | .builtin .len => stepC C.E wb keep tc (.call c) ch k
   | .builtin .min => stepC C.E wb keep tc (.call c) ch k
   | .builtin .max => stepC C.E wb keep tc (.call c) ch k
   | .builtin _ => none
   | _ => (targetC tc c).bind fun g => hushC C g.1 g.2 ch k)
  | _ => none)
 | (3, _) => doC C ih f keep wb op tc ch k
 | _ => none
def newDC {ρ : Type} (keep : Bool) (op : Op) (tc : TC) (ch : CH) (k : KC ρ) : Option ρ :=
 match op with
 | .alloc ty => allocC C.E ty ch k
 | .box ty x => boxC C.E ty (vC tc x) ch k
 | .buildSlice ty n ps => bif buildSliceC.allS (evPC (vC tc) ps) then buildSliceC C.E keep ty n (evPC (vC tc) ps) ch k else none
 | .makeSlice ty l c => makeSliceC C.E ty (vC tc l) (vC tc c) ch k
 | .convert s d x => (match vC tc x with
  | .sy (.int j) n => convC C.E s d (.sy (.int j) n) ch k
  | _ => none)
 | _ => none
def loosen (n i : Nat) (cm : Nat × List Nat) : Nat × List Nat := bif Nat.beq cm.1 1 && allN (fun j => Nat.ble i j && Nat.blt j n) cm.2 then (1, []) else cm
def stepDC {ρ : Type} (f : Nat) (keep : Bool) (wb : Nat → Bool) (n i : Nat) (cm : Nat × List Nat) (op : Op) (tc : TC) (ch : CH) (k : KC ρ) : Option ρ :=
 bif isNew C.E op && Nat.beq cm.1 1 then newDC C keep op tc ch k else doDC C ih f keep wb (loosen n i cm) op tc ch k
def runDC {ρ : Type} (f : Nat) (keep : Bool) (wb : Nat → Bool) (ops : Array Oper) (n : Nat) (l : List Oper) : List (Nat × List Nat) → Nat → TC → CH → (TC → CH → Option ρ) → Option ρ :=
 List.rec (fun _ _ tc ch k => k tc ch) (fun o _ rs ds i tc ch k => match ds with
  | [] => none
  | cm :: ds => guardC ops tc o.guard (fun tc => stepDC C ih f keep wb n i cm o.op tc ch fun v ch => rs ds (bif isNew C.E o.op then i + 1 else i) (putDC tc o.dst v) ch k) (fun tc => rs ds (bif isNew C.E o.op then i + 1 else i) (putDC tc o.dst (.tup [])) ch k)) l
def regionC {ρ : Type} (f id : Nat) (wb : Nat → Bool) (ops : Array Oper) (tc : TC) (ch : CH) (k : TC → CH → Option ρ) : Option ρ :=
 (C.E.dr f id).bind fun ds => runDC C ih f (C.E.keep f) wb ops (news C.E ops.toList) ops.toList ds 0 tc ch k
def blkAt (tc : TC) (b : Nat) : Nat := bif Nat.ble 1000000 b then (match tc.get (b - 1000000) with
 | .own c _ => c
 | .win c _ _ _ _ => c
 | .ptr c _ => c
 | .el c _ _ _ => c
 | _ => b) else b
def Hint.at (H : Hint) (tc : TC) : Hint := ⟨H.slots, List.rec [] (fun p _ ih => (blkAt tc p.1, p.2) :: ih) H.cells, List.rec [] (fun p _ ih => (blkAt tc p.1, p.2) :: ih) H.arrs⟩
def loopC {ρ : Type} (f : Nat) (b : Code) (wb : Nat → Bool) (tc : TC) (ch : CH) (k : KX ρ) : Option ρ :=
 (keyOf b).bind fun key => bif C.unr f key then ih ρ f b wb tc ch (fun ex tc ch => match ex with | .nm => ih ρ f (.loop b) wb tc ch k | ex => k ex tc ch) else ((C.hint f key).map fun H => H.at tc).bind fun H => (versC ch H.arrs).bind fun vs =>
  bif allN wb (H.ids tc ch) && (allN wb (fsts H.cells) && (allN wb (fsts H.arrs) && ((nodupN (H.ids tc ch ++ (fsts H.cells ++ fsts H.arrs)) && nodupN (fsts H.slots)) && allN (fun i => hasN (writes b) i) (fsts H.slots)))) then
   (H.get vs tc ch).bind fun s0 => loopO (fun s => match H.fill (writes b) (H.ids tc ch) vs tc ch s with
    | (tc1, ch1) => ih (H.ty.den ⊕ ρ) f b (fun i => Nat.ble (llen ch) i || (hasN (fsts H.cells) i || hasN (fsts H.arrs) i)) tc1 ch1 (fun ex tc2 ch2 => match ex with
     | .nm => bif TC.like tc tc2 && (nodupN (H.ids tc2 ch2) && allN (fun b => Nat.ble (llen ch) b) (H.ids tc2 ch2)) then (H.get vs tc2 ch2).map Sum.inl else none
     | ex => (k ex tc2 ch2).map Sum.inr)) s0
  else none
def joinC {ρ : Type} (H : Hint) (f : Nat) (a b : Code) (wb : Nat → Bool) (tc : TC) (ch : CH) (k : KX ρ) : Option ρ :=
 (versC ch H.arrs).bind fun vs =>
  bif allN wb (H.ids tc ch) && (allN wb (fsts H.cells) && (allN wb (fsts H.arrs) && ((nodupN (H.ids tc ch ++ (fsts H.cells ++ fsts H.arrs)) && nodupN (fsts H.slots)) && (allN (fun i => hasN (writes a) i) (fsts H.slots) && allN (fun b => Nat.blt b (llen ch)) (fsts H.cells ++ fsts H.arrs))))) then
   joinO (ih (H.ty.den ⊕ ρ) f a (fun i => Nat.ble (llen ch) i || (hasN (H.ids tc ch) i || (hasN (fsts H.cells) i || hasN (fsts H.arrs) i))) tc ch (fun ex tc2 ch2 => match ex with
     | .nm => bif TC.like tc tc2 && (nodupN (H.ids tc2 ch2) && allN (fun b => Nat.ble (llen ch) b || hasN (H.ids tc ch) b) (H.ids tc2 ch2)) then (H.get vs tc2 ch2).map Sum.inl else none
     | ex => (k ex tc2 ch2).map Sum.inr)) (fun s => match H.fill (writes a) (H.ids tc ch) vs tc ch s with
    | (tc1, ch1) => ih ρ f b wb tc1 ch1 k)
  else none
def cevalB {ρ : Type} (f : Nat) (c : Code) (wb : Nat → Bool) (tc : TC) (ch : CH) (k : KX ρ) : Option ρ :=
 match c with
 | .skip => k .nm tc ch
 | .label _ => k .nm tc ch
 | .region id ops draw => bif draw then regionC C ih f id wb ops tc ch (k .nm) else runC C ih f (C.E.keep f) wb ops ops.toList tc ch (k .nm)
 | .seq a b => (match (keyOf b).bind (C.join f) with
  | some H => joinC ih (H.at tc) f a b wb tc ch k
  | none => ih ρ f a wb tc ch (fun ex tc ch => match ex with | .nm => ih ρ f b wb tc ch k | ex => k ex tc ch))
 | .cond c a b => (match vC tc c with
  | .sy .bool t => bif t then ih ρ f a wb tc ch k else ih ρ f b wb tc ch k
  | _ => none)
 | .block id b => ih ρ f b wb tc ch (fun ex tc ch => match ex with | .exit j => bif Nat.beq j id then k .nm tc ch else k (.exit j) tc ch | ex => k ex tc ch)
 | .scope b => ih ρ f b wb tc ch k
 | .exit id => k (.exit id) tc ch
 | .ret => k .ret tc ch
 | .loop b => loopC C ih f b wb tc ch k
 | _ => none
end
def ceval (C : CE) (n : Nat) : (ρ : Type) → Nat → Code → (Nat → Bool) → TC → CH → KX ρ → Option ρ :=
 Nat.rec (fun _ _ _ _ _ _ _ => none) (fun _ ih _ => cevalB C ih) n
def callS (C : CE) (n g : Nat) (ts : Ty) (rt : Ty) (x : ts.den) : Option rt.den :=
 inlineC C (ceval C n) g (kidsT ts x) (fun _ => true) [] fun v ch => CV.dt ch rt v
def immC (r : Ty) (v : CV) : Option r.den := match v with | .sy u y => Ty.cs u r y | _ => none
def wbM (ps : List Ap) (b : Nat) : Bool := Option.rec true (fun w => w) (lget (Aps.wbs ps) b)
def outM (ps : List Ap) (r : Ty) (x : (Aps.ty ps).den) (v : CV) (ch : CH) : Option (r.den × (Aps.ty ps).den) :=
 (immC r v).bind fun y => (Aps.back ch ps x 0).map fun z => (y, z.1)
def callSM (C : CE) (n g : Nat) (ps : List Ap) (r : Ty) (x : (Aps.ty ps).den) : Option (r.den × (Aps.ty ps).den) :=
 inlineC C (ceval C n) g (Aps.mk ps x 0).1 (wbM ps) (Aps.news ps x) (outM ps r x)
end
end
end Go.As
/-
 AS: how the typed evaluator's values stand for the plain evaluator's.
-/
namespace Go.As
theorem TC.get_e (i : Nat) : TC.e.get i = .undef := rfl
theorem TC.get_n (v : CV) (l r : TC) (i : Nat) : (TC.n v l r).get i = if i = 0 then v else if i % 2 = 1 then l.get (i / 2) else r.get (i / 2 - 1) := by
 show Bool.rec (motive := fun _ => CV) (Bool.rec (motive := fun _ => CV) (r.get (Nat.sub (Nat.div i 2) 1)) (l.get (Nat.div i 2)) (Nat.beq (Nat.mod i 2) 1)) v (Nat.beq i 0) = _
 by_cases h : i = 0
 ·subst h; rfl
 ·have : Nat.beq i 0 = false := by rw [← Bool.not_eq_true, Nat.beq_eq]; exact h
  rw [this, if_neg h]
  by_cases h2 : i % 2 = 1
  ·have : Nat.beq (Nat.mod i 2) 1 = true := by rw [Nat.beq_eq]; exact h2
   rw [this, if_pos h2]; rfl
  ·have : Nat.beq (Nat.mod i 2) 1 = false := by rw [← Bool.not_eq_true, Nat.beq_eq]; exact h2
   rw [this, if_neg h2]; rfl
theorem TC.set_n (v : CV) (l r : TC) (i : Nat) (x : CV) : (TC.n v l r).set i x = if i = 0 then .n x l r else if i % 2 = 1 then .n v (l.set (i / 2) x) r else .n v l (r.set (i / 2 - 1) x) := by
 show Bool.rec (motive := fun _ => TC) (Bool.rec (motive := fun _ => TC) (TC.n v l (r.set (Nat.sub (Nat.div i 2) 1) x)) (TC.n v (l.set (Nat.div i 2) x) r) (Nat.beq (Nat.mod i 2) 1)) (TC.n x l r) (Nat.beq i 0) = _
 by_cases h : i = 0
 ·subst h; rfl
 ·have : Nat.beq i 0 = false := by rw [← Bool.not_eq_true, Nat.beq_eq]; exact h
  rw [this, if_neg h]
  by_cases h2 : i % 2 = 1
  ·have : Nat.beq (Nat.mod i 2) 1 = true := by rw [Nat.beq_eq]; exact h2
   rw [this, if_pos h2]; rfl
  ·have : Nat.beq (Nat.mod i 2) 1 = false := by rw [← Bool.not_eq_true, Nat.beq_eq]; exact h2
   rw [this, if_neg h2]; rfl
theorem Tm.get_n' (v : V) (l r : Tm) (i : Nat) : (Tm.n v l r).get i = if i = 0 then v else if i % 2 = 1 then l.get (i / 2) else r.get (i / 2 - 1) := by
 show Bool.rec (motive := fun _ => V) (Bool.rec (motive := fun _ => V) (r.get (Nat.sub (Nat.div i 2) 1)) (l.get (Nat.div i 2)) (Nat.beq (Nat.mod i 2) 1)) v (Nat.beq i 0) = _
 by_cases h : i = 0
 ·subst h; rfl
 ·have : Nat.beq i 0 = false := by rw [← Bool.not_eq_true, Nat.beq_eq]; exact h
  rw [this, if_neg h]
  by_cases h2 : i % 2 = 1
  ·have : Nat.beq (Nat.mod i 2) 1 = true := by rw [Nat.beq_eq]; exact h2
   rw [this, if_pos h2]; rfl
  ·have : Nat.beq (Nat.mod i 2) 1 = false := by rw [← Bool.not_eq_true, Nat.beq_eq]; exact h2
   rw [this, if_neg h2]; rfl
theorem Tm.set_n' (v : V) (l r : Tm) (i : Nat) (x : V) : (Tm.n v l r).set i x = if i = 0 then .n x l r else if i % 2 = 1 then .n v (l.set (i / 2) x) r else .n v l (r.set (i / 2 - 1) x) := by
 show Bool.rec (motive := fun _ => Tm) (Bool.rec (motive := fun _ => Tm) (Tm.n v l (r.set (Nat.sub (Nat.div i 2) 1) x)) (Tm.n v (l.set (Nat.div i 2) x) r) (Nat.beq (Nat.mod i 2) 1)) (Tm.n x l r) (Nat.beq i 0) = _
 by_cases h : i = 0
 ·subst h; rfl
 ·have : Nat.beq i 0 = false := by rw [← Bool.not_eq_true, Nat.beq_eq]; exact h
  rw [this, if_neg h]
  by_cases h2 : i % 2 = 1
  ·have : Nat.beq (Nat.mod i 2) 1 = true := by rw [Nat.beq_eq]; exact h2
   rw [this, if_pos h2]; rfl
  ·have : Nat.beq (Nat.mod i 2) 1 = false := by rw [← Bool.not_eq_true, Nat.beq_eq]; exact h2
   rw [this, if_neg h2]; rfl
theorem TC.get_set_ne : ∀ (t : TC) (i j : Nat) (x : CV), i ≠ j → (t.set i x).get j = t.get j
 | .e, _, _, _, _ => rfl
 | .n v l r, i, j, x, h => by
  rw [TC.set_n]
  by_cases hi : i = 0
  ·rw [if_pos hi, TC.get_n, TC.get_n]
   have : j ≠ 0 := fun q => h (hi.trans q.symm)
   rw [if_neg this, if_neg this]
  ·rw [if_neg hi]
   by_cases hj : j = 0
   ·by_cases hm : i % 2 = 1
    ·rw [if_pos hm, TC.get_n, TC.get_n, if_pos hj, if_pos hj]
    ·rw [if_neg hm, TC.get_n, TC.get_n, if_pos hj, if_pos hj]
   ·by_cases hm : i % 2 = 1
    ·rw [if_pos hm, TC.get_n, TC.get_n, if_neg hj, if_neg hj]
     by_cases hn : j % 2 = 1
     ·rw [if_pos hn, if_pos hn]; exact TC.get_set_ne l _ _ x (by omega)
     ·rw [if_neg hn, if_neg hn]
    ·rw [if_neg hm, TC.get_n, TC.get_n, if_neg hj, if_neg hj]
     by_cases hn : j % 2 = 1
     ·rw [if_pos hn, if_pos hn]
     ·rw [if_neg hn, if_neg hn]; exact TC.get_set_ne r _ _ x (by omega)
structure Mu where
 b : Nat → Option Nat
 o : Nat → Nat → Option (V × Nat)
def isSl (v : V) : Bool := match v with | .own _ _ _ _ _ => true | .full _ => true | _ => false
mutual
def VR (M : Mu) : CV → V → Prop
 | .undef, _ => True
 | .sy t x, v => v = .im (t.enc x)
 | .rf t x, v => v = .im (.ref (t.enc x))
 | .dat d, v => v = .im d
 | .nsl, v => v = .full []
 | .agg w l, v => ∃ vs, v = mkAgg w vs ∧ VRs M l vs ∧ noU l = true
 | .tup l, v => ∃ vs, v = mkTup vs ∧ VRs M l vs
 | .own b n, v => ∃ s, M.o b n = some (v, s) ∧ isSl v = true
 | .ptr b p, v => ∃ c, M.b b = some c ∧ v = .ptr c 0 p
 | .el b n i p, v => ∃ c g m s, M.o b n = some (.own c g 0 m false, s) ∧ v = .ptr c g ((i, i * s) :: p)
 | .fn f a c, v => ∃ as cs, v = .fn f as cs ∧ VRs M a as ∧ VRs M c cs
 | .ful t l, v => v = .full (l.map t.enc)
 | .win b n o k lim, v => (∃ c g m s, M.o b n = some (.own c g 0 m false, s) ∧ v = .own c g (o.getD 0) k lim ∧ o.getD 0 + k ≤ m) ∨ (∃ s, M.o b n = some (.full [], s) ∧ v = .full [] ∧ k = 0)
def VRs (M : Mu) : List CV → List V → Prop
 | [], vs => vs = []
 | v :: l, vs => ∃ u r, vs = u :: r ∧ VR M v u ∧ VRs M l r
end
structure Mu.le (M N : Mu) : Prop where
 b : ∀ i c, M.b i = some c → N.b i = some c
 o : ∀ i n x, M.o i n = some x → N.o i n = some x
theorem Mu.le.refl (M : Mu) : M.le M := ⟨fun _ _ h => h, fun _ _ _ h => h⟩
theorem Mu.le.trans {M N K : Mu} (h : M.le N) (k : N.le K) : M.le K := ⟨fun i c e => k.b i c (h.b i c e), fun i n x e => k.o i n x (h.o i n x e)⟩
mutual
theorem VR.mono {M N : Mu} (h : M.le N) : ∀ (c : CV) (v : V), VR M c v → VR N c v
 | .undef, _, _ => trivial
 | .sy _ _, _, e | .rf _ _, _, e | .dat _, _, e | .nsl, _, e | .ful _ _, _, e => by simpa only [VR] using e
 | .win _ _ _ _ _, _, e => by
  simp only [VR] at e ⊢
  exact e.imp (fun ⟨c, g, m, s, e, q⟩ => ⟨c, g, m, s, h.o _ _ _ e, q⟩) fun ⟨s, e, q⟩ => ⟨s, h.o _ _ _ e, q⟩
 | .agg _ l, _, e => by
  simp only [VR] at e ⊢
  obtain ⟨vs, e, r, q⟩ := e
  exact ⟨vs, e, VRs.mono h l vs r, q⟩
 | .tup l, _, e => by
  simp only [VR] at e ⊢
  obtain ⟨vs, e, r⟩ := e
  exact ⟨vs, e, VRs.mono h l vs r⟩
 | .own _ _, _, e => by
  simp only [VR] at e ⊢
  obtain ⟨s, e, q⟩ := e
  exact ⟨s, h.o _ _ _ e, q⟩
 | .ptr _ _, _, e => by
  simp only [VR] at e ⊢
  obtain ⟨c, e, q⟩ := e
  exact ⟨c, h.b _ _ e, q⟩
 | .el _ _ _ _, _, e => by
  simp only [VR] at e ⊢
  obtain ⟨c, g, m, s, e, q⟩ := e
  exact ⟨c, g, m, s, h.o _ _ _ e, q⟩
 | .fn _ a c, _, e => by
  simp only [VR] at e ⊢
  obtain ⟨as, cs, e, q1, q2⟩ := e
  exact ⟨as, cs, e, VRs.mono h a as q1, VRs.mono h c cs q2⟩
theorem VRs.mono {M N : Mu} (h : M.le N) : ∀ (l : List CV) (vs : List V), VRs M l vs → VRs N l vs
 | [], _, e => by simpa only [VRs] using e
 | v :: l, _, e => by
  simp only [VRs] at e ⊢
  obtain ⟨u, r, e, h1, h2⟩ := e
  exact ⟨u, r, e, VR.mono h v u h1, VRs.mono h l r h2⟩
end
mutual
theorem VR.back {M N : Mu} (h : M.le N) : ∀ (c : CV) (v0 v : V), VR M c v0 → VR N c v → VR M c v
 | .undef, _, _, _, _ => trivial
 | .sy _ _, _, _, _, e | .rf _ _, _, _, _, e | .dat _, _, _, _, e | .nsl, _, _, _, e | .ful _ _, _, _, _, e => by simpa only [VR] using e
 | .win _ _ _ _ _, _, _, e0, e => by
  simp only [VR] at e0 e ⊢
  have key : ∀ {x y : V × Nat} {i n}, M.o i n = some x → N.o i n = some y → y = x := fun a b => by rw [h.o _ _ _ a] at b; cases b; rfl
  rcases e0 with ⟨_, _, _, _, e0, _⟩ | ⟨_, e0, _⟩ <;> rcases e with ⟨c, g, m, s, e, q⟩ | ⟨s, e, q⟩ <;> have := key e0 e <;> cases this
  ·exact .inl ⟨_, _, _, _, e0, q⟩
  ·exact .inr ⟨_, e0, q⟩
 | .agg _ l, _, _, e0, e => by
  simp only [VR] at e0 e ⊢
  obtain ⟨vs0, _, r0, _⟩ := e0
  obtain ⟨vs, e, r, q⟩ := e
  exact ⟨vs, e, VRs.back h l vs0 vs r0 r, q⟩
 | .tup l, _, _, e0, e => by
  simp only [VR] at e0 e ⊢
  obtain ⟨vs0, _, r0⟩ := e0
  obtain ⟨vs, e, r⟩ := e
  exact ⟨vs, e, VRs.back h l vs0 vs r0 r⟩
 | .own _ _, _, _, e0, e => by
  simp only [VR] at e0 e ⊢
  obtain ⟨s0, e0, _⟩ := e0
  obtain ⟨s, e, q⟩ := e
  rw [h.o _ _ _ e0] at e
  cases e
  exact ⟨_, e0, q⟩
 | .ptr _ _, _, _, e0, e => by
  simp only [VR] at e0 e ⊢
  obtain ⟨c0, e0, _⟩ := e0
  obtain ⟨c, e, q⟩ := e
  rw [h.b _ _ e0] at e
  cases e
  exact ⟨_, e0, q⟩
 | .el _ _ _ _, _, _, e0, e => by
  simp only [VR] at e0 e ⊢
  obtain ⟨_, _, _, _, e0, _⟩ := e0
  obtain ⟨c, g, m, s, e, q⟩ := e
  rw [h.o _ _ _ e0] at e
  cases e
  exact ⟨_, _, _, _, e0, q⟩
 | .fn _ a c, _, _, e0, e => by
  simp only [VR] at e0 e ⊢
  obtain ⟨as0, cs0, _, p1, p2⟩ := e0
  obtain ⟨as, cs, e, q1, q2⟩ := e
  exact ⟨as, cs, e, VRs.back h a as0 as p1 q1, VRs.back h c cs0 cs p2 q2⟩
theorem VRs.back {M N : Mu} (h : M.le N) : ∀ (l : List CV) (vs0 vs : List V), VRs M l vs0 → VRs N l vs → VRs M l vs
 | [], _, _, _, e => by simpa only [VRs] using e
 | v :: l, _, _, e0, e => by
  simp only [VRs] at e0 e ⊢
  obtain ⟨u0, r0, _, p1, p2⟩ := e0
  obtain ⟨u, r, e, h1, h2⟩ := e
  exact ⟨u, r, e, VR.back h v u0 u p1 h1, VRs.back h l r0 r p2 h2⟩
end
def TR2 (M : Mu) : TC → Tm → Prop
 | .e, .e => True
 | .n v l r, .n u l' r' => VR M v u ∧ TR2 M l l' ∧ TR2 M r r'
 | _, _ => False
theorem TR2.mono {M N : Mu} (h : M.le N) : ∀ {t : TC} {u : Tm}, TR2 M t u → TR2 N t u
 | .e, .e, _ => trivial
 | .n _ _ _, .n _ _ _, ⟨h1, h2, h3⟩ => ⟨h1.mono h _ _, h2.mono h, h3.mono h⟩
theorem TR2.get {M : Mu} : ∀ {t : TC} {u : Tm}, TR2 M t u → ∀ i, VR M (t.get i) (u.get i)
 | .e, .e, _, i => trivial
 | .n _ _ _, .n _ _ _, ⟨h1, h2, h3⟩, i => by
  rw [TC.get_n, Tm.get_n']
  split
  ·exact h1
  ·split
   ·exact h2.get _
   ·exact h3.get _
theorem TR2.set {M : Mu} {x : CV} {y : V} (hx : VR M x y) : ∀ {t : TC} {u : Tm}, TR2 M t u → ∀ i, TR2 M (t.set i x) (u.set i y)
 | .e, .e, _, i => trivial
 | .n _ _ _, .n _ _ _, ⟨h1, h2, h3⟩, i => by
  rw [TC.set_n, Tm.set_n']
  split
  ·exact ⟨hx, h2, h3⟩
  ·split
   ·exact ⟨h1, h2.set hx _, h3⟩
   ·exact ⟨h1, h2, h3.set hx _⟩
theorem TR2.mk (M : Mu) : ∀ d, TR2 M (TC.mk d) (Tm.mk d)
 | 0 => trivial
 | d + 1 => ⟨trivial, TR2.mk M d, TR2.mk M d⟩
structure HS (M : Mu) (ch : CH) (h : Heap) : Prop where
 cell : ∀ b cv, hgetC ch b = some (.cell cv) → ∃ c v, M.b b = some c ∧ hget h c = some (.cell v) ∧ VR M cv v
 arr : ∀ b n cl t l, hgetC ch b = some (.arr n cl t l) → ∃ u, M.o b n = some (u, t.wd) ∧
  ((u = .full [] ∧ l = [] ∧ M.b b = none) ∨ ∃ c g ro, M.b b = some c ∧ u = .own c g 0 l.length false ∧ hget h c = some (.arr g t.wd ro (l.map t.enc)) ∧ (cl = false → ro = 0) ∧ ro ≤ l.length)
 inj : ∀ b b' c, hgetC ch b ≠ none → hgetC ch b' ≠ none → M.b b = some c → M.b b' = some c → b = b'
 new : ∀ b n cl t l, hgetC ch b = some (.arr n cl t l) → ∀ m, n < m → M.o b m = none
 len : ∀ b c, M.b b = some c → b < ch.length ∧ c < h.length
 leno : ∀ b n x, M.o b n = some x → b < ch.length
structure Fr (wb : Nat → Bool) (M : Mu) (ch : CH) (h : Heap) (M' : Mu) (ch' : CH) (h' : Heap) : Prop where
 le : M.le M'
 lc : ch.length ≤ ch'.length
 lh : h.length ≤ h'.length
 keep : ∀ b, b < ch.length → wb b = false → hgetC ch' b = hgetC ch b
 nb : ∀ b c, M'.b b = some c → (∃ b0, M.b b0 = some c) ∨ h.length ≤ c
 out : ∀ c, c < h.length → (∀ b, M.b b ≠ some c) → hget h' c = hget h c
theorem nb_same {M : Mu} {n : Nat} : ∀ b c, M.b b = some c → (∃ b0, M.b b0 = some c) ∨ n ≤ c := fun b _ e => .inl ⟨b, e⟩
theorem nb_new {M : Mu} {n m : Nat} : ∀ b c, (if b = n then some m else M.b b) = some c → (∃ b0, M.b b0 = some c) ∨ m ≤ c := fun b c e => by
 split at e
 ·cases e; exact .inr (Nat.le_refl _)
 ·exact .inl ⟨b, e⟩
theorem out_new {h : Heap} {x : Blk} {p : Nat → Prop} : ∀ c, c < h.length → p c → hget (hput h h.length x) c = hget h c := fun c hc _ => by
 rw [hget_hput _ _ _ _ (Nat.le_refl _), if_neg (by omega)]
theorem out_put {M : Mu} {h : Heap} {x : Blk} {b d : Nat} (hb : M.b b = some d) (hd : d < h.length) : ∀ c, c < h.length → (∀ b, M.b b ≠ some c) → hget (hput h d x) c = hget h c := fun c hc hn => by
 rw [hget_hput _ _ _ _ (Nat.le_of_lt hd), if_neg (by rintro rfl; exact hn b hb)]
theorem Fr.refl (wb : Nat → Bool) (M : Mu) (ch : CH) (h : Heap) : Fr wb M ch h M ch h := ⟨.refl M, Nat.le_refl _, Nat.le_refl _, fun _ _ _ => rfl, nb_same, fun _ _ _ => rfl⟩
theorem Fr.trans {wb : Nat → Bool} {M M' M'' : Mu} {ch ch' ch'' : CH} {h h' h'' : Heap} (a : Fr wb M ch h M' ch' h') (b : Fr wb M' ch' h' M'' ch'' h'') : Fr wb M ch h M'' ch'' h'' :=
 ⟨a.le.trans b.le, Nat.le_trans a.lc b.lc, Nat.le_trans a.lh b.lh, fun i hi hw => (b.keep i (Nat.lt_of_lt_of_le hi a.lc) hw).trans (a.keep i hi hw),
  fun i c e => (b.nb i c e).elim (fun ⟨j, ej⟩ => a.nb j c ej) fun q => .inr (Nat.le_trans a.lh q),
  fun c hc hn => (b.out c (Nat.lt_of_lt_of_le hc a.lh) fun i e => (a.nb i c e).elim (fun ⟨j, ej⟩ => hn j ej) fun q => absurd hc (Nat.not_lt.2 q)).trans (a.out c hc hn)⟩
def OS {ρ : Type} (wb : Nat → Bool) (M : Mu) (ch : CH) (h : Heap) (m : R) (k : KC ρ) (r : ρ) : Prop :=
 ∃ v h' cv ch' M', m = some (v, h') ∧ VR M' cv v ∧ HS M' ch' h' ∧ Fr wb M ch h M' ch' h' ∧ k cv ch' = some r
section
variable {ρ : Type} {wb : Nat → Bool} {M : Mu} {ch : CH} {h : Heap} {k : KC ρ} {r : ρ}
theorem OS.plain (hs : HS M ch h) {v : V} {cv : CV} (hv : VR M cv v) (e : k cv ch = some r) : OS wb M ch h (some (v, h)) k r :=
 ⟨v, h, cv, ch, M, rfl, hv, hs, .refl .., e⟩
theorem hgetC_lt {ch : CH} {b : Nat} {x : CB} (h : hgetC ch b = some x) : b < ch.length := by
 unfold hgetC at h
 rw [lget_eq] at h
 split at h
 ·rename_i y e; exact (List.getElem?_eq_some_iff.1 e).1
 ·cases h
theorem hgetC_app (ch : CH) (x : CB) (b : Nat) : hgetC (ch ++ [some x]) b = if b = ch.length then some x else hgetC ch b := by
 unfold hgetC
 rw [lget_eq, lget_eq]
 by_cases hb : b < ch.length
 ·rw [List.getElem?_append_left hb, if_neg (by omega)]
 ·rw [List.getElem?_append_right (by omega)]
  by_cases he : b = ch.length
  ·subst he; simp
  ·rw [if_neg he, List.getElem?_eq_none (by simp; omega), List.getElem?_eq_none (by omega)]
theorem hgetC_put (ch : CH) (x : CB) (b i : Nat) (hb : b < ch.length) : hgetC (hputC ch b x) i = if i = b then some x else hgetC ch i := by
 unfold hgetC hputC
 rw [lget_eq, lget_eq, lset_eq]
 by_cases he : i = b
 ·subst he; rw [if_pos rfl, List.getElem?_set_self hb]
 ·rw [if_neg he, List.getElem?_set_ne (fun q => he q.symm)]
theorem hputC_length (ch : CH) (x : CB) (b : Nat) : (hputC ch b x).length = ch.length := by unfold hputC; rw [lset_eq, List.length_set]
theorem HS.Mb_new (hs : HS M ch h) : M.b ch.length = none := by
 cases e : M.b ch.length with
 | none => rfl
 | some c => exact absurd (hs.len _ _ e).1 (Nat.lt_irrefl _)
theorem HS.Mo_new (hs : HS M ch h) (n : Nat) : M.o ch.length n = none := by
 cases e : M.o ch.length n with
 | none => rfl
 | some c => exact absurd (hs.leno _ _ _ e) (Nat.lt_irrefl _)
theorem HS.newCell (hs : HS M ch h) {cv : CV} {v : V} (hv : VR M cv v) : let M' : Mu := ⟨fun i => if i = ch.length then some h.length else M.b i, M.o⟩; M.le M' ∧ HS M' (ch ++ [some (.cell cv)]) (hput h h.length (.cell v)) := by
 intro M'
 have hle : M.le M' := ⟨fun i c e => by
  show (if i = ch.length then some h.length else M.b i) = some c
  rw [if_neg (by intro q; subst q; rw [hs.Mb_new] at e; cases e)]; exact e, fun _ _ _ e => e⟩
 have hg : ∀ c, c < h.length → hget (hput h h.length (.cell v)) c = hget h c := fun c hc => by rw [hget_hput _ _ _ _ (Nat.le_refl _), if_neg (by omega)]
 have hb : ∀ b, b ≠ ch.length → M'.b b = M.b b := fun b hb => if_neg hb
 refine ⟨hle, ⟨fun b c e => ?_, fun b n cl t l e => ?_, fun b b' c e1 e2 q1 q2 => ?_, fun b n cl t l e => ?_, fun b c e => ?_, fun b n x e => ?_⟩⟩
 ·rw [hgetC_app] at e
  split at e
  ·rename_i hbe
   cases e
   exact ⟨h.length, v, if_pos hbe, by rw [hget_hput _ _ _ _ (Nat.le_refl _), if_pos rfl], hv.mono hle _ _⟩
  ·obtain ⟨c', v', h1, h2, h3⟩ := hs.cell b c e
   exact ⟨c', v', hle.b _ _ h1, by rw [hg _ (hs.len _ _ h1).2]; exact h2, h3.mono hle _ _⟩
 ·rw [hgetC_app] at e
  split at e
  ·cases e
  ·rename_i hne
   obtain ⟨u, h1, h2⟩ := hs.arr b n cl t l e
   refine ⟨u, h1, h2.imp (fun ⟨a1, a2, a3⟩ => ⟨a1, a2, by rw [hb b hne]; exact a3⟩) fun ⟨c, g, ro, a1, a2, a3, a4⟩ => ⟨c, g, ro, hle.b _ _ a1, a2, by rw [hg _ (hs.len _ _ a1).2]; exact a3, a4⟩⟩
 ·by_cases p1 : b = ch.length
  ·by_cases p2 : b' = ch.length
   ·rw [p1, p2]
   ·exfalso
    rw [hb b' p2] at q2
    have : M'.b b = some h.length := if_pos p1
    rw [this] at q1
    cases q1
    exact absurd (hs.len _ _ q2).2 (Nat.lt_irrefl _)
  ·by_cases p2 : b' = ch.length
   ·exfalso
    rw [hb b p1] at q1
    have : M'.b b' = some h.length := if_pos p2
    rw [this] at q2
    cases q2
    exact absurd (hs.len _ _ q1).2 (Nat.lt_irrefl _)
   ·rw [hb b p1] at q1
    rw [hb b' p2] at q2
    rw [hgetC_app, if_neg p1] at e1
    rw [hgetC_app, if_neg p2] at e2
    exact hs.inj b b' c e1 e2 q1 q2
 ·rw [hgetC_app] at e
  split at e
  ·cases e
  ·exact hs.new b n cl t l e
 ·rw [hput_len, if_neg (Nat.lt_irrefl _), List.length_append]
  by_cases p : b = ch.length
  ·have : M'.b b = some h.length := if_pos p
   rw [this] at e; cases e
   exact ⟨by simp; omega, by omega⟩
  ·rw [hb b p] at e
   have := hs.len b c e
   exact ⟨by simp; omega, by omega⟩
 ·have := hs.leno b n x e
  rw [List.length_append]; simp; omega
theorem HS.newArrR (hs : HS M ch h) (t : Ty) (l : List t.den) (g : Nat) (cl : Bool) (ro : Nat) (hro : cl = false → ro = 0) (hro2 : ro ≤ l.length) : let M' : Mu := ⟨fun i => if i = ch.length then some h.length else M.b i, fun i n => if i = ch.length ∧ n = 0 then some (.own h.length g 0 l.length false, t.wd) else M.o i n⟩
  M.le M' ∧ HS M' (ch ++ [some (.arr 0 cl t l)]) (hput h h.length (.arr g t.wd ro (l.map t.enc))) := by
 intro M'
 have hb : ∀ b, b ≠ ch.length → M'.b b = M.b b := fun b hb => if_neg hb
 have ho : ∀ b n, b ≠ ch.length → M'.o b n = M.o b n := fun b n hb => if_neg fun q => hb q.1
 have hle : M.le M' := ⟨fun i c e => by
  rw [hb i (by intro q; subst q; rw [hs.Mb_new] at e; cases e)]; exact e, fun i n x e => by
  rw [ho i n (by intro q; subst q; rw [hs.Mo_new] at e; cases e)]; exact e⟩
 have hg : ∀ c, c < h.length → hget (hput h h.length (.arr g t.wd ro (l.map t.enc))) c = hget h c := fun c hc => by rw [hget_hput _ _ _ _ (Nat.le_refl _), if_neg (by omega)]
 refine ⟨hle, ⟨fun b c e => ?_, fun b n cl' t' l' e => ?_, fun b b' c e1 e2 q1 q2 => ?_, fun b n cl' t' l' e m hm => ?_, fun b c e => ?_, fun b n x e => ?_⟩⟩
 ·rw [hgetC_app] at e
  split at e
  ·cases e
  ·obtain ⟨c', v', h1, h2, h3⟩ := hs.cell b c e
   exact ⟨c', v', hle.b _ _ h1, by rw [hg _ (hs.len _ _ h1).2]; exact h2, h3.mono hle _ _⟩
 ·rw [hgetC_app] at e
  split at e
  ·rename_i hbe
   cases e
   exact ⟨_, if_pos ⟨hbe, rfl⟩, .inr ⟨h.length, g, ro, if_pos hbe, rfl, by rw [hget_hput _ _ _ _ (Nat.le_refl _), if_pos rfl], hro, hro2⟩⟩
  ·rename_i hne
   obtain ⟨u, h1, h2⟩ := hs.arr b n cl' t' l' e
   refine ⟨u, hle.o _ _ _ h1, h2.imp (fun ⟨a1, a2, a3⟩ => ⟨a1, a2, by rw [hb b hne]; exact a3⟩) fun ⟨c, g, ro, a1, a2, a3, a4⟩ => ⟨c, g, ro, hle.b _ _ a1, a2, by rw [hg _ (hs.len _ _ a1).2]; exact a3, a4⟩⟩
 ·by_cases p1 : b = ch.length
  ·by_cases p2 : b' = ch.length
   ·rw [p1, p2]
   ·exfalso
    rw [hb b' p2] at q2
    have : M'.b b = some h.length := if_pos p1
    rw [this] at q1
    cases q1
    exact absurd (hs.len _ _ q2).2 (Nat.lt_irrefl _)
  ·by_cases p2 : b' = ch.length
   ·exfalso
    rw [hb b p1] at q1
    have : M'.b b' = some h.length := if_pos p2
    rw [this] at q2
    cases q2
    exact absurd (hs.len _ _ q1).2 (Nat.lt_irrefl _)
   ·rw [hb b p1] at q1
    rw [hb b' p2] at q2
    rw [hgetC_app, if_neg p1] at e1
    rw [hgetC_app, if_neg p2] at e2
    exact hs.inj b b' c e1 e2 q1 q2
 ·rw [hgetC_app] at e
  split at e
  ·rename_i hbe
   cases e
   show (if b = ch.length ∧ m = 0 then _ else M.o b m) = none
   rw [if_neg (by omega), hbe]; exact hs.Mo_new m
  ·rename_i hne
   rw [ho b m hne]
   exact hs.new b n cl' t' l' e m hm
 ·rw [hput_len, if_neg (Nat.lt_irrefl _), List.length_append]
  by_cases p : b = ch.length
  ·have : M'.b b = some h.length := if_pos p
   rw [this] at e; cases e
   exact ⟨by simp; omega, by omega⟩
  ·rw [hb b p] at e
   have := hs.len b c e
   exact ⟨by simp; omega, by omega⟩
 ·rw [List.length_append]
  by_cases p : b = ch.length
  ·simp; omega
  ·rw [ho b n p] at e
   have := hs.leno b n x e
   simp; omega
theorem HS.newArr (hs : HS M ch h) (t : Ty) (l : List t.den) (g : Nat) : let M' : Mu := ⟨fun i => if i = ch.length then some h.length else M.b i, fun i n => if i = ch.length ∧ n = 0 then some (.own h.length g 0 l.length false, t.wd) else M.o i n⟩
  M.le M' ∧ HS M' (ch ++ [some (.arr 0 false t l)]) (hput h h.length (.arr g t.wd 0 (l.map t.enc))) := hs.newArrR t l g false 0 (fun _ => rfl) (Nat.zero_le _)
theorem HS.newCellAt (hs : HS M ch h) {cv : CV} {v : V} (hv : VR M cv v) {c : Nat} (hc : c ≤ h.length) (hf : ∀ b, M.b b ≠ some c) : let M' : Mu := ⟨fun i => if i = ch.length then some c else M.b i, M.o⟩; M.le M' ∧ HS M' (ch ++ [some (.cell cv)]) (hput h c (.cell v)) := by
 intro M'
 have hle : M.le M' := ⟨fun i c' e => by
  show (if i = ch.length then some c else M.b i) = some c'
  rw [if_neg (by intro q; subst q; rw [hs.Mb_new] at e; cases e)]; exact e, fun _ _ _ e => e⟩
 have hg : ∀ d, d ≠ c → hget (hput h c (.cell v)) d = hget h d := fun d hd => by rw [hget_hput _ _ _ _ hc, if_neg hd]
 have hb : ∀ b, b ≠ ch.length → M'.b b = M.b b := fun b hb => if_neg hb
 have hl : h.length ≤ (hput h c (.cell v)).length ∧ c < (hput h c (.cell v)).length := by rw [hput_len]; split <;> omega
 refine ⟨hle, ⟨fun b cv' e => ?_, fun b n cl t l e => ?_, fun b b' d e1 e2 q1 q2 => ?_, fun b n cl t l e => ?_, fun b d e => ?_, fun b n x e => ?_⟩⟩
 ·rw [hgetC_app] at e
  split at e
  ·rename_i hbe
   cases e
   exact ⟨c, v, if_pos hbe, by rw [hget_hput _ _ _ _ hc, if_pos rfl], hv.mono hle _ _⟩
  ·obtain ⟨c', v', h1, h2, h3⟩ := hs.cell b cv' e
   exact ⟨c', v', hle.b _ _ h1, by rw [hg _ (fun q => hf b (q ▸ h1))]; exact h2, h3.mono hle _ _⟩
 ·rw [hgetC_app] at e
  split at e
  ·cases e
  ·rename_i hne
   obtain ⟨u, h1, h2⟩ := hs.arr b n cl t l e
   refine ⟨u, h1, h2.imp (fun ⟨a1, a2, a3⟩ => ⟨a1, a2, by rw [hb b hne]; exact a3⟩) fun ⟨d, g, ro, a1, a2, a3, a4⟩ => ⟨d, g, ro, hle.b _ _ a1, a2, by rw [hg _ (fun q => hf b (q ▸ a1))]; exact a3, a4⟩⟩
 ·by_cases p1 : b = ch.length
  ·by_cases p2 : b' = ch.length
   ·rw [p1, p2]
   ·exfalso
    rw [hb b' p2] at q2
    have : M'.b b = some c := if_pos p1
    rw [this] at q1
    cases q1
    exact hf _ q2
  ·by_cases p2 : b' = ch.length
   ·exfalso
    rw [hb b p1] at q1
    have : M'.b b' = some c := if_pos p2
    rw [this] at q2
    cases q2
    exact hf _ q1
   ·rw [hb b p1] at q1
    rw [hb b' p2] at q2
    rw [hgetC_app, if_neg p1] at e1
    rw [hgetC_app, if_neg p2] at e2
    exact hs.inj b b' d e1 e2 q1 q2
 ·rw [hgetC_app] at e
  split at e
  ·cases e
  ·exact hs.new b n cl t l e
 ·rw [List.length_append]
  by_cases p : b = ch.length
  ·have : M'.b b = some c := if_pos p
   rw [this] at e; cases e
   exact ⟨by simp; omega, hl.2⟩
  ·rw [hb b p] at e
   have := hs.len b d e
   exact ⟨by simp; omega, Nat.lt_of_lt_of_le this.2 hl.1⟩
 ·have := hs.leno b n x e
  rw [List.length_append]; simp; omega
theorem HS.newArrAt (hs : HS M ch h) (t : Ty) (l : List t.den) (g : Nat) {c : Nat} (hc : c ≤ h.length) (hf : ∀ b, M.b b ≠ some c) : let M' : Mu := ⟨fun i => if i = ch.length then some c else M.b i, fun i n => if i = ch.length ∧ n = 0 then some (.own c g 0 l.length false, t.wd) else M.o i n⟩
  M.le M' ∧ HS M' (ch ++ [some (.arr 0 false t l)]) (hput h c (.arr g t.wd 0 (l.map t.enc))) := by
 intro M'
 have hb : ∀ b, b ≠ ch.length → M'.b b = M.b b := fun b hb => if_neg hb
 have ho : ∀ b n, b ≠ ch.length → M'.o b n = M.o b n := fun b n hb => if_neg fun q => hb q.1
 have hle : M.le M' := ⟨fun i c e => by
  rw [hb i (by intro q; subst q; rw [hs.Mb_new] at e; cases e)]; exact e, fun i n x e => by
  rw [ho i n (by intro q; subst q; rw [hs.Mo_new] at e; cases e)]; exact e⟩
 have hg : ∀ d, d ≠ c → hget (hput h c (.arr g t.wd 0 (l.map t.enc))) d = hget h d := fun d hd => by rw [hget_hput _ _ _ _ hc, if_neg hd]
 have hl : h.length ≤ (hput h c (.arr g t.wd 0 (l.map t.enc))).length ∧ c < (hput h c (.arr g t.wd 0 (l.map t.enc))).length := by rw [hput_len]; split <;> omega
 refine ⟨hle, ⟨fun b cv e => ?_, fun b n cl t' l' e => ?_, fun b b' d e1 e2 q1 q2 => ?_, fun b n cl t' l' e m hm => ?_, fun b d e => ?_, fun b n x e => ?_⟩⟩
 ·rw [hgetC_app] at e
  split at e
  ·cases e
  ·obtain ⟨c', v', h1, h2, h3⟩ := hs.cell b cv e
   exact ⟨c', v', hle.b _ _ h1, by rw [hg _ (fun q => hf b (q ▸ h1))]; exact h2, h3.mono hle _ _⟩
 ·rw [hgetC_app] at e
  split at e
  ·rename_i hbe
   cases e
   exact ⟨_, if_pos ⟨hbe, rfl⟩, .inr ⟨c, g, 0, if_pos hbe, rfl, by rw [hget_hput _ _ _ _ hc, if_pos rfl], fun _ => rfl, Nat.zero_le _⟩⟩
  ·rename_i hne
   obtain ⟨u, h1, h2⟩ := hs.arr b n cl t' l' e
   refine ⟨u, hle.o _ _ _ h1, h2.imp (fun ⟨a1, a2, a3⟩ => ⟨a1, a2, by rw [hb b hne]; exact a3⟩) fun ⟨d, g, ro, a1, a2, a3, a4⟩ => ⟨d, g, ro, hle.b _ _ a1, a2, by rw [hg _ (fun q => hf b (q ▸ a1))]; exact a3, a4⟩⟩
 ·by_cases p1 : b = ch.length
  ·by_cases p2 : b' = ch.length
   ·rw [p1, p2]
   ·exfalso
    rw [hb b' p2] at q2
    have : M'.b b = some c := if_pos p1
    rw [this] at q1
    cases q1
    exact hf _ q2
  ·by_cases p2 : b' = ch.length
   ·exfalso
    rw [hb b p1] at q1
    have : M'.b b' = some c := if_pos p2
    rw [this] at q2
    cases q2
    exact hf _ q1
   ·rw [hb b p1] at q1
    rw [hb b' p2] at q2
    rw [hgetC_app, if_neg p1] at e1
    rw [hgetC_app, if_neg p2] at e2
    exact hs.inj b b' d e1 e2 q1 q2
 ·rw [hgetC_app] at e
  split at e
  ·rename_i hbe
   cases e
   show (if b = ch.length ∧ m = 0 then _ else M.o b m) = none
   rw [if_neg (by omega), hbe]; exact hs.Mo_new m
  ·rename_i hne
   rw [ho b m hne]
   exact hs.new b n cl t' l' e m hm
 ·rw [List.length_append]
  by_cases p : b = ch.length
  ·have : M'.b b = some c := if_pos p
   rw [this] at e; cases e
   exact ⟨by simp; omega, hl.2⟩
  ·rw [hb b p] at e
   have := hs.len b d e
   exact ⟨by simp; omega, Nat.lt_of_lt_of_le this.2 hl.1⟩
 ·rw [List.length_append]
  by_cases p : b = ch.length
  ·simp; omega
  ·rw [ho b n p] at e
   have := hs.leno b n x e
   simp; omega
theorem HS.pad (hs : HS M ch h) (n : Nat) : HS M ch (h ++ List.replicate n none) := by
 have hg : ∀ c, c < h.length → hget (h ++ List.replicate n none) c = hget h c := fun c hc => by
  rw [hget_eq, hget_eq, List.getElem?_append_left hc]
 have hl : ∀ b c, M.b b = some c → c < h.length := fun b c e => (hs.len b c e).2
 refine ⟨fun b cv e => ?_, fun b n cl t l e => ?_, hs.inj, hs.new, fun b c e => ⟨(hs.len b c e).1, by rw [List.length_append]; have := hl b c e; omega⟩, hs.leno⟩
 ·obtain ⟨c, v, h1, h2, h3⟩ := hs.cell b cv e
  exact ⟨c, v, h1, by rw [hg _ (hl _ _ h1)]; exact h2, h3⟩
 ·obtain ⟨u, h1, h2⟩ := hs.arr b n cl t l e
  exact ⟨u, h1, h2.imp id fun ⟨c, g, ro, a1, a2, a3, a4⟩ => ⟨c, g, ro, a1, a2, by rw [hg _ (hl _ _ a1)]; exact a3, a4⟩⟩
end
end Go.As
/-
 AS: values of the typed evaluator: members, paths, data.
-/
namespace Go.As
variable [Gh]
variable {M : Mu}
theorem enc_wd : ∀ (t : Ty) (x : t.den), (t.enc x).wd = t.wd
 | .bool, _ | .int _, _ | .str, _ | .slc _, _ | .st _ _, _ | .tup _, _ | .nl, _ | .cn _ _, _ => by simp [Ty.enc, D.wd, Ty.wd]
theorem kidsT_rel : ∀ (l : Ty) (x : l.den), VRs M (kidsT l x) ((l.encL x).map V.im)
 | .cn t l, x => by
  simp only [kidsT, Ty.encL, List.map_cons, VRs]
  exact ⟨_, _, rfl, rfl, kidsT_rel l x.2⟩
 | .bool, _ | .int _, _ | .str, _ | .slc _, _ | .st _ _, _ | .tup _, _ | .nl, _ => by simp [kidsT, Ty.encL, VRs]
theorem kidsT_noU : ∀ (l : Ty) (x : l.den), noU (kidsT l x) = true
 | .cn t l, x => by
  have := kidsT_noU l x.2
  simp only [kidsT, noU, List.all_cons, Bool.and_eq_true] at this ⊢
  exact ⟨rfl, this⟩
 | .bool, _ | .int _, _ | .str, _ | .slc _, _ | .st _ _, _ | .tup _, _ | .nl, _ => by simp [kidsT, noU]
theorem allIm_map (ds : List D) : allIm (ds.map V.im) = some ds := by
 induction ds with
 | nil => rfl
 | cons d ds ih => show (Option.rec none (fun r => some (d :: r)) (allIm (ds.map V.im)) : Option (List D)) = _; rw [ih]
theorem mkAgg_im (w : Nat) (ds : List D) : mkAgg w (ds.map V.im) = .im (.agg w ds) := by unfold mkAgg; rw [allIm_map]
theorem mkTup_im (ds : List D) : mkTup (ds.map V.im) = .im (.tup ds) := by unfold mkTup; rw [allIm_map]
theorem kids_mkAgg (w : Nat) (vs : List V) : V.kids (mkAgg w vs) = some vs := by
 unfold mkAgg
 cases h : allIm vs with
 | none => rfl
 | some ds => show some (imap ds) = _; rw [imap_eq, ← allIm_some h]
theorem allSy_rel : ∀ {l : List CV} {r : TX}, allSy l = some r → ∀ {vs : List V}, VRs M l vs → vs = (r.t.encL r.x).map V.im
 | [], r, e, vs, h => by cases e; simpa only [VRs, Ty.encL, List.map_nil] using h
 | v :: l, r, e, vs, h => by
  simp only [VRs] at h
  obtain ⟨u, us, rfl, h1, h2⟩ := h
  cases v with
  | sy t x =>
   have e : (Option.rec none (fun r => some (⟨.cn t r.t, (x, r.x)⟩ : TX)) (allSy l) : Option TX) = some r := e
   cases hl : allSy l with
   | none => rw [hl] at e; cases e
   | some q =>
    rw [hl] at e; cases e
    simp only [VR] at h1
    rw [Ty.encL, List.map_cons, h1, ← allSy_rel hl h2]
  | _ => cases e
theorem VR.mkA {w : Nat} {l : List CV} {vs : List V} (h : VRs M l vs) (hn : noU l = true) : VR M (mkA w l) (mkAgg w vs) := by
 unfold Go.As.mkA
 cases e : allSy l with
 | none => exact ⟨vs, rfl, h, hn⟩
 | some r =>
  show VR M (.sy (.st w r.t) r.x) _
  rw [allSy_rel e h, mkAgg_im]
  simp only [VR, Ty.enc]
theorem VR.mkU {l : List CV} {vs : List V} (h : VRs M l vs) : VR M (mkU l) (mkTup vs) := by
 unfold Go.As.mkU
 cases e : allSy l with
 | none => exact ⟨vs, rfl, h⟩
 | some r =>
  show VR M (.sy (.tup r.t) r.x) _
  rw [allSy_rel e h, mkTup_im]
  simp only [VR, Ty.enc]
theorem VR.kids {v : CV} {u : V} {l : List CV} (h : VR M v u) (e : v.kids = some l) : ∃ us, u.kids = some us ∧ VRs M l us ∧ noU l = true := by
 cases v with
 | sy t x => cases t with
  | st w l0 =>
   cases e
   simp only [VR, Ty.enc] at h
   subst h
   refine ⟨_, rfl, ?_, kidsT_noU ..⟩
   show VRs M _ (imap _)
   rw [imap_eq]; exact kidsT_rel l0 x
  | _ => cases e
 | agg w l0 =>
  cases e
  simp only [VR] at h
  obtain ⟨vs, rfl, h, hn⟩ := h
  exact ⟨vs, kids_mkAgg w vs, h, hn⟩
 | _ => cases e
theorem VR.wd {v : CV} {u : V} (h : VR M v u) (hn : isU v = false) : v.wd = u.wd := by
 cases v with
 | undef => cases hn
 | sy t x => simp only [VR] at h; subst h; exact (enc_wd t x).symm
 | rf t x => simp only [VR] at h; subst h; rfl
 | dat d => simp only [VR] at h; subst h; rfl
 | nsl => simp only [VR] at h; subst h; rfl
 | agg w l => simp only [VR] at h; obtain ⟨vs, rfl, _⟩ := h; exact (mkAgg_wd w vs).symm
 | tup l =>
  simp only [VR] at h; obtain ⟨vs, rfl, _⟩ := h
  show 1 = _
  unfold mkTup; cases allIm vs <;> rfl
 | own b n => simp only [VR] at h; obtain ⟨_, _, h⟩ := h; cases u <;> first | rfl | cases h
 | ptr b p => simp only [VR] at h; obtain ⟨_, _, rfl⟩ := h; rfl
 | el b n i p => simp only [VR] at h; obtain ⟨_, _, _, _, _, rfl⟩ := h; rfl
 | fn f a c => simp only [VR] at h; obtain ⟨_, _, rfl, _⟩ := h; rfl
 | ful t l => simp only [VR] at h; subst h; rfl
 | win b n o k lim => simp only [VR] at h; rcases h with ⟨_, _, _, _, _, rfl, _⟩ | ⟨_, _, rfl, _⟩ <;> rfl
theorem wdsC_rel : ∀ {l : List CV} {us : List V}, VRs M l us → noU l = true → ∀ k, wdsC l k = wdsTo us k
 | [], us, h, _, k => by simp only [VRs] at h; subst h; cases k <;> rfl
 | v :: l, us, h, hn, k => by
  simp only [VRs] at h
  obtain ⟨u, r, rfl, h1, h2⟩ := h
  simp only [noU, List.all_cons, Bool.and_eq_true, Bool.not_eq_true'] at hn
  cases k with
  | zero => rfl
  | succ k =>
   show v.wd + wdsC l k = u.wd + wdsTo r k
   rw [h1.wd hn.1, wdsC_rel h2 hn.2 k]
theorem VRs.get : ∀ {l : List CV} {us : List V}, VRs M l us → ∀ {i : Nat} {v : CV}, l[i]? = some v → ∃ u, us[i]? = some u ∧ VR M v u
 | [], us, _, i, v, e => by simp at e
 | w :: l, us, h, i, v, e => by
  simp only [VRs] at h
  obtain ⟨u, r, rfl, h1, h2⟩ := h
  cases i with
  | zero => simp at e; subst e; exact ⟨u, rfl, h1⟩
  | succ i => simpa using VRs.get h2 (by simpa using e)
theorem VRs.set : ∀ {l : List CV} {us : List V}, VRs M l us → ∀ (i : Nat) {v : CV} {u : V}, VR M v u → VRs M (l.set i v) (us.set i u)
 | [], us, h, i, v, u, _ => by simp only [VRs] at h; subst h; simp [VRs]
 | w :: l, us, h, i, v, u, hv => by
  simp only [VRs] at h
  obtain ⟨u0, r, rfl, h1, h2⟩ := h
  cases i with
  | zero => simp only [List.set_cons_zero, VRs]; exact ⟨u, r, rfl, hv, h2⟩
  | succ i => simp only [List.set_cons_succ, VRs]; exact ⟨u0, _, rfl, h1, VRs.set h2 i hv⟩
theorem VRs.length : ∀ {l : List CV} {us : List V}, VRs M l us → l.length = us.length
 | [], us, h => by simp only [VRs] at h; subst h; rfl
 | w :: l, us, h => by
  simp only [VRs] at h
  obtain ⟨u0, r, rfl, h1, h2⟩ := h
  simp [VRs.length h2]
theorem noU_set {l : List CV} (h : noU l = true) (i : Nat) {v : CV} (hv : isU v = false) : noU (l.set i v) = true := by
 simp only [noU, List.all_eq_true] at h ⊢
 intro x hx
 rcases List.mem_or_eq_of_mem_set hx with hx | hx
 ·exact h x hx
 ·rw [hx, hv]; rfl
theorem noU_get {l : List CV} (h : noU l = true) {i : Nat} {v : CV} (e : l[i]? = some v) : isU v = false := by
 simp only [noU, List.all_eq_true, Bool.not_eq_true'] at h
 exact h v (List.mem_of_getElem? e)
theorem kid_im (v : V) (k o : Nat) : V.kid v k o = v.kids.bind fun l => bif Nat.beq (wdsTo l k) o then lget l k else none := by
 cases v with
 | im d => cases d with
  | agg w l =>
   show (bif Nat.beq (wdsToD l k) o then (lget l k).map V.im else none) = (some (imap l)).bind _
   rw [Option.bind_some, imap_eq, wdsToD_eq, lget_eq, lget_eq, List.getElem?_map]
  | _ => rfl
 | agg w l => rfl
 | _ => rfl
theorem VR.kid {v c : CV} {u : V} {k o : Nat} (h : VR M v u) (e : v.kid k o = some c) : ∃ x, u.kid k o = some x ∧ VR M c x ∧ isU c = false := by
 unfold CV.kid at e
 obtain ⟨l, hl, e⟩ := Option.bind_eq_some_iff.1 e
 obtain ⟨us, h1, h2, h3⟩ := h.kids hl
 rw [kid_im, h1, Option.bind_some, ← wdsC_rel h2 h3 k]
 cases hb : Nat.beq (wdsC l k) o with
 | false => rw [hb, cond_false] at e; cases e
 | true =>
  rw [hb, cond_true, lget_eq] at e
  rw [cond_true, lget_eq]
  obtain ⟨x, q1, q2⟩ := h2.get e
  exact ⟨x, q1, q2, noU_get h3 e⟩
theorem VR.nav : ∀ {p : List (Nat × Nat)} {v c : CV} {u : V}, VR M v u → v.nav p = some c → isU v = false → ∃ x, u.nav p = some x ∧ VR M c x ∧ isU c = false
 | [], v, c, u, h, e, hn => by cases e; exact ⟨u, rfl, h, hn⟩
 | s :: p, v, c, u, h, e, _ => by
  have e : (CV.kid v s.1 s.2).bind (fun v => CV.nav v p) = some c := e
  obtain ⟨y, h1, h2⟩ := Option.bind_eq_some_iff.1 e
  obtain ⟨x, q1, q2, q3⟩ := h.kid h1
  obtain ⟨z, r1, r2⟩ := VR.nav q2 h2 q3
  refine ⟨z, ?_, r2⟩
  show (V.kid u s.1 s.2).bind (fun v => V.nav v p) = some z
  rw [q1, Option.bind_some]; exact r1
theorem mkA_isU (w : Nat) (l : List CV) : isU (mkA w l) = false := by unfold mkA; cases allSy l <;> rfl
theorem VR.put {x : CV} {y : V} (hx : VR M x y) (hxn : isU x = false) : ∀ {p : List (Nat × Nat)} {v c : CV} {u : V}, VR M v u → CV.put x p v = some c → ∃ z, V.put y p u = some z ∧ VR M c z ∧ isU c = false
 | [], v, c, u, h, e => by
  have e : (bif Nat.beq x.wd v.wd && not (isU v) then some x else none) = some c := e
  cases hb : Nat.beq x.wd v.wd && not (isU v) with
  | false => rw [hb, cond_false] at e; cases e
  | true =>
   rw [hb, cond_true] at e; cases e
   rw [Bool.and_eq_true, Bool.not_eq_true'] at hb
   refine ⟨y, ?_, hx, hxn⟩
   show (bif Nat.beq y.wd u.wd then some y else none) = some y
   rw [← hx.wd hxn, ← h.wd hb.2, hb.1, cond_true]
 | s :: p, v, c, u, h, e => by
  have hn : isU v = false := by cases v <;> first | rfl | cases e
  have e : (v.kids.bind fun l => bif Nat.beq (wdsC l s.1) s.2 then (lget l s.1).bind fun c => (CV.put x p c).map fun c' => Go.As.mkA v.wd (lset l s.1 c') else none) = some c := e
  obtain ⟨l, hl, e⟩ := Option.bind_eq_some_iff.1 e
  obtain ⟨us, h1, h2, h3⟩ := h.kids hl
  cases hb : Nat.beq (wdsC l s.1) s.2 with
  | false => rw [hb, cond_false] at e; cases e
  | true =>
   rw [hb, cond_true, lget_eq] at e
   obtain ⟨k0, hk, e⟩ := Option.bind_eq_some_iff.1 e
   obtain ⟨k1, hk1, e⟩ := Option.map_eq_some_iff.1 e
   subst e
   obtain ⟨w0, q1, q2⟩ := h2.get hk
   obtain ⟨z, r1, r2, r3⟩ := VR.put hx hxn q2 hk1
   refine ⟨mkAgg u.wd (us.set s.1 z), ?_, ?_, mkA_isU ..⟩
   ·show (u.kids.bind fun l => bif Nat.beq (wdsTo l s.1) s.2 then (lget l s.1).bind fun c => (V.put y p c).map fun c' => mkAgg u.wd (lset l s.1 c') else none) = _
    rw [h1, Option.bind_some, ← wdsC_rel h2 h3, hb, cond_true, lget_eq, q1, Option.bind_some, r1, Option.map_some, lset_eq]
   ·rw [h.wd hn, lset_eq]
    exact VR.mkA (h2.set _ r2) (noU_set h3 _ r3)
theorem VR.part {v c : CV} {u : V} {i : Nat} (h : VR M v u) (e : v.part i = some c) : ∃ x, u.part i = some x ∧ VR M c x := by
 cases v with
 | sy t x => cases t with
  | tup l0 =>
   have e : lget (kidsT l0 x) i = some c := e
   rw [lget_eq] at e
   simp only [VR, Ty.enc] at h
   subst h
   obtain ⟨y, h1, h2⟩ := (kidsT_rel (M := M) l0 x).get e
   refine ⟨y, ?_, h2⟩
   show (lget (l0.encL x) i).map V.im = _
   rw [lget_eq, ← List.getElem?_map]; exact h1
  | _ => cases e
 | tup l =>
  have e : lget l i = some c := e
  rw [lget_eq] at e
  simp only [VR] at h
  obtain ⟨vs, rfl, h⟩ := h
  obtain ⟨y, h1, h2⟩ := h.get e
  refine ⟨y, ?_, h2⟩
  unfold mkTup
  cases ha : allIm vs with
  | none => show lget vs i = _; rw [lget_eq]; exact h1
  | some ds =>
   show (lget ds i).map V.im = _
   rw [lget_eq, ← List.getElem?_map, ← allIm_some ha]; exact h1
 | _ => cases e
theorem okC_rel {ti : TI} {v : CV} {u : V} (h : VR M v u) (e : okC ti v = true) : okV ti u = true ∧ isU v = false := by
 simp only [okC, Bool.and_eq_true] at e
 obtain ⟨e1, e2⟩ := e
 have hn : isU v = false := by cases v <;> first | rfl | cases e2
 refine ⟨?_, hn⟩
 simp only [okV, Bool.and_eq_true]
 refine ⟨by rw [← h.wd hn]; exact e1, ?_⟩
 cases v with
 | undef => cases e2
 | sy t x =>
  simp only [VR] at h; subst h
  cases t <;> simp_all [okAC, okAgg, Ty.enc, okAgg.okD]
 | rf t x => simp only [VR] at h; subst h; simpa [okAC, okAgg, okAgg.okD] using e2
 | dat d => simp only [VR] at h; subst h; exact e2
 | nsl => simp only [VR] at h; subst h; exact e2
 | agg w l =>
  simp only [VR] at h; obtain ⟨vs, rfl, _⟩ := h
  unfold mkAgg
  cases allIm vs with
  | none => exact e2
  | some ds => exact e2
 | tup l => cases e2
 | own b n => simp only [VR] at h; obtain ⟨_, _, h⟩ := h; cases u <;> first | exact e2 | cases h
 | ptr b p => simp only [VR] at h; obtain ⟨_, _, rfl⟩ := h; exact e2
 | el b n i p => simp only [VR] at h; obtain ⟨_, _, _, _, _, rfl⟩ := h; exact e2
 | fn f a c => simp only [VR] at h; obtain ⟨_, _, rfl, _⟩ := h; exact e2
 | ful t l => simp only [VR] at h; subst h; exact e2
 | win b n o k lim => simp only [VR] at h; rcases h with ⟨_, _, _, _, _, rfl, _⟩ | ⟨_, _, rfl, _⟩ <;> exact e2
mutual
theorem ofD_rel : ∀ d : D, VR M (ofD d) (.im d) ∧ isU (ofD d) = false
 | .bool _ | .int _ _ | .str _ => by simp [ofD, VR, Ty.enc, isU]
 | .nil | .ref _ | .slc _ | .fn _ | .nfn | .ifc _ _ | .inil | .mnil => by simp [ofD, VR, isU]
 | .agg w l => by
  rw [ofD, ← mkAgg_im]
  exact ⟨VR.mkA (ofDs_rel l).1 (ofDs_rel l).2, mkA_isU ..⟩
 | .tup l => by
  rw [ofD, ← mkTup_im]
  exact ⟨VR.mkU (ofDs_rel l).1, by unfold mkU; cases allSy (ofDs l) <;> rfl⟩
theorem ofDs_rel : ∀ l : List D, VRs M (ofDs l) (l.map V.im) ∧ noU (ofDs l) = true
 | [] => by simp [ofDs, VRs, noU]
 | d :: l => by
  simp only [ofDs, List.map_cons, VRs, noU, List.all_cons, Bool.and_eq_true, Bool.not_eq_true']
  exact ⟨⟨_, _, rfl, (ofD_rel d).1, (ofDs_rel l).1⟩, (ofD_rel d).2, (ofDs_rel l).2⟩
end
theorem cs_rel {a b : Ty} {x : a.den} {y : b.den} (h : Ty.cs a b x = some y) : ∃ e : a = b, y = e ▸ x := by
 unfold Ty.cs at h
 split at h
 ·cases h
  exact ⟨Ty.beq_eq ‹_›, rfl⟩
 ·cases h
theorem cs_enc {a b : Ty} {x : a.den} {y : b.den} (h : Ty.cs a b x = some y) : a = b ∧ b.enc y = a.enc x ∧ (∀ M, VR M (.sy b y) (.im (a.enc x))) := by
 obtain ⟨rfl, rfl⟩ := cs_rel h
 exact ⟨rfl, rfl, fun _ => rfl⟩
end Go.As
/-
 AS: from the typed evaluator's values to data; slices that are handed on.
-/
namespace Go.As
variable [Gh]
variable {M : Mu} {ch : CH} {h : Heap}
theorem data_R (h : Heap) (v : V) : v.data h = v.dataR (ownElems h) := by
 cases v <;> first | rfl | simp [V.data, V.dataR]
theorem dataRs_im (o : Nat → Nat → Nat → Nat → Option (List D)) : ∀ ds : List D, V.dataRs o (ds.map V.im) = some ds
 | [] => by simp [V.dataRs]
 | d :: ds => by simp [V.dataRs, V.dataR, dataRs_im o ds]
theorem dataR_mkAgg (o : Nat → Nat → Nat → Nat → Option (List D)) (w : Nat) (us : List V) : (mkAgg w us).dataR o = (V.dataRs o us).map (.agg w) := by
 unfold mkAgg
 cases ha : allIm us with
 | none => simp [V.dataR]
 | some ds => rw [allIm_some ha, dataRs_im]; simp [V.dataR]
theorem dataR_mkTup (o : Nat → Nat → Nat → Nat → Option (List D)) (us : List V) : (mkTup us).dataR o = (V.dataRs o us).map .tup := by
 unfold mkTup
 cases ha : allIm us with
 | none => simp [V.dataR]
 | some ds => rw [allIm_some ha, dataRs_im]; simp [V.dataR]
theorem HS.own (hs : HS M ch h) {b n n' : Nat} {c : Bool} {t : Ty} {l : List t.den} (hb : hgetC ch b = some (.arr n' c t l)) (hn : Nat.beq n n' = true) {v : V} (hv : VR M (.own b n) v) :
  (v = .full [] ∧ l = [] ∧ M.b b = none) ∨ ∃ x g ro, M.b b = some x ∧ v = .own x g 0 l.length false ∧ hget h x = some (.arr g t.wd ro (l.map t.enc)) ∧ (c = false → ro = 0) ∧ ro ≤ l.length := by
 have := Nat.eq_of_beq_eq_true hn
 subst this
 simp only [VR] at hv
 obtain ⟨s, hv, _⟩ := hv
 obtain ⟨u, h1, h2⟩ := hs.arr b n c t l hb
 rw [hv] at h1
 cases h1
 exact h2
theorem HS.win (hs : HS M ch h) {b n n' : Nat} {c : Bool} {t : Ty} {l : List t.den} {o : Option Nat} {k : Nat} {lim : Bool} (hb : hgetC ch b = some (.arr n' c t l)) (hn : Nat.beq n n' = true) {v : V} (hv : VR M (.win b n o k lim) v) :
  (v = .full [] ∧ l = [] ∧ M.b b = none ∧ k = 0) ∨ ∃ x g ro, M.b b = some x ∧ v = .own x g (o.getD 0) k lim ∧ o.getD 0 + k ≤ l.length ∧ hget h x = some (.arr g t.wd ro (l.map t.enc)) ∧ (c = false → ro = 0) ∧ ro ≤ l.length ∧ M.o b n = some (.own x g 0 l.length false, t.wd) := by
 have := Nat.eq_of_beq_eq_true hn
 subst this
 simp only [VR] at hv
 obtain ⟨u, h1, h2⟩ := hs.arr b n c t l hb
 rcases hv with ⟨x, g, m, s, hv, rfl, hm⟩ | ⟨s, hv, rfl, hk⟩
 ·rw [hv] at h1
  cases h1
  rcases h2 with ⟨q, _⟩ | ⟨x', g', ro, q1, q2, q3⟩
  ·cases q
  ·cases q2
   exact .inr ⟨_, _, ro, q1, rfl, hm, q3.1, q3.2.1, q3.2.2, hv⟩
 ·rw [hv] at h1
  cases h1
  rcases h2 with ⟨_, q1, q2⟩ | ⟨_, _, _, _, q, _⟩
  ·exact .inl ⟨rfl, q1, q2, hk⟩
  ·cases q
theorem cutW_map {α β : Type} (f : α → β) (o : Option Nat) (n : Nat) (l : List α) : (cutW o n l).map f = cutW o n (l.map f) := by
 cases o <;> simp [cutW, lTake, lDrop, List.map_take, List.map_drop]
theorem cutW_len {α : Type} {o : Option Nat} {n : Nat} {l : List α} (h : o.getD 0 + n ≤ l.length) : (cutW o n l).length = n := by
 cases o with
 | none => simp [cutW, lTake] at h ⊢; omega
 | some o => simp [cutW, lTake, lDrop] at h ⊢; omega
theorem cutAll_W {o : Option Nat} {n : Nat} {l : List D} (h : o.getD 0 + n ≤ l.length) : cutAll l (o.getD 0) n = cutW o n l := by
 unfold cutAll
 cases hb : Nat.beq (o.getD 0) 0 && Nat.beq n (llen l) with
 | true =>
  rw [Bool.and_eq_true, llen_eq] at hb
  have h1 := Nat.eq_of_beq_eq_true hb.1
  have h2 := Nat.eq_of_beq_eq_true hb.2
  rw [cond_true]
  cases o with
  | none => simp [cutW, lTake, h2]
  | some o =>
   have h1 : o = 0 := h1
   subst h1
   simp [cutW, lTake, lDrop, h2]
 | false =>
  rw [cond_false]
  cases o with
  | none => simp [cutW, lTake]
  | some o => simp [cutW, lTake, lDrop]
theorem cutOk_W {o : Option Nat} {n g : Nat} {l : List D} (h : o.getD 0 + n ≤ l.length) : cutOk g g (o.getD 0) n l = true := by
 unfold cutOk
 rw [Nat.beq_refl, llen_eq, Bool.true_and]
 exact Nat.ble_eq_true_of_le h
theorem ownElems_W {x g s ro : Nat} {l : List D} {o : Option Nat} {n : Nat} (hg : hget h x = some (.arr g s ro l)) (hn : o.getD 0 + n ≤ l.length) : ownElems h x g (o.getD 0) n = some (cutW o n l) := by
 show (match hget h x with
  | some (.arr g' _ _ l') => bif cutOk g g' (o.getD 0) n l' then some (cutAll l' (o.getD 0) n) else none
  | some (.arv g' _ l') => bif cutOk g g' (o.getD 0) n l' then V.dataRs (ownElemsN h 3) (cutAll l' (o.getD 0) n) else none
  | _ => none) = _
 rw [hg]
 show (bif cutOk g g (o.getD 0) n l then some (cutAll l (o.getD 0) n) else none) = _
 rw [cutOk_W hn, cutAll_W hn]; rfl
theorem ownElems_whole {x g s ro : Nat} {l : List D} (hg : hget h x = some (.arr g s ro l)) : ownElems h x g 0 l.length = some l := by
 show (match hget h x with
  | some (.arr g' _ _ l') => bif cutOk g g' 0 l.length l' then some (cutAll l' 0 l.length) else none
  | some (.arv g' _ l') => bif cutOk g g' 0 l.length l' then V.dataRs (ownElemsN h 3) (cutAll l' 0 l.length) else none
  | _ => none) = _
 rw [hg]
 have : Nat.ble l.length l.length = true := Nat.ble_eq_true_of_le (Nat.le_refl _)
 simp [cutOk, cutAll, this]
theorem dt_sy {t u : Ty} {y : u.den} : CV.dt ch t (.sy u y) = Ty.cs u t y := by cases t <;> rfl
theorem dt_both (hs : HS M ch h) (t : Ty) : (∀ (cv : CV) (x : t.den) (v : V), CV.dt ch t cv = some x → VR M cv v → v.dataR (ownElems h) = some (t.enc x)) ∧
  (∀ (vs : List CV) (x : t.den) (us : List V), CV.dts ch t vs = some x → VRs M vs us → V.dataRs (ownElems h) us = some (t.encL x)) := by
 have sy : ∀ (t u : Ty) (y : u.den) (x : t.den) (v : V), Ty.cs u t y = some x → VR M (.sy u y) v → v.dataR (ownElems h) = some (t.enc x) := fun t u y x v e r => by
  obtain ⟨rfl, he, _⟩ := cs_enc e
  simp only [VR] at r
  subst r
  rw [he]; simp [V.dataR]
 induction t with
 | bool => exact ⟨fun cv x v e r => (by cases cv <;> first | (exact sy _ _ _ _ _ e r) | cases e), fun vs x us e r => (by cases vs <;> cases e)⟩
 | int k => exact ⟨fun cv x v e r => (by cases cv <;> first | (exact sy _ _ _ _ _ e r) | cases e), fun vs x us e r => (by cases vs <;> cases e)⟩
 | str => exact ⟨fun cv x v e r => (by cases cv <;> first | (exact sy _ _ _ _ _ e r) | cases e), fun vs x us e r => (by cases vs <;> cases e)⟩
 | slc t _ =>
  refine ⟨fun cv x v e r => ?_, fun vs x us e r => (by cases vs <;> cases e)⟩
  cases cv with
  | sy u y => exact sy _ _ _ _ _ e r
  | nsl =>
   have e : (some [] : Option (List t.den)) = some x := e
   cases e
   simp only [VR] at r
   subst r
   simp [V.dataR, Ty.enc]
  | own b n =>
   have e : (match hgetC ch b with
    | some (.arr v' _ u l) => bif Nat.beq n v' then Ty.cs (.slc u) (.slc t) l else none
    | _ => none) = some x := e
   split at e
   ·rename_i v' c u l hb
    cases hn : Nat.beq n v' with
    | false => rw [hn, cond_false] at e; cases e
    | true =>
     rw [hn, cond_true] at e
     obtain ⟨he1, he, _⟩ := cs_enc e
     cases he1
     rcases hs.own hb hn r with ⟨rfl, rfl, _⟩ | ⟨y, g, ro, _, rfl, hg, _⟩
     ·rw [he]; simp [V.dataR, Ty.enc]
     ·rw [he]
      have := ownElems_whole hg
      rw [List.length_map] at this
      simp [V.dataR, this, Ty.enc]
   ·cases e
  | ful u l =>
   have e : Ty.cs (.slc u) (.slc t) l = some x := e
   obtain ⟨he1, he, _⟩ := cs_enc e
   cases he1
   simp only [VR] at r
   subst r
   rw [he]; simp [V.dataR, Ty.enc]
  | win b n o m lim =>
   have e : (match hgetC ch b with
    | some (.arr v' _ u l) => bif Nat.beq n v' then Ty.cs (.slc u) (.slc t) (cutW o m l) else none
    | _ => none) = some x := e
   split at e
   ·rename_i v' c u l hb
    cases hn : Nat.beq n v' with
    | false => rw [hn, cond_false] at e; cases e
    | true =>
     rw [hn, cond_true] at e
     obtain ⟨he1, he, _⟩ := cs_enc e
     cases he1
     rcases hs.win hb hn r with ⟨rfl, rfl, _, rfl⟩ | ⟨y, g, ro, _, rfl, hm, hg, _⟩
     ·rw [he]; cases o <;> simp [V.dataR, Ty.enc, cutW, lTake, lDrop]
     ·rw [he]
      have := ownElems_W (o := o) (n := m) hg (by rw [List.length_map]; exact hm)
      simp [V.dataR, this, Ty.enc, cutW_map]
   ·cases e
  | _ => cases e
 | st w l ih =>
  refine ⟨fun cv x v e r => ?_, fun vs x us e r => (by cases vs <;> cases e)⟩
  cases cv with
  | sy u y => exact sy _ _ _ _ _ e r
  | agg w' vs =>
   have e2 : (bif Nat.beq w w' then CV.dts ch l vs else none) = some x := e
   cases hw : Nat.beq w w' with
   | false => rw [hw, cond_false] at e2; cases e2
   | true =>
    rw [hw, cond_true] at e2
    have := Nat.eq_of_beq_eq_true hw
    subst this
    simp only [VR] at r
    obtain ⟨us, rfl, r, _⟩ := r
    rw [dataR_mkAgg, ih.2 vs x us e2 r]
    simp [Ty.enc]
  | _ => cases e
 | tup l ih =>
  refine ⟨fun cv x v e r => ?_, fun vs x us e r => (by cases vs <;> cases e)⟩
  cases cv with
  | sy u y => exact sy _ _ _ _ _ e r
  | tup vs =>
   have e : CV.dts ch l vs = some x := e
   simp only [VR] at r
   obtain ⟨us, rfl, r⟩ := r
   rw [dataR_mkTup, ih.2 vs x us e r]
   simp [Ty.enc]
  | _ => cases e
 | nl =>
  refine ⟨fun cv x v e r => (by cases cv <;> first | (exact sy _ _ _ _ _ e r) | cases e), fun vs x us e r => ?_⟩
  cases vs with
  | nil =>
   simp only [VRs] at r
   subst r
   simp [V.dataRs, Ty.encL]
  | cons _ _ => cases e
 | cn t l iht ihl =>
  refine ⟨fun cv x v e r => (by cases cv <;> first | (exact sy _ _ _ _ _ e r) | cases e), fun vs x us e r => ?_⟩
  cases vs with
  | nil => cases e
  | cons v vs =>
   have e : (match CV.dt ch t v, CV.dts ch l vs with
    | some x, some y => some (x, y)
    | _, _ => none) = some x := e
   split at e
   ·rename_i y z h1 h2
    cases e
    simp only [VRs] at r
    obtain ⟨u, r', rfl, q1, q2⟩ := r
    simp [V.dataRs, iht.1 v y u h1 q1, ihl.2 vs z r' h2 q2, Ty.encL]
   ·cases e
theorem dt_rel (hs : HS M ch h) {t : Ty} {cv : CV} {x : t.den} {v : V} (e : CV.dt ch t cv = some x) (r : VR M cv v) : v.data h = some (t.enc x) := by
 rw [data_R]; exact (dt_both hs t).1 cv x v e r
theorem dts_rel (hs : HS M ch h) {t : Ty} {vs : List CV} {x : t.den} {us : List V} (e : CV.dts ch t vs = some x) (r : VRs M vs us) : allData h us = some (t.encL x) := by
 have := (dt_both hs t).2 vs x us e r
 have key : ∀ us : List V, allData h us = V.dataRs (ownElems h) us := by
  intro us
  induction us with
  | nil => simp [V.dataRs]; rfl
  | cons u us ih =>
   show (V.data h u).bind (fun d => (allData h us).map (d :: ·)) = _
   rw [ih, data_R]
   cases h1 : u.dataR (ownElems h) <;> cases h2 : V.dataRs (ownElems h) us <;> simp [V.dataRs, h1, h2]
 rw [key]; exact this
theorem ownsR_mk (us : List V) : (∀ w, (mkAgg w us).owns = V.ownsRs us) ∧ (mkTup us).owns = V.ownsRs us := by
 cases ha : allIm us with
 | none => exact ⟨fun w => by unfold mkAgg; rw [ha]; simp [V.owns, V.ownsR], by unfold mkTup; rw [ha]; simp [V.owns, V.ownsR]⟩
 | some ds =>
  have h0 : V.ownsRs us = [] := by
   rw [allIm_some ha]
   clear ha
   induction ds with
   | nil => simp [V.ownsRs]
   | cons d ds ih => simp [V.ownsRs, V.ownsR, ih]
  exact ⟨fun w => by unfold mkAgg; rw [ha, h0]; rfl, by unfold mkTup; rw [ha, h0]; rfl⟩
theorem owns_R (v : V) : v.owns = v.ownsR := by cases v <;> first | rfl | simp [V.owns, V.ownsR]
theorem fmap_app (f : Nat → Option Nat) (a b : List Nat) : (a ++ b).filterMap f = a.filterMap f ++ b.filterMap f := List.filterMap_append
theorem owns_both (hs : HS M ch h) (t : Ty) : (∀ (cv : CV) (x : t.den) (v : V), CV.dt ch t cv = some x → VR M cv v → v.ownsR = cv.ownsC.filterMap M.b) ∧
  (∀ (vs : List CV) (x : t.den) (us : List V), CV.dts ch t vs = some x → VRs M vs us → V.ownsRs us = (CV.ownsCs vs).filterMap M.b) := by
 have sy : ∀ (u : Ty) (y : u.den) (v : V), VR M (.sy u y) v → v.ownsR = (CV.sy u y).ownsC.filterMap M.b := fun u y v r => by
  simp only [VR] at r
  subst r
  simp [V.ownsR, CV.ownsC]
 induction t with
 | bool => exact ⟨fun cv x v e r => (by cases cv <;> first | (exact sy _ _ _ r) | cases e), fun vs x us e r => (by cases vs <;> cases e)⟩
 | int k => exact ⟨fun cv x v e r => (by cases cv <;> first | (exact sy _ _ _ r) | cases e), fun vs x us e r => (by cases vs <;> cases e)⟩
 | str => exact ⟨fun cv x v e r => (by cases cv <;> first | (exact sy _ _ _ r) | cases e), fun vs x us e r => (by cases vs <;> cases e)⟩
 | slc t _ =>
  refine ⟨fun cv x v e r => ?_, fun vs x us e r => (by cases vs <;> cases e)⟩
  cases cv with
  | sy u y => exact sy _ _ _ r
  | nsl =>
   simp only [VR] at r
   subst r
   simp [V.ownsR, CV.ownsC]
  | own b n =>
   have e : (match hgetC ch b with
    | some (.arr v' _ u l) => bif Nat.beq n v' then Ty.cs (.slc u) (.slc t) l else none
    | _ => none) = some x := e
   split at e
   ·rename_i v' c u l hb
    cases hn : Nat.beq n v' with
    | false => rw [hn, cond_false] at e; cases e
    | true =>
     rcases hs.own hb hn r with ⟨rfl, rfl, h0⟩ | ⟨y, g, ro, h0, rfl, hg, _⟩
     ·simp [V.ownsR, CV.ownsC, h0]
     ·simp [V.ownsR, CV.ownsC, h0]
   ·cases e
  | ful u l =>
   simp only [VR] at r
   subst r
   simp [V.ownsR, CV.ownsC]
  | win b n o m lim =>
   have e : (match hgetC ch b with
    | some (.arr v' _ u l) => bif Nat.beq n v' then Ty.cs (.slc u) (.slc t) (cutW o m l) else none
    | _ => none) = some x := e
   split at e
   ·rename_i v' c u l hb
    cases hn : Nat.beq n v' with
    | false => rw [hn, cond_false] at e; cases e
    | true =>
     rcases hs.win hb hn r with ⟨rfl, rfl, h0, _⟩ | ⟨y, g, ro, h0, rfl, _⟩
     ·simp [V.ownsR, CV.ownsC, h0]
     ·simp [V.ownsR, CV.ownsC, h0]
   ·cases e
  | _ => cases e
 | st w l ih =>
  refine ⟨fun cv x v e r => ?_, fun vs x us e r => (by cases vs <;> cases e)⟩
  cases cv with
  | sy u y => exact sy _ _ _ r
  | agg w' vs =>
   have e2 : (bif Nat.beq w w' then CV.dts ch l vs else none) = some x := e
   cases hw : Nat.beq w w' with
   | false => rw [hw, cond_false] at e2; cases e2
   | true =>
    rw [hw, cond_true] at e2
    simp only [VR] at r
    obtain ⟨us, rfl, r, _⟩ := r
    rw [← owns_R, (ownsR_mk us).1, ih.2 vs x us e2 r]
    simp [CV.ownsC]
  | _ => cases e
 | tup l ih =>
  refine ⟨fun cv x v e r => ?_, fun vs x us e r => (by cases vs <;> cases e)⟩
  cases cv with
  | sy u y => exact sy _ _ _ r
  | tup vs =>
   have e2 : CV.dts ch l vs = some x := e
   simp only [VR] at r
   obtain ⟨us, rfl, r⟩ := r
   rw [← owns_R, (ownsR_mk us).2, ih.2 vs x us e2 r]
   simp [CV.ownsC]
  | _ => cases e
 | nl =>
  refine ⟨fun cv x v e r => (by cases cv <;> first | (exact sy _ _ _ r) | cases e), fun vs x us e r => ?_⟩
  cases vs with
  | nil =>
   simp only [VRs] at r
   subst r
   simp [V.ownsRs, CV.ownsCs]
  | cons _ _ => cases e
 | cn t l iht ihl =>
  refine ⟨fun cv x v e r => (by cases cv <;> first | (exact sy _ _ _ r) | cases e), fun vs x us e r => ?_⟩
  cases vs with
  | nil => cases e
  | cons v vs =>
   have e2 : (match CV.dt ch t v, CV.dts ch l vs with
    | some x, some y => some (x, y)
    | _, _ => none) = some x := e
   split at e2
   ·rename_i y z h1 h2
    simp only [VRs] at r
    obtain ⟨u, r', rfl, q1, q2⟩ := r
    simp [V.ownsRs, CV.ownsCs, iht.1 v y u h1 q1, ihl.2 vs z r' h2 q2]
   ·cases e2
theorem ownsL_R : ∀ us : List V, V.ownsL us = V.ownsRs us
 | [] => by simp [V.ownsRs]; rfl
 | u :: us => by
  have ih := ownsL_R us
  show (match u with | .im _ => V.ownsL us | v => v.owns ++ V.ownsL us) = _
  cases u <;> simp [V.ownsRs, V.ownsR, ih, V.owns]
theorem owns_rel (hs : HS M ch h) {t : Ty} {vs : List CV} {x : t.den} {us : List V} (e : CV.dts ch t vs = some x) (r : VRs M vs us) : V.ownsL us = (CV.ownsCs vs).filterMap M.b := by
 rw [ownsL_R]; exact (owns_both hs t).2 vs x us e r
theorem enc_flats (t : Ty) : (∀ x : t.den, (t.enc x).flat = t.flat) ∧ (∀ x : t.den, D.flats (t.encL x) = t.flats) := by
 induction t with
 | bool | int _ | str | slc _ _ | nl => exact ⟨fun x => by simp [Ty.enc, D.flat, Ty.flat], fun x => by simp [Ty.encL, D.flats, Ty.flats]⟩
 | st w l ih => exact ⟨fun x => by simp [Ty.enc, D.flat, Ty.flat, ih.2], fun x => by simp [Ty.encL, D.flats, Ty.flats]⟩
 | tup l ih => exact ⟨fun x => by simp [Ty.enc, D.flat, Ty.flat, ih.2], fun x => by simp [Ty.encL, D.flats, Ty.flats]⟩
 | cn t l iht ihl => exact ⟨fun x => by simp [Ty.enc, D.flat, Ty.flat], fun x => by simp [Ty.encL, D.flats, Ty.flats, iht.1, ihl.2]⟩
theorem enc_flat (t : Ty) (x : t.den) : (t.enc x).flat = t.flat := (enc_flats t).1 x
theorem HS.close1 (hs : HS M ch h) {b n : Nat} {c : Bool} {t : Ty} {l : List t.den} (hb : hgetC ch b = some (.arr n c t l)) :
  HS M (hputC ch b (.arr n true t l)) (match M.b b with | some x => (match hget h x with | some (.arr g s _ L) => hput h x (.arr g s (llen L) L) | _ => h) | none => h) := by
 have hlt := hgetC_lt hb
 obtain ⟨u, h1, h2⟩ := hs.arr b n c t l hb
 have hl : ∀ i, hgetC (hputC ch b (.arr n true t l)) i = if i = b then some (.arr n true t l) else hgetC ch i := fun i => hgetC_put ch _ b i hlt
 rcases h2 with ⟨rfl, rfl, h0⟩ | ⟨x, g, ro, h0, rfl, hg, hc, hro⟩
 ·rw [h0]
  refine ⟨fun b' cv e => ?_, fun b' n' cl t' l' e => ?_, fun b1 b2 c' e1 e2 q1 q2 => ?_, fun b' n' cl t' l' e => ?_, fun b' c' e => ?_, fun b' n' x e => ?_⟩
  ·rw [hl] at e
   split at e
   ·cases e
   ·exact hs.cell b' cv e
  ·rw [hl] at e
   split at e
   ·rename_i he
    cases e
    subst he
    exact ⟨_, h1, .inl ⟨rfl, rfl, h0⟩⟩
   ·exact hs.arr b' n' cl t' l' e
  ·refine hs.inj b1 b2 c' (fun q => e1 ?_) (fun q => e2 ?_) q1 q2
   ·rw [hl, if_neg (by intro q'; subst q'; rw [hb] at q; cases q)]; exact q
   ·rw [hl, if_neg (by intro q'; subst q'; rw [hb] at q; cases q)]; exact q
  ·rw [hl] at e
   split at e
   ·rename_i he
    cases e
    subst he
    exact hs.new _ _ _ _ _ hb
   ·exact hs.new b' n' cl t' l' e
  ·rw [hputC_length]; exact hs.len b' c' e
  ·rw [hputC_length]; exact hs.leno b' n' x e
 ·rw [h0]
  have hxl := (hs.len _ _ h0).2
  simp only [hg]
  have hgp : ∀ y, hget (hput h x (.arr g t.wd (llen (l.map t.enc)) (l.map t.enc))) y = if y = x then some (.arr g t.wd (llen (l.map t.enc)) (l.map t.enc)) else hget h y := fun y => hget_hput _ _ _ _ (Nat.le_of_lt hxl)
  refine ⟨fun b' cv e => ?_, fun b' n' cl t' l' e => ?_, fun b1 b2 c' e1 e2 q1 q2 => ?_, fun b' n' cl t' l' e => ?_, fun b' c' e => ?_, fun b' n' x e => ?_⟩
  ·rw [hl] at e
   split at e
   ·cases e
   ·rename_i hne
    obtain ⟨c', v', q1, q2, q3⟩ := hs.cell b' cv e
    refine ⟨c', v', q1, ?_, q3⟩
    rw [hgp, if_neg (by intro q; subst q; exact hne (hs.inj b' b _ (by rw [e]; simp) (by rw [hb]; simp) q1 h0))]
    exact q2
  ·rw [hl] at e
   split at e
   ·rename_i he
    cases e
    subst he
    exact ⟨_, h1, .inr ⟨x, g, _, h0, rfl, by rw [hgp, if_pos rfl], (fun q => by cases q), by simp⟩⟩
   ·rename_i hne
    obtain ⟨u', r1, r2⟩ := hs.arr b' n' cl t' l' e
    refine ⟨u', r1, r2.imp id fun ⟨y, g', ro', a1, a2, a3, a4⟩ => ⟨y, g', ro', a1, a2, ?_, a4⟩⟩
    rw [hgp, if_neg (by intro q; subst q; exact hne (hs.inj b' b _ (by rw [e]; simp) (by rw [hb]; simp) a1 h0))]
    exact a3
  ·refine hs.inj b1 b2 c' (fun q => e1 ?_) (fun q => e2 ?_) q1 q2
   ·rw [hl, if_neg (by intro q'; subst q'; rw [hb] at q; cases q)]; exact q
   ·rw [hl, if_neg (by intro q'; subst q'; rw [hb] at q; cases q)]; exact q
  ·rw [hl] at e
   split at e
   ·rename_i he
    cases e
    subst he
    exact hs.new _ _ _ _ _ hb
   ·exact hs.new b' n' cl t' l' e
  ·rw [hputC_length, hput_len, if_pos hxl]; exact hs.len b' c' e
  ·rw [hputC_length]; exact hs.leno b' n' x e
theorem close_cons' (b : Nat) (bs : List Nat) (h : Heap) : Go.As.close h (b :: bs) = Go.As.close (match hget h b with | some (.arr g s _ l) => hput h b (.arr g s (llen l) l) | _ => h) bs := by
 show (match hget h b with | some (.arr g s _ l) => Go.As.close (hput h b (.arr g s (llen l) l)) bs | _ => Go.As.close h bs) = _
 split <;> simp_all
theorem closeC_cons (b : Nat) (bs : List Nat) (ch : CH) : closeC ch (b :: bs) = closeC (match hgetC ch b with | some (.arr v _ t l) => hputC ch b (.arr v true t l) | _ => ch) bs := by
 show (match hgetC ch b with | some (.arr v _ t l) => closeC (hputC ch b (.arr v true t l)) bs | _ => closeC ch bs) = _
 split <;> simp_all
theorem HS.allArr (hs : HS M ch h) : ∀ (bs : List Nat), (∀ b ∈ bs, ∃ n c t l, hgetC ch b = some (.arr n c t l)) → Go.As.allArr h (bs.filterMap M.b) = true
 | [], _ => rfl
 | b :: bs, hb => by
  obtain ⟨n, c, t, l, hg⟩ := hb b (List.mem_cons_self ..)
  have ih := HS.allArr hs bs fun b' h' => hb b' (List.mem_cons_of_mem _ h')
  obtain ⟨u, h1, h2⟩ := hs.arr b n c t l hg
  rcases h2 with ⟨_, _, h0⟩ | ⟨x, g, ro, h0, _, hx, _⟩
  ·rw [List.filterMap_cons_none h0]; exact ih
  ·rw [List.filterMap_cons_some h0]
   show (match hget h x with | some (.arr ..) => Go.As.allArr h (bs.filterMap M.b) | _ => false) = true
   rw [hx]; exact ih
theorem HS.close {wb : Nat → Bool} : ∀ (bs : List Nat) {ch : CH} {h : Heap}, HS M ch h → (∀ b ∈ bs, ∃ n c t l, hgetC ch b = some (.arr n c t l) ∧ (c = true ∨ wb b = true)) →
  HS M (closeC ch bs) (Go.As.close h (bs.filterMap M.b)) ∧ (closeC ch bs).length = ch.length ∧ (Go.As.close h (bs.filterMap M.b)).length = h.length ∧ (∀ b, wb b = false → hgetC (closeC ch bs) b = hgetC ch b) ∧ (∀ c, c < h.length → (∀ b, M.b b ≠ some c) → hget (Go.As.close h (bs.filterMap M.b)) c = hget h c)
 | [], ch, h, hs, _ => ⟨hs, rfl, rfl, fun _ _ => rfl, fun _ _ _ => rfl⟩
 | b :: bs, ch, h, hs, hb => by
  obtain ⟨n, c, t, l, hg, hcw⟩ := hb b (List.mem_cons_self ..)
  have h1 := hs.close1 hg
  have hlt := hgetC_lt hg
  rw [closeC_cons]
  simp only [hg]
  have hp : ∀ i, hgetC (hputC ch b (.arr n true t l)) i = if i = b then some (.arr n true t l) else hgetC ch i := fun i => hgetC_put ch _ b i hlt
  have hb' : ∀ b' ∈ bs, ∃ n' c' t' l', hgetC (hputC ch b (.arr n true t l)) b' = some (.arr n' c' t' l') ∧ (c' = true ∨ wb b' = true) := fun b' h' => by
   rw [hp]
   split
   ·exact ⟨n, true, t, l, rfl, .inl rfl⟩
   ·exact hb b' (List.mem_cons_of_mem _ h')
  have hkeep : ∀ i, wb i = false → hgetC (hputC ch b (.arr n true t l)) i = hgetC ch i := fun i hi => by
   rw [hp]
   split
   ·rename_i he
    subst he
    rcases hcw with rfl | hw
    ·exact hg.symm
    ·rw [hw] at hi; cases hi
   ·rfl
  obtain ⟨u, q1, q2⟩ := hs.arr b n c t l hg
  rcases q2 with ⟨_, _, h0⟩ | ⟨x, g, ro, h0, _, hx, _⟩
  ·rw [h0] at h1
   obtain ⟨r1, r2, r3, r4, r5⟩ := HS.close bs h1 hb'
   rw [List.filterMap_cons_none h0]
   exact ⟨r1, r2.trans (hputC_length ..), r3, fun i hi => (r4 i hi).trans (hkeep i hi), r5⟩
  ·rw [h0] at h1
   simp only [hx] at h1
   obtain ⟨r1, r2, r3, r4, r5⟩ := HS.close bs h1 hb'
   rw [List.filterMap_cons_some h0, close_cons']
   simp only [hx]
   exact ⟨r1, r2.trans (hputC_length ..), r3.trans (by rw [hput_len, if_pos (hs.len _ _ h0).2]), fun i hi => (r4 i hi).trans (hkeep i hi),
    fun y hy hn => (r5 y (by rw [hput_len, if_pos (hs.len _ _ h0).2]; exact hy) hn).trans (out_put h0 (hs.len _ _ h0).2 y hy hn)⟩
theorem owns_arr (t : Ty) : (∀ (cv : CV) (x : t.den), CV.dt ch t cv = some x → ∀ b ∈ cv.ownsC, ∃ n c u l, hgetC ch b = some (.arr n c u l)) ∧
  (∀ (vs : List CV) (x : t.den), CV.dts ch t vs = some x → ∀ b ∈ CV.ownsCs vs, ∃ n c u l, hgetC ch b = some (.arr n c u l)) := by
 have sy : ∀ (u : Ty) (y : u.den), ∀ b ∈ (CV.sy u y).ownsC, ∃ n c u l, hgetC ch b = some (.arr n c u l) := fun u y b hb => by simp [CV.ownsC] at hb
 induction t with
 | bool => exact ⟨fun cv x e => (by cases cv <;> first | (exact sy _ _) | cases e), fun vs x e => (by cases vs <;> cases e)⟩
 | int k => exact ⟨fun cv x e => (by cases cv <;> first | (exact sy _ _) | cases e), fun vs x e => (by cases vs <;> cases e)⟩
 | str => exact ⟨fun cv x e => (by cases cv <;> first | (exact sy _ _) | cases e), fun vs x e => (by cases vs <;> cases e)⟩
 | slc t _ =>
  refine ⟨fun cv x e => ?_, fun vs x e => (by cases vs <;> cases e)⟩
  cases cv with
  | sy u y => exact sy _ _
  | nsl => intro b hb; simp [CV.ownsC] at hb
  | own b n =>
   have e : (match hgetC ch b with
    | some (.arr v' _ u l) => bif Nat.beq n v' then Ty.cs (.slc u) (.slc t) l else none
    | _ => none) = some x := e
   split at e
   ·rename_i v' c u l hb
    intro b' hb'
    simp [CV.ownsC] at hb'
    subst hb'
    exact ⟨_, _, _, _, hb⟩
   ·cases e
  | ful u l => intro b hb; simp [CV.ownsC] at hb
  | win b n o m lim =>
   have e : (match hgetC ch b with
    | some (.arr v' _ u l) => bif Nat.beq n v' then Ty.cs (.slc u) (.slc t) (cutW o m l) else none
    | _ => none) = some x := e
   split at e
   ·rename_i v' c u l hb
    intro b' hb'
    simp [CV.ownsC] at hb'
    subst hb'
    exact ⟨_, _, _, _, hb⟩
   ·cases e
  | _ => cases e
 | st w l ih =>
  refine ⟨fun cv x e => ?_, fun vs x e => (by cases vs <;> cases e)⟩
  cases cv with
  | sy u y => exact sy _ _
  | agg w' vs =>
   have e2 : (bif Nat.beq w w' then CV.dts ch l vs else none) = some x := e
   cases hw : Nat.beq w w' with
   | false => rw [hw, cond_false] at e2; cases e2
   | true =>
    rw [hw, cond_true] at e2
    simpa [CV.ownsC] using ih.2 vs x e2
  | _ => cases e
 | tup l ih =>
  refine ⟨fun cv x e => ?_, fun vs x e => (by cases vs <;> cases e)⟩
  cases cv with
  | sy u y => exact sy _ _
  | tup vs =>
   have e2 : CV.dts ch l vs = some x := e
   simpa [CV.ownsC] using ih.2 vs x e2
  | _ => cases e
 | nl =>
  refine ⟨fun cv x e => (by cases cv <;> first | (exact sy _ _) | cases e), fun vs x e => ?_⟩
  cases vs with
  | nil => intro b hb; simp [CV.ownsCs] at hb
  | cons _ _ => cases e
 | cn t l iht ihl =>
  refine ⟨fun cv x e => (by cases cv <;> first | (exact sy _ _) | cases e), fun vs x e => ?_⟩
  cases vs with
  | nil => cases e
  | cons v vs =>
   have e2 : (match CV.dt ch t v, CV.dts ch l vs with
    | some x, some y => some (x, y)
    | _, _ => none) = some x := e
   split at e2
   ·rename_i y z h1 h2
    intro b hb
    simp only [CV.ownsCs, List.mem_append] at hb
    rcases hb with hb | hb
    ·exact iht.1 v y h1 b hb
    ·exact ihl.2 vs z h2 b hb
   ·cases e2
end Go.As
/-
 AS: the operations of the typed evaluator are those of the plain one.
-/
namespace Go.As
variable [Gh]
variable {ρ : Type} {wb : Nat → Bool} {M : Mu} {ch : CH} {h : Heap} {k : KC ρ} {r : ρ} {E : Env}
mutual
theorem ofV_rel : ∀ v : V, VR M (ofV v) v
 | .im d => (ofD_rel d).1
 | .full [] => by simp [ofV, VR]
 | .full (_ :: _) => by simp [ofV, VR]
 | .agg w l => by
  rw [ofV]
  cases hn : noU (ofVs l) && (allIm l).isNone with
  | false => exact trivial
  | true =>
   rw [Bool.and_eq_true] at hn
   rw [cond_true]
   have he : V.agg w l = mkAgg w l := by
    unfold mkAgg
    cases ha : allIm l with
    | none => rfl
    | some ds => rw [ha] at hn; cases hn.2
   rw [he]
   exact VR.mkA (ofVs_rel l) hn.1
 | .fn f a c => by
  cases a with
  | nil => cases c with
   | nil => simp [ofV, VR, VRs]
   | cons _ _ => simp [ofV, VR]
  | cons _ _ => cases c <;> simp [ofV, VR]
 | .undef | .tup _ | .own _ _ _ _ _ | .ptr _ _ _ | .ifc _ _ | .mp _ | .yld _ => by simp [ofV, VR]
theorem ofVs_rel : ∀ l : List V, VRs M (ofVs l) l
 | [] => by simp [ofVs, VRs]
 | v :: l => by
  simp only [ofVs, VRs]
  exact ⟨v, l, rfl, ofV_rel v, ofVs_rel l⟩
end
theorem cnst_rel (v : Value) : VR M (cnst v) (Option.rec V.undef (fun x => x) (ofVal v)) := by
 unfold cnst
 cases ofVal v with
 | none => exact trivial
 | some x => exact ofV_rel x
theorem vC_rel {tc : TC} {t : Tm} (ht : TR2 M tc t) (o : Operand) : VR M (vC tc o) (ev t o) := by
 cases o with
 | tmp n => exact ht.get n
 | const v => exact cnst_rel v
 | func f => exact ⟨[], [], rfl, rfl, rfl⟩
 | global g => exact trivial
theorem vCs_rel {tc : TC} {t : Tm} (ht : TR2 M tc t) (l : Array Operand) : VRs M (vCs tc l) (evs t l) := by
 unfold vCs evs
 induction l.toList with
 | nil => exact rfl
 | cons o l ih => exact ⟨_, _, rfl, vC_rel ht o, ih⟩
theorem evPC_rel {tc : TC} {t : Tm} (ht : TR2 M tc t) (ps : Array (Nat × Operand)) : ∃ l, evP (ev t) ps = l ∧ l.map Prod.fst = (evPC (vC tc) ps).map Prod.fst ∧ VRs M ((evPC (vC tc) ps).map Prod.snd) (l.map Prod.snd) := by
 refine ⟨_, rfl, ?_⟩
 unfold evP evPC
 induction ps.toList with
 | nil => exact ⟨rfl, rfl⟩
 | cons p l ih => exact ⟨congrArg _ ih.1, _, _, rfl, vC_rel ht p.2, ih.2⟩
theorem VR.nav' {p : List (Nat × Nat)} {v c : CV} {u : V} (h : VR M v u) (e : v.nav p = some c) : ∃ x, u.nav p = some x ∧ VR M c x := by
 cases p with
 | nil => cases e; exact ⟨u, rfl, h⟩
 | cons s p =>
  have e' : (CV.kid v s.1 s.2).bind (fun v => CV.nav v p) = some c := e
  obtain ⟨y, h1, h2⟩ := Option.bind_eq_some_iff.1 e'
  obtain ⟨x, q1, q2, q3⟩ := h.kid h1
  obtain ⟨z, r1, r2, _⟩ := VR.nav q2 h2 q3
  refine ⟨z, ?_, r2⟩
  show (V.kid u s.1 s.2).bind (fun v => V.nav v p) = some z
  rw [q1, Option.bind_some]; exact r1
theorem pick_s (hs : HS M ch h) {c a b : CV} {c' a' b' : V} (hc : VR M c c') (ha : VR M a a') (hb : VR M b b') (e : pickC c a b ch k = some r) : OS wb M ch h (sPick h c' a' b') k r := by
 unfold pickC at e
 split at e
 ·rename_i t
  simp only [VR, Ty.enc] at hc
  subst hc
  have plain : (bif t then k a ch else k b ch) = some r → OS wb M ch h (sPick h (.im (.bool t)) a' b') k r := fun e => by
   cases t with
   | true => exact OS.plain hs ha e
   | false => exact OS.plain hs hb e
  split at e
  ·rename_i u x u' y
   cases hcs : Ty.cs u' u y with
   | none => rw [hcs] at e; exact plain e
   | some y' =>
    rw [hcs] at e
    obtain ⟨rfl, hy, _⟩ := cs_enc hcs
    have e : k (.sy u' (bif t then x else y')) ch = some r := e
    cases t with
    | true => exact OS.plain hs ha e
    | false =>
     refine OS.plain hs ?_ e
     simp only [VR] at hb ⊢
     rw [hb, cond_false, hy]
  ·exact plain e
 ·cases e
theorem alloc_s (hs : HS M ch h) {t : Nat} (e : allocC E t ch k = some r) : OS wb M ch h (sAlloc E h.length h t) k r := by
 unfold allocC at e
 obtain ⟨ti, ht, e⟩ := Option.bind_eq_some_iff.1 e
 cases hb : okV ti ti.zero && not (Nat.beq t E.bty.1) with
 | false => rw [hb, cond_false] at e; cases e
 | true =>
  rw [hb, cond_true] at e
  rw [Bool.and_eq_true] at hb
  have e : k (.ptr (llen ch) []) (ch ++ [some (.cell (ofV ti.zero))]) = some r := e
  rw [llen_eq] at e
  obtain ⟨hle, hs'⟩ := hs.newCell (ofV_rel ti.zero)
  refine ⟨.ptr h.length 0 [], _, .ptr ch.length [], _, ⟨fun i => if i = ch.length then some h.length else M.b i, M.o⟩, ?_, (show ∃ c, (if ch.length = ch.length then some h.length else M.b ch.length) = some c ∧ V.ptr h.length 0 [] = .ptr c 0 [] from ⟨h.length, if_pos rfl, rfl⟩), hs', ⟨hle, by simp, by rw [hput_len]; split <;> omega, fun b hb _ => by rw [hgetC_app, if_neg (by omega)], nb_new, out_new⟩, e⟩
  unfold sAlloc
  rw [ht, Option.bind_some, hb.1, cond_true]
  have : Nat.beq t E.bty.1 = false := by simpa using hb.2
  rw [this, cond_false]
theorem box_s (hs : HS M ch h) {t : Nat} {x : CV} {x' : V} (hx : VR M x x') (e : boxC E t x ch k = some r) : OS wb M ch h (sBox E h.length h t x') k r := by
 unfold boxC at e
 obtain ⟨ti, ht, e⟩ := Option.bind_eq_some_iff.1 e
 cases hb : okC ti x with
 | false => rw [hb, cond_false] at e; cases e
 | true =>
  rw [hb, cond_true] at e
  have e : k (.ptr (llen ch) []) (ch ++ [some (.cell x)]) = some r := e
  rw [llen_eq] at e
  obtain ⟨hle, hs'⟩ := hs.newCell hx
  refine ⟨.ptr h.length 0 [], _, .ptr ch.length [], _, ⟨fun i => if i = ch.length then some h.length else M.b i, M.o⟩, ?_, (show ∃ c, (if ch.length = ch.length then some h.length else M.b ch.length) = some c ∧ V.ptr h.length 0 [] = .ptr c 0 [] from ⟨h.length, if_pos rfl, rfl⟩), hs', ⟨hle, by simp, by rw [hput_len]; split <;> omega, fun b hb _ => by rw [hgetC_app, if_neg (by omega)], nb_new, out_new⟩, e⟩
  unfold sBox
  rw [ht, Option.bind_some, (okC_rel hx hb).1, cond_true]
theorem load_s (hs : HS M ch h) {t : Nat} {a : CV} {a' : V} (ha : VR M a a') (e : loadC E t a ch k = some r) : OS wb M ch h (sLoad E h t a') k r := by
 unfold loadC at e
 obtain ⟨ti, ht, e⟩ := Option.bind_eq_some_iff.1 e
 unfold sLoad
 rw [ht, Option.bind_some]
 cases a with
 | ptr b p =>
  simp only [VR] at ha
  obtain ⟨c, hc, rfl⟩ := ha
  have e : (match hgetC ch b with | some (.cell v) => (v.nav p).bind fun v => bif okC ti v then k v ch else none | _ => none) = some r := e
  split at e
  ·rename_i v hb
   obtain ⟨c', v', h1, h2, h3⟩ := hs.cell b v hb
   rw [hc] at h1
   cases h1
   obtain ⟨y, hy, e⟩ := Option.bind_eq_some_iff.1 e
   obtain ⟨z, hz, hr⟩ := h3.nav' hy
   cases ho : okC ti y with
   | false => rw [ho, cond_false] at e; cases e
   | true =>
    rw [ho, cond_true] at e
    have : (loadV h c 0 p).bind (fun v => bif okV ti v then some (v, h) else none) = (some (z, h) : R) := by
     unfold loadV
     rw [h2]
     show ((v'.nav p).bind _ : R) = _
     rw [hz, Option.bind_some, (okC_rel hr ho).1, cond_true]
    show OS wb M ch h ((loadV h c 0 p).bind fun v => bif okV ti v then some (v, h) else none) k r
    rw [this]
    exact OS.plain hs hr e
  ·cases e
 | rf u x =>
  simp only [VR] at ha
  subst ha
  have e : (bif okC ti (.sy u x) then k (.sy u x) ch else none) = some r := e
  cases ho : okC ti (.sy u x) with
  | false => rw [ho, cond_false] at e; cases e
  | true =>
   rw [ho, cond_true] at e
   have hv : VR M (.sy u x) (.im (u.enc x)) := rfl
   show OS wb M ch h (bif okV ti (.im (u.enc x)) then some (.im (u.enc x), h) else none) k r
   rw [(okC_rel hv ho).1, cond_true]
   exact OS.plain hs hv e
 | el b n i p =>
  simp only [VR] at ha
  obtain ⟨c, g, m, s, ho, rfl⟩ := ha
  have e : (match hgetC ch b with
   | some (.arr v' _ u l) => bif Nat.beq n v' then (l[i]?).bind fun x => (CV.nav (.sy u x) p).bind fun y => bif okC ti y then k y ch else none else none
   | _ => none) = some r := e
  split at e
  ·rename_i n' cl u l hb
   cases hn : Nat.beq n n' with
   | false => rw [hn, cond_false] at e; cases e
   | true =>
    rw [hn, cond_true] at e
    have := Nat.eq_of_beq_eq_true hn
    subst this
    obtain ⟨u0, q1, q2⟩ := hs.arr b n cl u l hb
    rw [ho] at q1
    cases q1
    rcases q2 with ⟨q, _⟩ | ⟨c', g', ro, q1, q2, q3, _⟩
    ·cases q
    ·cases q2
     obtain ⟨x, hx, e⟩ := Option.bind_eq_some_iff.1 e
     obtain ⟨y, hy, e⟩ := Option.bind_eq_some_iff.1 e
     have hv : VR M (.sy u x) (.im (u.enc x)) := rfl
     obtain ⟨z, hz, hr⟩ := hv.nav' hy
     cases hk : okC ti y with
     | false => rw [hk, cond_false] at e; cases e
     | true =>
      rw [hk, cond_true] at e
      have : loadV h c g ((i, i * u.wd) :: p) = some z := by
       unfold loadV
       rw [q3]
       show (bif Nat.beq g g && Nat.beq (i * u.wd) (i * u.wd) then (lget (l.map u.enc) i).bind fun d => (V.im d).nav p else none) = _
       rw [Nat.beq_refl, Nat.beq_refl, lget_eq, List.getElem?_map, hx]
       exact hz
      show OS wb M ch h ((loadV h c g ((i, i * u.wd) :: p)).bind fun v => bif okV ti v then some (v, h) else none) k r
      rw [this, Option.bind_some, (okC_rel hr hk).1, cond_true]
      exact OS.plain hs hr e
  ·cases e
 | _ => cases e
theorem HS.putCell (hs : HS M ch h) {b c : Nat} {v0 cv : CV} {v : V} (hb : hgetC ch b = some (.cell v0)) (hc : M.b b = some c) (hv : VR M cv v) : HS M (hputC ch b (.cell cv)) (hput h c (.cell v)) := by
 have hlt := hgetC_lt hb
 have hcl := (hs.len _ _ hc).2
 have hl : ∀ i, hgetC (hputC ch b (.cell cv)) i = if i = b then some (.cell cv) else hgetC ch i := fun i => hgetC_put ch _ b i hlt
 have hg : ∀ y, hget (hput h c (.cell v)) y = if y = c then some (.cell v) else hget h y := fun y => hget_hput _ _ _ _ (Nat.le_of_lt hcl)
 have hd : ∀ b' x, hgetC ch b' = some x → b' ≠ b → M.b b' ≠ some c := fun b' x e hne q => hne (hs.inj b' b c (by rw [e]; simp) (by rw [hb]; simp) q hc)
 refine ⟨fun b' w e => ?_, fun b' n cl t l e => ?_, fun b1 b2 c' e1 e2 q1 q2 => ?_, fun b' n cl t l e => ?_, fun b' c' e => ?_, fun b' n x e => ?_⟩
 ·rw [hl] at e
  split at e
  ·rename_i he
   cases e
   subst he
   exact ⟨c, v, hc, by rw [hg, if_pos rfl], hv⟩
  ·rename_i hne
   obtain ⟨c', v', q1, q2, q3⟩ := hs.cell b' w e
   exact ⟨c', v', q1, by rw [hg, if_neg (by intro q; subst q; exact hd b' _ e hne q1)]; exact q2, q3⟩
 ·rw [hl] at e
  split at e
  ·cases e
  ·rename_i hne
   obtain ⟨u, q1, q2⟩ := hs.arr b' n cl t l e
   exact ⟨u, q1, q2.imp id fun ⟨y, g, ro, a1, a2, a3, a4⟩ => ⟨y, g, ro, a1, a2, by rw [hg, if_neg (by intro q; subst q; exact hd b' _ e hne a1)]; exact a3, a4⟩⟩
 ·refine hs.inj b1 b2 c' (fun q => e1 ?_) (fun q => e2 ?_) q1 q2
  ·rw [hl, if_neg (by intro q'; subst q'; rw [hb] at q; cases q)]; exact q
  ·rw [hl, if_neg (by intro q'; subst q'; rw [hb] at q; cases q)]; exact q
 ·rw [hl] at e
  split at e
  ·cases e
  ·exact hs.new b' n cl t l e
 ·rw [hputC_length, hput_len, if_pos hcl]; exact hs.len b' c' e
 ·rw [hputC_length]; exact hs.leno b' n x e
theorem HS.putArr (hs : HS M ch h) {b n : Nat} {c : Bool} {t : Ty} {l l' : List t.den} (hb : hgetC ch b = some (.arr n c t l)) (hl' : l'.length = l.length) {x g ro : Nat} (hx : M.b b = some x) (ho : M.o b n = some (.own x g 0 l.length false, t.wd))
  (hro : c = false → ro = 0) (hro' : ro ≤ l.length) : HS M (hputC ch b (.arr n c t l')) (hput h x (.arr g t.wd ro (l'.map t.enc))) := by
 have hlt := hgetC_lt hb
 have hcl := (hs.len _ _ hx).2
 have hl : ∀ i, hgetC (hputC ch b (.arr n c t l')) i = if i = b then some (.arr n c t l') else hgetC ch i := fun i => hgetC_put ch _ b i hlt
 have hg : ∀ y, hget (hput h x (.arr g t.wd ro (l'.map t.enc))) y = if y = x then some (.arr g t.wd ro (l'.map t.enc)) else hget h y := fun y => hget_hput _ _ _ _ (Nat.le_of_lt hcl)
 have hd : ∀ b' y, hgetC ch b' = some y → b' ≠ b → M.b b' ≠ some x := fun b' y e hne q => hne (hs.inj b' b x (by rw [e]; simp) (by rw [hb]; simp) q hx)
 refine ⟨fun b' w e => ?_, fun b' n' cl t' l0 e => ?_, fun b1 b2 c' e1 e2 q1 q2 => ?_, fun b' n' cl t' l0 e => ?_, fun b' c' e => ?_, fun b' n' x e => ?_⟩
 ·rw [hl] at e
  split at e
  ·cases e
  ·rename_i hne
   obtain ⟨c', v', q1, q2, q3⟩ := hs.cell b' w e
   exact ⟨c', v', q1, by rw [hg, if_neg (by intro q; subst q; exact hd b' _ e hne q1)]; exact q2, q3⟩
 ·rw [hl] at e
  split at e
  ·rename_i he
   cases e
   subst he
   exact ⟨_, ho, .inr ⟨x, g, ro, hx, by rw [hl'], by rw [hg, if_pos rfl], hro, by rw [hl']; exact hro'⟩⟩
  ·rename_i hne
   obtain ⟨u, q1, q2⟩ := hs.arr b' n' cl t' l0 e
   exact ⟨u, q1, q2.imp id fun ⟨y, g, ro, a1, a2, a3, a4⟩ => ⟨y, g, ro, a1, a2, by rw [hg, if_neg (by intro q; subst q; exact hd b' _ e hne a1)]; exact a3, a4⟩⟩
 ·refine hs.inj b1 b2 c' (fun q => e1 ?_) (fun q => e2 ?_) q1 q2
  ·rw [hl, if_neg (by intro q'; subst q'; rw [hb] at q; cases q)]; exact q
  ·rw [hl, if_neg (by intro q'; subst q'; rw [hb] at q; cases q)]; exact q
 ·rw [hl] at e
  split at e
  ·rename_i he
   cases e
   subst he
   exact hs.new _ _ _ _ _ hb
  ·exact hs.new b' n' cl t' l0 e
 ·rw [hputC_length, hput_len, if_pos hcl]; exact hs.len b' c' e
 ·rw [hputC_length]; exact hs.leno b' n' x e
theorem dt_nil (t : Ty) : (∀ (cv : CV) (x : t.den) (u : V), CV.dt [] t cv = some x → VR M cv u → u.dataR (ownElems h) = some (t.enc x) ∧ u.ownsR = []) ∧
  (∀ (vs : List CV) (x : t.den) (us : List V), CV.dts [] t vs = some x → VRs M vs us → V.dataRs (ownElems h) us = some (t.encL x) ∧ V.ownsRs us = []) := by
 have sy : ∀ (t u : Ty) (y : u.den) (x : t.den) (v : V), Ty.cs u t y = some x → VR M (.sy u y) v → v.dataR (ownElems h) = some (t.enc x) ∧ v.ownsR = [] := fun t u y x v e r => by
  obtain ⟨rfl, he, _⟩ := cs_enc e
  simp only [VR] at r
  subst r
  rw [he]; simp [V.dataR, V.ownsR]
 induction t with
 | bool => exact ⟨fun cv x v e r => (by cases cv <;> first | (exact sy _ _ _ _ _ e r) | cases e), fun vs x us e r => (by cases vs <;> cases e)⟩
 | int k => exact ⟨fun cv x v e r => (by cases cv <;> first | (exact sy _ _ _ _ _ e r) | cases e), fun vs x us e r => (by cases vs <;> cases e)⟩
 | str => exact ⟨fun cv x v e r => (by cases cv <;> first | (exact sy _ _ _ _ _ e r) | cases e), fun vs x us e r => (by cases vs <;> cases e)⟩
 | slc t _ =>
  refine ⟨fun cv x v e r => ?_, fun vs x us e r => (by cases vs <;> cases e)⟩
  cases cv with
  | sy u y => exact sy _ _ _ _ _ e r
  | nsl =>
   have e : (some [] : Option (List t.den)) = some x := e
   cases e
   simp only [VR] at r
   subst r
   simp [V.dataR, Ty.enc, V.ownsR]
  | own b n => cases e
  | ful u l =>
   have e : Ty.cs (.slc u) (.slc t) l = some x := e
   obtain ⟨he1, he, _⟩ := cs_enc e
   cases he1
   simp only [VR] at r
   subst r
   rw [he]; simp [V.dataR, Ty.enc, V.ownsR]
  | _ => cases e
 | st w l ih =>
  refine ⟨fun cv x v e r => ?_, fun vs x us e r => (by cases vs <;> cases e)⟩
  cases cv with
  | sy u y => exact sy _ _ _ _ _ e r
  | agg w' vs =>
   have e2 : (bif Nat.beq w w' then CV.dts [] l vs else none) = some x := e
   cases hw : Nat.beq w w' with
   | false => rw [hw, cond_false] at e2; cases e2
   | true =>
    rw [hw, cond_true] at e2
    have := Nat.eq_of_beq_eq_true hw
    subst this
    simp only [VR] at r
    obtain ⟨us, rfl, r, _⟩ := r
    rw [dataR_mkAgg, (ih.2 vs x us e2 r).1, ← owns_R, (ownsR_mk us).1]
    exact ⟨by simp [Ty.enc], (ih.2 vs x us e2 r).2⟩
  | _ => cases e
 | tup l ih =>
  refine ⟨fun cv x v e r => ?_, fun vs x us e r => (by cases vs <;> cases e)⟩
  cases cv with
  | sy u y => exact sy _ _ _ _ _ e r
  | tup vs =>
   have e2 : CV.dts [] l vs = some x := e
   simp only [VR] at r
   obtain ⟨us, rfl, r⟩ := r
   rw [dataR_mkTup, (ih.2 vs x us e2 r).1, ← owns_R, (ownsR_mk us).2]
   exact ⟨by simp [Ty.enc], (ih.2 vs x us e2 r).2⟩
  | _ => cases e
 | nl =>
  refine ⟨fun cv x v e r => (by cases cv <;> first | (exact sy _ _ _ _ _ e r) | cases e), fun vs x us e r => ?_⟩
  cases vs with
  | nil =>
   simp only [VRs] at r
   subst r
   simp [V.dataRs, Ty.encL, V.ownsRs]
  | cons _ _ => cases e
 | cn t l iht ihl =>
  refine ⟨fun cv x v e r => (by cases cv <;> first | (exact sy _ _ _ _ _ e r) | cases e), fun vs x us e r => ?_⟩
  cases vs with
  | nil => cases e
  | cons v vs =>
   have e2 : (match CV.dt [] t v, CV.dts [] l vs with
    | some x, some y => some (x, y)
    | _, _ => none) = some x := e
   split at e2
   ·rename_i y z h1 h2
    cases e2
    simp only [VRs] at r
    obtain ⟨u, r', rfl, q1, q2⟩ := r
    simp [V.dataRs, V.ownsRs, iht.1 v y u h1 q1, ihl.2 vs z r' h2 q2, Ty.encL]
   ·cases e2
theorem putT_rel {t : Ty} {x : CV} {x' : V} {p : List (Nat × Nat)} {y z : t.den} (hx : VR M x x') (hn : isU x = false) (e : putT t x p y = some z) :
  ∃ dx, x'.data h = some dx ∧ x'.owns = [] ∧ V.put (.im dx) p (.im (t.enc y)) = some (.im (t.enc z)) := by
 cases p with
 | nil =>
  have e : (bif Nat.beq x.wd t.wd then CV.dt [] t x else none) = some z := e
  cases hb : Nat.beq x.wd t.wd with
  | false => rw [hb, cond_false] at e; cases e
  | true =>
   rw [hb, cond_true] at e
   obtain ⟨h1, h2⟩ := (dt_nil (M := M) (h := h) t).1 x z x' e hx
   refine ⟨t.enc z, by rw [data_R]; exact h1, by rw [owns_R]; exact h2, ?_⟩
   show (bif Nat.beq (t.enc z).wd (t.enc y).wd then some (V.im (t.enc z)) else none) = _
   rw [enc_wd, enc_wd, Nat.beq_refl, cond_true]
 | cons q p =>
  unfold putT at e
  split at e
  ·rename_i hq; cases hq
  ·rename_i q' p' hq
   cases hq
   split at e
   ·rename_i u w
    split at e
    ·rename_i t' y' hp
     simp only [VR] at hx
     subst hx
     have hy : VR M (.sy t y) (.im (t.enc y)) := rfl
     obtain ⟨v, h1, h2, _⟩ := VR.put (show VR M (.sy u w) (.im (u.enc w)) from rfl) rfl hy hp
     obtain ⟨rfl, hz, _⟩ := cs_enc e
     simp only [VR] at h2
     exact ⟨_, rfl, rfl, by rw [h1, h2, hz]⟩
    ·cases e
   ·cases e
theorem store_s (hs : HS M ch h) {t : Nat} {a x : CV} {a' x' : V} (ha : VR M a a') (hx : VR M x x') (e : storeC E wb t a x ch k = some r) : OS wb M ch h (sStore E h t a' x') k r := by
 unfold storeC at e
 obtain ⟨ti, ht, e⟩ := Option.bind_eq_some_iff.1 e
 unfold sStore
 rw [ht, Option.bind_some]
 cases ho : okC ti x with
 | false => rw [ho, cond_false] at e; cases e
 | true =>
 rw [ho, cond_true] at e
 obtain ⟨hov, hxn⟩ := okC_rel hx ho
 cases a with
 | ptr b p =>
  simp only [VR] at ha
  obtain ⟨c, hc, rfl⟩ := ha
  have e : (bif wb b then (match hgetC ch b with
   | some (.cell v) => (x.put p v).bind fun v' => k .undef (hputC ch b (.cell v'))
   | _ => none) else none) = some r := e
  cases hw : wb b with
  | false => rw [hw, cond_false] at e; cases e
  | true =>
   rw [hw, cond_true] at e
   split at e
   ·rename_i v hb
    obtain ⟨c', v', h1, h2, h3⟩ := hs.cell b v hb
    rw [hc] at h1
    cases h1
    obtain ⟨y, hy, e⟩ := Option.bind_eq_some_iff.1 e
    obtain ⟨z, hz, hr, _⟩ := VR.put hx hxn h3 hy
    show OS wb M ch h (bif okV ti x' then (storeV h c 0 p x').map fun h' => (.undef, h') else none) k r
    rw [hov, cond_true]
    have : storeV h c 0 p x' = some (hput h c (.cell z)) := by
     unfold storeV
     rw [h2]
     show ((V.put x' p v').map fun v' => hput h c (.cell v')) = _
     rw [hz]; rfl
    rw [this]
    exact ⟨.undef, _, .undef, _, M, rfl, trivial, hs.putCell hb hc hr, ⟨.refl M, by rw [hputC_length]; exact Nat.le_refl _, by rw [hput_len]; split <;> omega, fun i _ hi => by
     rw [hgetC_put _ _ _ _ (hgetC_lt hb), if_neg (by intro q; subst q; rw [hw] at hi; cases hi)], nb_same, out_put hc (hs.len _ _ hc).2⟩, e⟩
   ·cases e
 | el b n i p =>
  simp only [VR] at ha
  obtain ⟨c, g, m, s, hoo, rfl⟩ := ha
  have e : (bif wb b then (match hgetC ch b with
   | some (.arr v' false u l) => bif Nat.beq n v' then (l[i]?).bind fun y => (putT u x p y).bind fun y' => k .undef (hputC ch b (.arr v' false u (l.set i y'))) else none
   | _ => none) else none) = some r := e
  cases hw : wb b with
  | false => rw [hw, cond_false] at e; cases e
  | true =>
   rw [hw, cond_true] at e
   split at e
   ·rename_i n' u l hb
    cases hn : Nat.beq n n' with
    | false => rw [hn, cond_false] at e; cases e
    | true =>
     rw [hn, cond_true] at e
     have := Nat.eq_of_beq_eq_true hn
     subst this
     obtain ⟨u0, q1, q2⟩ := hs.arr b n false u l hb
     rw [hoo] at q1
     cases q1
     rcases q2 with ⟨q, _⟩ | ⟨c', g', ro, q1, q2, q3, q4, q5⟩
     ·cases q
     ·cases q2
      have := q4 rfl
      subst this
      obtain ⟨y, hy, e⟩ := Option.bind_eq_some_iff.1 e
      obtain ⟨y', hy', e⟩ := Option.bind_eq_some_iff.1 e
      obtain ⟨dx, r1, r2, r3⟩ := putT_rel (h := h) hx hxn hy'
      show OS wb M ch h (bif okV ti x' then (storeV h c g ((i, i * u.wd) :: p) x').map fun h' => (.undef, h') else none) k r
      rw [hov, cond_true]
      have : storeV h c g ((i, i * u.wd) :: p) x' = some (hput h c (.arr g u.wd 0 ((l.set i y').map u.enc))) := by
       unfold storeV
       rw [q3]
       show (bif Nat.beq g g && (Nat.beq (i * u.wd) (i * u.wd) && Nat.ble 0 i) then (lget (l.map u.enc) i).bind fun d => (x'.data h).bind fun dx => (V.put (.im dx) p (.im d)).bind fun v' => (match v' with
        | .im d' => bif Go.As.allArr h x'.owns && not (hasN x'.owns c) then some (hput (Go.As.close h x'.owns) c (.arr g u.wd 0 (lset (l.map u.enc) i d'))) else none
        | _ => none : Option Heap) else none) = _
       rw [Nat.beq_refl, Nat.beq_refl, lget_eq, List.getElem?_map, hy, Nat.ble_eq_true_of_le (Nat.zero_le i)]
       show ((x'.data h).bind fun dx => _ : Option Heap) = _
       rw [r1, Option.bind_some, r3, Option.bind_some, r2]
       show some (hput h c (.arr g u.wd 0 (lset (l.map u.enc) i (u.enc y')))) = _
       rw [lset_eq, List.map_set]
      rw [this]
      exact ⟨.undef, _, .undef, _, M, rfl, trivial, hs.putArr hb (by simp) q1 hoo (fun _ => rfl) (Nat.zero_le _), ⟨.refl M, by rw [hputC_length]; exact Nat.le_refl _, by rw [hput_len]; split <;> omega, fun j _ hi => by
       rw [hgetC_put _ _ _ _ (hgetC_lt hb), if_neg (by intro q; subst q; rw [hw] at hi; cases hi)], nb_same, out_put q1 (hs.len _ _ q1).2⟩, e⟩
   ·cases e
 | _ => cases e
end Go.As
