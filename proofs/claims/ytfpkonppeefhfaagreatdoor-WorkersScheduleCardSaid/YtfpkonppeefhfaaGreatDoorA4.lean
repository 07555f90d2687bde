/-
  AS: the slots; one operation that calls no function.
-/
import Derived.Test.YtfpkonppeefhfaaGreatDoorA3
import Derived.RecoverIn
set_option linter.unusedSectionVars false
set_option linter.unusedSimpArgs false
set_option linter.unusedVariables false
namespace Go.As
open Go.RowKit (Below)
variable [Gh]
theorem Tm.get_e (i : Nat) : Tm.get .e i = .undef := rfl
theorem Tm.get_n (v : V) (l r : Tm) (i : Nat) : Tm.get (.n v l r) i = if i = 0 then v else if i % 2 = 1 then l.get (i / 2) else r.get (i / 2 - 1) := by
 show (Bool.rec (Bool.rec (r.get (Nat.sub (Nat.div i 2) 1)) (l.get (Nat.div i 2)) (Nat.beq (Nat.mod i 2) 1)) v (Nat.beq i 0) : V) = _
 rw [nbeq i 0, nbeq (Nat.mod i 2) 1]
 by_cases h : i = 0
 ·simp [h]
 ·by_cases h2 : i % 2 = 1
  ·have : Nat.mod i 2 = 1 := h2
   simp [h, this, h2]; rfl
  ·have : ¬ Nat.mod i 2 = 1 := h2
   simp [h, this, h2]; rfl
theorem Tm.set_e (i : Nat) (x : V) : Tm.set .e i x = .e := rfl
theorem Tm.set_n (v : V) (l r : Tm) (i : Nat) (x : V) : Tm.set (.n v l r) i x = if i = 0 then .n x l r else if i % 2 = 1 then .n v (l.set (i / 2) x) r else .n v l (r.set (i / 2 - 1) x) := by
 show (Bool.rec (Bool.rec (Tm.n v l (r.set (Nat.sub (Nat.div i 2) 1) x)) (Tm.n v (l.set (Nat.div i 2) x) r) (Nat.beq (Nat.mod i 2) 1)) (Tm.n x l r) (Nat.beq i 0) : Tm) = _
 rw [nbeq i 0, nbeq (Nat.mod i 2) 1]
 by_cases h : i = 0
 ·simp [h]
 ·by_cases h2 : i % 2 = 1
  ·have : Nat.mod i 2 = 1 := h2
   simp [h, this, h2]; rfl
  ·have : ¬ Nat.mod i 2 = 1 := h2
   simp [h, this, h2]; rfl
theorem Tm.get_set_same (t : Tm) : ∀ (i : Nat) (x : V), (t.set i x).get i = x ∨ (t.set i x).get i = .undef := by
 induction t with
 | e => exact fun i x => .inr rfl
 | n v l r ihl ihr =>
  intro i x
  rw [Tm.set_n]
  by_cases h : i = 0
  ·simp [h, Tm.get_n]
  ·by_cases h2 : i % 2 = 1
   ·rw [if_neg h, if_pos h2, Tm.get_n, if_neg h, if_pos h2]; exact ihl _ _
   ·rw [if_neg h, if_neg h2, Tm.get_n, if_neg h, if_neg h2]; exact ihr _ _
theorem Tm.get_set_other (t : Tm) : ∀ (i j : Nat) (x : V), j ≠ i → (t.set i x).get j = t.get j := by
 induction t with
 | e => exact fun i j x _ => rfl
 | n v l r ihl ihr =>
  intro i j x hij
  rw [Tm.set_n]
  by_cases h : i = 0
  ·have hj : j ≠ 0 := by omega
   rw [if_pos h, Tm.get_n, Tm.get_n, if_neg hj, if_neg hj]
  ·by_cases h2 : i % 2 = 1
   ·rw [if_neg h, if_pos h2, Tm.get_n, Tm.get_n]
    by_cases hj : j = 0
    ·simp [hj]
    ·rw [if_neg hj, if_neg hj]
     by_cases hj2 : j % 2 = 1
     ·rw [if_pos hj2, if_pos hj2]; exact ihl _ _ _ (by omega)
     ·rw [if_neg hj2, if_neg hj2]
   ·rw [if_neg h, if_neg h2, Tm.get_n, Tm.get_n]
    by_cases hj : j = 0
    ·simp [hj]
    ·rw [if_neg hj, if_neg hj]
     by_cases hj2 : j % 2 = 1
     ·rw [if_pos hj2, if_pos hj2]
     ·rw [if_neg hj2, if_neg hj2]; exact ihr _ _ _ (by omega)
theorem Tm.get_mk (d i : Nat) : (Tm.mk d).get i = .undef := by
 induction d generalizing i with
 | zero => rfl
 | succ d ih =>
  show Tm.get (.n .undef (Tm.mk d) (Tm.mk d)) i = _
  rw [Tm.get_n]
  by_cases h : i = 0
  ·simp [h]
  ·by_cases h2 : i % 2 = 1 <;> simp [h, h2, ih]
def TR (X : Cx) (t : Tm) (tmps : Array Value) : Prop := ∀ i, VREL X (t.get i) true [tmps.getD i undef]
theorem TR.mono {n : Nat} {X Y : Cx} {t : Tm} {tmps : Array Value} (h : TR X t tmps) (hX : X.lt n) (hXY : X.le n Y) : TR Y t tmps := fun i => VREL.mono hXY _ _ _ (VREL.low hX _ _ _ (h i)) (h i)
theorem undefR (X : Cx) (x : Value) : VREL X .undef true [x] := by simp [VREL]
theorem TR.set {X : Cx} {t : Tm} {tmps : Array Value} (h : TR X t tmps) {d : Nat} (hd : d < tmps.size) {v : V} {x : Value} (r : VREL X v true [x]) : TR X (t.set d v) (tmps.setIfInBounds d x) := fun i => by
 by_cases hi : i = d
 ·subst hi
  have : (tmps.setIfInBounds i x).getD i undef = x := by
   rw [Array.getD_eq_getD_getElem?, Array.getElem?_setIfInBounds]; simp [hd]
  rw [this]
  rcases Tm.get_set_same t i v with e | e <;> rw [e]
  ·exact r
  ·exact undefR X x
 ·rw [Tm.get_set_other t d i v hi]
  have : (tmps.setIfInBounds d x).getD i undef = tmps.getD i undef := by
   rw [Array.getD_eq_getD_getElem?, Array.getD_eq_getD_getElem?, Array.getElem?_setIfInBounds, if_neg (Ne.symm hi)]
  rw [this]; exact h i
theorem TR.put {X : Cx} {t : Tm} {a : Act} (h : TR X t a.tmps) {dst : Option Nat} (hd : ∀ d, dst = some d → d < a.tmps.size) {v : V} {x : Value} (r : VREL X v true [x]) : TR X (putDst t dst v) (a.put dst x).tmps := by
 cases dst with
 | none => exact h
 | some d => exact h.set (hd d rfl) r
theorem put_size (a : Act) (dst : Option Nat) (x : Value) : (a.put dst x).tmps.size = a.tmps.size := by cases dst <;> simp [Act.put]
theorem put_defers' (a : Act) (dst : Option Nat) (x : Value) : (a.put dst x).defers = a.defers := by cases dst <;> rfl
noncomputable def okVal : Value → Bool
 | .int k n => ile k.min n && ile n k.max
 | .string s => Nat.ble s.size 9223372036854775807
 | _ => true
noncomputable def okOpd : Operand → Bool
 | .const v => okVal v
 | _ => true
theorem ofVal_sound (X : Cx) {c : Value} (hc : okVal c = true) {v : V} (e : ofVal c = some v) : VREL X v true [c] := by
 unfold ofVal at e
 split at e <;> cases e
 ·simp [VREL, REL]
 ·simp only [okVal, Bool.and_eq_true, ile_eq, decide_eq_true_eq] at hc
  simp only [VREL, REL]; exact ⟨trivial, hc⟩
 ·rename_i s
  simp only [VREL, REL]
  exact ⟨s, rfl, rfl, by have := ble_of hc; simpa [LMX] using this⟩
 ·simp [VREL, REL]
 ·simp only [VREL]; exact ⟨_, rfl, none, 0, rfl, rfl, by decide, .inl rfl⟩
 ·simp [VREL, REL]
 ·simp [VREL, REL]
 ·simp [VREL, REL]
theorem ev_sound {X : Cx} {t : Tm} {a : Act} (h : TR X t a.tmps) {x : Operand} (hx : okOpd x = true) : VREL X (ev t x) true [a.eval x] := by
 cases x with
 | tmp i => exact h i
 | const c =>
  show VREL X (Option.rec V.undef (fun x => x) (ofVal c)) true [c]
  cases e : ofVal c with
  | none => exact undefR X c
  | some v => exact ofVal_sound X hx e
 | global g => exact undefR X _
 | func f => simp only [ev, Act.eval, VREL, VRELs]; exact ⟨#[], #[], [], [], rfl, rfl, rfl, rfl, rfl⟩
theorem evs_eq (t : Tm) (l : Array Operand) : evs t l = l.toList.map (ev t) := by
 unfold evs
 induction l.toList with
 | nil => rfl
 | cons a l ih => exact congrArg _ ih
theorem evP_eq (e : Operand → V) (ps : Array (Nat × Operand)) : evP e ps = ps.toList.map fun p => (p.1, e p.2) := by
 unfold evP
 induction ps.toList with
 | nil => rfl
 | cons a l ih => exact congrArg _ ih
theorem evs_sound {X : Cx} {t : Tm} {a : Act} (h : TR X t a.tmps) {l : Array Operand} (hl : ∀ x ∈ l.toList, okOpd x = true) : All2 (fun v x => VREL X v true [x]) (evs t l) (l.map a.eval).toList := by
 rw [evs_eq, Array.toList_map]
 generalize l.toList = l at hl
 induction l with
 | nil => exact All2.nil
 | cons b l ih => exact All2.cons (ev_sound h (hl b (by simp))) (ih fun x hx => hl x (by simp [hx]))
structure Step (B : Nat) (X : Cx) (O : Nat → Addr → Prop) (w : World) (h : Heap) (X' : Cx) (O' : Nat → Addr → Prop) (w' : World) (h' : Heap) : Prop where
 up : Up B X w h.length X' w'
 len : h.length ≤ h'.length
 fr : FR X O w h X' O' w' h'
theorem Step.refl (B : Nat) (X : Cx) (O : Nat → Addr → Prop) (w : World) (h : Heap) : Step B X O w h X O w h := ⟨.refl _ _ _ _, Nat.le_refl _, .refl _ _ _ _⟩
theorem Step.trans {B : Nat} {X Y Z : Cx} {O O' O'' : Nat → Addr → Prop} {a b c : World} {h h' h'' : Heap} (s : Step B X O a h Y O' b h') (t : Step B Y O' b h' Z O'' c h'') : Step B X O a h Z O'' c h'' :=
 ⟨s.up.trans (t.up.less s.len), Nat.le_trans s.len t.len, s.fr.trans t.fr s.up.below.size s.len⟩
def OpN (P : Program) (B : Nat) (X : Cx) (O : Nat → Addr → Prop) (w : World) (h : Heap) (m : Sem Next) (v : V) (h' : Heap) : Prop :=
 ∃ x w' X' O', (m.run P w = .ok (.value x) w' ∨ (m.run P w = .ok .skip w' ∧ x = undef)) ∧ HR B X' O' w' h' ∧ VREL X' v true [x] ∧ Step B X O w h X' O' w' h'
structure EnvB (P : Program) (E : Env) : Prop extends EnvTy P E where
 bld : ∀ ti, E.ty E.bty.1 = some ti → ∃ i, P.info? E.bty.1 = some i ∧ i.zero = some (.agg #[.pointer none, .slice none 0 0])
section
variable {P : Program} {B : Nat} {X : Cx} {O : Nat → Addr → Prop} {w : World} {h : Heap} {E : Env}
theorem OpS.next {m : Sem Value} {v : V} {h' : Heap} (s : OpS P B X O w h m v h') : OpN P B X O w h (do pure (.value (← m))) v h' := by
 obtain ⟨x, w', X', O', e, q1, q2, q3, q4, q5⟩ := s
 exact ⟨x, w', X', O', .inl (by simp [e]), q1, q3, q2, q4, q5⟩
theorem OpU.next {m : Sem Unit} {h' : Heap} (s : OpU P B X O w h m h') : OpN P B X O w h (do m; pure .skip) .undef h' := by
 obtain ⟨w', X', O', e, q1, q2, q4, q5⟩ := s
 exact ⟨undef, w', X', O', .inr ⟨by simp [e], rfl⟩, q1, undefR _ _, q2, q4, q5⟩
theorem bldAlloc_sound (hE : EnvB P E) (hr : HR B X O w h) {n : Nat} (hn : hget h n = none) (hM : X.M n = none) (hle : n ≤ h.length) {ti : TI} (ht : E.ty E.bty.1 = some ti) :
  OpS P B X O w h (Instr.alloc E.bty.1 true (.tuple #[])) (.ptr n 0 []) (hput h n (.bld E.bty.1 E.bty.2 [])) := by
 obtain ⟨i, i1, i2⟩ := hE.bld ti ht
 let bi : BI := ⟨0, some ⟨w.heap.size, 0, none⟩, 0, 1, true⟩
 let On : Addr → Prop := fun a => a.block = w.heap.size
 have hbr : BR (X.withM n bi) (w.alloc (.cells #[.pointer none, .slice none 0 0] E.bty.1)) On n (.bld E.bty.1 E.bty.2 []) := by
  refine ⟨bi, w.heap.size, Cx.withM_same _ _ _, rfl, rfl, rfl, .pointer none, .slice none 0 0, heap_alloc_new w _, .inl rfl, World.ownsRowF_nil _ _ _ _, by simp, by simp [Value.ownBlock], fun a e => e, fun g e => by simp [Value.ownBlock] at e⟩
 refine ⟨.pointer (some ⟨w.heap.size, 0, none⟩), _, X.withM n bi, _, ?_, hr.add hn hM hle (.alloc _ _) (by simp) bi On _ (fun a ea => ?_) hbr, Up.add hM ((Below.refl B w).alloc hr.wb _) (.alloc _ _) _ bi, ?_, ?_, .add hM hle (.alloc _ _) bi On _⟩
 ·simp [Instr.alloc, zeroValue, typeInfo, i1, i2, newVar, newRow, newObj, Sem.run, Value.cells]
 ·have ea : a.block = w.heap.size := ea
  rw [ea]; simp
 ·simp only [VREL]
  exact ⟨_, rfl, ⟨_, rfl⟩, bi, Cx.withM_same _ _ _, Nat.le_refl _, fun _ => ⟨_, rfl, rfl, by simp [pathOff]⟩⟩
 ·rw [hput_len]; split <;> omega
theorem builtin_sound (hE : EnvB P E) (hr : HR B X O w h) {n : Nat} (hn : hget h n = none) (hM : X.M n = none) (hle : n ≤ h.length) {b : Builtin} {ts : Array Nat} {ty : Nat} {cs : Array Bool} {xs : List V} {args : Array Value} (ra : All2 (fun v x => VREL X v true [x]) xs args.toList) {v : V} {h' : Heap}
  (e : builtinV E n b ts xs h = some (v, h')) : OpN P B X O w h (builtin b ts ty cs args) v h' := by
 unfold builtinV at e
 split at e
 ·split at e
  ·obtain ⟨y, r, e1, hy, rr⟩ := ra
   cases rr
   have ha : args = #[y] := by apply Array.toList_inj.1; rw [e1]
   subst ha
   obtain ⟨t, h0, e⟩ := Option.bind_eq_some_iff.1 e
   rw [lget_eq, Array.getElem?_toList] at h0
   exact (len_sound hE.toEnvTy hr h0 e hy).next
  ·cases e
 ·split at e
  ·obtain ⟨y, r, e1, hy, y2, r2, e2, hy2, rr⟩ := ra
   cases rr
   have ha : args = #[y, y2] := by apply Array.toList_inj.1; rw [e1, e2]
   subst ha
   exact (append_sound hE.toEnvTy hr hn hM hle e hy hy2).next
  ·cases e
 ·split at e
  ·rename_i k a l
   obtain ⟨y, r, e1, hy, rl⟩ := ra
   simp only [VREL, REL] at hy
   obtain ⟨hy, hin⟩ := hy; cases hy
   obtain ⟨m, hm, e⟩ := Option.map_eq_some_iff.1 e
   cases e
   obtain ⟨q1, q2⟩ := min_run (w := w) (P := P) hm rl hin
   refine OpS.next (.same hr (x := .int k m) ?_ (by simp only [VREL, REL]; exact ⟨trivial, q2⟩))
   simp only [Builtin.min_, e1]; exact q1
  ·cases e
 ·split at e
  ·rename_i k a l
   obtain ⟨y, r, e1, hy, rl⟩ := ra
   simp only [VREL, REL] at hy
   obtain ⟨hy, hin⟩ := hy; cases hy
   obtain ⟨m, hm, e⟩ := Option.map_eq_some_iff.1 e
   cases e
   obtain ⟨q1, q2⟩ := max_run (w := w) (P := P) hm rl hin
   refine OpS.next (.same hr (x := .int k m) ?_ (by simp only [VREL, REL]; exact ⟨trivial, q2⟩))
   simp only [Builtin.max_, e1]; exact q1
  ·cases e
 ·split at e
  ·obtain ⟨y, r, e1, hy, rr⟩ := ra
   cases rr
   have ha : args = #[y] := by apply Array.toList_inj.1; rw [e1]
   subst ha
   obtain ⟨t, h0, e⟩ := Option.bind_eq_some_iff.1 e
   rw [lget_eq, Array.getElem?_toList] at h0
   exact (cap_sound hE.toEnvTy hr h0 e hy).next
  ·cases e
 ·split at e
  ·obtain ⟨y, r, e1, hy, y2, r2, e2, hy2, rr⟩ := ra
   cases rr
   have ha : args = #[y, y2] := by apply Array.toList_inj.1; rw [e1, e2]
   subst ha
   exact (delete_sound hE.toEnvTy hr e hy hy2).next
  ·cases e
 ·split at e
  ·obtain ⟨y, r, e1, hy, y2, r2, e2, hy2, rr⟩ := ra
   cases rr
   have ha : args = #[y, y2] := by apply Array.toList_inj.1; rw [e1, e2]
   subst ha
   exact (copy_sound hE.toEnvTy hr e hy hy2).next
  ·cases e
 ·cases e
theorem optR_map {X : Cx} {t : Tm} {a : Act} (h : TR X t a.tmps) {x : Option Operand} (hx : ∀ y, x = some y → okOpd y = true) : OptR X (x.map (ev t)) (x.map a.eval) := by
 cases x with
 | none => trivial
 | some y => exact ev_sound h (hx y rfl)
theorem parts_sound {X : Cx} {t : Tm} {a : Act} (h : TR X t a.tmps) {ps : Array (Nat × Operand)} (hx : ∀ p ∈ ps.toList, okOpd p.2 = true) : PartsR X (evP (ev t) ps) (ps.map fun (i, x) => (i, a.eval x)).toList := by
 rw [evP_eq, Array.toList_map]
 generalize ps.toList = l at hx
 induction l with
 | nil => exact All2.nil
 | cons p l ih => exact All2.cons ⟨rfl, ev_sound h (hx p (by simp))⟩ (ih fun q hq => hx q (by simp [hq]))
theorem stepOp_sound (hE : EnvB P E) (hr : HR B X O w h) {keep : Bool} {n : Nat} (hn : hget h n = none) (hM : X.M n = none) (hle : n ≤ h.length) {t : Tm} {a : Act} (ht : TR X t a.tmps) {o : Oper} (ho : ∀ x ∈ o.op.operands.toList, okOpd x = true) {v : V} {h' : Heap}
  (e : stepOp E keep n t h o.op = some (v, h')) : OpN P B X O w h (execOp a.eval o) v h' := by
 have hev : ∀ x, x ∈ o.op.operands.toList → VREL X (ev t x) true [a.eval x] := fun x hx => ev_sound ht (ho x hx)
 unfold execOp
 cases hop : o.op <;> rw [hop] at e ho hev <;> simp only [stepOp] at e <;> try (cases e; done)
 case move x => cases e; exact ⟨_, w, X, O, .inl rfl, hr, hev _ (by simp [Op.operands]), .refl _ _ _ _ _⟩
 case assign x => cases e; exact ⟨_, w, X, O, .inl rfl, hr, hev _ (by simp [Op.operands]), .refl _ _ _ _ _⟩
 case pick c x y =>
  have := (pick_sound (P := P) hr e (hev c (by simp [Op.operands])) (hev x (by simp [Op.operands])) (hev y (by simp [Op.operands]))).next
  simp only [bind_assoc, pure_bind] at this ⊢
  exact this
 case alloc ty =>
  unfold sAlloc at e
  obtain ⟨ti, hti, e⟩ := Option.bind_eq_some_iff.1 e
  obtain ⟨hz, e⟩ := bif_some e
  obtain ⟨_, _, k3⟩ := okV_iff hz
  cases hb : Nat.beq ty E.bty.1 with
  | true =>
   rw [hb, cond_true] at e; cases e
   have := beq_of hb; subst this
   exact (bldAlloc_sound hE hr hn hM hle hti).next
  | false =>
   rw [hb, cond_false] at e; cases e
   exact (alloc_sound hr hn hM hle (hE.ty _ _ hti) k3).next
 case box ty x =>
  unfold sBox at e
  obtain ⟨ti, hti, e⟩ := Option.bind_eq_some_iff.1 e
  obtain ⟨hz, e⟩ := bif_some e
  cases e
  exact (box_sound hr hn hM hle (okV_iff hz).2.2 (hev x (by simp [Op.operands]))).next
 case build ty ps => exact (build_sound hE.toEnvTy hr e (parts_sound ht fun p hp => ho p.2 (by simp [Op.operands]; exact ⟨p.1, by simpa using hp⟩))).next
 case buildSlice ty len ps => exact (buildSlice_sound hE.toEnvTy hr hn hM hle e (parts_sound ht fun p hp => ho p.2 (by simp [Op.operands]; exact ⟨p.1, by simpa using hp⟩))).next
 case load ty x => exact (load_sound hr (fun ti => hE.ty _ ti) e (hev x (by simp [Op.operands]))).next
 case store ty x y =>
  obtain ⟨rfl, s⟩ := store_sound (P := P) hr (fun ti => hE.ty _ ti) e (hev x (by simp [Op.operands])) (hev y (by simp [Op.operands]))
  exact s.next
 case nilCheck x =>
  obtain ⟨rfl, rfl, ad, ea⟩ := nilCheck_sound e (hev x (by simp [Op.operands]))
  refine ⟨a.eval x, w, X, O, .inl ?_, hr, hev x (by simp [Op.operands]), .refl _ _ _ _ _⟩
  simp only [ea]; rfl
 case binOp op ty x y yt =>
  cases hb : binV E op ty (isConst x || isConst y) (ev t x) (ev t y) with
  | none => rw [hb] at e; cases e
  | some u =>
   rw [hb] at e; cases e
   exact (OpS.puts hr (binV_sound hE.toEnvTy hb (hev x (by simp [Op.operands])) (hev y (by simp [Op.operands])))).next
 case unOp op ty x =>
  cases hb : unV op (ev t x) with
  | none => rw [hb] at e; cases e
  | some u =>
   rw [hb] at e; cases e
   exact (OpS.puts hr (unV_sound hb (hev x (by simp [Op.operands])))).next
 case convert s d x => exact (conv_sound hE.toEnvTy hr hn hM hle e (hev x (by simp [Op.operands]))).next
 case makeInterface ty x => exact (iface_sound hE.toEnvTy hr e (hev x (by simp [Op.operands]))).next
 case makeFunc f x y => exact (makeFunc_sound hr e (fun o ho => hev o (by simp [Op.operands]; exact .inl (by simpa using ho))) (fun o ho => hev o (by simp [Op.operands]; exact .inr (by simpa using ho)))).next
 case makeSlice ty l c => exact (makeSlice_sound hE.toEnvTy hr hn hM hle e (hev l (by simp [Op.operands])) (hev c (by simp [Op.operands]))).next
 case slice ty x lo hi mx =>
  cases hb : sliceV E ty h (ev t x) (lo.map (ev t)) (hi.map (ev t)) (mx.map (ev t)) with
  | none => rw [hb] at e; cases e
  | some u =>
   rw [hb] at e; cases e
   exact (slice_sound hE.toEnvTy hr hb (hev x (by simp [Op.operands])) (optR_map ht fun y hy => ho y (by subst hy; simp [Op.operands])) (optR_map ht fun y hy => ho y (by subst hy; simp [Op.operands])) (optR_map ht fun y hy => ho y (by subst hy; simp [Op.operands]))).next
 case fieldAddr ty x k => exact (fieldAddr_sound hE.toEnvTy hr e (hev x (by simp [Op.operands]))).next
 case field ty x k => exact (field_sound hE.toEnvTy hr e (hev x (by simp [Op.operands]))).next
 case indexAddr ty x i => exact (indexAddr_sound hE.toEnvTy hr e (hev x (by simp [Op.operands])) (hev i (by simp [Op.operands]))).next
 case index ty x i => exact (index_sound hE.toEnvTy hr e (hev x (by simp [Op.operands])) (hev i (by simp [Op.operands]))).next
 case extract x i =>
  cases hb : (ev t x).part i with
  | none => rw [hb] at e; cases e
  | some u =>
   rw [hb] at e; cases e
   exact (extract_sound hr hb (hev x (by simp [Op.operands]))).next
 case makeMap ty r => exact (makeMap_sound hE.toEnvTy hr hn hM hle e (optR_map ht fun y hy => ho y (by subst hy; simp [Op.operands]))).next
 case lookup ty m k ok => exact (lookup_sound hE.toEnvTy hr e (hev m (by simp [Op.operands])) (hev k (by simp [Op.operands]))).next
 case mapUpdate ty m k x =>
  obtain ⟨rfl, s⟩ := mapUpdate_sound (P := P) hE.toEnvTy hr e (hev m (by simp [Op.operands])) (hev k (by simp [Op.operands])) (hev x (by simp [Op.operands]))
  exact s.next
 case insert ty m k x =>
  obtain ⟨rfl, s⟩ := mapUpdate_sound (P := P) hE.toEnvTy hr e (hev m (by simp [Op.operands])) (hev k (by simp [Op.operands])) (hev x (by simp [Op.operands]))
  exact s.next
 case typeAssert x xt ty ok => exact (assert_sound hE.toEnvTy hr e (hev x (by simp [Op.operands]))).next
 case range ty x => exact (range_sound hE.toEnvTy hr hn hM hle e (hev x (by simp [Op.operands]))).next
 case next x str => exact (next_sound hr e (hev x (by simp [Op.operands])) o.type).next
 case entry x => exact (entry_sound hr e (hev x (by simp [Op.operands]))).next
 case call c =>
  cases hc : c.callee with
  | value f => rw [hc] at e; cases e
  | invoke r nm => rw [hc] at e; cases e
  | builtin b =>
   rw [hc] at e
   have ra := evs_sound ht (l := c.args) (fun x hx => ho x (by simp only [Op.operands, Call.operands, hc]; simpa using hx))
   have := builtin_sound hE hr hn hM hle (ty := o.type) (cs := c.args.map fun | .const _ => true | _ => false) ra e
   have hres : (resolve a.eval c o.type) = pure { target := .builtin b c.argTypes o.type (c.args.map fun | .const _ => true | _ => false), args := c.args.map a.eval } := by
    unfold resolve; rw [hc]; rfl
   simp only [hres, pure_bind, invoke]
   exact this
end
end Go.As
/-
 AS: calls: a frame's slots at the start, results, calls whose arguments and results are data.
-/
namespace Go.As
open Go.RowKit (Below)
variable [Gh]
structure Fen (F : Fence) : Prop where
 fn : ∀ f, F.fn f
 depth : F.depth = none
 round : F.round = none
theorem Fen.room {F : Fence} {n : Nat} (h : Fen F) : F.depth.isSome = true → 1 ≤ n := fun e => by rw [h.depth] at e; cases e
theorem Fen.wide : Fen Fence.wide := ⟨fun _ => trivial, rfl, rfl⟩
def CallOk (F : Fence) (n : Nat) (P : Program) (f : FuncId) (args : Array Value) (w : World) (R : Value → World → Prop) : Prop :=
 CallsIn F n P f args w fun
  | .returned v, w' => R v w'
  | _, _ => False
theorem CallOk.mono {F : Fence} {n : Nat} {P : Program} {f : FuncId} {args : Array Value} {w : World} {R R' : Value → World → Prop} (h : CallOk F n P f args w R) (hr : ∀ v w', R v w' → R' v w') : CallOk F n P f args w R' :=
 CallsIn.mono h fun e w' he => by cases e <;> first | exact hr _ _ he | exact he
def Leaves' (B : Nat) (X : Cx) (O : Nat → Addr → Prop) (w : World) (h : Heap) (v : V) (h' : Heap) (x : Value) (w' : World) : Prop :=
 ∃ X' O', HR B X' O' w' h' ∧ VREL X' v true [x] ∧ Step B X O w h X' O' w' h'
def CallN (F : Fence) (n : Nat) (P : Program) (B : Nat) (X : Cx) (O : Nat → Addr → Prop) (w : World) (h : Heap) (m : Sem Next) (v : V) (h' : Heap) : Prop :=
 OpN P B X O w h m v h' ∨ ∃ f args, m.run P w = .ok (.enter f args) w ∧ CallOk F n P f args w (Leaves' B X O w h v h')
noncomputable def opOk (nt : Nat) (o : Oper) : Bool := (match o.dst with | some d => Nat.blt d nt | none => true) && o.op.operands.toList.all okOpd
noncomputable def noDefer : Code → Bool
 | .region _ ops _ => ops.toList.all fun o => match o.op with | .defer _ => false | _ => true
 | .seq a b => noDefer a && noDefer b
 | .cond _ a b => noDefer a && noDefer b
 | .block _ b => noDefer b
 | .loop b => noDefer b
 | .scope b => noDefer b
 | .rangeFunc _ _ a b => noDefer a && noDefer b
 | _ => true
noncomputable def codeOk (E : Env) (f nt : Nat) : Code → Bool
 | .region id ops draw => ops.toList.all (opOk nt) && (bif draw then (match E.dr f id with | some ds => drOk E ops ds | none => true) else true)
 | .seq a b => codeOk E f nt a && codeOk E f nt b
 | .cond c a b => okOpd c && (codeOk E f nt a && codeOk E f nt b)
 | .block _ b => codeOk E f nt b
 | .loop b => codeOk E f nt b
 | .scope b => codeOk E f nt b
 | .rangeFunc g ps a b => okOpd g && (ps.toList.all (fun p => Nat.blt p nt) && ((codeOk E f nt a && noDefer a) && (codeOk E f nt b && noDefer b)))
 | _ => true
def DataOk (F : Fence) (P : Program) (g : Nat) (ds : List D) (d : D) : Prop :=
 ∀ (n : Nat) (C : IV) (w : World) (args : Array Value), CI C w → All2 (fun d x => REL C d true [x]) ds args.toList →
  CallOk F n P g args w fun x w' => ∃ C', C.le C' ∧ CI C' w' ∧ Below w.heap.size w w' ∧ (∀ a v, C' a = some v → C a = none → w.heap.size ≤ a.block) ∧ REL C' d true [x]
structure EnvOk (F : Fence) (P : Program) (E : Env) : Prop extends EnvB P E where
 mixed : P.follows .mixedOrders = true
 gh : ∀ f nt c, Gh.K f nt c ↔ (codeOk E f nt c = true ∧ noDefer c = true)
 fn : ∀ f fn, E.fn f = some fn → P.funcs[f]? = some fn ∧ (fn.name == "runtime.NumGoroutine") = false ∧ ∀ c, fn.body = some c → codeOk E f fn.ntmps c = true
 meth : ∀ u nm g, E.meth u nm = some g → ∀ v w, (method (P.types.size + Made.depth) u v nm).run P w = .ok (g, v) w
 sm : ∀ g S, E.sm g = some S → (∃ fn c, P.funcs[g]? = some fn ∧ fn.body = some c ∧ (fn.name == "runtime.NumGoroutine") = false) ∧ ∀ ds d, S ds = some d → DataOk F P g ds d
 ext : ∀ g, E.ext g ≠ 0 → ∀ (n B : Nat) (X : Cx) (O : Nat → Addr → Prop) (w : World) (h : Heap), HR B X O w h → ∀ (xs : List V) (args : Array Value), All2 (fun v x => VREL X v true [x]) xs args.toList → ∀ v h', extV (E.ext g) xs h = some (v, h') →
  CallN F n P B X O w h (callFunc g args) v h'
 clone : ∀ g sz, E.clone g = some sz → ∀ (n B : Nat) (X : Cx) (O : Nat → Addr → Prop) (w : World) (h : Heap), HR B X O w h → ∀ (xs : List V) (args : Array Value), All2 (fun v x => VREL X v true [x]) xs args.toList →
  ∀ nid, hget h nid = none → X.M nid = none → nid ≤ h.length → ∀ v h', cloneV E nid sz xs h = some (v, h') → CallN F n P B X O w h (callFunc g args) v h'
def DFe (X : Cx) (O : Nat → Addr → Prop) (w : World) (h : Heap) (p : Nat × List V) (d : Deferred) : Prop :=
 (isMark p = true ∧ ∃ D bi, d.target = .collected D ∧ w.heap[D]? = some (.deferred (some [])) ∧ X.M p.1 = some bi ∧ hget h p.1 = none ∧ O p.1 ⟨D, 0, none⟩) ∨
 (isMark p = false ∧ ∃ cap, d.target = .fn (.func p.1) cap ∧ All2 (fun v x => VREL X v true [x]) p.2 (d.args ++ cap).toList)
def Apart2 (d d' : Deferred) : Prop := ∀ D, d.target = .collected D → d'.target ≠ .collected D
def DF (X : Cx) (O : Nat → Addr → Prop) (w : World) (h : Heap) (ds : List Deferred) (df : List (Nat × List V)) : Prop := All2 (DFe X O w h) df ds ∧ ds.Pairwise Apart2
structure SR (nt B : Nat) (X : Cx) (O : Nat → Addr → Prop) (w : World) (a : Act) (st : St) : Prop where
 t : TR X st.t a.tmps
 n : a.tmps.size = nt
 h : HR B X O w st.h
 df : DF X O w st.h a.defers st.df
 lp : st.lp = []
section
variable {F : Fence} {P : Program} {B : Nat} {X : Cx} {O : Nat → Addr → Prop} {w : World} {h : Heap} {E : Env}
theorem vals_mono {n : Nat} {X Y : Cx} (hX : X.lt n) (hXY : X.le n Y) {l : List V} {xs : List Value} (h : All2 (fun v x => VREL X v true [x]) l xs) : All2 (fun v x => VREL Y v true [x]) l xs :=
 h.imp fun v x r => VREL.mono hXY _ _ _ (VREL.low hX _ _ _ r) r
theorem DF.step {X' : Cx} {O' : Nat → Addr → Prop} {w' : World} {h' : Heap} (hX : X.lt h.length) (hs : Step B X O w h X' O' w' h') {ds : List Deferred} {df : List (Nat × List V)} (d : DF X O w h ds df) : DF X' O' w' h' ds df :=
 ⟨d.1.imp fun p d h => h.elim (fun ⟨hm, D, bi, e1, e2, e3, e4, e5⟩ => .inl ⟨hm, D, bi, e1, hs.fr.obj p.1 bi e3 e4 D e5 _ e2 rfl, hs.fr.M _ _ e3 e4, hs.fr.hid _ _ e3 e4, hs.fr.own _ _ e3 e4 _ e5⟩)
  (fun ⟨hm, cap, e, r⟩ => .inr ⟨hm, cap, e, vals_mono hX hs.up.le r⟩), d.2⟩
theorem putArgs_cons (v : V) (l : List V) (i : Nat) (t : Tm) : putArgs (v :: l) i t = putArgs l (i + 1) (t.set i v) := rfl
theorem putArgs_get : ∀ (l : List V) (i : Nat) (t : Tm) (j : Nat), ((putArgs l i t).get j = t.get j ∧ (j < i ∨ i + l.length ≤ j)) ∨ (∃ v, l[j - i]? = some v ∧ i ≤ j ∧ ((putArgs l i t).get j = v ∨ (putArgs l i t).get j = .undef))
 | [], i, t, j => .inl ⟨rfl, by simp; omega⟩
 | v :: l, i, t, j => by
  rw [putArgs_cons]
  rcases putArgs_get l (i + 1) (t.set i v) j with ⟨e, hj⟩ | ⟨u, hu, hj, e⟩
  ·by_cases hji : j = i
   ·subst hji
    refine .inr ⟨v, by simp, Nat.le_refl _, ?_⟩
    rw [e]; exact Tm.get_set_same t j v
   ·refine .inl ⟨by rw [e]; exact Tm.get_set_other t i j v hji, ?_⟩
    simp only [List.length_cons]; omega
  ·refine .inr ⟨u, ?_, by omega, e⟩
   rw [show j - i = (j - (i + 1)) + 1 from by omega]; simpa using hu
theorem All2.getD {l : List V} {xs : List Value} (h : All2 (fun v x => VREL X v true [x]) l xs) {i : Nat} {v : V} (e : l[i]? = some v) : ∃ x, xs[i]? = some x ∧ VREL X v true [x] := h.get e
theorem start_TR {l : List V} {args : Array Value} (h : All2 (fun v x => VREL X v true [x]) l args.toList) (nt : Nat) : TR X (tmOf nt l) (args ++ Array.replicate (nt - args.size) undef) := fun i => by
 unfold tmOf
 rcases putArgs_get l 0 (Tm.mk (depOf nt)) i with ⟨e, hi⟩ | ⟨v, hv, _, e⟩
 ·rw [e, Tm.get_mk]; exact undefR _ _
 ·obtain ⟨x, hx, rx⟩ := h.get (i := i) (x := v) (by simpa using hv)
  have hg : (args ++ Array.replicate (nt - args.size) undef).getD i undef = x := by
   have hx' : args[i]? = some x := by rw [← Array.getElem?_toList]; exact hx
   have hlt : i < args.size := (Array.getElem?_eq_some_iff.1 hx').1
   rw [Array.getD_eq_getD_getElem?, Array.getElem?_append_left hlt, hx']; rfl
  rw [hg]
  rcases e with e | e <;> rw [e]
  ·exact rx
  ·exact undefR _ _
theorem start_SR (hr : HR B X O w h) {l : List V} {args : Array Value} (ha : All2 (fun v x => VREL X v true [x]) l args.toList) {nt : Nat} (hn : Nat.ble (llen l) nt = true) :
  SR nt B X O w { tmps := args ++ Array.replicate (nt - args.size) undef, defers := [] } ⟨tmOf nt l, h, [], []⟩ := by
 refine ⟨start_TR ha nt, ?_, hr, ⟨All2.nil, List.Pairwise.nil⟩, rfl⟩
 have := ble_of hn
 rw [llen_eq, ← ha.len, Array.length_toList] at this
 simp; omega
def resF (tmps : Array Value) : ResultVar → Sem Value
 | .tmp t => pure (tmps.getD t undef)
 | .cell a t => do loadVar t (← asAddr (tmps.getD a undef))
theorem results_eq (fn : Func) (tmps : Array Value) : results fn tmps = (do let vs ← fn.results.mapM (resF tmps); pure (if h : vs.size = 1 then vs[0] else .tuple vs)) := by
 unfold results
 have : (fun x : ResultVar => match x with
  | .tmp t => (pure (tmps.getD t undef) : Sem Value)
  | .cell a t => do loadVar t (← asAddr (tmps.getD a undef))) = resF tmps := by funext x; cases x <;> rfl
 rw [← this]
 rfl
theorem resultV_sound (hE : EnvTy P E) (hr : HR B X O w h) {t : Tm} {tmps : Array Value} (ht : TR X t tmps) {r : ResultVar} {v : V} (e : resultV E h t r = some v) :
  ∃ x, (resF tmps r).run P w = .ok x w ∧ VREL X v true [x] := by
 unfold resultV at e
 cases r with
 | tmp i => cases e; exact ⟨_, rfl, ht i⟩
 | cell a ty =>
  simp only at e
  split at e
  ·rename_i b g p ti hg hti
   obtain ⟨u, hu, e⟩ := Option.bind_eq_some_iff.1 e
   obtain ⟨hok, e⟩ := bif_some e
   cases e
   have := ht a
   rw [hg] at this
   simp only [VREL] at this
   obtain ⟨y, ey, rp⟩ := this
   obtain ⟨ad, ws, q1, q2, q3, q4⟩ := loadV_sound hr hu rp
   obtain ⟨x, q5, q6⟩ := run_loadVar_ok (P := P) (hE.ty _ _ hti) hok q3 q4
   refine ⟨x, ?_, q6⟩
   unfold resF
   simp only [(List.cons.inj ey).1, q1, Sem.run_bind]
   simp [asAddr, q5]
  ·cases e
theorem resultsL_cons (r : ResultVar) (l : List ResultVar) (t : Tm) : resultsL E h t (r :: l) = (resultV E h t r).bind fun v => (resultsL E h t l).map (v :: ·) := rfl
theorem resultsL_sound (hE : EnvTy P E) (hr : HR B X O w h) {t : Tm} {tmps : Array Value} (ht : TR X t tmps) : ∀ {l : List ResultVar} {vs : List V}, resultsL E h t l = some vs →
  ∃ xs, (l.mapM (resF tmps)).run P w = .ok xs w ∧ All2 (fun v x => VREL X v true [x]) vs xs
 | [], vs, e => by simp [resultsL] at e; subst e; exact ⟨[], by simp, All2.nil⟩
 | r :: l, vs, e => by
  rw [resultsL_cons] at e
  obtain ⟨v, hv, e⟩ := Option.bind_eq_some_iff.1 e
  obtain ⟨vs', hvs, e⟩ := Option.map_eq_some_iff.1 e
  subst e
  obtain ⟨x, h1, h2⟩ := resultV_sound hE hr ht hv
  obtain ⟨xs, h3, h4⟩ := resultsL_sound hE hr ht hvs
  refine ⟨x :: xs, ?_, All2.cons h2 h4⟩
  rw [List.mapM_cons]
  simp only [Sem.run_bind, h1, Result.andThen_ok, h3]
  rfl
theorem tup_all {vs : List V} {xs : List Value} (h : All2 (fun v x => VREL X v true [x]) vs xs) : VREL X (.tup vs) true [.tuple xs.toArray] := by
 simp only [VREL]
 have hfl : ∀ l : List Value, (l.map fun x => [x]).flatten = l := by intro l; induction l <;> simp_all
 refine ⟨xs.toArray, xs.map fun x => [x], rfl, ?_, by rw [hfl]⟩
 clear hfl
 induction vs generalizing xs with
 | nil => cases h; simp [VRELs]
 | cons v vs ih => obtain ⟨x, r, rfl, h1, h2⟩ := h; simp only [VRELs, List.map_cons]; exact ⟨_, _, rfl, h1, ih h2⟩
theorem results_sound (hE : EnvTy P E) (hr : HR B X O w h) {t : Tm} {tmps : Array Value} (ht : TR X t tmps) {fn : Func} {v : V} (e : resultsV E h fn t = some v) : ∃ x, (results fn tmps).run P w = .ok x w ∧ VREL X v true [x] := by
 unfold resultsV at e
 obtain ⟨vs, hvs, e⟩ := Option.map_eq_some_iff.1 e
 obtain ⟨xs, h1, h2⟩ := resultsL_sound hE hr ht hvs
 have hrun : (results fn tmps).run P w = .ok (if h : xs.toArray.size = 1 then xs.toArray[0] else .tuple xs.toArray) w := by
  rw [results_eq, Array.mapM_eq_mapM_toList]
  simp only [Sem.run_bind, Sem.run_map]
  rw [h1]; rfl
 split at e
 ·subst e
  obtain ⟨x, r, rfl, rx, rr⟩ := h2
  cases rr
  exact ⟨x, by rw [hrun]; simp, rx⟩
 ·rename_i hne
  subst e
  have hl := h2.len
  refine ⟨.tuple xs.toArray, ?_, VREL_mkTup (tup_all h2)⟩
  rw [hrun, dif_neg]
  intro h1'
  have : vs.length = 1 := by rw [← hl]; simpa using h1'
  obtain ⟨v, rfl⟩ := List.length_eq_one_iff.1 this
  exact hne v rfl
end
end Go.As
/-
 AS: the evaluator is sound, up to regions that draw their order.
-/
namespace Go.As
open Go.RowKit (Below)
variable [Gh]
def ExR : Ex → Exit → Prop
 | .nm, .normal => True
 | .exit i, .exit j => i = j
 | .ret, .ret => True
 | _, _ => False
def Post (nt B : Nat) (X : Cx) (O : Nat → Addr → Prop) (w : World) (st : St) (r : Ex × St) : Exit → Act → World → Prop := fun e a' w' =>
 ExR r.1 e ∧ ∃ X' O', SR nt B X' O' w' a' r.2 ∧ Step B X O w st.h X' O' w' r.2.h
def fAt (F : Fence) (rd : Option Nat) : Fence := { F with round := rd }
theorem fAt_none {F : Fence} (hF : Fen F) : fAt F none = F := by
 have := hF.round
 cases F; simp only [fAt] at *; rw [this]
def RdOk (w : World) (fb : Nat) (c : Code) : Option Nat → Prop
 | none => fb = 0
 | some l => fb ≠ 0 ∧ noDefer c = true ∧ ∃ r, w.heap[l]? = some (.loop r)
def CodeS (F : Fence) (P : Program) (E : Env) (ih : Nat → Nat → Nat → Code → St → Option (Ex × St)) : Prop :=
 ∀ (f fb cur : Nat) (c : Code) (st : St) (r : Ex × St), ih f fb cur c st = some r → ∀ nt, codeOk E f nt c = true → ∀ (n B : Nat) (X : Cx) (O : Nat → Addr → Prop) (w : World) (a : Act), SR nt B X O w a st → ∀ rd, RdOk w fb c rd → c.wpIn (fAt F rd) n P (Post nt B X O w st r) a w
theorem CodeS.out {F : Fence} {P : Program} {E : Env} {ih : Nat → Nat → Nat → Code → St → Option (Ex × St)} (hih : CodeS F P E ih) (hF : Fen F) {f cur : Nat} {c : Code} {st : St} {r : Ex × St} (e : ih f 0 cur c st = some r) {nt : Nat} (hc : codeOk E f nt c = true)
  (n B : Nat) (X : Cx) (O : Nat → Addr → Prop) (w : World) (a : Act) (s : SR nt B X O w a st) : c.wpIn F n P (Post nt B X O w st r) a w := by
 have := hih f 0 cur c st r e nt hc n B X O w a s none rfl
 rwa [fAt_none hF] at this
section
variable {F : Fence} {P : Program} {B : Nat} {X : Cx} {O : Nat → Addr → Prop} {w : World} {h : Heap} {E : Env} {ih : Nat → Nat → Nat → Code → St → Option (Ex × St)}
theorem SR.step {nt : Nat} {a : Act} {st : St} (s : SR nt B X O w a st) {X' : Cx} {O' : Nat → Addr → Prop} {w' : World} {h' : Heap} (hr : HR B X' O' w' h') (hs : Step B X O w st.h X' O' w' h') : SR nt B X' O' w' a ⟨st.t, h', st.lp, st.df⟩ :=
 ⟨s.t.mono s.h.lt hs.up.le, s.n, hr, s.df.step s.h.lt hs, s.lp⟩
theorem SR.put {nt : Nat} {a : Act} {st : St} (s : SR nt B X O w a st) {dst : Option Nat} (hd : ∀ d, dst = some d → d < nt) {v : V} {x : Value} (r : VREL X v true [x]) : SR nt B X O w (a.put dst x) ⟨putDst st.t dst v, st.h, st.lp, st.df⟩ :=
 ⟨s.t.put (fun d e => by rw [s.n]; exact hd d e) r, by rw [put_size]; exact s.n, s.h, by rw [put_defers']; exact s.df, s.lp⟩
theorem guard_sound {t : Tm} {a : Act} (ht : TR X t a.tmps) {ops : Array Oper} {o : Oper} {b : Bool} (e : guardOf ops t o.guard = some b) : Region.wanted o (yielded ops a.tmps) = b := by
 unfold guardOf at e
 unfold Region.wanted
 cases hg : o.guard with
 | none => rw [hg] at e; cases e; rfl
 | some g =>
  obtain ⟨j, want⟩ := g
  rw [hg] at e
  simp only at e ⊢
  obtain ⟨o', ho, e⟩ := Option.bind_eq_some_iff.1 e
  obtain ⟨d, hd, e⟩ := Option.bind_eq_some_iff.1 e
  rw [lget_eq, Array.getElem?_toList] at ho
  have hy : yielded ops a.tmps j = (match a.tmps[d]? with | some (.bool b) => some b | _ => none) := by
   unfold yielded; rw [ho]; simp only [Option.bind_some, hd]; rfl
  have hr := ht d
  split at e
  ·rename_i c hc
   rw [hc] at hr
   simp only [VREL, REL] at hr
   have hv : a.tmps.getD d undef = .bool c := (List.cons.inj hr).1
   have hs : a.tmps[d]? = some (.bool c) := by
    rw [Array.getD_eq_getD_getElem?] at hv
    cases hx : a.tmps[d]? with
    | none => rw [hx] at hv; simp [undef] at hv
    | some y => rw [hx] at hv; simp at hv; rw [hv]
   rw [hy, hs]
   cases c <;> cases want <;> simp_all
  ·rename_i hc
   rw [hc] at hr
   simp only [VREL, REL] at hr
   obtain ⟨ts, wss, e1, _⟩ := hr
   have hv : a.tmps.getD d undef = .tuple ts := (List.cons.inj e1).1
   cases e
   rw [hy]
   have : ∀ c, a.tmps[d]? ≠ some (.bool c) := fun c hx => by
    rw [Array.getD_eq_getD_getElem?, hx] at hv; simp at hv
   split
   ·rename_i c hx; exact absurd hx (this c)
   ·cases want <;> rfl
  ·cases e
theorem callFunc_enter {g : Nat} {fn : Func} {c : Code} (hf : P.funcs[g]? = some fn) (hb : fn.body = some c) (hn : (fn.name == "runtime.NumGoroutine") = false) (args : Array Value) : (callFunc g args).run P w = .ok (.enter g args) w := by
 have hn' : ¬ fn.name = "runtime.NumGoroutine" := fun e => by rw [e] at hn; simp at hn
 simp [callFunc, program, Sem.run, hf, hn', hb]
theorem data_REL (hr : HR B X O w h) {C : IV} {S : Nat → Prop} (hS : Shows X w h C S) : ∀ {l : List V} {ds : List D} {xs : List Value}, allData h l = some ds → (∀ v ∈ l, ∀ b ∈ v.owns, S b) → All2 (fun v x => VREL X v true [x]) l xs → All2 (fun d x => REL C d true [x]) ds xs
 | [], ds, xs, e, _, r => by simp [allData] at e; subst e; cases r; exact All2.nil
 | v :: l, ds, xs, e, hs, r => by
  have e : ((V.data h v).bind fun d => (allData h l).map (d :: ·)) = some ds := e
  obtain ⟨d, hd, e⟩ := Option.bind_eq_some_iff.1 e
  obtain ⟨ds', hds, e⟩ := Option.map_eq_some_iff.1 e
  subst e
  obtain ⟨x, r', rfl, rx, rr⟩ := r
  exact All2.cons (data_sound hr hS hd (hs v (by simp)) rx) (data_REL hr hS hds (fun u hu => hs u (by simp [hu])) rr)
theorem ownsL_cons (v : V) (l : List V) : V.ownsL (v :: l) = (match v with | .im _ => V.ownsL l | v => v.owns ++ V.ownsL l) := rfl
theorem ownsL_mem {v : V} {l : List V} (hv : v ∈ l) {b : Nat} (hb : b ∈ v.owns) : b ∈ V.ownsL l := by
 induction l with
 | nil => cases hv
 | cons u l ih =>
  rw [ownsL_cons]
  rcases List.mem_cons.1 hv with rfl | hv
  ·cases v <;> first | (cases hb; done) | exact List.mem_append_left _ hb
  ·have := ih hv
   cases u <;> first | exact this | exact List.mem_append_right _ this
mutual
theorem D.flat_REL {C C' : IV} : ∀ (d : D) (m : Bool) (vs : List Value), d.flat = true → REL C d m vs → REL C' d m vs
 | .bool _, _, _, _, k | .nil, _, _, _, k | .fn _, _, _, _, k | .nfn, _, _, _, k | .inil, _, _, _, k | .mnil, _, _, _, k | .int _ _, _, _, _, k | .str _, _, _, _, k => by simpa [REL] using k
 | .ref _, _, _, h, _ => by simp [D.flat] at h
 | .slc _, _, _, h, _ => by simp [D.flat] at h
 | .agg w l, true, _, h, k => by
  simp only [REL] at k ⊢
  obtain ⟨cs, wss, e, h1, h2, h3⟩ := k
  exact ⟨cs, wss, e, h1, D.flats_REL l false wss (by simpa [D.flat] using h) h2, h3⟩
 | .agg w l, false, _, h, k => by
  simp only [REL] at k ⊢
  obtain ⟨wss, e, h2, h3⟩ := k
  exact ⟨wss, e, D.flats_REL l false wss (by simpa [D.flat] using h) h2, h3⟩
 | .tup l, true, _, h, k => by
  simp only [REL] at k ⊢
  obtain ⟨ts, wss, e, h2, h3⟩ := k
  exact ⟨ts, wss, e, D.flats_REL l true wss (by simpa [D.flat] using h) h2, h3⟩
 | .tup l, false, _, _, k => by simp [REL] at k
 | .ifc t d, _, _, h, k => by
  simp only [REL] at k ⊢
  obtain ⟨x, e, r⟩ := k
  exact ⟨x, e, D.flat_REL d true [x] (by simpa [D.flat] using h) r⟩
theorem D.flats_REL {C C' : IV} : ∀ (l : List D) (m : Bool) (wss : List (List Value)), D.flats l = true → RELs C l m wss → RELs C' l m wss
 | [], _, _, _, k => by simpa [RELs] using k
 | d :: l, m, _, h, k => by
  simp only [D.flats, Bool.and_eq_true] at h
  simp only [RELs] at k ⊢
  obtain ⟨ws, r, e, h1, h2⟩ := k
  exact ⟨ws, r, e, D.flat_REL d m ws h.1 h1, D.flats_REL l m r h.2 h2⟩
end
theorem grown_ok (hr : HR B X O w h) {w' : World} {C' : IV} (hC : X.C.le C') (hci : CI C' w') (hb : Below w.heap.size w w') (hf : ∀ a v, C' a = some v → X.C a = none → w.heap.size ≤ a.block) :
  HR B (X.withC C') O w' h ∧ Step B X O w h (X.withC C') O w' h := by
 have hk := Keep.of_below hb
 have hn : ∀ b a, O b a → C' a = none := fun b a o => by
  obtain ⟨_, h2, h3⟩ := hr.own b a o
  cases e : C' a with
  | none => rfl
  | some v => have := hf a v e h3; omega
 refine ⟨(hr.keep hk hb.size).more hC hci hn, ⟨⟨hC, fun _ bi _ e => ⟨bi, e, Nat.le_refl _, fun _ => rfl, fun _ => rfl⟩, fun _ _ e => e⟩, hb.mono hr.wb, fun a v e hn => Nat.le_trans hr.wb (hf a v e hn), fun r o e _ => hk.obj r o e⟩, Nat.le_refl _, ?_⟩
 exact ⟨fun _ _ _ e => e, fun _ _ e _ => e, fun _ _ _ _ _ o => o, fun _ _ _ _ _ _ _ e => ⟨hk.cell _ _ e, hk.frozen _ _ e⟩, fun _ _ _ _ _ _ _ e _ => hk.obj _ _ e, fun _ _ _ _ g _ hg => hk.block g hg, fun _ e => e, fun _ _ e _ => e⟩
theorem grown_same (hr : HR B X O w h) {w' : World} (hb : Below w.heap.size w w') : HR B X O w' h ∧ Step B X O w h X O w' h := by
 have hk := Keep.of_below hb
 exact ⟨hr.keep hk hb.size, ⟨.refl _ _, hb.mono hr.wb, fun a v e hn => (by rw [hn] at e; cases e), fun r o e _ => hk.obj r o e⟩, Nat.le_refl _, .keep hk⟩
theorem runBody_some {f : Nat} {args : List V} {lp : List Rec} {fn : Func} {st : St} (e : runBody E ih f args h lp = some (fn, st)) :
  ∃ c r, E.fn f = some fn ∧ fn.body = some c ∧ Nat.ble (llen args) fn.ntmps = true ∧ ih f 0 0 c ⟨tmOf fn.ntmps args, h, lp, []⟩ = some (r, st) ∧ (r = .nm ∨ r = .ret) := by
 unfold runBody at e
 obtain ⟨fn', hf, e⟩ := Option.bind_eq_some_iff.1 e
 obtain ⟨c, hc, e⟩ := Option.bind_eq_some_iff.1 e
 cases hb : Nat.ble (llen args) fn'.ntmps with
 | false => rw [hb] at e; cases e
 | true =>
  rw [hb, cond_true] at e
  split at e
  ·cases e
  ·rename_i ex st' hne hx
   cases e
   refine ⟨c, ex, hf, hc, hb, hx, ?_⟩
   cases ex with
   | nm => exact .inl rfl
   | ret => exact .inr rfl
   | exit i => exact (hne i rfl).elim
  ·cases e
theorem runBodyS_some {f : Nat} {args : List V} {lp : List Rec} {fn : Func} {st : St} (e : runBodyS E ih f args h lp = some (fn, st)) :
  ∃ c r, E.fn f = some fn ∧ fn.body = some c ∧ Nat.ble (llen args) fn.ntmps = true ∧ execS E ih f 0 64 c ⟨tmOf fn.ntmps args, h, lp, []⟩ = some (r, st) ∧ (r = .nm ∨ r = .ret) := by
 unfold runBodyS at e
 obtain ⟨fn', hf, e⟩ := Option.bind_eq_some_iff.1 e
 obtain ⟨c, hc, e⟩ := Option.bind_eq_some_iff.1 e
 cases hb : Nat.ble (llen args) fn'.ntmps with
 | false => rw [hb] at e; cases e
 | true =>
  rw [hb, cond_true] at e
  split at e
  ·cases e
  ·rename_i ex st' hne hx
   cases e
   refine ⟨c, ex, hf, hc, hb, hx, ?_⟩
   cases ex with
   | nm => exact .inl rfl
   | ret => exact .inr rfl
   | exit i => exact (hne i rfl).elim
  ·cases e
theorem recOps_cons (keep : Bool) (ops : Array Oper) (o : Oper) (l : List Oper) (st : St) : recOps E keep ops (o :: l) st = (match guardOf ops st.t o.guard with
  | none => none
  | some false => recOps E keep ops l ⟨putDst st.t o.dst (.im (.tup [])), st.h, st.lp, st.df⟩
  | some true => bif isRecover o then recOps E keep ops l ⟨putDst st.t o.dst (.im .inil), st.h, st.lp, st.df⟩
   else bif isCall o then none else match stepOp E keep (llen st.h) st.t st.h o.op with
    | none => none
    | some (v, h) => recOps E keep ops l ⟨putDst st.t o.dst v, h, st.lp, st.df⟩) := rfl
theorem undefRel (X : Cx) : VREL X (.im (.tup [])) true [undef] := by simp only [VREL, REL]; exact ⟨#[], [], rfl, by simp [RELs], rfl⟩
theorem nid_none {n : Nat} (h0 : n = h.length) : hget h n = none := by subst h0; simp [hget_eq]
theorem nid_M (hr : HR B X O w h) : X.M h.length = none := by
 cases e : X.M h.length with
 | none => rfl
 | some bi => exact absurd (hr.lt _ _ e) (Nat.lt_irrefl _)
theorem opOk_dst {nt : Nat} {o : Oper} (h : opOk nt o = true) : (∀ d, o.dst = some d → d < nt) ∧ ∀ x ∈ o.op.operands.toList, okOpd x = true := by
 unfold opOk at h
 rw [Bool.and_eq_true] at h
 refine ⟨fun d e => ?_, fun x hx => List.all_eq_true.1 h.2 x hx⟩
 rw [e] at h
 exact Nat.le_of_ble_eq_true h.1
theorem recOps_sound (hE : EnvOk F P E) (hF : Fen F) {keep : Bool} {ops : Array Oper} {cs : List Frame} (hcs : recoverD cs = none) {nt n : Nat} {Q : Exit → Act → List Frame → World → Prop} : ∀ (l : List Oper) (i : Nat), ops.toList.drop i = l → (∀ o ∈ l, opOk nt o = true) →
  ∀ {B : Nat} {X : Cx} {O : Nat → Addr → Prop} {w : World} {a : Act} {st st' : St}, SR nt B X O w a st → recOps E keep ops l st = some st' →
   (∀ X' O' w' a', SR nt B X' O' w' a' st' → Step B X O w st.h X' O' w' st'.h → Q .normal a' cs w') → wpOpsSIn F n P ops Q (List.range' i l.length) a cs w
 | [], i, _, _, B, X, O, w, a, st, st', s, e, hQ => by
  have e : some st = some st' := e
  cases e
  exact hQ X O w a s (.refl _ _ _ _ _)
 | o :: l, i, hl, hok, B, X, O, w, a, st, st', s, e, hQ => by
  have hi : ops[i]? = some o := by
   rw [← Array.getElem?_toList]
   have : (ops.toList.drop i)[0]? = some o := by rw [hl]; rfl
   rw [List.getElem?_drop] at this; simpa using this
  have hl2 : ops.toList.drop (i + 1) = l := by
   rw [← List.drop_drop, hl]; rfl
  obtain ⟨hd, ho⟩ := opOk_dst (hok o (by simp))
  rw [List.length_cons, List.range'_succ]
  simp only [wpOpsSIn, hi]
  refine ⟨fun f _ => hF.fn f, ?_⟩
  rw [recOps_cons] at e
  cases hg : guardOf ops st.t o.guard with
  | none => rw [hg] at e; cases e
  | some b =>
   rw [hg] at e
   have hw := guard_sound s.t hg
   cases b with
   | false =>
    simp only at e
    rw [hw]
    simp only [Bool.false_eq_true, if_false]
    exact recOps_sound hE hF hcs l (i + 1) hl2 (fun o' h' => hok o' (by simp [h'])) (s.put hd (undefRel X)) e hQ
   | true =>
    simp only at e
    rw [hw]
    simp only [if_true]
    cases hrec : isRecover o with
    | true =>
     rw [hrec, cond_true] at e
     have hrun : (execOp a.eval o).run P w = .ok .recover w := by
      unfold isRecover at hrec
      split at hrec
      ·rename_i c hc
       split at hrec
       ·rename_i hcal
        have hres : (resolve a.eval c o.type) = pure { target := .builtin .recover c.argTypes o.type (c.args.map fun | .const _ => true | _ => false), args := c.args.map a.eval } := by
         unfold resolve; rw [hcal]; rfl
        unfold execOp
        rw [hc]
        simp only [hres, pure_bind, invoke]
        rfl
       ·cases hrec
      ·cases hrec
     rw [hrun]
     simp only [hcs]
     exact recOps_sound hE hF hcs l (i + 1) hl2 (fun o' h' => hok o' (by simp [h'])) (s.put hd (by simp [VREL, REL])) e hQ
    | false =>
     rw [hrec, cond_false] at e
     cases hcall : isCall o with
     | true => rw [hcall] at e; cases e
     | false =>
      rw [hcall, cond_false] at e
      split at e
      ·cases e
      ·rename_i v h1 hs
       rw [llen_eq] at hs
       obtain ⟨x, w1, X1, O1, hrun, q1, q2, q3⟩ := stepOp_sound hE.toEnvB s.h (nid_none rfl) (nid_M s.h) (Nat.le_refl _) s.t ho hs
       have s1 := (s.step q1 q3).put hd q2
       have hk : wpOpsSIn F n P ops Q (List.range' (i + 1) l.length) (a.put o.dst x) cs w1 :=
        recOps_sound hE hF hcs l (i + 1) hl2 (fun o' h' => hok o' (by simp [h'])) s1 e (fun X' O' w' a' s' hs' => hQ X' O' w' a' s' (q3.trans hs'))
       rcases hrun with hrun | ⟨hrun, rfl⟩ <;> rw [hrun] <;> exact hk
theorem execS_succ (f fb n : Nat) (c : Code) (st : St) : execS E ih f fb (n + 1) c st = (match c with
  | .seq a b => (match execS E ih f fb n a st with
   | some (.nm, st') => execS E ih f fb n b st'
   | r => r)
  | .cond c a b => (match ev st.t c with
   | .im (.bool t) => bif t then execS E ih f fb n a st else execS E ih f fb n b st
   | _ => none)
  | .region id ops false => bif ops.toList.any isRecover then (match recOps E (E.keep f) ops ops.toList st with
   | some st' => some (.nm, st')
   | none => none) else ih f fb 0 (.region id ops false) st
  | c => ih f fb 0 c st) := rfl
theorem cond_sound {nt : Nat} {a : Act} {st : St} (s : SR nt B X O w a st) {c : Operand} (hc : okOpd c = true) {t : Bool} (e : ev st.t c = .im (.bool t)) : a.eval c = .bool t := by
 have := ev_sound s.t hc
 rw [e] at this
 simp only [VREL, REL] at this
 exact (List.cons.inj this).1
theorem execS_sound (hih : CodeS F P E ih) (hE : EnvOk F P E) (hF : Fen F) {cs : List Frame} (hcs : recoverD cs = none) {f nt n : Nat} : ∀ (k : Nat) {c : Code} {st : St} {r : Ex × St}, execS E ih f 0 k c st = some r → codeOk E f nt c = true →
  ∀ {B : Nat} {X : Cx} {O : Nat → Addr → Prop} {w : World} {a : Act}, SR nt B X O w a st → c.wpSIn F n P (fun e a' cs' w' => cs' = cs ∧ Post nt B X O w st r e a' w') a cs w
 | 0, _, _, _, e, _, _, _, _, _, _, _ => by cases e
 | k + 1, c, st, r, e, hc, B, X, O, w, a, s => by
  have base : ih f 0 0 c st = some r → c.wpSIn F n P (fun e a' cs' w' => cs' = cs ∧ Post nt B X O w st r e a' w') a cs w := fun e =>
   wpSIn_of_wpIn hF.round (wpIn_mono (hih.out hF e hc n B X O w a s) fun e a' w' hp => ⟨rfl, hp⟩)
  rw [execS_succ] at e
  split at e
  ·rename_i x y
   simp only [codeOk, Bool.and_eq_true] at hc
   refine wpSIn_seq ?_
   split at e
   ·rename_i st1 h1
    have hx := execS_sound hih hE hF hcs (n := n) k h1 hc.1 s
    intro b kk hb hro hFn hroom
    obtain ⟨e1, a1, cs1, w1, hl, ⟨rfl, hex, X1, O1, s1, p1⟩, harr⟩ := hx b kk hb hro hFn hroom
    refine ⟨e1, a1, _, w1, hl, ?_, harr⟩
    cases e1 <;> simp only [ExR] at hex
    intro b2 kk2 hb2 hro2 hFn2 hroom2
    obtain ⟨e2, a2, cs2, w2, hl2, ⟨hcs2, hex2, X2, O2, s2, p2⟩, harr2⟩ := execS_sound hih hE hF hcs (n := n) k e hc.2 s1 b2 kk2 hb2 hro2 hFn2 hroom2
    exact ⟨e2, a2, cs2, w2, hl2, ⟨hcs2, hex2, X2, O2, s2, p1.trans p2⟩, harr2⟩
   ·rename_i hne
    have hx := execS_sound hih hE hF hcs (n := n) k e hc.1 s
    intro b kk hb hro hFn hroom
    obtain ⟨e1, a1, cs1, w1, hl, ⟨hcs1, hex, X1, O1, s1, p1⟩, harr⟩ := hx b kk hb hro hFn hroom
    refine ⟨e1, a1, _, w1, hl, ?_, harr⟩
    obtain ⟨r1, r2⟩ := r
    cases e1 with
    | normal =>
     cases r1 <;> simp only [ExR] at hex
     exact absurd e (hne r2)
    | _ => exact ⟨hcs1, hex, X1, O1, s1, p1⟩
  ·rename_i x y z
   simp only [codeOk, Bool.and_eq_true] at hc
   split at e
   ·rename_i t ht
    have hv := cond_sound s hc.1 ht
    refine wpSIn_cond hv ?_
    cases t with
    | true => exact execS_sound hih hE hF hcs k (by simpa using e) hc.2.1 s
    | false => exact execS_sound hih hE hF hcs k (by simpa using e) hc.2.2 s
   ·cases e
  ·rename_i id ops
   cases ha : ops.toList.any isRecover with
   | false => rw [ha, cond_false] at e; exact base e
   | true =>
    rw [ha, cond_true] at e
    split at e
    ·rename_i st1 h1
     cases e
     simp only [codeOk, Bool.and_eq_true] at hc
     refine wpSIn_region ?_
     have := recOps_sound hE hF hcs (n := n) (Q := fun e a' cs' w' => cs' = cs ∧ Post nt B X O w st (.nm, st1) e a' w') ops.toList 0 (by simp) (fun o ho => List.all_eq_true.1 hc.1 o ho) s h1 (fun X' O' w' a' s' hs => ⟨rfl, trivial, X', O', s', hs⟩)
     rw [List.range_eq_range']
     simpa using this
    ·cases e
  ·exact base e
end
end Go.As
/-
 AS: ranges over functions: a round.
-/
namespace Go.As
open Go.RowKit (Below)
variable [Gh]
section
variable {F : Fence} {P : Program} {B : Nat} {X : Cx} {O : Nat → Addr → Prop} {w : World} {h : Heap} {E : Env} {ih : Nat → Nat → Nat → Code → St → Option (Ex × St)}
def Sub (v h : Heap) : Prop := ∀ b k, hget v b = some k → hget h b = some k
theorem HR.view (hr : HR B X O w h) {v : Heap} (hs : Sub v h) (hl : v.length = h.length) : HR B X O w v :=
 ⟨fun b k e => hr.blk b k (hs b k e), hr.own, hr.dis, by rw [hl]; exact hr.lt, hr.ci, hr.wb⟩
theorem BR.known {b : Nat} {k : Blk} {Q : Addr → Prop} (h : BR X w Q b k) : ∃ bi, X.M b = some bi := by
 cases k with
 | cell v => obtain ⟨bi, _, _, h, _⟩ := h; exact ⟨bi, h⟩
 | arr g s ro l => obtain ⟨bi, h, _⟩ := h; exact ⟨bi, h⟩
 | arv g s l => obtain ⟨bi, h, _⟩ := h; exact ⟨bi, h⟩
 | mp es s c => obtain ⟨bi, _, _, _, h, _⟩ := h; exact ⟨bi, h⟩
 | bld t e s => obtain ⟨bi, _, h, _⟩ := h; exact ⟨bi, h⟩
 | lp f t ps asg body => obtain ⟨bi, _, _, h, _⟩ := h; exact ⟨bi, h⟩
 | it v a s l => obtain ⟨bi, _, _, h, _⟩ := h; exact ⟨bi, h⟩
theorem unhide (hr : HR B X O w h) {v v' h' : Heap} {X' : Cx} {O' : Nat → Addr → Prop} {w' : World} (hs : Sub v h) (hl : v.length = h.length) (hl' : h'.length = v'.length) (hr' : HR B X' O' w' v') (st : Step B X O w v X' O' w' v')
  (h1 : ∀ b k, hget h' b = some k → (hget h b = some k ∧ hget v b = none) ∨ hget v' b = some k) (h2 : ∀ b, hget h' b = none → hget h b = none ∧ hget v' b = none) :
  HR B X' O' w' h' ∧ Step B X O w h X' O' w' h' := by
 have hvn : ∀ b, hget h b = none → hget v b = none := fun b e => by
  cases hv : hget v b with
  | none => rfl
  | some k => rw [hs b k hv] at e; cases e
 refine ⟨⟨fun b k e => ?_, hr'.own, hr'.dis, by rw [hl']; exact hr'.lt, hr'.ci, hr'.wb⟩, ⟨by rw [← hl]; exact st.up, by rw [← hl, hl']; exact st.len, ?_⟩⟩
 ·rcases h1 b k e with ⟨e1, e2⟩ | e1
  ·have hb := hr.blk b k e1
   obtain ⟨bi, hbi⟩ := hb.known
   exact BR.framed st.fr hr'.ci hbi e2 hb (by rw [hl]; exact hr.lt) st.up.le
  ·exact hr'.blk b k e1
 ·refine ⟨fun b bi e hn => ?_, fun b bi e hn => st.fr.M b bi e (hvn b hn), fun b bi e hn => st.fr.own b bi e (hvn b hn), fun b bi e hn => st.fr.cell b bi e (hvn b hn), fun b bi e hn => st.fr.obj b bi e (hvn b hn), fun b bi e hn => st.fr.blk b bi e (hvn b hn), fun b e => (h2 b e).1, fun b hb e hn => st.fr.unk b (by rw [hl]; exact hb) e (h2 b hn).2⟩
  cases hq : hget h' b with
  | none => rfl
  | some k =>
   rcases h1 b k hq with ⟨e1, _⟩ | e1
   ·rw [hn] at e1; cases e1
   ·rw [st.fr.hid b bi e (hvn b hn)] at e1; cases e1
theorem DF.nil_of {ds : List Deferred} (d : DF X O w h ds []) : ds = [] := by
 have := d.1
 simpa [All2] using this
def RoundN (F : Fence) (n : Nat) (P : Program) (B : Nat) (X : Cx) (O : Nat → Addr → Prop) (w : World) (h : Heap) (m : Sem Next) (v : V) (h' : Heap) : Prop :=
 ∃ l f tmps asg body, m.run P w = .ok (.round l f tmps asg body) w ∧ RoundIn F n P l f tmps asg body w fun
  | .returned x, w' => Leaves' B X O w h v h' x w'
  | _, _ => False
theorem RoundN.upon (hF : Fen F) {n : Nat} {o : Oper} {a : Act} {K : Act → World → Prop} {Q : Exit → Act → World → Prop} {m : Sem Next} {v : V} {h' : Heap} (hm : RoundN F (n - 1) P B X O w h m v h')
  (hK : ∀ x w', Leaves' B X O w h v h' x w' → K (a.put o.dst x) w') : o.uponIn F n P a K Q (m.run P w) := by
 obtain ⟨l, f, tmps, asg, body, hr, hc⟩ := hm
 rw [hr]
 exact ⟨hF.room, RoundIn.mono hc fun e w' he => by cases e <;> first | exact hK _ _ he | exact he.elim⟩
theorem Step.round {v v1 v2 : Heap} {X1 X2 : Cx} {O1 O2 : Nat → Addr → Prop} {w1 w2 : World} (hr : HR B X O w v) {b l : Nat} {r rb : Loop} (hO : O b ⟨l, 0, none⟩) (hl : w.heap[l]? = some (.loop r))
  (s1 : Step B X O w v X1 O1 w1 v1) (s2 : Step B X1 O1 (objW w1 l (.loop rb)) v1 X2 O2 w2 v2) : Step B X O w v X2 O2 (objW w2 l (.loop r)) v2 := by
 have hB := (hr.own b _ hO).1
 have l1 := s1.up.obj l _ hl rfl
 have l1' : (objW w1 l (.loop rb)).heap[l]? = some (.loop rb) := objW_same l1
 have l2 := s2.up.obj l _ l1' rfl
 have l3 : (objW w2 l (.loop r)).heap[l]? = some (.loop r) := objW_same l2
 have z1 := s1.up.below.size
 refine ⟨⟨s1.up.le.trans (s2.up.le.less s1.len), s1.up.below.trans ((objW_below w1 _ hB).trans (s2.up.below.trans (objW_below w2 _ hB))), fun a u e hn => ?_, fun q o e lp => ?_⟩, Nat.le_trans s1.len s2.len,
  ⟨fun c ci e hn => s2.fr.hid c ci (s1.fr.M c ci e hn) (s1.fr.hid c ci e hn), fun c ci e hn => s2.fr.M c ci (s1.fr.M c ci e hn) (s1.fr.hid c ci e hn), fun c ci e hn a o => s2.fr.own c ci (s1.fr.M c ci e hn) (s1.fr.hid c ci e hn) a (s1.fr.own c ci e hn a o),
   fun c ci e hn a o u eu => ?_, fun c ci e hn q o ob eo ho => ?_, fun c ci e hn g ho hg => ?_, fun c e => s1.fr.vis c (s2.fr.vis c e), fun c hc e hn => s2.fr.unk c (Nat.lt_of_lt_of_le hc s1.len) (s1.fr.unk c hc e (s2.fr.vis c hn)) hn⟩⟩
 ·cases hy : X1.C a with
  | none => exact s2.up.fresh a u e hy
  | some x => exact s1.up.fresh a x hy hn
 ·by_cases hq : q = l
  ·subst hq; rw [hl] at e; cases e; exact l3
  ·have h1 := s1.up.obj q o e lp
   rw [← objW_other w1 (.loop rb) hq] at h1
   have h2 := s2.up.obj q o h1 lp
   rw [objW_other w2 _ hq]; exact h2
 ·obtain ⟨p1, q1⟩ := s1.fr.cell c ci e hn a o u eu
  have p1' : (objW w1 l (.loop rb)).cell? a = some u := by rw [objW_cell l1 rfl rfl]; exact p1
  obtain ⟨p2, q2⟩ := s2.fr.cell c ci (s1.fr.M c ci e hn) (s1.fr.hid c ci e hn) a (s1.fr.own c ci e hn a o) u p1'
  rw [objW_cell l2 rfl rfl, objW_frozen l2 rfl rfl]
  rw [objW_frozen l1 rfl rfl] at q2
  exact ⟨p2, q2.trans q1⟩
 ·by_cases hq : q = l
  ·subst hq; rw [hl] at eo; cases eo; exact l3
  ·have h1 := s1.fr.obj c ci e hn q o ob eo ho
   rw [← objW_other w1 (.loop rb) hq] at h1
   have h2 := s2.fr.obj c ci (s1.fr.M c ci e hn) (s1.fr.hid c ci e hn) q (s1.fr.own c ci e hn _ o) ob h1 ho
   rw [objW_other w2 _ hq]; exact h2
 ·by_cases hq : g = l
  ·subst hq; rw [l3, hl]
  ·have h1 := s1.fr.blk c ci e hn g ho hg
   have h2 := s2.fr.blk c ci (s1.fr.M c ci e hn) (s1.fr.hid c ci e hn) g (fun a ea => s1.fr.own c ci e hn a (ho a ea)) (by rw [objW_size]; omega)
   rw [objW_other w2 _ hq, h2, objW_other w1 _ hq, h1]
theorem putPs_nil (xs : List V) (t : Tm) : putPs [] xs t = (match xs with | [] => some t | _ => none) := rfl
theorem putPs_cons (p : Nat) (ps : List Nat) (xs : List V) (t : Tm) : putPs (p :: ps) xs t = (match xs with | [] => none | x :: xs => putPs ps xs (t.set p x)) := rfl
theorem putPs_sound : ∀ {ps : List Nat} {xs : List V} {t t' : Tm} {tmps : Array Value} {args : List Value}, putPs ps xs t = some t' → All2 (fun v x => VREL X v true [x]) xs args → TR X t tmps → (∀ p ∈ ps, p < tmps.size) →
  args.length = ps.length ∧ TR X t' ((ps.zip args).foldl (fun t (p : Nat × Value) => t.setIfInBounds p.1 p.2) tmps) ∧ ((ps.zip args).foldl (fun t (p : Nat × Value) => t.setIfInBounds p.1 p.2) tmps).size = tmps.size
 | [], xs, t, t', tmps, args, e, ha, ht, _ => by
  rw [putPs_nil] at e
  cases xs with
  | nil =>
   cases e
   have : args = [] := by simpa [All2] using ha
   subst this; exact ⟨rfl, ht, rfl⟩
  | cons x xs => cases e
 | p :: ps, xs, t, t', tmps, args, e, ha, ht, hp => by
  rw [putPs_cons] at e
  cases xs with
  | nil => cases e
  | cons x xs =>
   obtain ⟨y, ys, rfl, h1, h2⟩ := ha
   obtain ⟨q1, q2, q3⟩ := putPs_sound (tmps := tmps.setIfInBounds p y) e h2 (ht.set (hp p (by simp)) h1) (fun q hq => by simpa using hp q (by simp [hq]))
   refine ⟨by simp [q1], ?_, ?_⟩
   ·simpa using q2
   ·simpa using q3
theorem roundV_sound (hih : CodeS F P E ih) (hE : EnvOk F P E) (hF : Fen F) {b : Nat} {xs : List V} {v : V} {h' : Heap} (e : roundV ih b xs h = some (v, h')) (hr : HR B X O w h) {l : Nat} {bi : BI} (hM : X.M b = some bi) (hb : bi.base = some ⟨l, 0, none⟩)
  {args : Array Value} (ha : All2 (fun v x => VREL X v true [x]) xs args.toList) (n : Nat) : RoundN F n P B X O w h (invoke (.fn (.yield l) #[]) args) v h' := by
 unfold roundV at e
 split at e
 ·rename_i f t ps asg body hk
  obtain ⟨t0, ht0, e⟩ := Option.bind_eq_some_iff.1 e
  split at e
  ·rename_i s1 h1
   split at e
   ·rename_i d1
    split at e
    ·rename_i s2 h2
     split at e
     ·rename_i d2
      cases e
      have hB := hr.blk b _ hk
      obtain ⟨bi', l', r, c1, c2, c3, c4, c5, c6, c7⟩ := hB
      rw [hM] at c1; cases c1
      rw [hb] at c4; cases c4
      obtain ⟨g1, g2⟩ := (hE.gh _ _ _).1 c7.k1
      obtain ⟨g3, g4⟩ := (hE.gh _ _ _).1 c7.k2
      obtain ⟨z1, z2, z3⟩ := putPs_sound (args := args.toList) ht0 ha c7.qt c7.qlt
      have hsz : args.size = r.params.size := by
       have := congrArg List.length c7.qps
       simp at this; simp at z1; omega
      have hfold : ((r.params.zip args).foldl (fun tmps (t, a) => tmps.setIfInBounds t a) r.tmps) = ((ps.zip args.toList).foldl (fun t (p : Nat × Value) => t.setIfInBounds p.1 p.2) r.tmps) := by
       rw [← Array.foldl_toList, Array.toList_zip, c7.qps]
      have hy : (invoke (.fn (.yield l) #[]) args).run P w = .ok (.round l r.fn ((r.params.zip args).foldl (fun tmps (t, a) => tmps.setIfInBounds t a) r.tmps) r.assign r.body) w := by
       show (Instr.yield l args).run P w = _
       exact run_yield c5 hsz
      rw [hfold] at hy
      generalize hT : ((ps.zip args.toList).foldl (fun t (p : Nat × Value) => t.setIfInBounds p.1 p.2) r.tmps) = tm0 at hy z2 z3
      refine ⟨l, r.fn, _, _, _, hy, ?_⟩
      refine roundIn_of_wpIn (hF.fn _) ?_
      rw [c7.qasg, c7.qbody]
      have hbl := hget_lt hk
      have hsub : ∀ c k, hget (lset h b none) c = some k → hget h c = some k ∧ c ≠ b := fun c k hc => by
       rw [lset_eq, hget_eq, List.getElem?_set] at hc
       by_cases hcb : b = c
       ·subst hcb; simp at hc; split at hc <;> simp at hc
       ·rw [if_neg hcb] at hc; exact ⟨by rw [hget_eq]; exact hc, Ne.symm hcb⟩
      have hhid : hget (lset h b none) b = none := by
       cases hc : hget (lset h b none) b with
       | none => rfl
       | some k => exact absurd rfl (hsub b k hc).2
      have hnone : ∀ c, hget (lset h b none) c = none → c = b ∨ hget h c = none := fun c hc => by
       by_cases hcb : c = b
       ·exact .inl hcb
       ·right
        rw [lset_eq, hget_eq, List.getElem?_set, if_neg (Ne.symm hcb)] at hc
        rw [hget_eq]; exact hc
      have hlen : (lset h b none).length = h.length := by rw [lset_eq, List.length_set]
      have hv : HR B X O w (lset h b none) := ⟨fun c k hc => hr.blk c k (hsub c k hc).1, hr.own, hr.dis, by rw [hlen]; exact hr.lt, hr.ci, hr.wb⟩
      have sr0 : SR r.tmps.size B X O w { tmps := tm0, defers := [] } ⟨t0, lset h b none, [], []⟩ := ⟨z2, z3, hv, ⟨All2.nil, List.Pairwise.nil⟩, rfl⟩
      refine wpIn_mono (hih f 1 0 asg _ _ h1 _ g1 n B X O w _ sr0 (some l) ⟨by decide, g2, r, c5⟩) fun e1 a1 w1 ⟨hex, X1, O1, s1r, p1⟩ => ?_
      cases e1 <;> simp only [ExR] at hex
      have l1 := p1.up.obj l _ c5 rfl
      refine ⟨_, run_beginRound l1 c7.qst, ?_⟩
      have hd1 : a1.defers = [] := DF.nil_of (by have := s1r.df; rw [d1] at this; exact this)
      have hM1 := p1.fr.M b _ hM hhid
      have hO1 := p1.fr.own b _ hM hhid _ c6
      have hh1 := p1.fr.hid b _ hM hhid
      have hno1 : ∀ c k, hget s1.h c = some k → ¬ O1 c ⟨l, 0, none⟩ := fun c k hc o => by
       have := s1r.h.dis c b _ o hO1
       subst this; rw [hh1] at hc; cases hc
      have hr1 : HR B X1 O1 (objW w1 l (.loop { r with state := .busy })) s1.h := s1r.h.obj l1 rfl rfl hno1
      have sr1 : SR r.tmps.size B X1 O1 (objW w1 l (.loop { r with state := .busy })) a1 ⟨s1.t, s1.h, [], []⟩ := ⟨s1r.t, s1r.n, hr1, by rw [hd1]; exact ⟨All2.nil, List.Pairwise.nil⟩, rfl⟩
      have l1' : (objW w1 l (.loop { r with state := .busy })).heap[l]? = some (.loop { r with state := .busy }) := objW_same l1
      refine wpIn_mono (hih f 1 0 body _ _ h2 _ g3 n B X1 O1 _ _ sr1 (some l) ⟨by decide, g4, _, l1'⟩) fun e2 a2 w2 ⟨hex2, X2, O2, s2r, p2⟩ => ?_
      cases e2 <;> simp only [ExR] at hex2
      have l2 := p2.up.obj l _ l1' rfl
      have hend := run_endRound (P := P) none l2
      have hback : ({ ({ r with state := .busy } : Loop) with state := if (none : Option Code).isNone then .ready else .done, pending := none } : Loop) = r := by
       have q1 := c7.qst; have q2 := c7.qpend
       cases r; simp_all
      rw [hback] at hend
      refine ⟨_, _, hend, ?_⟩
      have hM2 := p2.fr.M b _ hM1 hh1
      have hO2 := p2.fr.own b _ hM1 hh1 _ hO1
      have hh2 := p2.fr.hid b _ hM1 hh1
      have hno2 : ∀ c k, hget s2.h c = some k → ¬ O2 c ⟨l, 0, none⟩ := fun c k hc o => by
       have := s2r.h.dis c b _ o hO2
       subst this; rw [hh2] at hc; cases hc
      have hr2 : HR B X2 O2 (objW w2 l (.loop r)) s2.h := s2r.h.obj l2 rfl rfl hno2
      have hst : Step B X O w (lset h b none) X2 O2 (objW w2 l (.loop r)) s2.h := Step.round hv c6 c5 p1 p2
      have hle2 : b ≤ s2.h.length := by have := hst.len; rw [hlen] at this; omega
      have hlt2 : b < s2.h.length := by have := hst.len; rw [hlen] at this; omega
      obtain ⟨u1, u2⟩ := unhide (h' := hput s2.h b (.lp f t ps asg body)) hr (fun c k hc => (hsub c k hc).1) hlen (by rw [hput_len, if_pos hlt2]) hr2 hst (fun c k hc => by
       rw [hget_hput s2.h b c _ hle2] at hc
       by_cases hcb : c = b
       ·rw [if_pos hcb] at hc; cases hc
        subst hcb; exact .inl ⟨hk, hhid⟩
       ·rw [if_neg hcb] at hc; exact .inr hc) (fun c hc => by
       rw [hget_hput s2.h b c _ hle2] at hc
       by_cases hcb : c = b
       ·rw [if_pos hcb] at hc; cases hc
       ·rw [if_neg hcb] at hc
        exact ⟨(hnone c (hst.fr.vis c hc)).resolve_left hcb, hc⟩)
      exact ⟨X2, O2, u1, by simp [VREL, REL], u2⟩
     ·cases e
    ·cases e
   ·cases e
  ·cases e
 ·cases e
end
end Go.As
/-
 AS: calls, and operations at their place.
-/
namespace Go.As
open Go.RowKit (Below)
variable [Gh]
section
variable {F : Fence} {P : Program} {B : Nat} {X : Cx} {O : Nat → Addr → Prop} {w : World} {h : Heap} {E : Env} {ih : Nat → Nat → Nat → Code → St → Option (Ex × St)}
theorem runDefers_cons (n0 : Nat) (d : Nat × List V) (df : List (Nat × List V)) (h : Heap) (lp : List Rec) : runDefers E ih n0 (d :: df) h lp = (bif isMark d then (bif Nat.ble n0 d.1 then runDefers E ih n0 df h lp else none) else match runBodyS E ih d.1 d.2 h lp with
  | some (fn, st) => (match st.df with
   | [] => (match resultsV E st.h fn st.t with
    | some _ => runDefers E ih n0 df st.h st.lp
    | none => none)
   | _ => none)
  | none => none) := rfl
theorem All2.put {b D : Nat} {o : Obj} : ∀ {df : List (Nat × List V)} {ds : List Deferred}, All2 (DFe X O w h) df ds → (∀ d ∈ ds, d.target ≠ .collected D) → All2 (DFe X O (objW w D o) h) df ds
 | [], _, r, _ => by simpa [All2] using r
 | p :: df, _, r, hn => by
  obtain ⟨d, ds', rfl, r1, r2⟩ := r
  refine All2.cons (r1.elim (fun ⟨hm, D', bi, e1, e2, e3⟩ => .inl ⟨hm, D', bi, e1, ?_, e3⟩) (fun hh => .inr hh)) (All2.put (b := b) r2 fun d hd => hn d (by simp [hd]))
  rw [objW_other w o (fun e => hn d (by simp) (by rw [e1, e]))]; exact e2
theorem Step.obj {X0 : Cx} {O0 : Nat → Addr → Prop} {w0 : World} {h0 : Heap} (s : Step B X0 O0 w0 h0 X O w h) (hr : HR B X O w h) {b D : Nat} {o' o : Obj} (hO : O b ⟨D, 0, none⟩) (hb : X0.M b = none) (hl : w.heap[D]? = some o') (h1 : o'.isCells = false) (h2 : o.isCells = false)
  (h3 : Obj.lp o' = false) : Step B X0 O0 w0 h0 X O (objW w D o) h := by
 have hne : ∀ c ci, X0.M c = some ci → hget h0 c = none → ∀ g, O0 c ⟨g, 0, none⟩ → g ≠ D := fun c ci e hn g ho hg => by
  subst hg
  have := hr.dis c b _ (s.fr.own c ci e hn _ ho) hO
  subst this; rw [hb] at e; cases e
 refine ⟨⟨s.up.le, s.up.below.trans (objW_below w o (hr.own b _ hO).1), s.up.fresh, fun r q e l => ?_⟩, s.len, ⟨s.fr.hid, s.fr.M, s.fr.own, fun c ci e hn a ho v ev => ?_, fun c ci e hn r ho q eq hq => ?_, fun c ci e hn g ho hg => ?_, s.fr.vis, s.fr.unk⟩⟩
 ·have := s.up.obj r q e l
  rw [objW_other w o (fun hrD => by subst hrD; rw [hl] at this; cases this; rw [h3] at l; cases l)]; exact this
 ·rw [objW_cell hl h1 h2, objW_frozen hl h1 h2]; exact s.fr.cell c ci e hn a ho v ev
 ·rw [objW_other w o (hne c ci e hn r ho)]; exact s.fr.obj c ci e hn r ho q eq hq
 ·rw [objW_other w o (hne c ci e hn g (ho _ rfl))]; exact s.fr.blk c ci e hn g ho hg
theorem defers_sound (hih : CodeS F P E ih) (hE : EnvOk F P E) (hF : Fen F) {fn : Func} {tmps : Array Value} {t : Tm} {R : Ending → World → Prop} {B : Nat} {X0 : Cx} {O0 : Nat → Addr → Prop} {w0 : World} {h0 : Heap} (hX0 : X0.lt h0.length) : ∀ (df : List (Nat × List V)) {n : Nat} {X : Cx} {O : Nat → Addr → Prop} {w : World} {h h2 : Heap} {lp2 : List Rec} {ds : List Deferred},
  runDefers E ih h0.length df h [] = some (h2, lp2) → DF X O w h ds df → HR B X O w h → Step B X0 O0 w0 h0 X O w h → TR X t tmps →
  (∀ X' O' w', HR B X' O' w' h2 → TR X' t tmps → Step B X0 O0 w0 h0 X' O' w' h2 → ∃ v, (results fn tmps).run P w' = .ok v w' ∧ R (.returned v) w') → LeavesInM F n P fn tmps R ds .returning w ∧ lp2 = []
 | [], n, X, O, w, h, h2, lp2, ds, e, hd, hr, hst, ht, hR => by
  have e : some (h, ([] : List Rec)) = some (h2, lp2) := e
  cases e
  have := DF.nil_of hd; subst this
  exact ⟨hR X O w hr ht hst, rfl⟩
 | d :: df, n, X, O, w, h, h2, lp2, ds, e, hd, hr, hst, ht, hR => by
  rw [runDefers_cons] at e
  obtain ⟨⟨dd, ds', rfl, hdd, hrest⟩, hpw⟩ := hd
  obtain ⟨hpw1, hpw2⟩ := List.pairwise_cons.1 hpw
  rcases hdd with ⟨hm, D, bi, htar, hD, hM, hhid, hO⟩ | ⟨hm, cap, htar, hargs⟩
  ·-- the mark of a loop
   rw [hm, cond_true] at e
   obtain ⟨hle, e⟩ := bif_some e
   have hb0 : X0.M d.1 = none := by
    cases hx : X0.M d.1 with
    | none => rfl
    | some ci => have := hX0 _ _ hx; have := ble_of hle; omega
   have hno : ∀ b k, hget h b = some k → ¬ O b ⟨D, 0, none⟩ := fun b k hk ho => by
    have := hr.dis b d.1 _ ho hO
    subst this; rw [hhid] at hk; cases hk
   obtain ⟨q1, q2⟩ := defers_sound hih hE hF (fn := fn) (t := t) (tmps := tmps) (R := R) hX0 df (n := n) e ⟨All2.put (b := 0) (o := .deferred none) hrest fun d' hd' => hpw1 d' hd' D htar, hpw2⟩ (hr.obj hD rfl rfl hno) (hst.obj hr hO hb0 hD rfl rfl rfl) ht hR
   exact ⟨⟨by simp, .inl ⟨D, _, htar, run_takeDeferred hD, q1⟩⟩, q2⟩
  rw [hm, cond_false] at e
  split at e
  ·rename_i fn' st hrun
   split at e
   ·rename_i hdf
    split at e
    ·rename_i rv hrv
     obtain ⟨c, r, hfn, hbody, hble, hx, hrr⟩ := runBodyS_some hrun
     obtain ⟨hpf, hname, hcode⟩ := hE.fn _ _ hfn
     have hs := start_SR (X := X) hr hargs hble
     obtain ⟨dt, da⟩ := dd
     simp only at htar; subst htar
     have hinv : (invoke (Target.fn (.func d.1) cap) da).run P w = .ok (.enter d.1 (da ++ cap)) w := by
      show (callFunc d.1 (da ++ cap)).run P w = _
      exact callFunc_enter hpf hbody hname _
     have hlast : ∀ (X1 : Cx) (O1 : Nat → Addr → Prop) (w1 : World) (a1 : Act) (e1 : Exit), ExR r e1 → SR fn'.ntmps B X1 O1 w1 a1 st → Step B X O w h X1 O1 w1 st.h →
       a1.defers = [] ∧ (∃ v, (results fn' a1.tmps).run P w1 = .ok v w1) ∧ LeavesInM F n P fn tmps R ds' .returning w1 ∧ lp2 = [] := fun X1 O1 w1 a1 e1 hex s1 p1 => by
      have had : a1.defers = [] := DF.nil_of (by have := s1.df; rw [hdf] at this; exact this)
      obtain ⟨v, hv, _⟩ := results_sound hE.toEnvTy s1.h s1.t hrv
      have hlp := s1.lp
      rw [hlp] at e
      have hrec := defers_sound hih hE hF (fn := fn) (t := t) (tmps := tmps) (R := R) hX0 df (n := n) e (DF.step hr.lt p1 ⟨hrest, hpw2⟩) s1.h (hst.trans p1) (ht.mono hr.lt p1.up.le) hR
      exact ⟨had, ⟨v, hv⟩, hrec⟩
     have hx2 : ∀ (c₀ : Frame) (cs : List Frame), c₀.mode = .returning → c.wpSIn F (n - 1) P (fun e a' cs' w' => cs' = c₀ :: cs ∧ Post fn'.ntmps B X O w ⟨tmOf fn'.ntmps d.2, h, [], []⟩ (r, st) e a' w') { tmps := (da ++ cap) ++ Array.replicate (fn'.ntmps - (da ++ cap).size) undef, defers := [] } (c₀ :: cs) w := fun c₀ cs hu =>
      execS_sound hih hE hF (by simp only [recoverD, hu]) (n := n - 1) 64 hx (hcode c hbody) hs
     have hroomAll : ∀ k, F.room k := fun k d hd => by rw [hF.depth] at hd; cases hd
     have hlp2 : lp2 = [] := by
      obtain ⟨e1, a1, cs1, w1, _, ⟨_, hex, X1, O1, s1, p1⟩, _⟩ := hx2 { (default : Frame) with mode := .returning } [] rfl { (default : Frame) with kind := .deferred, roundOf := none } [] rfl rfl (hF.fn _) (hroomAll _)
      exact (hlast X1 O1 w1 a1 e1 hex s1 p1).2.2.2
     refine ⟨⟨by simp, .inr ⟨hF.room, _, cap, d.1, da ++ cap, rfl, hinv, fun g _ => hF.fn g, ?_⟩⟩, hlp2⟩
     refine callsDIn_of_wpSIn hpf hbody (hF.fn _) fun c₀ cs hu => ?_
     intro b kk hb hro hFn hroom
     obtain ⟨e1, a1, cs1, w1, hl, ⟨rfl, hex, X1, O1, s1, p1⟩, harr⟩ := hx2 c₀ cs hu b kk hb hro hFn hroom
     refine ⟨e1, a1, _, w1, hl, ?_, harr⟩
     obtain ⟨had, ⟨v, hv⟩, hlv, _⟩ := hlast X1 O1 w1 a1 e1 hex s1 p1
     have hcc : ({ c₀ with mode := FrameMode.returning } : Frame) = c₀ := by rw [← hu]
     rcases hrr with rfl | rfl
     ·cases e1 <;> simp only [ExR] at hex
      exact ⟨had, .returning, by rw [hcc], v, hv, hlv⟩
     ·cases e1 <;> simp only [ExR] at hex
      exact ⟨had, .returning, by rw [hcc], v, hv, hlv⟩
    ·cases e
   ·cases e
  ·cases e
theorem room_all {F : Fence} (hF : Fen F) (k : Nat) : F.room k := fun d hd => by rw [hF.depth] at hd; cases hd
theorem wpIn_some {n : Nat} (hF : Fen F) {c : Code} {Q : Exit → Act → World → Prop} {a : Act} (hw : c.wpIn F n P Q a w) : ∃ e a' w', Q e a' w' := by
 obtain ⟨e, a', w', q, _⟩ := hw { (default : Frame) with roundOf := none } [] [] hF.round.symm (hF.fn _) (room_all hF _)
 exact ⟨e, a', w', q⟩
theorem inline_sound (hih : CodeS F P E ih) (hE : EnvOk F P E) (hF : Fen F) {f : Nat} {args : List V} {v : V} {h' : Heap} {lp' : List Rec} (e : inlineV E ih f args h [] = some (v, h', lp')) (hr : HR B X O w h) {xs : Array Value} (ha : All2 (fun v x => VREL X v true [x]) args xs.toList) :
  lp' = [] ∧ (∃ fn c, P.funcs[f]? = some fn ∧ fn.body = some c ∧ (fn.name == "runtime.NumGoroutine") = false) ∧ ∀ n, CallOk F n P f xs w (Leaves' B X O w h v h') := by
 unfold inlineV at e
 split at e
 ·rename_i fn st hrun
  obtain ⟨c, r, hfn, hbody, hble, hx, hrr⟩ := runBody_some hrun
  obtain ⟨hpf, hname, hcode⟩ := hE.fn _ _ hfn
  have hs := start_SR (X := X) hr ha hble
  let R : Ending → World → Prop := fun | .returned x, w' => Leaves' B X O w h v h' x w' | _, _ => False
  have hlast : ∀ (n : Nat) (X1 : Cx) (O1 : Nat → Addr → Prop) (w1 : World) (a1 : Act), SR fn.ntmps B X1 O1 w1 a1 st → Step B X O w h X1 O1 w1 st.h → LeavesInM F n P fn a1.tmps R a1.defers .returning w1 ∧ lp' = [] := fun n X1 O1 w1 a1 s1 p1 => by
   split at e
   ·rename_i hdf
    obtain ⟨v', hv, e⟩ := Option.map_eq_some_iff.1 e
    cases e
    have had : a1.defers = [] := DF.nil_of (by have := s1.df; rw [hdf] at this; exact this)
    obtain ⟨x, hx1, hx2⟩ := results_sound hE.toEnvTy s1.h s1.t hv
    rw [had]
    exact ⟨⟨x, hx1, X1, O1, s1.h, hx2, p1⟩, s1.lp⟩
   ·obtain ⟨hl, hd, e⟩ := Option.bind_eq_some_iff.1 e
    obtain ⟨v', hv, e⟩ := Option.map_eq_some_iff.1 e
    cases e
    obtain ⟨h2, lp2⟩ := hl
    rw [s1.lp, llen_eq] at hd
    exact defers_sound hih hE hF hr.lt st.df (n := n) hd s1.df s1.h p1 s1.t fun X' O' w' q1 q2 q3 => by
     obtain ⟨x, hx1, hx2⟩ := results_sound hE.toEnvTy q1 q2 hv
     exact ⟨x, hx1, X', O', q1, hx2, q3⟩
  have hw : ∀ n, c.wpIn F n P (Post fn.ntmps B X O w ⟨tmOf fn.ntmps args, h, [], []⟩ (r, st)) { tmps := xs ++ Array.replicate (fn.ntmps - xs.size) undef, defers := [] } w := fun n =>
   hih.out hF hx (hcode c hbody) n B X O w _ hs
  refine ⟨?_, ⟨fn, c, hpf, hbody, hname⟩, fun n => ?_⟩
  ·obtain ⟨e1, a1, w1, hex, X1, O1, s1, p1⟩ := wpIn_some hF (hw 0)
   exact (hlast 0 X1 O1 w1 a1 s1 p1).2
  ·have := callsIn_of_wp_marks (F := F) (n := n) (P := P) (R := R) hpf hbody (hF.fn f) (wpIn_mono (hw n) fun e1 a1 w1 ⟨hex, X1, O1, s1, p1⟩ => by
    rcases hrr with rfl | rfl
    ·cases e1 <;> simp only [ExR] at hex
     exact (hlast n X1 O1 w1 a1 s1 p1).1
    ·cases e1 <;> simp only [ExR] at hex
     exact (hlast n X1 O1 w1 a1 s1 p1).1) hF.round
   exact CallsIn.mono this fun e w' he => by cases e <;> exact he
 ·cases e
theorem vals_im {C : IV} {M : Nat → Option BI} {L : Nat → Option Nat} {ds : List D} {xs : List Value} (h : All2 (fun d x => REL C d true [x]) ds xs) : All2 (fun v x => VREL ⟨C, M, L⟩ v true [x]) (imap ds) xs := by
 rw [imap_eq]
 exact All2.map_left.1 (h.imp fun d x r => by simp only [VREL]; exact r)
theorem dataV_sound (hih : CodeS F P E ih) (hE : EnvOk F P E) (hF : Fen F) {f : Nat} {ds : List D} {d : D} (e : dataV E ih f ds = some d) :
  (∃ fn c, P.funcs[f]? = some fn ∧ fn.body = some c ∧ (fn.name == "runtime.NumGoroutine") = false) ∧ DataOk F P f ds d := by
 unfold dataV at e
 obtain ⟨⟨v, h', lp'⟩, he, hd⟩ := Option.bind_eq_some_iff.1 e
 have key : ∀ (C : IV) (w : World) (args : Array Value), CI C w → All2 (fun d x => REL C d true [x]) ds args.toList → (∃ fn c, P.funcs[f]? = some fn ∧ fn.body = some c ∧ (fn.name == "runtime.NumGoroutine") = false) ∧ ∀ n, CallOk F n P f args w fun x w' => ∃ C', C.le C' ∧ CI C' w' ∧ Below w.heap.size w w' ∧ (∀ a v, C' a = some v → C a = none → w.heap.size ≤ a.block) ∧ REL C' d true [x] := fun C w args hci ha => by
  let X : Cx := ⟨C, fun _ => none, fun _ => none⟩
  have hr : HR w.heap.size X (fun _ _ => False) w [] := ⟨fun b k e => (by simp [hget, lget] at e), fun _ _ h => h.elim, fun _ _ _ h => h.elim, fun _ _ e => (by cases e), hci, Nat.le_refl _⟩
  obtain ⟨_, hb, hc⟩ := inline_sound hih hE hF he hr (vals_im ha)
  refine ⟨hb, fun n => (hc n).mono fun x w' ⟨X', O', q1, q2, q3⟩ => ?_⟩
  have hci' := q1.ci
  refine ⟨bigView w.heap.size X' w', q3.up.le.C.trans (bigView_le hci'), bigView_ci hci', q3.up.below, fun a v e hn => ?_, data_sound q1 (bigView_shows q1) hd (fun _ _ => trivial) q2⟩
  unfold bigView at e
  split at e
  ·assumption
  ·exact q3.up.fresh a v e hn
 refine ⟨?_, fun n C w args hci ha => (key C w args hci ha).2 n⟩
 unfold inlineV at he
 split at he
 ·rename_i fn st hrun
  obtain ⟨c, r, hfn, hbody, _, _, _⟩ := runBody_some hrun
  obtain ⟨hpf, hname, _⟩ := hE.fn _ _ hfn
  exact ⟨fn, c, hpf, hbody, hname⟩
 ·cases he
theorem dataC_sound (hih : CodeS F P E ih) (hE : EnvOk F P E) (hF : Fen F) {f : Nat} {ds : List D} {d : D} (e : dataC E ih f ds = some d) :
  (∃ fn c, P.funcs[f]? = some fn ∧ fn.body = some c ∧ (fn.name == "runtime.NumGoroutine") = false) ∧ DataOk F P f ds d := by
 unfold dataC at e
 split at e
 ·rename_i S hS
  split at e
  ·rename_i r hr
   cases e
   obtain ⟨h1, h2⟩ := hE.sm _ _ hS
   exact ⟨h1, h2 _ _ hr⟩
  ·exact dataV_sound hih hE hF e
 ·exact dataV_sound hih hE hF e
theorem nil_of_ownsL {l : List V} (h : V.ownsL l = []) : ∀ v ∈ l, ∀ b ∈ v.owns, False := fun v hv b hb => by
 have := ownsL_mem hv hb; rw [h] at this; cases this
theorem callV_sound (hih : CodeS F P E ih) (hE : EnvOk F P E) (hF : Fen F) {f : Nat} {args : List V} {v : V} {h' : Heap} {lp' : List Rec} (e : callV E ih f args h [] = some (v, h', lp')) (hr : HR B X O w h) {xs : Array Value} (ha : All2 (fun v x => VREL X v true [x]) args xs.toList) :
  lp' = [] ∧ ∀ n, CallN F n P B X O w h (callFunc f xs) v h' := by
 have inl : inlineV E ih f args h [] = some (v, h', lp') → lp' = [] ∧ ∀ n, CallN F n P B X O w h (callFunc f xs) v h' := fun e => by
  obtain ⟨h1, ⟨fn, c, hpf, hb, hn⟩, h2⟩ := inline_sound hih hE hF e hr ha
  exact ⟨h1, fun n => .inr ⟨f, xs, callFunc_enter hpf hb hn xs, h2 n⟩⟩
 unfold callV at e
 cases hinl : E.inl f with
 | true => rw [hinl, cond_true] at e; exact inl e
 | false =>
  rw [hinl, cond_false] at e
  split at e
  ·rename_i ds hds
   obtain ⟨r, hr', e⟩ := Option.bind_eq_some_iff.1 e
   obtain ⟨⟨fn, c, hpf, hb, hn⟩, hdata⟩ := dataC_sound hih hE hF hr'
   have hent := callFunc_enter (w := w) hpf hb hn xs
   split at e
   ·rename_i hno
    cases e
    refine ⟨rfl, fun n => .inr ⟨f, xs, hent, ?_⟩⟩
    have hS : Shows X w h X.C (fun _ => False) := ⟨.refl _, fun b bi a0 hb => hb.elim⟩
    have hrel := data_REL hr hS hds (fun v hv b hb => nil_of_ownsL hno v hv b hb) ha
    refine (hdata n X.C w xs hr.ci hrel).mono fun x w' ⟨C', q1, q2, q3, q4, q5⟩ => ?_
    obtain ⟨g1, g2⟩ := grown_ok hr q1 q2 q3 q4
    exact ⟨X.withC C', O, g1, by simp only [VREL]; exact q5, g2⟩
   ·cases hfl : r.flat with
    | true =>
     rw [hfl, cond_true] at e
     cases e
     refine ⟨rfl, fun n => .inr ⟨f, xs, hent, ?_⟩⟩
     have hrel := data_REL hr (bigView_shows hr) hds (fun _ _ _ _ => trivial) ha
     refine (hdata n _ w xs (bigView_ci hr.ci) hrel).mono fun x w' ⟨C', q1, q2, q3, q4, q5⟩ => ?_
     obtain ⟨g1, g2⟩ := grown_same hr q3
     exact ⟨X, O, g1, by simp only [VREL]; exact r.flat_REL true [x] hfl q5, g2⟩
    | false =>
     rw [hfl, cond_false] at e
     obtain ⟨hal, e⟩ := bif_some e
     cases e
     refine ⟨rfl, fun n => .inr ⟨f, xs, hent, ?_⟩⟩
     obtain ⟨C, O1, k1, k2, k3, k4, k5, k6, k7, k8, k9⟩ := close_sound (V.ownsL args) hr hal
     have hshow := close_shows hal k2 k7
     have hrel := data_REL hr hshow hds (fun v hv b hb => ownsL_mem hv hb) ha
     have hst : Step B X O w h (X.withC C) O1 w (close h (V.ownsL args)) := ⟨Up.withC _ k2 k4, by rw [k5]; exact Nat.le_refl _, close_FR hal (fun b hb => (k8 b).2 hb) (fun b => (k8 b).1) k9⟩
     refine (hdata n C w xs k3 hrel).mono fun x w' ⟨C', q1, q2, q3, q4, q5⟩ => ?_
     obtain ⟨g1, g2⟩ := grown_ok k1 q1 q2 q3 q4
     exact ⟨_, O1, g1, by simp only [VREL]; exact q5, hst.trans g2⟩
  ·exact inl e
theorem callFn_sound (hih : CodeS F P E ih) (hE : EnvOk F P E) (hF : Fen F) {nid g : Nat} {args : List V} {v : V} {h' : Heap} {lp' : List Rec} (e : callFn E ih nid g args h [] = some (v, h', lp')) (hr : HR B X O w h) (hn : hget h nid = none) (hM : X.M nid = none) (hle : nid ≤ h.length)
  {xs : Array Value} (ha : All2 (fun v x => VREL X v true [x]) args xs.toList) : lp' = [] ∧ ∀ n, CallN F n P B X O w h (callFunc g xs) v h' := by
 have lifted : ∀ {r : R}, lift [] r = some (v, h', lp') → lp' = [] ∧ r = some (v, h') := fun {r} e => by
  cases r with
  | none => cases e
  | some x =>
   have e : some (x.1, x.2, ([] : List Rec)) = some (v, h', lp') := e
   cases e; exact ⟨rfl, rfl⟩
 unfold callFn at e
 split at e
 ·rename_i sz hsz
  obtain ⟨h1, h2⟩ := lifted e
  exact ⟨h1, fun n => hE.clone g sz hsz n B X O w h hr args xs ha nid hn hM hle v h' h2⟩
 ·split at e
  ·exact callV_sound hih hE hF e hr ha
  ·rename_i hx
   obtain ⟨h1, h2⟩ := lifted e
   exact ⟨h1, fun n => hE.ext g (fun h0 => hx h0) n B X O w h hr args xs ha v h' h2⟩
theorem target_sound (hE : EnvOk F P E) {t : Tm} {a : Act} (ht : TR X t a.tmps) {c : Call} (hc : ∀ x ∈ c.operands.toList, okOpd x = true) {g : Nat} {xs : List V} (e : target E t c = some (g, xs)) (ty : TypeId) :
  ∃ args : Array Value, All2 (fun v x => VREL X v true [x]) xs args.toList ∧ ∀ w, (do let d ← resolve a.eval c ty; invoke d.target d.args : Sem Next).run P w = (callFunc g args).run P w := by
 have hargs : (∀ x ∈ c.args.toList, okOpd x = true) := fun x hx => hc x (by unfold Call.operands; simp only [Array.toList_append, List.mem_append]; exact .inr hx)
 have hev := evs_sound ht hargs
 have hflat : ∀ {l : List V} {wss : List (List Value)}, VRELs X l true wss → All2 (fun v x => VREL X v true [x]) l wss.flatten := by
  intro l
  induction l with
  | nil => intro wss h; simp only [VRELs] at h; subst h; exact All2.nil
  | cons v l ih =>
   intro wss h
   simp only [VRELs] at h
   obtain ⟨ws, r, rfl, h1, h2⟩ := h
   obtain ⟨y, rfl⟩ := VREL.single h1
   exact All2.cons h1 (ih h2)
 unfold target at e
 split at e
 ·cases e
 ·rename_i f hcal
  have hf : VREL X (ev t f) true [a.eval f] := ev_sound ht (hc f (by unfold Call.operands; rw [hcal]; simp))
  split at e
  ·rename_i g' as cap hg
   cases e
   rw [hg] at hf
   simp only [VREL] at hf
   obtain ⟨fs, cs, w1, w2, e1, h1, h2, h3, h4⟩ := hf
   refine ⟨(fs ++ c.args.map a.eval) ++ cs, ?_, fun w => ?_⟩
   ·have q1 := hflat h1
    have q3 := hflat h3
    rw [← h2] at q1; rw [← h4] at q3
    simp only [Array.toList_append, List.append_assoc]
    exact q1.app (hev.app q3)
   ·have hres : resolve a.eval c ty = pure { target := .fn (.func g) cs, args := fs ++ c.args.map a.eval } := by
     unfold resolve; rw [hcal]
     show Deferred.ofValue (a.eval f) _ = _
     rw [(List.cons.inj e1).1]; rfl
    simp only [hres, pure_bind]
    rfl
  ·rename_i g' hg
   cases e
   rw [hg] at hf
   simp only [VREL, REL] at hf
   refine ⟨(#[] ++ c.args.map a.eval) ++ #[], by simpa using hev, fun w => ?_⟩
   have hres : resolve a.eval c ty = pure { target := .fn (.func g) #[], args := #[] ++ c.args.map a.eval } := by
    unfold resolve; rw [hcal]
    show Deferred.ofValue (a.eval f) _ = _
    rw [(List.cons.inj hf).1]; rfl
   simp only [hres, pure_bind]
   rfl
  ·cases e
 ·rename_i r nm hcal
  have hr : VREL X (ev t r) true [a.eval r] := ev_sound ht (hc r (by unfold Call.operands; rw [hcal]; simp))
  have fin : ∀ {u : Nat} {y : Value} {v : V}, a.eval r = .iface u y → VREL X v true [y] → E.meth u nm = some g → xs = v :: evs t c.args →
    ∃ args : Array Value, All2 (fun v x => VREL X v true [x]) xs args.toList ∧ ∀ w, (do let d ← resolve a.eval c ty; invoke d.target d.args : Sem Next).run P w = (callFunc g args).run P w := fun {u y v} hrv hy hm hxs => by
   subst hxs
   refine ⟨#[y] ++ c.args.map a.eval, ?_, fun w => ?_⟩
   ·rw [Array.toList_append]; exact All2.cons hy hev
   ·have hres : resolve a.eval c ty = pure { target := .fn (.method nm) #[], args := #[a.eval r] ++ c.args.map a.eval } := by
     unfold resolve; rw [hcal]
    have hmm := hE.meth u nm g hm y w
    have hget0 : (#[Value.iface u y] ++ c.args.map a.eval)[0]? = some (.iface u y) := by
     rw [← Array.getElem?_toList, Array.toList_append]; rfl
    have hext : (#[Value.iface u y] ++ c.args.map a.eval).extract 1 (#[Value.iface u y] ++ c.args.map a.eval).size = c.args.map a.eval := by
     apply Array.toList_inj.1
     simp only [Array.toList_extract, List.extract, Array.toList_append, Array.size_append]
     simp only [List.singleton_append, List.drop_succ_cons, List.drop_zero]
     rw [List.take_of_length_le (by simp)]
    simp only [hres, pure_bind, invoke, hrv, hget0, hext, callMethod, Sem.run_bind, program]
    simp only [Sem.run, Result.andThen_ok, hmm]
  split at e
  ·rename_i u v hg
   obtain ⟨g', hm, e⟩ := Option.map_eq_some_iff.1 e
   cases e
   rw [hg] at hr
   simp only [VREL] at hr
   obtain ⟨y, e1, hy⟩ := hr
   exact fin (List.cons.inj e1).1 hy hm rfl
  ·rename_i u d hg
   obtain ⟨g', hm, e⟩ := Option.map_eq_some_iff.1 e
   cases e
   rw [hg] at hr
   simp only [VREL, REL] at hr
   obtain ⟨y, e1, hy⟩ := hr
   exact fin (List.cons.inj e1).1 (by simp only [VREL]; exact hy) hm rfl
  ·cases e
theorem CallN.upon (hF : Fen F) {n : Nat} {o : Oper} {a : Act} {K : Act → World → Prop} {Q : Exit → Act → World → Prop} {m : Sem Next} {v : V} {h' : Heap} (hm : CallN F (n - 1) P B X O w h m v h')
  (hK : ∀ x w', Leaves' B X O w h v h' x w' → K (a.put o.dst x) w') : o.uponIn F n P a K Q (m.run P w) := by
 rcases hm with ⟨x, w', X', O', hr, q1, q2, q3⟩ | ⟨f, args, hr, hc⟩
 ·rcases hr with hr | ⟨hr, rfl⟩ <;> rw [hr]
  ·exact hK _ _ ⟨X', O', q1, q2, q3⟩
  ·exact hK _ _ ⟨X', O', q1, q2, q3⟩
 ·rw [hr]
  exact ⟨hF.room, CallsIn.mono hc fun e w' he => by cases e <;> first | exact hK _ _ he | exact he.elim⟩
theorem CallN.of_run {n : Nat} {m m' : Sem Next} {v : V} {h' : Heap} (hm : CallN F n P B X O w h m v h') (e : m'.run P w = m.run P w) : CallN F n P B X O w h m' v h' := by
 unfold CallN OpN at *
 rw [e]; exact hm
theorem opVal_sound (hih : CodeS F P E ih) (hE : EnvOk F P E) (hF : Fen F) {keep : Bool} {nid : Nat} {st : St} {nt : Nat} {a : Act} (s : SR nt B X O w a st) {o : Oper} (ho : ∀ x ∈ o.op.operands.toList, okOpd x = true) (hn : hget st.h nid = none) (hM : X.M nid = none) (hle : nid ≤ st.h.length) {v : V} {h' : Heap} {lp' : List Rec}
  (e : (match o.op with
    | .call c => (match c.callee with
     | .builtin _ => lift st.lp (stepOp E keep nid st.t st.h o.op)
     | _ => goCall E ih nid st.t c st.h st.lp)
    | op => lift st.lp (stepOp E keep nid st.t st.h op)) = some (v, h', lp')) : lp' = [] ∧ ∀ n, CallN F n P B X O w st.h (execOp a.eval o) v h' ∨ RoundN F n P B X O w st.h (execOp a.eval o) v h' := by
 have lifted : ∀ {r : R}, lift st.lp r = some (v, h', lp') → lp' = [] ∧ r = some (v, h') := fun {r} e => by
  rw [s.lp] at e
  cases r with
  | none => cases e
  | some x =>
   have e : some (x.1, x.2, ([] : List Rec)) = some (v, h', lp') := e
   cases e; exact ⟨rfl, rfl⟩
 have plain : lift st.lp (stepOp E keep nid st.t st.h o.op) = some (v, h', lp') → lp' = [] ∧ ∀ n, CallN F n P B X O w st.h (execOp a.eval o) v h' ∨ RoundN F n P B X O w st.h (execOp a.eval o) v h' := fun e => by
  obtain ⟨h1, h2⟩ := lifted e
  exact ⟨h1, fun n => .inl <| .inl (stepOp_sound hE.toEnvB s.h hn hM hle s.t ho h2)⟩
 split at e
 ·rename_i c hop
  split at e
  ·rename_i b hcal; exact plain e
  ·rename_i hnb
   have hex : execOp a.eval o = (do let d ← resolve a.eval c o.type; invoke d.target d.args) := by unfold execOp; rw [hop]
   unfold goCall at e
   split at e
   ·-- a loop's yield
    rename_i b xs hy
    obtain ⟨h1, h2⟩ := lifted e
    refine ⟨h1, fun n => .inr ?_⟩
    rw [hex]
    unfold yldOf at hy
    split at hy
    ·rename_i f hcal
     split at hy
     ·rename_i b' hev
      cases hy
      have hf : VREL X (ev st.t f) true [a.eval f] := ev_sound s.t (ho f (by rw [hop]; simp [Op.operands, Call.operands, hcal]))
      rw [hev] at hf
      simp only [VREL] at hf
      obtain ⟨l, e1, bi, e2, e3, e4⟩ := hf
      have ha := evs_sound s.t (l := c.args) (fun x hx => ho x (by rw [hop]; simp only [Op.operands, Call.operands, hcal, Array.toList_append, List.mem_append]; exact .inr hx))
      have hres : (resolve a.eval c o.type) = pure { target := .fn (.yield l) #[], args := #[] ++ c.args.map a.eval } := by
       unfold resolve; rw [hcal]
       show Deferred.ofValue (a.eval f) _ = _
       rw [(List.cons.inj e1).1]; rfl
      simp only [hres, pure_bind]
      have hemp : (#[] ++ c.args.map a.eval : Array Value) = c.args.map a.eval := by simp
      rw [hemp]
      exact roundV_sound hih hE hF h2 s.h e2 e3 ha n
     ·cases hy
    ·cases hy
   obtain ⟨⟨g, xs⟩, htar, e⟩ := Option.bind_eq_some_iff.1 e
   rw [s.lp] at e
   obtain ⟨args, ha, hrun⟩ := target_sound hE s.t (c := c) (fun x hx => ho x (by rw [hop]; exact hx)) htar o.type
   obtain ⟨h1, h2⟩ := callFn_sound hih hE hF e s.h hn hM hle ha
   refine ⟨h1, fun n => .inl ((h2 n).of_run ?_)⟩
   rw [hex]; exact hrun w
 ·exact plain e
theorem opV_sound (hih : CodeS F P E ih) (hE : EnvOk F P E) (hF : Fen F) {keep : Bool} {ops : Array Oper} {nid : Nat} {st st' : St} {nt n : Nat} {a : Act} {o : Oper} (e : opV E ih keep ops nid o st = some st') (s : SR nt B X O w a st) (hok : opOk nt o = true) (hn : hget st.h nid = none) (hM : X.M nid = none) (hle : nid ≤ st.h.length)
  {K : Act → World → Prop} {Q : Exit → Act → World → Prop} (hK : ∀ X' O' w' a', SR nt B X' O' w' a' st' → Step B X O w st.h X' O' w' st'.h → K a' w') :
  if Region.wanted o (yielded ops a.tmps) = true then o.wpIn F n P a w K Q else (∀ f, o.about P w a.eval = some f → F.fn f) ∧ K (a.put o.dst undef) w := by
 obtain ⟨hd, ho⟩ := opOk_dst hok
 unfold opV at e
 cases hg : guardOf ops st.t o.guard with
 | none => rw [hg] at e; cases e
 | some b =>
  rw [hg] at e
  have hw := guard_sound s.t hg
  cases b with
  | false =>
   simp only at e
   cases e
   rw [hw, if_neg (by simp)]
   exact ⟨fun f _ => hF.fn f, hK X O w _ (s.put hd (undefRel X)) (.refl _ _ _ _ _)⟩
  | true =>
   simp only at e
   rw [hw, if_pos rfl]
   unfold Oper.wpIn
   refine ⟨fun f _ => hF.fn f, ?_⟩
   rw [hF.round, Oper.semAt_none]
   split at e
   ·-- a deferred call
    rename_i c hop
    split at e
    ·rename_i f hcal
     split at e
     ·rename_i g as cap hgv
      obtain ⟨hmk, e⟩ : isMark (g, as ++ (evs st.t c.args ++ cap)) = false ∧ some (⟨putDst st.t o.dst .undef, st.h, st.lp, (g, as ++ (evs st.t c.args ++ cap)) :: st.df⟩ : St) = some st' := by
       cases hmk : isMark (g, as ++ (evs st.t c.args ++ cap)) with
       | true => rw [hmk, cond_true] at e; cases e
       | false => rw [hmk, cond_false] at e; exact ⟨rfl, e⟩
      cases e
      have hf : VREL X (ev st.t f) true [a.eval f] := ev_sound s.t (ho f (by rw [hop]; simp [Op.operands, Call.operands, hcal]))
      rw [hgv] at hf
      simp only [VREL] at hf
      obtain ⟨fs, cs, w1, w2, e1, h1, h2, h3, h4⟩ := hf
      have hev := evs_sound s.t (l := c.args) (fun x hx => ho x (by rw [hop]; simp only [Op.operands, Call.operands, hcal, Array.toList_append, List.mem_append]; exact .inr hx))
      have hres : (resolve a.eval c o.type) = pure { target := .fn (.func g) cs, args := fs ++ c.args.map a.eval } := by
       unfold resolve; rw [hcal]
       show Deferred.ofValue (a.eval f) _ = _
       rw [(List.cons.inj e1).1]; rfl
      have hrun : (execOp a.eval o).run P w = .ok (.defer { target := .fn (.func g) cs, args := fs ++ c.args.map a.eval }) w := by
       unfold execOp; rw [hop]; simp only [hres, pure_bind]; rfl
      rw [hrun]
      have hflat : ∀ {l : List V} {wss : List (List Value)}, VRELs X l true wss → All2 (fun v x => VREL X v true [x]) l wss.flatten := by
       intro l
       induction l with
       | nil => intro wss h; simp only [VRELs] at h; subst h; exact All2.nil
       | cons v l ih =>
        intro wss h
        simp only [VRELs] at h
        obtain ⟨ws, r, rfl, h1, h2⟩ := h
        obtain ⟨y, rfl⟩ := VREL.single h1
        exact All2.cons h1 (ih h2)
      have q1 := hflat h1
      have q3 := hflat h3
      rw [← h2] at q1; rw [← h4] at q3
      have s2 : SR nt B X O w { a with defers := { target := .fn (.func g) cs, args := fs ++ c.args.map a.eval } :: a.defers } ⟨st.t, st.h, st.lp, (g, as ++ (evs st.t c.args ++ cap)) :: st.df⟩ :=
       ⟨s.t, s.n, s.h, ⟨All2.cons (.inr ⟨hmk, cs, rfl, by simp only [Array.toList_append, List.append_assoc]; exact q1.app (hev.app q3)⟩) s.df.1, List.pairwise_cons.2 ⟨fun d' _ D hD => (by cases hD), s.df.2⟩⟩, s.lp⟩
      exact hK X O w _ (s2.put hd (undefR X undef)) (.refl _ _ _ _ _)
     ·cases e
    ·cases e
   ·rename_i hnd
    split at e
    ·cases e
    ·rename_i v h1 lp1 hx
     cases e
     obtain ⟨rfl, hc⟩ := opVal_sound hih hE hF s ho hn hM hle hx
     have hK' : ∀ x w', Leaves' B X O w st.h v h1 x w' → K (a.put o.dst x) w' := ?_
     ·exact (hc (n - 1)).elim (fun h => h.upon hF hK') (fun h => h.upon hF hK')
     intro x w' ⟨X', O', q1, q2, q3⟩
     have s1 := (s.step q1 q3).put hd q2
     exact hK X' O' w' _ ⟨s1.t, s1.n, s1.h, s1.df, rfl⟩ q3
theorem runOps_cons (keep : Bool) (ops : Array Oper) (o : Oper) (l : List Oper) (st : St) : runOps E ih keep ops (o :: l) st = (match opV E ih keep ops (llen st.h) o st with
  | none => none
  | some st' => runOps E ih keep ops l st') := rfl
theorem runOps_sound (hih : CodeS F P E ih) (hE : EnvOk F P E) (hF : Fen F) {keep : Bool} {ops : Array Oper} {nt n : Nat} {Q : Exit → Act → World → Prop} : ∀ (l : List Oper) (i : Nat), ops.toList.drop i = l → (∀ o ∈ l, opOk nt o = true) →
  ∀ {B : Nat} {X : Cx} {O : Nat → Addr → Prop} {w : World} {a : Act} {st st' : St}, SR nt B X O w a st → runOps E ih keep ops l st = some st' →
   (∀ X' O' w' a', SR nt B X' O' w' a' st' → Step B X O w st.h X' O' w' st'.h → Q .normal a' w') → wpOpsIn F n P ops Q (List.range' i l.length) a w
 | [], i, _, _, B, X, O, w, a, st, st', s, e, hQ => by
  have e : some st = some st' := e
  cases e
  exact hQ X O w a s (.refl _ _ _ _ _)
 | o :: l, i, hl, hok, B, X, O, w, a, st, st', s, e, hQ => by
  have hi : ops[i]? = some o := by
   rw [← Array.getElem?_toList]
   have : (ops.toList.drop i)[0]? = some o := by rw [hl]; rfl
   rw [List.getElem?_drop] at this; simpa using this
  have hl2 : ops.toList.drop (i + 1) = l := by
   rw [← List.drop_drop, hl]; rfl
  rw [List.length_cons, List.range'_succ]
  simp only [wpOpsIn, hi]
  rw [runOps_cons] at e
  split at e
  ·cases e
  ·rename_i st1 h1
   rw [llen_eq] at h1
   exact opV_sound hih hE hF h1 s (hok o (by simp)) (nid_none rfl) (nid_M s.h) (Nat.le_refl _) fun X' O' w' a' s' p' =>
    runOps_sound hih hE hF l (i + 1) hl2 (fun o' h' => hok o' (by simp [h'])) s' e fun X2 O2 w2 a2 s2 p2 => hQ X2 O2 w2 a2 s2 (p'.trans p2)
end
end Go.As
