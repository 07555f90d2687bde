/-
  AS: the slots; one operation that calls no function.
-/
import Derived.Test.YtphcebdhnpbjlaaGreatDoorAsBlt
set_option linter.unusedSectionVars false
set_option linter.unusedSimpArgs false
set_option linter.unusedVariables false
namespace Go.As
open Go.RowKit (Below)
variable [Gh]

/-! ### slots -/
theorem Tm.get_e (i : Nat) : Tm.get .e i = .undef := rfl
theorem Tm.get_n (v : V) (l r : Tm) (i : Nat) : Tm.get (.n v l r) i = if i = 0 then v else if i % 2 = 1 then l.get (i / 2) else r.get (i / 2 - 1) := by
  show (Bool.rec (Bool.rec (r.get (Nat.sub (Nat.div i 2) 1)) (l.get (Nat.div i 2)) (Nat.beq (Nat.mod i 2) 1)) v (Nat.beq i 0) : V) = _
  rw [nbeq i 0, nbeq (Nat.mod i 2) 1]
  by_cases h : i = 0
  · simp [h]
  · by_cases h2 : i % 2 = 1
    · have : Nat.mod i 2 = 1 := h2
      simp [h, this, h2]; rfl
    · have : ¬ Nat.mod i 2 = 1 := h2
      simp [h, this, h2]; rfl
theorem Tm.set_e (i : Nat) (x : V) : Tm.set .e i x = .e := rfl
theorem Tm.set_n (v : V) (l r : Tm) (i : Nat) (x : V) : Tm.set (.n v l r) i x = if i = 0 then .n x l r else if i % 2 = 1 then .n v (l.set (i / 2) x) r else .n v l (r.set (i / 2 - 1) x) := by
  show (Bool.rec (Bool.rec (Tm.n v l (r.set (Nat.sub (Nat.div i 2) 1) x)) (Tm.n v (l.set (Nat.div i 2) x) r) (Nat.beq (Nat.mod i 2) 1)) (Tm.n x l r) (Nat.beq i 0) : Tm) = _
  rw [nbeq i 0, nbeq (Nat.mod i 2) 1]
  by_cases h : i = 0
  · simp [h]
  · by_cases h2 : i % 2 = 1
    · have : Nat.mod i 2 = 1 := h2
      simp [h, this, h2]; rfl
    · have : ¬ Nat.mod i 2 = 1 := h2
      simp [h, this, h2]; rfl
/-- A slot that was written; another. -/
theorem Tm.get_set_same (t : Tm) : ∀ (i : Nat) (x : V), (t.set i x).get i = x ∨ (t.set i x).get i = .undef := by
  induction t with
  | e => exact fun i x => .inr rfl
  | n v l r ihl ihr =>
    intro i x
    rw [Tm.set_n]
    by_cases h : i = 0
    · simp [h, Tm.get_n]
    · by_cases h2 : i % 2 = 1
      · rw [if_neg h, if_pos h2, Tm.get_n, if_neg h, if_pos h2]; exact ihl _ _
      · rw [if_neg h, if_neg h2, Tm.get_n, if_neg h, if_neg h2]; exact ihr _ _
theorem Tm.get_set_other (t : Tm) : ∀ (i j : Nat) (x : V), j ≠ i → (t.set i x).get j = t.get j := by
  induction t with
  | e => exact fun i j x _ => rfl
  | n v l r ihl ihr =>
    intro i j x hij
    rw [Tm.set_n]
    by_cases h : i = 0
    · have hj : j ≠ 0 := by omega
      rw [if_pos h, Tm.get_n, Tm.get_n, if_neg hj, if_neg hj]
    · by_cases h2 : i % 2 = 1
      · rw [if_neg h, if_pos h2, Tm.get_n, Tm.get_n]
        by_cases hj : j = 0
        · simp [hj]
        · rw [if_neg hj, if_neg hj]
          by_cases hj2 : j % 2 = 1
          · rw [if_pos hj2, if_pos hj2]; exact ihl _ _ _ (by omega)
          · rw [if_neg hj2, if_neg hj2]
      · rw [if_neg h, if_neg h2, Tm.get_n, Tm.get_n]
        by_cases hj : j = 0
        · simp [hj]
        · rw [if_neg hj, if_neg hj]
          by_cases hj2 : j % 2 = 1
          · rw [if_pos hj2, if_pos hj2]
          · rw [if_neg hj2, if_neg hj2]; exact ihr _ _ _ (by omega)
theorem Tm.get_mk (d i : Nat) : (Tm.mk d).get i = .undef := by
  induction d generalizing i with
  | zero => rfl
  | succ d ih =>
    show Tm.get (.n .undef (Tm.mk d) (Tm.mk d)) i = _
    rw [Tm.get_n]
    by_cases h : i = 0
    · simp [h]
    · by_cases h2 : i % 2 = 1 <;> simp [h, h2, ih]

/-- The slots stand for the frame's. -/
def TR (X : Cx) (t : Tm) (tmps : Array Value) : Prop := ∀ i, VREL X (t.get i) true [tmps.getD i undef]
theorem TR.mono {n : Nat} {X Y : Cx} {t : Tm} {tmps : Array Value} (h : TR X t tmps) (hX : X.lt n) (hXY : X.le n Y) : TR Y t tmps := fun i => VREL.mono hXY _ _ _ (VREL.low hX _ _ _ (h i)) (h i)
theorem undefR (X : Cx) (x : Value) : VREL X .undef true [x] := by simp [VREL]
theorem TR.set {X : Cx} {t : Tm} {tmps : Array Value} (h : TR X t tmps) {d : Nat} (hd : d < tmps.size) {v : V} {x : Value} (r : VREL X v true [x]) : TR X (t.set d v) (tmps.setIfInBounds d x) := fun i => by
  by_cases hi : i = d
  · subst hi
    have : (tmps.setIfInBounds i x).getD i undef = x := by
      rw [Array.getD_eq_getD_getElem?, Array.getElem?_setIfInBounds]; simp [hd]
    rw [this]
    rcases Tm.get_set_same t i v with e | e <;> rw [e]
    · exact r
    · exact undefR X x
  · rw [Tm.get_set_other t d i v hi]
    have : (tmps.setIfInBounds d x).getD i undef = tmps.getD i undef := by
      rw [Array.getD_eq_getD_getElem?, Array.getD_eq_getD_getElem?, Array.getElem?_setIfInBounds, if_neg (Ne.symm hi)]
    rw [this]; exact h i
theorem TR.put {X : Cx} {t : Tm} {a : Act} (h : TR X t a.tmps) {dst : Option Nat} (hd : ∀ d, dst = some d → d < a.tmps.size) {v : V} {x : Value} (r : VREL X v true [x]) : TR X (putDst t dst v) (a.put dst x).tmps := by
  cases dst with
  | none => exact h
  | some d => exact h.set (hd d rfl) r
theorem put_size (a : Act) (dst : Option Nat) (x : Value) : (a.put dst x).tmps.size = a.tmps.size := by cases dst <;> simp [Act.put]
theorem put_defers' (a : Act) (dst : Option Nat) (x : Value) : (a.put dst x).defers = a.defers := by cases dst <;> rfl

/-! ### operands -/
/-- A constant that the relation takes. -/
noncomputable def okVal : Value → Bool
  | .int k n => ile k.min n && ile n k.max
  | .string s => Nat.ble s.size 9223372036854775807
  | _ => true
noncomputable def okOpd : Operand → Bool
  | .const v => okVal v
  | _ => true
theorem ofVal_sound (X : Cx) {c : Value} (hc : okVal c = true) {v : V} (e : ofVal c = some v) : VREL X v true [c] := by
  unfold ofVal at e
  split at e <;> cases e
  · simp [VREL, REL]
  · simp only [okVal, Bool.and_eq_true, ile_eq, decide_eq_true_eq] at hc
    simp only [VREL, REL]; exact ⟨trivial, hc⟩
  · rename_i s
    simp only [VREL, REL]
    exact ⟨s, rfl, rfl, by have := ble_of hc; simpa [LMX] using this⟩
  · simp [VREL, REL]
  · simp only [VREL]; exact ⟨_, rfl, none, 0, rfl, rfl, by decide, .inl rfl⟩
  · simp [VREL, REL]
  · simp [VREL, REL]
  · simp [VREL, REL]
theorem ev_sound {X : Cx} {t : Tm} {a : Act} (h : TR X t a.tmps) {x : Operand} (hx : okOpd x = true) : VREL X (ev t x) true [a.eval x] := by
  cases x with
  | tmp i => exact h i
  | const c =>
    show VREL X (Option.rec V.undef (fun x => x) (ofVal c)) true [c]
    cases e : ofVal c with
    | none => exact undefR X c
    | some v => exact ofVal_sound X hx e
  | global g => exact undefR X _
  | func f => simp only [ev, Act.eval, VREL, VRELs]; exact ⟨#[], #[], [], [], rfl, rfl, rfl, rfl, rfl⟩
theorem evs_eq (t : Tm) (l : Array Operand) : evs t l = l.toList.map (ev t) := by
  unfold evs
  induction l.toList with
  | nil => rfl
  | cons a l ih => exact congrArg _ ih
theorem evP_eq (e : Operand → V) (ps : Array (Nat × Operand)) : evP e ps = ps.toList.map fun p => (p.1, e p.2) := by
  unfold evP
  induction ps.toList with
  | nil => rfl
  | cons a l ih => exact congrArg _ ih
theorem evs_sound {X : Cx} {t : Tm} {a : Act} (h : TR X t a.tmps) {l : Array Operand} (hl : ∀ x ∈ l.toList, okOpd x = true) : All2 (fun v x => VREL X v true [x]) (evs t l) (l.map a.eval).toList := by
  rw [evs_eq, Array.toList_map]
  generalize l.toList = l at hl
  induction l with
  | nil => exact All2.nil
  | cons b l ih => exact All2.cons (ev_sound h (hl b (by simp))) (ih fun x hx => hl x (by simp [hx]))

/-! ### one operation -/
structure Step (B : Nat) (X : Cx) (O : Nat → Addr → Prop) (w : World) (h : Heap) (X' : Cx) (O' : Nat → Addr → Prop) (w' : World) (h' : Heap) : Prop where
  up : Up B X w h.length X' w'
  len : h.length ≤ h'.length
  fr : FR X O w h X' O' w' h'
theorem Step.refl (B : Nat) (X : Cx) (O : Nat → Addr → Prop) (w : World) (h : Heap) : Step B X O w h X O w h := ⟨.refl _ _ _ _, Nat.le_refl _, .refl _ _ _ _⟩
theorem Step.trans {B : Nat} {X Y Z : Cx} {O O' O'' : Nat → Addr → Prop} {a b c : World} {h h' h'' : Heap} (s : Step B X O a h Y O' b h') (t : Step B Y O' b h' Z O'' c h'') : Step B X O a h Z O'' c h'' :=
  ⟨s.up.trans (t.up.less s.len), Nat.le_trans s.len t.len, s.fr.trans t.fr s.up.below.size s.len⟩

/-- A computation that yields a value (or nothing), as an operation says. -/
def OpN (P : Program) (B : Nat) (X : Cx) (O : Nat → Addr → Prop) (w : World) (h : Heap) (m : Sem Next) (v : V) (h' : Heap) : Prop :=
  ∃ x w' X' O', (m.run P w = .ok (.value x) w' ∨ (m.run P w = .ok .skip w' ∧ x = undef)) ∧ HR B X' O' w' h' ∧ VREL X' v true [x] ∧ Step B X O w h X' O' w' h'

/-- What is asked of an environment, beside its types: the type of strings.Builder. -/
structure EnvB (P : Program) (E : Env) : Prop extends EnvTy P E where
  bld : ∀ ti, E.ty E.bty.1 = some ti → ∃ i, P.info? E.bty.1 = some i ∧ i.zero = some (.agg #[.pointer none, .slice none 0 0])

section
variable {P : Program} {B : Nat} {X : Cx} {O : Nat → Addr → Prop} {w : World} {h : Heap} {E : Env}

theorem OpS.next {m : Sem Value} {v : V} {h' : Heap} (s : OpS P B X O w h m v h') : OpN P B X O w h (do pure (.value (← m))) v h' := by
  obtain ⟨x, w', X', O', e, q1, q2, q3, q4, q5⟩ := s
  exact ⟨x, w', X', O', .inl (by simp [e]), q1, q3, q2, q4, q5⟩
theorem OpU.next {m : Sem Unit} {h' : Heap} (s : OpU P B X O w h m h') : OpN P B X O w h (do m; pure .skip) .undef h' := by
  obtain ⟨w', X', O', e, q1, q2, q4, q5⟩ := s
  exact ⟨undef, w', X', O', .inr ⟨by simp [e], rfl⟩, q1, undefR _ _, q2, q4, q5⟩

theorem bldAlloc_sound (hE : EnvB P E) (hr : HR B X O w h) {n : Nat} (hn : hget h n = none) (hM : X.M n = none) (hle : n ≤ h.length) {ti : TI} (ht : E.ty E.bty.1 = some ti) :
    OpS P B X O w h (Instr.alloc E.bty.1 true (.tuple #[])) (.ptr n 0 []) (hput h n (.bld E.bty.1 E.bty.2 [])) := by
  obtain ⟨i, i1, i2⟩ := hE.bld ti ht
  let bi : BI := ⟨0, some ⟨w.heap.size, 0, none⟩, 0, 1, true⟩
  let On : Addr → Prop := fun a => a.block = w.heap.size
  have hbr : BR (X.withM n bi) (w.alloc (.cells #[.pointer none, .slice none 0 0] E.bty.1)) On n (.bld E.bty.1 E.bty.2 []) := by
    refine ⟨bi, w.heap.size, Cx.withM_same _ _ _, rfl, rfl, rfl, .pointer none, .slice none 0 0, heap_alloc_new w _, .inl rfl, World.ownsRowF_nil _ _ _ _, by simp, by simp [Value.ownBlock], fun a e => e, fun g e => by simp [Value.ownBlock] at e⟩
  refine ⟨.pointer (some ⟨w.heap.size, 0, none⟩), _, X.withM n bi, _, ?_, hr.add hn hM hle (.alloc _ _) (by simp) bi On _ (fun a ea => ?_) hbr, Up.add hM ((Below.refl B w).alloc hr.wb _) (.alloc _ _) _ bi, ?_, ?_, .add hM hle (.alloc _ _) bi On _⟩
  · simp [Instr.alloc, zeroValue, typeInfo, i1, i2, newVar, newRow, newObj, Sem.run, Value.cells]
  · have ea : a.block = w.heap.size := ea
    rw [ea]; simp
  · simp only [VREL]
    exact ⟨_, rfl, ⟨_, rfl⟩, bi, Cx.withM_same _ _ _, Nat.le_refl _, fun _ => ⟨_, rfl, rfl, by simp [pathOff]⟩⟩
  · rw [hput_len]; split <;> omega

theorem builtin_sound (hE : EnvB P E) (hr : HR B X O w h) {n : Nat} (hn : hget h n = none) (hM : X.M n = none) (hle : n ≤ h.length) {b : Builtin} {ts : Array Nat} {ty : Nat} {cs : Array Bool} {xs : List V} {args : Array Value} (ra : All2 (fun v x => VREL X v true [x]) xs args.toList) {v : V} {h' : Heap}
    (e : builtinV E n b ts xs h = some (v, h')) : OpN P B X O w h (builtin b ts ty cs args) v h' := by
  unfold builtinV at e
  split at e
  · split at e
    · obtain ⟨y, r, e1, hy, rr⟩ := ra
      cases rr
      have ha : args = #[y] := by apply Array.toList_inj.1; rw [e1]
      subst ha
      obtain ⟨t, h0, e⟩ := Option.bind_eq_some_iff.1 e
      rw [lget_eq, Array.getElem?_toList] at h0
      exact (len_sound hE.toEnvTy hr h0 e hy).next
    · cases e
  · split at e
    · obtain ⟨y, r, e1, hy, y2, r2, e2, hy2, rr⟩ := ra
      cases rr
      have ha : args = #[y, y2] := by apply Array.toList_inj.1; rw [e1, e2]
      subst ha
      exact (append_sound hE.toEnvTy hr hn hM hle e hy hy2).next
    · cases e
  · split at e
    · rename_i k a l
      obtain ⟨y, r, e1, hy, rl⟩ := ra
      simp only [VREL, REL] at hy
      obtain ⟨hy, hin⟩ := hy; cases hy
      obtain ⟨m, hm, e⟩ := Option.map_eq_some_iff.1 e
      cases e
      obtain ⟨q1, q2⟩ := min_run (w := w) (P := P) hm rl hin
      refine OpS.next (.same hr (x := .int k m) ?_ (by simp only [VREL, REL]; exact ⟨trivial, q2⟩))
      simp only [Builtin.min_, e1]; exact q1
    · cases e
  · split at e
    · rename_i k a l
      obtain ⟨y, r, e1, hy, rl⟩ := ra
      simp only [VREL, REL] at hy
      obtain ⟨hy, hin⟩ := hy; cases hy
      obtain ⟨m, hm, e⟩ := Option.map_eq_some_iff.1 e
      cases e
      obtain ⟨q1, q2⟩ := max_run (w := w) (P := P) hm rl hin
      refine OpS.next (.same hr (x := .int k m) ?_ (by simp only [VREL, REL]; exact ⟨trivial, q2⟩))
      simp only [Builtin.max_, e1]; exact q1
    · cases e
  · split at e
    · obtain ⟨y, r, e1, hy, rr⟩ := ra
      cases rr
      have ha : args = #[y] := by apply Array.toList_inj.1; rw [e1]
      subst ha
      obtain ⟨t, h0, e⟩ := Option.bind_eq_some_iff.1 e
      rw [lget_eq, Array.getElem?_toList] at h0
      exact (cap_sound hE.toEnvTy hr h0 e hy).next
    · cases e
  · split at e
    · obtain ⟨y, r, e1, hy, y2, r2, e2, hy2, rr⟩ := ra
      cases rr
      have ha : args = #[y, y2] := by apply Array.toList_inj.1; rw [e1, e2]
      subst ha
      exact (delete_sound hE.toEnvTy hr e hy hy2).next
    · cases e
  · split at e
    · obtain ⟨y, r, e1, hy, y2, r2, e2, hy2, rr⟩ := ra
      cases rr
      have ha : args = #[y, y2] := by apply Array.toList_inj.1; rw [e1, e2]
      subst ha
      exact (copy_sound hE.toEnvTy hr e hy hy2).next
    · cases e
  · cases e

theorem optR_map {X : Cx} {t : Tm} {a : Act} (h : TR X t a.tmps) {x : Option Operand} (hx : ∀ y, x = some y → okOpd y = true) : OptR X (x.map (ev t)) (x.map a.eval) := by
  cases x with
  | none => trivial
  | some y => exact ev_sound h (hx y rfl)
theorem parts_sound {X : Cx} {t : Tm} {a : Act} (h : TR X t a.tmps) {ps : Array (Nat × Operand)} (hx : ∀ p ∈ ps.toList, okOpd p.2 = true) : PartsR X (evP (ev t) ps) (ps.map fun (i, x) => (i, a.eval x)).toList := by
  rw [evP_eq, Array.toList_map]
  generalize ps.toList = l at hx
  induction l with
  | nil => exact All2.nil
  | cons p l ih => exact All2.cons ⟨rfl, ev_sound h (hx p (by simp))⟩ (ih fun q hq => hx q (by simp [hq]))

theorem stepOp_sound (hE : EnvB P E) (hr : HR B X O w h) {keep : Bool} {n : Nat} (hn : hget h n = none) (hM : X.M n = none) (hle : n ≤ h.length) {t : Tm} {a : Act} (ht : TR X t a.tmps) {o : Oper} (ho : ∀ x ∈ o.op.operands.toList, okOpd x = true) {v : V} {h' : Heap}
    (e : stepOp E keep n t h o.op = some (v, h')) : OpN P B X O w h (execOp a.eval o) v h' := by
  have hev : ∀ x, x ∈ o.op.operands.toList → VREL X (ev t x) true [a.eval x] := fun x hx => ev_sound ht (ho x hx)
  unfold execOp
  cases hop : o.op <;> rw [hop] at e ho hev <;> simp only [stepOp] at e <;> try (cases e; done)
  case move x => cases e; exact ⟨_, w, X, O, .inl rfl, hr, hev _ (by simp [Op.operands]), .refl _ _ _ _ _⟩
  case assign x => cases e; exact ⟨_, w, X, O, .inl rfl, hr, hev _ (by simp [Op.operands]), .refl _ _ _ _ _⟩
  case pick c x y =>
    have := (pick_sound (P := P) hr e (hev c (by simp [Op.operands])) (hev x (by simp [Op.operands])) (hev y (by simp [Op.operands]))).next
    simp only [bind_assoc, pure_bind] at this ⊢
    exact this
  case alloc ty =>
    unfold sAlloc at e
    obtain ⟨ti, hti, e⟩ := Option.bind_eq_some_iff.1 e
    obtain ⟨hz, e⟩ := bif_some e
    obtain ⟨_, _, k3⟩ := okV_iff hz
    cases hb : Nat.beq ty E.bty.1 with
    | true =>
      rw [hb, cond_true] at e; cases e
      have := beq_of hb; subst this
      exact (bldAlloc_sound hE hr hn hM hle hti).next
    | false =>
      rw [hb, cond_false] at e; cases e
      exact (alloc_sound hr hn hM hle (hE.ty _ _ hti) k3).next
  case box ty x =>
    unfold sBox at e
    obtain ⟨ti, hti, e⟩ := Option.bind_eq_some_iff.1 e
    obtain ⟨hz, e⟩ := bif_some e
    cases e
    exact (box_sound hr hn hM hle (okV_iff hz).2.2 (hev x (by simp [Op.operands]))).next
  case build ty ps => exact (build_sound hE.toEnvTy hr e (parts_sound ht fun p hp => ho p.2 (by simp [Op.operands]; exact ⟨p.1, by simpa using hp⟩))).next
  case buildSlice ty len ps => exact (buildSlice_sound hE.toEnvTy hr hn hM hle e (parts_sound ht fun p hp => ho p.2 (by simp [Op.operands]; exact ⟨p.1, by simpa using hp⟩))).next
  case load ty x => exact (load_sound hr (fun ti => hE.ty _ ti) e (hev x (by simp [Op.operands]))).next
  case store ty x y =>
    obtain ⟨rfl, s⟩ := store_sound (P := P) hr (fun ti => hE.ty _ ti) e (hev x (by simp [Op.operands])) (hev y (by simp [Op.operands]))
    exact s.next
  case nilCheck x =>
    obtain ⟨rfl, rfl, ad, ea⟩ := nilCheck_sound e (hev x (by simp [Op.operands]))
    refine ⟨a.eval x, w, X, O, .inl ?_, hr, hev x (by simp [Op.operands]), .refl _ _ _ _ _⟩
    simp only [ea]; rfl
  case binOp op ty x y yt =>
    cases hb : binV E op ty (isConst x || isConst y) (ev t x) (ev t y) with
    | none => rw [hb] at e; cases e
    | some u =>
      rw [hb] at e; cases e
      exact (OpS.puts hr (binV_sound hE.toEnvTy hb (hev x (by simp [Op.operands])) (hev y (by simp [Op.operands])))).next
  case unOp op ty x =>
    cases hb : unV op (ev t x) with
    | none => rw [hb] at e; cases e
    | some u =>
      rw [hb] at e; cases e
      exact (OpS.puts hr (unV_sound hb (hev x (by simp [Op.operands])))).next
  case convert s d x => exact (conv_sound hE.toEnvTy hr hn hM hle e (hev x (by simp [Op.operands]))).next
  case makeInterface ty x => exact (iface_sound hE.toEnvTy hr e (hev x (by simp [Op.operands]))).next
  case makeFunc f x y => exact (makeFunc_sound hr e (fun o ho => hev o (by simp [Op.operands]; exact .inl (by simpa using ho))) (fun o ho => hev o (by simp [Op.operands]; exact .inr (by simpa using ho)))).next
  case makeSlice ty l c => exact (makeSlice_sound hE.toEnvTy hr hn hM hle e (hev l (by simp [Op.operands])) (hev c (by simp [Op.operands]))).next
  case slice ty x lo hi mx =>
    cases hb : sliceV E ty h (ev t x) (lo.map (ev t)) (hi.map (ev t)) (mx.map (ev t)) with
    | none => rw [hb] at e; cases e
    | some u =>
      rw [hb] at e; cases e
      exact (slice_sound hE.toEnvTy hr hb (hev x (by simp [Op.operands])) (optR_map ht fun y hy => ho y (by subst hy; simp [Op.operands])) (optR_map ht fun y hy => ho y (by subst hy; simp [Op.operands])) (optR_map ht fun y hy => ho y (by subst hy; simp [Op.operands]))).next
  case fieldAddr ty x k => exact (fieldAddr_sound hE.toEnvTy hr e (hev x (by simp [Op.operands]))).next
  case field ty x k => exact (field_sound hE.toEnvTy hr e (hev x (by simp [Op.operands]))).next
  case indexAddr ty x i => exact (indexAddr_sound hE.toEnvTy hr e (hev x (by simp [Op.operands])) (hev i (by simp [Op.operands]))).next
  case index ty x i => exact (index_sound hE.toEnvTy hr e (hev x (by simp [Op.operands])) (hev i (by simp [Op.operands]))).next
  case extract x i =>
    cases hb : (ev t x).part i with
    | none => rw [hb] at e; cases e
    | some u =>
      rw [hb] at e; cases e
      exact (extract_sound hr hb (hev x (by simp [Op.operands]))).next
  case makeMap ty r => exact (makeMap_sound hE.toEnvTy hr hn hM hle e (optR_map ht fun y hy => ho y (by subst hy; simp [Op.operands]))).next
  case lookup ty m k ok => exact (lookup_sound hE.toEnvTy hr e (hev m (by simp [Op.operands])) (hev k (by simp [Op.operands]))).next
  case mapUpdate ty m k x =>
    obtain ⟨rfl, s⟩ := mapUpdate_sound (P := P) hE.toEnvTy hr e (hev m (by simp [Op.operands])) (hev k (by simp [Op.operands])) (hev x (by simp [Op.operands]))
    exact s.next
  case insert ty m k x =>
    obtain ⟨rfl, s⟩ := mapUpdate_sound (P := P) hE.toEnvTy hr e (hev m (by simp [Op.operands])) (hev k (by simp [Op.operands])) (hev x (by simp [Op.operands]))
    exact s.next
  case typeAssert x xt ty ok => exact (assert_sound hE.toEnvTy hr e (hev x (by simp [Op.operands]))).next
  case call c =>
    cases hc : c.callee with
    | value f => rw [hc] at e; cases e
    | invoke r nm => rw [hc] at e; cases e
    | builtin b =>
      rw [hc] at e
      have ra := evs_sound ht (l := c.args) (fun x hx => ho x (by simp only [Op.operands, Call.operands, hc]; simpa using hx))
      have := builtin_sound hE hr hn hM hle (ty := o.type) (cs := c.args.map fun | .const _ => true | _ => false) ra e
      have hres : (resolve a.eval c o.type) = pure { target := .builtin b c.argTypes o.type (c.args.map fun | .const _ => true | _ => false), args := c.args.map a.eval } := by
        unfold resolve; rw [hc]; rfl
      simp only [hres, pure_bind, invoke]
      exact this
end
end Go.As
