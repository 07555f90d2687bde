/-
  AS: binary operators.
-/
import Derived.Test.YtphcebdhnpbjlaaGreatDoorAsEq
set_option linter.unusedSectionVars false
set_option linter.unusedSimpArgs false
set_option linter.unusedVariables false
namespace Go.As
open Go.RowKit (Below)
variable [Gh]
section
variable {P : Program} {w : World} {E : Env}

def guarded : Value → Value → Bool
  | .nilIface, .nilIface => true
  | .agg _, .agg _ => true
  | _, _ => false
theorem run_eqGuard_free {op : BinOp} {t : TypeId} {x y : Operand} {a b : Value} (h : guarded a b = false) : (eqGuard op t x y a b).run P w = .ok () w := by
  cases a <;> cases b <;> first | (cases h; done) | (cases op <;> rfl)
theorem run_eqGuard_const {op : BinOp} {t : TypeId} {x y : Operand} (h : (isConst x || isConst y) = true) : (eqGuard op t x y .nilIface .nilIface).run P w = .ok () w := by
  cases x <;> cases y <;> simp [isConst] at h <;> cases op <;> rfl
theorem run_eqGuardIn_nil (d : Nat) {t : TypeId} {ms : Array (String × TypeId)} (h : P.underlying t = some (.interface ms)) (hm : ms.isEmpty = true) : (Op.eqGuardIn (d + 1) t .nilIface .nilIface).run P w = .ok false w := by
  simp only [Op.eqGuardIn, Sem.run_bind, run_underlying h, Result.andThen_ok]; simp [hm]
theorem run_eqGuard_plainIface {op : BinOp} {t : TypeId} {x y : Operand} {ms : Array (String × TypeId)} (h : P.underlying t = some (.interface ms)) (hm : ms.isEmpty = true) : (eqGuard op t x y .nilIface .nilIface).run P w = .ok () w := by
  have hg : (Op.eqGuardIn Op.maxDepth t .nilIface .nilIface).run P w = .ok false w := run_eqGuardIn_nil 9999 h hm
  unfold eqGuard
  cases op <;> first | rfl | skip
  all_goals
    simp only [Bool.not_true, Bool.false_eq_true, if_false]
    cases x <;> cases y <;> first | rfl | skip
  all_goals
    simp [Sem.run_bind, hg]

theorem Puts.andThen {m : Sem Value} {g : Sem Unit} {v : V} (hg : g.run P w = .ok () w) (h : Puts P w m v) : Puts P w (do g; m) v := by
  obtain ⟨d, x, e, h1, h2⟩ := h
  exact ⟨d, x, e, by simp [Sem.run_bind, hg, h1], h2⟩

/-- What a comparison with nil reads. -/
def NilR (k : TK) (a : Bool) (x : Value) : Prop :=
  match k with
  | .ptr => ∃ o : Option Addr, x = .pointer o ∧ a = o.isNone
  | .fn => (x = .nilFunc ∧ a = true) ∨ (∃ f s c, x = .func f s c ∧ a = false)
  | .ifc _ => (x = .nilIface ∧ a = true) ∨ (∃ t y, x = .iface t y ∧ a = false)
  | .map _ _ => ∃ o : Option Nat, x = .map o ∧ a = o.isNone
  | _ => False
theorem nilV_sound {X : Cx} {k : TK} {x : V} {a : Bool} (h : nilV k x = some a) {vx : Value} (r : VREL X x true [vx]) : NilR k a vx := by
  unfold nilV at h
  split at h <;> first
    | (cases h; done)
    | (cases h; simp only [VREL, REL] at r; first
        | (cases r; first | exact ⟨none, rfl, rfl⟩ | exact .inl ⟨rfl, rfl⟩ | exact .inr ⟨_, _, _, rfl, rfl⟩; done)
        | (obtain ⟨a, ws, e, _⟩ := r; cases e; exact ⟨some a, rfl, rfl⟩)
        | (obtain ⟨v, e, ⟨a, ea⟩, _⟩ := r; cases e; subst ea; exact ⟨some a, rfl, rfl⟩)
        | (obtain ⟨_, _, _, _, e, _⟩ := r; cases e; exact .inr ⟨_, _, _, rfl, rfl⟩)
        | (obtain ⟨_, e, _⟩ := r; cases e; exact .inr ⟨_, _, rfl, rfl⟩)
        | (obtain ⟨_, _, e, _⟩ := r; cases e; exact ⟨some _, rfl, rfl⟩))
theorem nil_equalIn (d : Nat) {k : TK} {t : Nat} (hk : KindOk P t k) {a b : Bool} (hab : (a || b) = true) {x y : Value} (hx : NilR k a x) (hy : NilR k b y) : (Op.equalIn (d + 1) t x y).run P w = .ok (a && b) w := by
  cases k <;> simp only [NilR] at hx hy
  case ptr =>
    obtain ⟨e, hk⟩ := hk
    obtain ⟨o, rfl, rfl⟩ := hx
    obtain ⟨o', rfl, rfl⟩ := hy
    cases o <;> cases o' <;> simp at hab <;> simp [Op.equalIn, run_underlying hk]
  case fn =>
    obtain ⟨_, _, _, hk⟩ := hk
    rcases hx with ⟨rfl, rfl⟩ | ⟨_, _, _, rfl, rfl⟩ <;> rcases hy with ⟨rfl, rfl⟩ | ⟨_, _, _, rfl, rfl⟩ <;> simp at hab <;> simp [Op.equalIn, run_underlying hk]
  case ifc =>
    obtain ⟨_, hk, _⟩ := hk
    rcases hx with ⟨rfl, rfl⟩ | ⟨_, _, rfl, rfl⟩ <;> rcases hy with ⟨rfl, rfl⟩ | ⟨_, _, rfl, rfl⟩ <;> simp at hab <;> simp [Op.equalIn, run_underlying hk]
  case map =>
    simp only [KindOk] at hk
    obtain ⟨o, rfl, rfl⟩ := hx
    obtain ⟨o', rfl, rfl⟩ := hy
    cases o <;> cases o' <;> simp at hab <;> simp [Op.equalIn, run_underlying hk]

theorem nil_equal {k : TK} {t : Nat} (hk : KindOk P t k) {a b : Bool} (hab : (a || b) = true) {x y : Value} (hx : NilR k a x) (hy : NilR k b y) : (Op.equal t x y).run P w = .ok (a && b) w :=
  nil_equalIn 9999 hk hab hx hy

/-- Not a number nor a string. -/
def cmpOnly : Value → Bool
  | .pointer _ | .nilFunc | .func _ _ _ | .nilIface | .iface _ _ | .map _ | .agg _ | .bool _ => true
  | _ => false
theorem run_eql {t : TypeId} {x y : Value} (hx : cmpOnly x = true) (hy : cmpOnly y = true) {b : Bool} (h : (Op.equal t x y).run P w = .ok b w) : (binOp .eql t x y).run P w = .ok (.bool b) w := by
  cases x <;> first
    | (cases hx; done)
    | (cases y <;> first
      | (cases hy; done)
      | (show (do pure (.bool (← Op.equal t _ _)) : Sem Value).run P w = _
         simp [Sem.run_bind, h]))
theorem run_neq {t : TypeId} {x y : Value} (hx : cmpOnly x = true) (hy : cmpOnly y = true) {b : Bool} (h : (Op.equal t x y).run P w = .ok b w) : (binOp .neq t x y).run P w = .ok (.bool (!b)) w := by
  cases x <;> first
    | (cases hx; done)
    | (cases y <;> first
      | (cases hy; done)
      | (show (do pure (.bool (!(← Op.equal t _ _))) : Sem Value).run P w = _
         simp [Sem.run_bind, h]))

theorem NilR.cmp {k : TK} {a : Bool} {x : Value} (h : NilR k a x) : cmpOnly x = true ∧ ∀ cs, x ≠ .agg cs := by
  cases k <;> simp only [NilR] at h
  case ptr => obtain ⟨o, rfl, _⟩ := h; exact ⟨rfl, fun _ => by simp⟩
  case fn => rcases h with ⟨rfl, _⟩ | ⟨_, _, _, rfl, _⟩ <;> exact ⟨rfl, fun _ => by simp⟩
  case ifc => rcases h with ⟨rfl, _⟩ | ⟨_, _, rfl, _⟩ <;> exact ⟨rfl, fun _ => by simp⟩
  case map => obtain ⟨o, rfl, _⟩ := h; exact ⟨rfl, fun _ => by simp⟩

/-- Equality: what it says, and that the guard lets it pass. -/
theorem eqV_sound (hE : EnvTy P E) {X : Cx} {op : BinOp} {t : Nat} {xo yo : Operand} {x y : V} {b : Bool} (h : eqV E t (isConst xo || isConst yo) x y = some b)
    (hx : ∀ k n, x ≠ .im (.int k n)) (hs : ∀ s, x ≠ .im (.str s)) {vx vy : Value} (rx : VREL X x true [vx]) (ry : VREL X y true [vy]) :
    (eqGuard op t xo yo vx vy).run P w = .ok () w ∧ (Op.equal t vx vy).run P w = .ok b w ∧ cmpOnly vx = true ∧ cmpOnly vy = true := by
  unfold eqV at h
  cases hn : (isLitNil x || isLitNil y) with
  | true =>
    rw [hn] at h
    simp only [cond_true] at h
    cases ht : E.ty t with
    | none => rw [ht] at h; cases h
    | some ti =>
      rw [ht] at h
      have hk := (hE.ty t ti ht).kind
      simp only [Option.bind_some] at h
      cases ha : nilV ti.k x with
      | none => rw [ha] at h; cases h
      | some a =>
        cases hb : nilV ti.k y with
        | none => rw [ha, hb] at h; cases h
        | some c =>
          rw [ha, hb] at h
          simp only [Option.bind_some] at h
          have h1 := nilV_sound ha rx
          have h2 := nilV_sound hb ry
          have hac : (a || c) = true := by
            rw [Bool.or_eq_true] at hn ⊢
            have lit : ∀ {z : V} {k : TK} {d : Bool}, isLitNil z = true → nilV k z = some d → d = true := by
              intro z k d h1 h2
              unfold nilV at h2
              split at h2 <;> simp_all [isLitNil]
            exact hn.imp (fun h => lit h ha) (fun h => lit h hb)
          have heq := nil_equal (w := w) hk hac h1 h2
          cases hab : (a && c) with
          | false =>
            rw [hab] at h heq
            cases h
            refine ⟨run_eqGuard_free ?_, heq, h1.cmp.1, h2.cmp.1⟩
            cases vx <;> cases vy <;> first | rfl | (exact absurd rfl (h1.cmp.2 _)) | skip
            exfalso
            have t1 : a = true := by
              revert h1; cases ti.k <;> simp [NilR]
            have t2 : c = true := by
              revert h2; cases ti.k <;> simp [NilR]
            rw [t1, t2] at hab; cases hab
          | true =>
            rw [hab] at h heq
            simp only [cond_true] at h
            obtain ⟨h3, h⟩ := bif_some h
            cases h
            refine ⟨?_, heq, h1.cmp.1, h2.cmp.1⟩
            cases hg : guarded vx vy with
            | false => exact run_eqGuard_free hg
            | true =>
              cases vx <;> cases vy <;> first | (cases hg; done) | (exact absurd rfl (h1.cmp.2 _)) | skip
              cases hki : ti.k with
              | ifc nm =>
                rw [hki] at h3 hk
                obtain ⟨ms, hu, hnm⟩ := hk
                cases nm with
                | true => exact run_eqGuard_const h3
                | false => exact run_eqGuard_plainIface hu (by simpa using hnm.symm)
              | _ => rw [hki] at h1; simp [NilR] at h1
  | false =>
    rw [hn] at h
    simp only [cond_false] at h
    split at h
    · rename_i a c
      obtain ⟨hc, h⟩ := bif_some h
      simp only [VREL] at rx ry
      have he := eqT_sound (w := w) hE h (by decide : 12 ≤ 10000) rx ry
      have hgt := eqGuardType_of hE hc (Nat.le_of_lt hE.depth)
      suffices hq : (eqGuard op t xo yo vx vy).run P w = .ok () w ∧ cmpOnly vx = true ∧ cmpOnly vy = true from ⟨hq.1, he, hq.2⟩
      simp only [eqT] at h
      cases ht : E.ty t with
      | none => rw [ht] at h; cases h
      | some ti =>
        rw [ht] at h
        simp only [Option.bind_some] at h
        replace h := (bif_some h).2
        split at h
        · simp only [REL] at rx ry; cases rx; cases ry
          exact ⟨run_eqGuard_free rfl, rfl, rfl⟩
        · exact absurd rfl (hx _ _)
        · exact absurd rfl (hs _)
        · simp only [REL] at rx ry
          obtain ⟨cx, wx, ex, _⟩ := rx
          obtain ⟨cy, wy, ey, _⟩ := ry
          cases ex; cases ey
          exact ⟨run_eqGuard_agg _ _ _ _ _ _ _ hgt, rfl, rfl⟩
        · simp only [REL] at rx ry
          obtain ⟨cx, wx, ex, _⟩ := rx
          obtain ⟨cy, wy, ey, _⟩ := ry
          cases ex; cases ey
          exact ⟨run_eqGuard_agg _ _ _ _ _ _ _ hgt, rfl, rfl⟩
        · cases h
    · cases h

theorem eqOp_sound (hE : EnvTy P E) {X : Cx} {op : BinOp} {t : Nat} {xo yo : Operand} {x y v : V} (h : eqOp E op t (isConst xo || isConst yo) x y = some v)
    (hx : ∀ k n, x ≠ .im (.int k n)) (hs : ∀ s, x ≠ .im (.str s)) {vx vy : Value} (rx : VREL X x true [vx]) (ry : VREL X y true [vy]) :
    Puts P w (do eqGuard op t xo yo vx vy; binOp op t vx vy) v := by
  unfold eqOp at h
  split at h
  · cases he : eqV E t (isConst xo || isConst yo) x y with
    | none => rw [he] at h; cases h
    | some b =>
      rw [he] at h; cases h
      obtain ⟨h1, h2, h3, h4⟩ := eqV_sound (w := w) (op := .eql) hE he hx hs rx ry
      exact .andThen h1 ⟨_, _, rfl, run_eql h3 h4 h2, fun C => by simp only [REL]⟩
  · cases he : eqV E t (isConst xo || isConst yo) x y with
    | none => rw [he] at h; cases h
    | some b =>
      rw [he] at h; cases h
      obtain ⟨h1, h2, h3, h4⟩ := eqV_sound (w := w) (op := .neq) hE he hx hs rx ry
      exact .andThen h1 ⟨_, _, rfl, run_neq h3 h4 h2, fun C => by simp only [REL]⟩
  · cases h

theorem binV_sound (hE : EnvTy P E) {X : Cx} {op : BinOp} {t : Nat} {xo yo : Operand} {x y v : V} (h : binV E op t (isConst xo || isConst yo) x y = some v) {vx vy : Value} (rx : VREL X x true [vx]) (ry : VREL X y true [vy]) :
    Puts P w (do eqGuard op t xo yo vx vy; binOp op t vx vy) v := by
  unfold binV at h
  split at h
  · split at h
    · simp only [VREL, REL] at rx ry
      obtain ⟨e1, i1⟩ := rx; obtain ⟨e2, i2⟩ := ry; cases e1; cases e2
      exact .andThen (run_eqGuard_free rfl) (intBin_sound h i1 t)
    · cases h
  · split at h
    · simp only [VREL, REL] at rx ry
      obtain ⟨s1, e1, i1, _⟩ := rx; obtain ⟨s2, e2, i2, _⟩ := ry; cases e1; cases e2
      subst i1; subst i2
      exact .andThen (run_eqGuard_free rfl) (strOp_sound h t)
    · cases h
  · rename_i h1 h2
    exact eqOp_sound hE h (fun k n e => h1 k n e) (fun s e => h2 s e) rx ry
end
end Go.As
