/-
  AS: a table of calls that have been run, one after the other.
-/
import Derived.Test.YtphcebdhnpbjlaaGreatDoorAsTab
set_option linter.unusedSectionVars false
set_option linter.unusedSimpArgs false
set_option linter.unusedVariables false
namespace Go.As
noncomputable section

/-- A number for data: equal data have equal numbers. -/
def keyStep (a b : Nat) : Nat := Nat.mod (Nat.add (Nat.mul 1000003 b) a) 18446744073709551557
def keyS (s : List Nat) : Nat := List.rec 11 (fun c _ ih => keyStep c ih) s
def keyI (n : Int) : Nat := Int.rec (fun a => Nat.mul 2 a) (fun a => Nat.add (Nat.mul 2 a) 1) n
def D.key (d : D) : Nat :=
  D.rec (motive_1 := fun _ => Nat) (motive_2 := fun _ => Nat) (fun b => Bool.rec 3 5 b) (fun _ n => keyStep 7 (keyI n)) (fun s => keyS s) 13 (fun _ k => keyStep 17 k) (fun _ k => keyStep 19 k) (fun _ _ k => keyStep 23 k) (fun _ k => keyStep 29 k)
    (fun f => keyStep 31 f) 37 (fun t _ k => keyStep (Nat.add 41 t) k) 43 47 53 (fun _ _ a b => keyStep a b) d
def keyL (l : List D) : Nat := List.rec 59 (fun d _ ih => keyStep d.key ih) l

/-- A call: its number, its arguments, its result. -/
structure Ent where
  id : Nat
  a : List D
  r : D
/-- Calls: by function, then by the arguments' number. -/
abbrev Memo := Tb (Tb (List Ent))
def findB (i : Nat) (l : List Ent) (ds : List D) : Option D := List.rec none (fun e _ ih => bif Nat.blt e.id i then (bif D.sames e.a ds then some e.r else ih) else ih) l
/-- Calls whose numbers lie below i. -/
def memoB (t : Tb (List Ent)) (i : Nat) (ds : List D) : Option D := match t.find (keyL ds) with | some l => findB i l ds | none => none
def Env.addB (E : Env) (T : Memo) (i : Nat) : Env := { E with sm := fun f => match T.find f with | some t => some (memoB t i) | none => none }
def chkE (E : Env) (T : Memo) (n f : Nat) (e : Ent) : Bool := match callD (E.addB T e.id) n f e.a with | some r => D.same r e.r | none => false
def chkL (E : Env) (T : Memo) (n lo hi f : Nat) (l : List Ent) : Bool := List.rec true (fun e _ ih => bif (bif Nat.ble lo e.id then (bif Nat.blt e.id hi then chkE E T n f e else true) else true) then ih else false) l
def chkF (E : Env) (T : Memo) (n lo hi f : Nat) (t : Tb (List Ent)) : Bool := Tb.rec true (fun _ v _ _ a b => bif chkL E T n lo hi f v then (bif a then b else false) else false) t
/-- Every call of the table whose number lies between is run. -/
def chkR (E : Env) (T : Memo) (n lo hi : Nat) (R : Memo) : Bool := Tb.rec true (fun f t _ _ a b => bif chkF E T n lo hi f t then (bif a then b else false) else false) R
end

section
variable [Gh] {F : Fence} {P : Program} {E : Env}

theorem codeOk_addB (E : Env) (T : Memo) (i f nt : Nat) : ∀ c, codeOk (E.addB T i) f nt c = codeOk E f nt c
  | .region id ops draw => rfl
  | .seq a b => by simp only [codeOk, codeOk_addB E T i f nt a, codeOk_addB E T i f nt b]
  | .cond c a b => by simp only [codeOk, codeOk_addB E T i f nt a, codeOk_addB E T i f nt b]
  | .block _ b => by simp only [codeOk, codeOk_addB E T i f nt b]
  | .loop b => by simp only [codeOk, codeOk_addB E T i f nt b]
  | .scope b => by simp only [codeOk, codeOk_addB E T i f nt b]
  | .rangeFunc g ps a b => by simp only [codeOk, codeOk_addB E T i f nt a, codeOk_addB E T i f nt b]
  | .skip | .label _ | .exit _ | .ret | .goto _ | .refuse _ => rfl

def GoodE (F : Fence) (P : Program) (f : Nat) (a : List D) (r : D) : Prop :=
  (∃ fn c, P.funcs[f]? = some fn ∧ fn.body = some c ∧ (fn.name == "runtime.NumGoroutine") = false) ∧ DataOk F P f a r
/-- The calls whose numbers lie below i are right. -/
def Claim (F : Fence) (P : Program) (T : Memo) (i : Nat) : Prop :=
  ∀ f t, T.find f = some t → ∀ k l, t.find k = some l → ∀ e ∈ l, e.id < i → GoodE F P f e.a e.r
theorem Claim.zero (T : Memo) : Claim F P T 0 := fun _ _ _ _ _ _ _ _ h => absurd h (Nat.not_lt_zero _)

theorem findB_some {i : Nat} : ∀ {l : List Ent} {ds : List D} {r : D}, findB i l ds = some r → ∃ e ∈ l, e.id < i ∧ e.a = ds ∧ e.r = r
  | [], _, _, h => by cases h
  | x :: l, ds, r, h => by
    have h : (bif Nat.blt x.id i then (bif D.sames x.a ds then some x.r else findB i l ds) else findB i l ds) = some r := h
    have rest : findB i l ds = some r → ∃ e ∈ x :: l, e.id < i ∧ e.a = ds ∧ e.r = r := fun h => by
      obtain ⟨e, h1, h2⟩ := findB_some h
      exact ⟨e, by simp [h1], h2⟩
    cases hb : Nat.blt x.id i with
    | false => rw [hb, cond_false] at h; exact rest h
    | true =>
      rw [hb, cond_true] at h
      cases hs : D.sames x.a ds with
      | true =>
        rw [hs, cond_true] at h
        exact ⟨x, by simp, Nat.le_of_ble_eq_true hb, D.sames_ok hs, Option.some.inj h⟩
      | false => rw [hs, cond_false] at h; exact rest h

/-- Calls that have been run may be looked up. -/
theorem EnvOk.addB (hE : EnvOk F P E) {T : Memo} {i : Nat} (h : Claim F P T i) (hbody : ∀ f t, T.find f = some t → ∃ fn c, P.funcs[f]? = some fn ∧ fn.body = some c ∧ (fn.name == "runtime.NumGoroutine") = false) : EnvOk F P (E.addB T i) where
  toEnvB := { hE.toEnvB with }
  mixed := hE.mixed
  gh := fun f nt c => by rw [codeOk_addB]; exact hE.gh f nt c
  fn := fun f fn e => let ⟨h1, h2, h3⟩ := hE.fn f fn e; ⟨h1, h2, fun c hc => by rw [codeOk_addB]; exact h3 c hc⟩
  meth := hE.meth
  ext := hE.ext
  clone := hE.clone
  sm := fun g S e => by
    have e : (match T.find g with | some t => some (memoB t i) | none => none) = some S := e
    split at e
    · rename_i t ht
      cases e
      refine ⟨hbody g t ht, fun ds d hd => ?_⟩
      unfold memoB at hd
      split at hd
      · rename_i l hl
        obtain ⟨e, h1, h2, rfl, rfl⟩ := findB_some hd
        exact (h g t ht _ l hl e h1 h2).2
      · cases hd
    · cases e

theorem chkL_ok {T : Memo} {n lo hi f : Nat} : ∀ {l : List Ent}, chkL E T n lo hi f l = true → ∀ e ∈ l, lo ≤ e.id → e.id < hi → chkE E T n f e = true
  | [], _, e, he, _, _ => by cases he
  | x :: l, h, e, he, h1, h2 => by
    have h : (bif (bif Nat.ble lo x.id then (bif Nat.blt x.id hi then chkE E T n f x else true) else true) then chkL E T n lo hi f l else false) = true := h
    cases hx : (bif Nat.ble lo x.id then (bif Nat.blt x.id hi then chkE E T n f x else true) else true) with
    | false => rw [hx] at h; cases h
    | true =>
      rw [hx, cond_true] at h
      rcases List.mem_cons.1 he with rfl | he
      · rw [Nat.ble_eq_true_of_le h1, cond_true, show Nat.blt e.id hi = true from Nat.ble_eq_true_of_le h2, cond_true] at hx
        exact hx
      · exact chkL_ok h e he h1 h2
theorem chkF_ok {T : Memo} {n lo hi f : Nat} : ∀ {t : Tb (List Ent)}, chkF E T n lo hi f t = true → ∀ k l, t.find k = some l → ∀ e ∈ l, lo ≤ e.id → e.id < hi → chkE E T n f e = true
  | .e, _, k, l, h => by cases h
  | .n k0 v a b, h, k, l, hf => by
    have h : (bif chkL E T n lo hi f v then (bif chkF E T n lo hi f a then chkF E T n lo hi f b else false) else false) = true := h
    rw [Tb.find_n] at hf
    cases h1 : chkL E T n lo hi f v <;> rw [h1] at h <;> simp only [cond_true, cond_false] at h
    · cases h
    cases h2 : chkF E T n lo hi f a <;> rw [h2] at h <;> simp only [cond_true, cond_false] at h
    · cases h
    cases h3 : Nat.beq k k0 <;> rw [h3] at hf <;> simp only [cond_true, cond_false] at hf
    · cases h4 : Nat.blt k k0 <;> rw [h4] at hf <;> simp only [cond_true, cond_false] at hf
      · exact chkF_ok h k l hf
      · exact chkF_ok h2 k l hf
    · cases hf; exact chkL_ok h1
theorem chkR_ok {T : Memo} {n lo hi : Nat} : ∀ {R : Memo}, chkR E T n lo hi R = true → ∀ f t, R.find f = some t → ∀ k l, t.find k = some l → ∀ e ∈ l, lo ≤ e.id → e.id < hi → chkE E T n f e = true
  | .e, _, f, t, h => by cases h
  | .n k0 v a b, h, f, t, hf => by
    have h : (bif chkF E T n lo hi k0 v then (bif chkR E T n lo hi a then chkR E T n lo hi b else false) else false) = true := h
    rw [Tb.find_n] at hf
    cases h1 : chkF E T n lo hi k0 v <;> rw [h1] at h <;> simp only [cond_true, cond_false] at h
    · cases h
    cases h2 : chkR E T n lo hi a <;> rw [h2] at h <;> simp only [cond_true, cond_false] at h
    · cases h
    cases h3 : Nat.beq f k0 <;> rw [h3] at hf <;> simp only [cond_true, cond_false] at hf
    · cases h4 : Nat.blt f k0 <;> rw [h4] at hf <;> simp only [cond_true, cond_false] at hf
      · exact chkR_ok h f t hf
      · exact chkR_ok h2 f t hf
    · cases hf
      have := beq_of h3; subst this
      exact chkF_ok h1

/-- More calls. -/
theorem Claim.more (hE : EnvOk F P E) (hF : Fen F) {T : Memo} {n lo hi : Nat} (h : Claim F P T lo) (hbody : ∀ f t, T.find f = some t → ∃ fn c, P.funcs[f]? = some fn ∧ fn.body = some c ∧ (fn.name == "runtime.NumGoroutine") = false)
    (hc : chkR E T n lo hi T = true) : Claim F P T hi := by
  have key : ∀ i, lo ≤ i → i ≤ hi → Claim F P T i := by
    intro i
    induction i with
    | zero => exact fun _ _ => Claim.zero T
    | succ i ih =>
      intro h1 h2
      rcases Nat.lt_or_ge i lo with hl | hl
      · obtain rfl : lo = i + 1 := by omega
        exact h
      · have hi' := ih hl (by omega)
        intro f t ht k l hk e he hlt
        rcases Nat.lt_or_ge e.id i with h3 | h3
        · exact hi' f t ht k l hk e he h3
        · have hid : e.id = i := by omega
          have := chkR_ok hc f t ht k l hk e he (by omega) (by omega)
          unfold chkE at this
          split at this
          · rename_i r hr
            have hs := D.same_ok this
            rw [hid] at hr
            have hEi := hE.addB hi' hbody
            have := dataV_sound (exec_sound hEi hF n) hEi hF hr
            rw [hs] at this
            exact this
          · cases this
  rcases Nat.lt_or_ge hi lo with hh | hh
  · exact fun f t ht k l hk e he hlt => h f t ht k l hk e he (by omega)
  · exact key hi hh (Nat.le_refl _)
end
end Go.As
namespace Go.As
/-- Methods by type and name. -/
noncomputable def methL (l : List (String × Nat)) (nm : String) : Option Nat := List.rec none (fun p _ ih => bif decide (p.1 = nm) then some p.2 else ih) l
noncomputable def methF (t : Tb (List (String × Nat))) (u : Nat) (nm : String) : Option Nat := (t.find u).bind fun l => methL l nm
end Go.As
