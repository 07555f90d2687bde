/-
  AS: the tables of a program, looked at once.
-/
import Derived.Test.YtfpkonppeefhfaaGreatDoorA5
import Derived.ProofKit
import GoSem.ClaimGoes
import Derived.Deep.Slices
import Derived.ChangeStays
import Derived.ChangeOld
import Derived.Lib.SmallJoins
set_option linter.unusedSectionVars false
set_option linter.unusedSimpArgs false
set_option linter.unusedVariables false
namespace Go.As
variable [Gh]
def TbAll {α : Type} (p : Nat → α → Prop) : Tb α → Prop
 | .e => True
 | .n k v l r => p k v ∧ TbAll p l ∧ TbAll p r
noncomputable def Tb.allB {α : Type} (p : Nat → α → Bool) (t : Tb α) : Bool := Tb.rec true (fun k v _ _ l r => bif p k v then (bif l then r else false) else false) t
theorem Tb.find_n {α : Type} (k : Nat) (v : α) (l r : Tb α) (i : Nat) : (Tb.n k v l r).find i = bif Nat.beq i k then some v else bif Nat.blt i k then l.find i else r.find i := rfl
theorem TbAll.find {α : Type} {p : Nat → α → Prop} {i : Nat} {v : α} : ∀ {t : Tb α}, TbAll p t → t.find i = some v → p i v
 | .e, _, e => by cases e
 | .n k u l r, h, e => by
  rw [Tb.find_n] at e
  cases hb : Nat.beq i k with
  | true => rw [hb, cond_true] at e; cases e; rw [beq_of hb]; exact h.1
  | false =>
   rw [hb, cond_false] at e
   cases hc : Nat.blt i k with
   | true => rw [hc, cond_true] at e; exact TbAll.find h.2.1 e
   | false => rw [hc, cond_false] at e; exact TbAll.find h.2.2 e
theorem TbAll.of {α : Type} {p : Nat → α → Bool} : ∀ {t : Tb α}, t.allB p = true → TbAll (fun k v => p k v = true) t
 | .e, _ => trivial
 | .n k u l r, h => by
  have h : (bif p k u then (bif l.allB p then r.allB p else false) else false) = true := h
  cases h1 : p k u with
  | false => rw [h1] at h; cases h
  | true =>
   rw [h1, cond_true] at h
   cases h2 : l.allB p with
   | false => rw [h2] at h; cases h
   | true => rw [h2, cond_true] at h; exact ⟨h1, TbAll.of h2, TbAll.of h⟩
def isZ : Int → Bool
 | .ofNat 0 => true
 | _ => false
theorem isZ_ok : ∀ {n : Int}, isZ n = true → n = 0
 | .ofNat 0, _ => rfl
 | .ofNat (n + 1), h => Bool.noConfusion (show false = true from h)
 | .negSucc n, h => Bool.noConfusion (show false = true from h)
mutual
def zeroD : D → Option (List Value)
 | .bool b => some [.bool b]
 | .int k n => bif isZ n then some [.int k 0] else none
 | .str [] => some [.string ⟨#[]⟩]
 | .nil => some [.pointer none]
 | .nfn => some [.nilFunc]
 | .inil => some [.nilIface]
 | .mnil => some [.map none]
 | .agg w l => (zeroDs l).bind fun cs => bif Nat.beq cs.length w then some cs else none
 | _ => none
def zeroDs : List D → Option (List Value)
 | [] => some []
 | d :: l => (zeroD d).bind fun a => (zeroDs l).map fun b => a ++ b
end
mutual
def zeroV : V → Option (List Value)
 | .im d => zeroD d
 | .full [] => some [.slice none 0 0]
 | .agg w l => (zeroVs l).bind fun cs => bif Nat.beq cs.length w then some cs else none
 | _ => none
def zeroVs : List V → Option (List Value)
 | [] => some []
 | d :: l => (zeroV d).bind fun a => (zeroVs l).map fun b => a ++ b
end
theorem inR_zero (k : IntKind) : inR k 0 := by
 show k.min ≤ 0 ∧ 0 ≤ k.max
 cases k <;> decide
mutual
theorem zeroD_ok {C : IV} : ∀ {d : D} {cs : List Value}, zeroD d = some cs → REL C d false cs
 | .bool b, cs, e => by simp only [zeroD, Option.some.injEq] at e; subst e; simp [REL]
 | .int k n, cs, e => by
  simp only [zeroD] at e
  obtain ⟨hz, e⟩ := bif_some e
  cases e
  simp only [REL]
  rw [isZ_ok hz]
  exact ⟨rfl, inR_zero k⟩
 | .str [], cs, e => by simp only [zeroD, Option.some.injEq] at e; subst e; exact ⟨_, rfl, rfl, by simp [ByteArray.size]⟩
 | .str (_ :: _), cs, e => by simp [zeroD] at e
 | .nil, cs, e => by simp only [zeroD, Option.some.injEq] at e; subst e; simp [REL]
 | .nfn, cs, e => by simp only [zeroD, Option.some.injEq] at e; subst e; simp [REL]
 | .inil, cs, e => by simp only [zeroD, Option.some.injEq] at e; subst e; simp [REL]
 | .mnil, cs, e => by simp only [zeroD, Option.some.injEq] at e; subst e; simp [REL]
 | .agg w l, cs, e => by
  simp only [zeroD, Option.bind_eq_some_iff] at e
  obtain ⟨cs', h1, e⟩ := e
  obtain ⟨hb, e⟩ := bif_some e
  cases e
  obtain ⟨wss, h2, h3⟩ := zeroDs_ok (C := C) h1
  simp only [REL]
  exact ⟨wss, h3, h2, beq_of hb⟩
 | .ref _, cs, e => by simp [zeroD] at e
 | .slc _, cs, e => by simp [zeroD] at e
 | .tup _, cs, e => by simp [zeroD] at e
 | .fn _, cs, e => by simp [zeroD] at e
 | .ifc _ _, cs, e => by simp [zeroD] at e
theorem zeroDs_ok {C : IV} : ∀ {l : List D} {cs : List Value}, zeroDs l = some cs → ∃ wss, RELs C l false wss ∧ cs = wss.flatten
 | [], cs, e => by simp only [zeroDs, Option.some.injEq] at e; subst e; exact ⟨[], by simp [RELs], rfl⟩
 | d :: l, cs, e => by
  simp only [zeroDs, Option.bind_eq_some_iff, Option.map_eq_some_iff] at e
  obtain ⟨a, h1, b, h2, e⟩ := e
  obtain ⟨wss, h3, rfl⟩ := zeroDs_ok (C := C) h2
  exact ⟨a :: wss, by simp only [RELs]; exact ⟨a, wss, rfl, zeroD_ok h1, h3⟩, e.symm⟩
end
mutual
theorem zeroV_ok {X : Cx} : ∀ {v : V} {cs : List Value}, zeroV v = some cs → VREL X v false cs
 | .im d, cs, e => by simp only [zeroV] at e; simp only [VREL]; exact zeroD_ok e
 | .full [], cs, e => by
  simp only [zeroV, Option.some.injEq] at e; subst e
  simp only [VREL]
  exact ⟨_, rfl, none, 0, rfl, rfl, Nat.zero_le _, .inl rfl⟩
 | .full (_ :: _), cs, e => by simp [zeroV] at e
 | .agg w l, cs, e => by
  simp only [zeroV, Option.bind_eq_some_iff] at e
  obtain ⟨cs', h1, e⟩ := e
  obtain ⟨hb, e⟩ := bif_some e
  cases e
  obtain ⟨wss, h2, h3⟩ := zeroVs_ok (X := X) h1
  simp only [VREL]
  exact ⟨wss, h3, h2, beq_of hb⟩
 | .undef, cs, e => by simp [zeroV] at e
 | .tup _, cs, e => by simp [zeroV] at e
 | .own .., cs, e => by simp [zeroV] at e
 | .ptr .., cs, e => by simp [zeroV] at e
 | .fn .., cs, e => by simp [zeroV] at e
 | .ifc .., cs, e => by simp [zeroV] at e
 | .mp _, cs, e => by simp [zeroV] at e
 | .yld _, cs, e => by simp [zeroV] at e
theorem zeroVs_ok {X : Cx} : ∀ {l : List V} {cs : List Value}, zeroVs l = some cs → ∃ wss, VRELs X l false wss ∧ cs = wss.flatten
 | [], cs, e => by simp only [zeroVs, Option.some.injEq] at e; subst e; exact ⟨[], by simp [VRELs], rfl⟩
 | d :: l, cs, e => by
  simp only [zeroVs, Option.bind_eq_some_iff, Option.map_eq_some_iff] at e
  obtain ⟨a, h1, b, h2, e⟩ := e
  obtain ⟨wss, h3, rfl⟩ := zeroVs_ok (X := X) h2
  exact ⟨a :: wss, by simp only [VRELs]; exact ⟨a, wss, rfl, zeroV_ok h1, h3⟩, e.symm⟩
end
def leafEq : Value → Value → Bool
 | .bool a, .bool b => (match a, b with | true, true => true | false, false => true | _, _ => false)
 | .int k n, .int k' m => isZ n && (isZ m && decide (k = k'))
 | .string ⟨⟨[]⟩⟩, .string ⟨⟨[]⟩⟩ => true
 | .pointer none, .pointer none => true
 | .slice none 0 0, .slice none 0 0 => true
 | .map none, .map none => true
 | .nilFunc, .nilFunc => true
 | .nilIface, .nilIface => true
 | _, _ => false
theorem leafEq_ok {a b : Value} (h : leafEq a b = true) : a = b := by
 unfold leafEq at h
 split at h
 ·split at h <;> simp_all
 ·simp only [Bool.and_eq_true] at h
  rw [isZ_ok h.1, isZ_ok h.2.1, of_decide_eq_true h.2.2]
 all_goals first
  | rfl
  | cases h
def leavesEq : List Value → List Value → Bool
 | [], [] => true
 | a :: l, b :: r => bif leafEq a b then leavesEq l r else false
 | _, _ => false
theorem leavesEq_ok : ∀ {a b : List Value}, leavesEq a b = true → a = b
 | [], [], _ => rfl
 | [], _ :: _, h => by cases h
 | _ :: _, [], h => by cases h
 | a :: l, b :: r, h => by
  have h : (bif leafEq a b then leavesEq l r else false) = true := h
  cases h1 : leafEq a b with
  | false => rw [h1] at h; cases h
  | true => rw [h1, cond_true] at h; rw [leafEq_ok h1, leavesEq_ok h]
def zeroB (v : V) (z : Value) : Bool :=
 match zeroV v with
 | none => false
 | some cs => bif v.isAgg then (match z with | .agg zs => leavesEq zs.toList cs | _ => false) else (match cs with | [c] => leafEq z c | _ => false)
theorem zeroB_ok {X : Cx} {v : V} {z : Value} (hp : v.plain = true) (h : zeroB v z = true) : VREL X v true [z] := by
 unfold zeroB at h
 split at h
 ·cases h
 ·rename_i cs hcs
  have hv := zeroV_ok (X := X) hcs
  cases ha : v.isAgg with
  | true =>
   rw [ha, cond_true] at h
   split at h
   ·rename_i zs
    have := leavesEq_ok h
    exact (VREL.agg_iff ha).2 ⟨zs, rfl, by rw [this]; exact hv⟩
   ·cases h
  | false =>
   rw [ha, cond_false] at h
   split at h
   ·rename_i c
    obtain ⟨x, e, _, r⟩ := hv.one hp ha
    cases e
    rw [leafEq_ok h]; exact r true
   ·cases h
def triples : List (Nat × Nat × Nat) → List (Nat × Nat × Nat) → Bool
 | [], [] => true
 | a :: l, b :: r => bif Nat.beq a.1 b.1 && (Nat.beq a.2.1 b.2.1 && Nat.beq a.2.2 b.2.2) then triples l r else false
 | _, _ => false
theorem triples_ok : ∀ {a b : List (Nat × Nat × Nat)}, triples a b = true → a = b
 | [], [], _ => rfl
 | [], _ :: _, h => by cases h
 | _ :: _, [], h => by cases h
 | (a1, a2, a3) :: l, (b1, b2, b3) :: r, h => by
  have h : (bif Nat.beq a1 b1 && (Nat.beq a2 b2 && Nat.beq a3 b3) then triples l r else false) = true := h
  cases h1 : Nat.beq a1 b1 && (Nat.beq a2 b2 && Nat.beq a3 b3) with
  | false => rw [h1] at h; cases h
  | true =>
   rw [h1, cond_true] at h
   simp only [Bool.and_eq_true] at h1
   rw [beq_of h1.1, beq_of h1.2.1, beq_of h1.2.2, triples_ok h]
def kindB (P : Program) (t : Nat) (k : TK) : Bool :=
 match P.underlying t with
 | none => false
 | some d => match k, d with
  | .bool, .bool => true
  | .int k, .int k' => decide (k = k')
  | .str, .string => true
  | .ptr, .pointer _ => true
  | .slc e, .slice e' => Nat.beq e e'
  | .arr n e, .array n' e' => Nat.beq n n' && Nat.beq e e'
  | .st fs, .struct fields => triples (fields.toList.map fun f => (f.offset, P.cellsOf f.type, f.type)) fs && (fields.toList.all (fun f => !(decide (f.name = "_")) && (P.info? f.type).isSome) && !P.stoodInHeld t)
  | .fn, .func _ _ _ => true
  | .ifc nm, .interface ms => (match nm, !ms.isEmpty with | true, true => true | false, false => true | _, _ => false)
  | .map k e, .map k' e' => Nat.beq k k' && Nat.beq e e'
  | _, _ => false
theorem kindB_ok {P : Program} {t : Nat} {k : TK} (h : kindB P t k = true) : KindOk P t k := by
 unfold kindB at h
 split at h
 ·cases h
 ·rename_i d hd
  split at h <;> simp only [KindOk]
  ·exact hd
  ·rw [of_decide_eq_true h]; exact hd
  ·exact hd
  ·exact ⟨_, hd⟩
  ·rw [beq_of h]; exact hd
  ·rw [Bool.and_eq_true] at h; rw [beq_of h.1, beq_of h.2]; exact hd
  ·simp only [Bool.and_eq_true, List.all_eq_true, Bool.not_eq_true', decide_eq_false_iff_not] at h
   exact ⟨_, hd, triples_ok h.1, fun f hf => ⟨(h.2.1 f hf).1, Option.isSome_iff_exists.1 (h.2.1 f hf).2⟩, h.2.2⟩
  ·exact ⟨_, _, _, hd⟩
  ·refine ⟨_, hd, ?_⟩
   split at h <;> simp_all
  ·rw [Bool.and_eq_true] at h; rw [beq_of h.1, beq_of h.2]; exact hd
  ·cases h
def tyB (P : Program) (t : Nat) (ti : TI) : Bool :=
 match P.info? t with
 | none => false
 | some i => bif Nat.beq i.size ti.size && Nat.beq i.bytes ti.bytes then (bif (bif ti.zero.plain then (match i.zero with | some z => zeroB ti.zero z | none => false) else true) then kindB P t ti.k else false) else false
theorem tyB_ok {P : Program} {t : Nat} {ti : TI} (h : tyB P t ti = true) : TyOk P t ti := by
 unfold tyB at h
 split at h
 ·cases h
 ·rename_i i hi
  cases h1 : Nat.beq i.size ti.size && Nat.beq i.bytes ti.bytes with
  | false => rw [h1] at h; cases h
  | true =>
   rw [h1, cond_true] at h
   rw [Bool.and_eq_true] at h1
   cases h2 : (bif ti.zero.plain then (match i.zero with | some z => zeroB ti.zero z | none => false) else true) with
   | false => rw [h2] at h; cases h
   | true =>
    rw [h2, cond_true] at h
    refine ⟨⟨i, hi, beq_of h1.1, beq_of h1.2, fun x hx hp => ?_⟩, kindB_ok h⟩
    subst hx
    rw [hp, cond_true] at h2
    split at h2
    ·rename_i z hz
     exact ⟨z, hz, zeroB_ok hp h2⟩
    ·cases h2
noncomputable def fnB (E : Env) (f : Nat) (fn : Func) : Bool := (!(fn.name == "runtime.NumGoroutine")) && (match fn.body with | some c => codeOk E f fn.ntmps c | none => true)
theorem fnB_ok {E : Env} {f : Nat} {fn : Func} (h : fnB E f fn = true) : (fn.name == "runtime.NumGoroutine") = false ∧ ∀ c, fn.body = some c → codeOk E f fn.ntmps c = true := by
 unfold fnB at h
 rw [Bool.and_eq_true, Bool.not_eq_true'] at h
 refine ⟨h.1, fun c hc => ?_⟩
 have := h.2
 rw [hc] at this
 exact this
end Go.As
/-
 AS: a table of calls that have been run, one after the other.
-/
namespace Go.As
noncomputable section
def keyStep (a b : Nat) : Nat := Nat.mod (Nat.add (Nat.mul 1000003 b) a) 18446744073709551557
def keyS (s : List Nat) : Nat := List.rec 11 (fun c _ ih => keyStep c ih) s
def keyI (n : Int) : Nat := Int.rec (fun a => Nat.mul 2 a) (fun a => Nat.add (Nat.mul 2 a) 1) n
def D.key (d : D) : Nat :=
 D.rec (motive_1 := fun _ => Nat) (motive_2 := fun _ => Nat) (fun b => Bool.rec 3 5 b) (fun _ n => keyStep 7 (keyI n)) (fun s => keyS s) 13 (fun _ k => keyStep 17 k) (fun _ k => keyStep 19 k) (fun _ _ k => keyStep 23 k) (fun _ k => keyStep 29 k)
  (fun f => keyStep 31 f) 37 (fun t _ k => keyStep (Nat.add 41 t) k) 43 47 53 (fun _ _ a b => keyStep a b) d
def keyL (l : List D) : Nat := List.rec 59 (fun d _ ih => keyStep d.key ih) l
structure Ent where
 id : Nat
 a : List D
 r : D
abbrev Memo := Tb (Tb (List Ent))
def findB (i : Nat) (l : List Ent) (ds : List D) : Option D := List.rec none (fun e _ ih => bif Nat.blt e.id i then (bif D.sames e.a ds then some e.r else ih) else ih) l
def memoB (t : Tb (List Ent)) (i : Nat) (ds : List D) : Option D := match t.find (keyL ds) with | some l => findB i l ds | none => none
def Env.addB (E : Env) (T : Memo) (i : Nat) : Env := { E with sm := fun f => match T.find f with | some t => some (memoB t i) | none => none }
def chkE (E : Env) (T : Memo) (n f : Nat) (e : Ent) : Bool := match callD (E.addB T e.id) n f e.a with | some r => D.same r e.r | none => false
def chkL (E : Env) (T : Memo) (n lo hi f : Nat) (l : List Ent) : Bool := List.rec true (fun e _ ih => bif (bif Nat.ble lo e.id then (bif Nat.blt e.id hi then chkE E T n f e else true) else true) then ih else false) l
def chkF (E : Env) (T : Memo) (n lo hi f : Nat) (t : Tb (List Ent)) : Bool := Tb.rec true (fun _ v _ _ a b => bif chkL E T n lo hi f v then (bif a then b else false) else false) t
def chkR (E : Env) (T : Memo) (n lo hi : Nat) (R : Memo) : Bool := Tb.rec true (fun f t _ _ a b => bif chkF E T n lo hi f t then (bif a then b else false) else false) R
end
section
variable [Gh] {F : Fence} {P : Program} {E : Env}
theorem codeOk_addB (E : Env) (T : Memo) (i f nt : Nat) : ∀ c, codeOk (E.addB T i) f nt c = codeOk E f nt c
 | .region id ops draw => rfl
 | .seq a b => by simp only [codeOk, codeOk_addB E T i f nt a, codeOk_addB E T i f nt b]
 | .cond c a b => by simp only [codeOk, codeOk_addB E T i f nt a, codeOk_addB E T i f nt b]
 | .block _ b => by simp only [codeOk, codeOk_addB E T i f nt b]
 | .loop b => by simp only [codeOk, codeOk_addB E T i f nt b]
 | .scope b => by simp only [codeOk, codeOk_addB E T i f nt b]
 | .rangeFunc g ps a b => by simp only [codeOk, codeOk_addB E T i f nt a, codeOk_addB E T i f nt b]
 | .skip | .label _ | .exit _ | .ret | .goto _ | .refuse _ => rfl
def GoodE (F : Fence) (P : Program) (f : Nat) (a : List D) (r : D) : Prop :=
 (∃ fn c, P.funcs[f]? = some fn ∧ fn.body = some c ∧ (fn.name == "runtime.NumGoroutine") = false) ∧ DataOk F P f a r
def Claim (F : Fence) (P : Program) (T : Memo) (i : Nat) : Prop :=
 ∀ f t, T.find f = some t → ∀ k l, t.find k = some l → ∀ e ∈ l, e.id < i → GoodE F P f e.a e.r
theorem Claim.zero (T : Memo) : Claim F P T 0 := fun _ _ _ _ _ _ _ _ h => absurd h (Nat.not_lt_zero _)
theorem findB_some {i : Nat} : ∀ {l : List Ent} {ds : List D} {r : D}, findB i l ds = some r → ∃ e ∈ l, e.id < i ∧ e.a = ds ∧ e.r = r
 | [], _, _, h => by cases h
 | x :: l, ds, r, h => by
  have h : (bif Nat.blt x.id i then (bif D.sames x.a ds then some x.r else findB i l ds) else findB i l ds) = some r := h
  have rest : findB i l ds = some r → ∃ e ∈ x :: l, e.id < i ∧ e.a = ds ∧ e.r = r := fun h => by
   obtain ⟨e, h1, h2⟩ := findB_some h
   exact ⟨e, by simp [h1], h2⟩
  cases hb : Nat.blt x.id i with
  | false => rw [hb, cond_false] at h; exact rest h
  | true =>
   rw [hb, cond_true] at h
   cases hs : D.sames x.a ds with
   | true =>
    rw [hs, cond_true] at h
    exact ⟨x, by simp, Nat.le_of_ble_eq_true hb, D.sames_ok hs, Option.some.inj h⟩
   | false => rw [hs, cond_false] at h; exact rest h
theorem EnvOk.addB (hE : EnvOk F P E) {T : Memo} {i : Nat} (h : Claim F P T i) (hbody : ∀ f t, T.find f = some t → ∃ fn c, P.funcs[f]? = some fn ∧ fn.body = some c ∧ (fn.name == "runtime.NumGoroutine") = false) : EnvOk F P (E.addB T i) where
 toEnvB := { hE.toEnvB with }
 mixed := hE.mixed
 gh := fun f nt c => by rw [codeOk_addB]; exact hE.gh f nt c
 fn := fun f fn e => let ⟨h1, h2, h3⟩ := hE.fn f fn e; ⟨h1, h2, fun c hc => by rw [codeOk_addB]; exact h3 c hc⟩
 meth := hE.meth
 ext := hE.ext
 clone := hE.clone
 sm := fun g S e => by
  have e : (match T.find g with | some t => some (memoB t i) | none => none) = some S := e
  split at e
  ·rename_i t ht
   cases e
   refine ⟨hbody g t ht, fun ds d hd => ?_⟩
   unfold memoB at hd
   split at hd
   ·rename_i l hl
    obtain ⟨e, h1, h2, rfl, rfl⟩ := findB_some hd
    exact (h g t ht _ l hl e h1 h2).2
   ·cases hd
  ·cases e
theorem chkL_ok {T : Memo} {n lo hi f : Nat} : ∀ {l : List Ent}, chkL E T n lo hi f l = true → ∀ e ∈ l, lo ≤ e.id → e.id < hi → chkE E T n f e = true
 | [], _, e, he, _, _ => by cases he
 | x :: l, h, e, he, h1, h2 => by
  have h : (bif (bif Nat.ble lo x.id then (bif Nat.blt x.id hi then chkE E T n f x else true) else true) then chkL E T n lo hi f l else false) = true := h
  cases hx : (bif Nat.ble lo x.id then (bif Nat.blt x.id hi then chkE E T n f x else true) else true) with
  | false => rw [hx] at h; cases h
  | true =>
   rw [hx, cond_true] at h
   rcases List.mem_cons.1 he with rfl | he
   ·rw [Nat.ble_eq_true_of_le h1, cond_true, show Nat.blt e.id hi = true from Nat.ble_eq_true_of_le h2, cond_true] at hx
    exact hx
   ·exact chkL_ok h e he h1 h2
theorem chkF_ok {T : Memo} {n lo hi f : Nat} : ∀ {t : Tb (List Ent)}, chkF E T n lo hi f t = true → ∀ k l, t.find k = some l → ∀ e ∈ l, lo ≤ e.id → e.id < hi → chkE E T n f e = true
 | .e, _, k, l, h => by cases h
 | .n k0 v a b, h, k, l, hf => by
  have h : (bif chkL E T n lo hi f v then (bif chkF E T n lo hi f a then chkF E T n lo hi f b else false) else false) = true := h
  rw [Tb.find_n] at hf
  cases h1 : chkL E T n lo hi f v <;> rw [h1] at h <;> simp only [cond_true, cond_false] at h
  ·cases h
  cases h2 : chkF E T n lo hi f a <;> rw [h2] at h <;> simp only [cond_true, cond_false] at h
  ·cases h
  cases h3 : Nat.beq k k0 <;> rw [h3] at hf <;> simp only [cond_true, cond_false] at hf
  ·cases h4 : Nat.blt k k0 <;> rw [h4] at hf <;> simp only [cond_true, cond_false] at hf
   ·exact chkF_ok h k l hf
   ·exact chkF_ok h2 k l hf
  ·cases hf; exact chkL_ok h1
theorem chkR_ok {T : Memo} {n lo hi : Nat} : ∀ {R : Memo}, chkR E T n lo hi R = true → ∀ f t, R.find f = some t → ∀ k l, t.find k = some l → ∀ e ∈ l, lo ≤ e.id → e.id < hi → chkE E T n f e = true
 | .e, _, f, t, h => by cases h
 | .n k0 v a b, h, f, t, hf => by
  have h : (bif chkF E T n lo hi k0 v then (bif chkR E T n lo hi a then chkR E T n lo hi b else false) else false) = true := h
  rw [Tb.find_n] at hf
  cases h1 : chkF E T n lo hi k0 v <;> rw [h1] at h <;> simp only [cond_true, cond_false] at h
  ·cases h
  cases h2 : chkR E T n lo hi a <;> rw [h2] at h <;> simp only [cond_true, cond_false] at h
  ·cases h
  cases h3 : Nat.beq f k0 <;> rw [h3] at hf <;> simp only [cond_true, cond_false] at hf
  ·cases h4 : Nat.blt f k0 <;> rw [h4] at hf <;> simp only [cond_true, cond_false] at hf
   ·exact chkR_ok h f t hf
   ·exact chkR_ok h2 f t hf
  ·cases hf
   have := beq_of h3; subst this
   exact chkF_ok h1
theorem Claim.more (hE : EnvOk F P E) (hF : Fen F) {T : Memo} {n lo hi : Nat} (h : Claim F P T lo) (hbody : ∀ f t, T.find f = some t → ∃ fn c, P.funcs[f]? = some fn ∧ fn.body = some c ∧ (fn.name == "runtime.NumGoroutine") = false)
  (hc : chkR E T n lo hi T = true) : Claim F P T hi := by
 have key : ∀ i, lo ≤ i → i ≤ hi → Claim F P T i := by
  intro i
  induction i with
  | zero => exact fun _ _ => Claim.zero T
  | succ i ih =>
   intro h1 h2
   rcases Nat.lt_or_ge i lo with hl | hl
   ·obtain rfl : lo = i + 1 := by omega
    exact h
   ·have hi' := ih hl (by omega)
    intro f t ht k l hk e he hlt
    rcases Nat.lt_or_ge e.id i with h3 | h3
    ·exact hi' f t ht k l hk e he h3
    ·have hid : e.id = i := by omega
     have := chkR_ok hc f t ht k l hk e he (by omega) (by omega)
     unfold chkE at this
     split at this
     ·rename_i r hr
      have hs := D.same_ok this
      rw [hid] at hr
      have hEi := hE.addB hi' hbody
      have := dataV_sound (exec_sound hEi hF n) hEi hF hr
      rw [hs] at this
      exact this
     ·cases this
 rcases Nat.lt_or_ge hi lo with hh | hh
 ·exact fun f t ht k l hk e he hlt => h f t ht k l hk e he (by omega)
 ·exact key hi hh (Nat.le_refl _)
end
end Go.As
namespace Go.As
noncomputable def methL (l : List (String × Nat)) (nm : String) : Option Nat := List.rec none (fun p _ ih => bif decide (p.1 = nm) then some p.2 else ih) l
noncomputable def methF (t : Tb (List (String × Nat))) (u : Nat) (nm : String) : Option Nat := (t.find u).bind fun l => methL l nm
end Go.As
/-
 AS: slices.Clone.
-/
namespace Go.As
open Go.RowKit (Below)
variable [Gh]
section
variable {F : Fence} {P : Program} {B : Nat} {X : Cx} {O : Nat → Addr → Prop} {w : World} {h : Heap} {E : Env}
def clone0 (T : Nat) : Array Oper := #[{ dst := some 2, op := Op.assign (Operand.const (Value.slice none 0 0)), type := T, pos := "slices.go:355", after := #[], guard := none }]
def clone1 (T bt : Nat) : Array Oper := #[{ dst := some 3, op := Op.move (Operand.tmp 0), type := T, pos := "slices.go:357", after := #[], guard := none },
 {dst := some 4, op := Op.binOp BinOp.eql T (Operand.tmp 3) (Operand.const (Value.slice none 0 0)) T, type := bt, pos := "slices.go:357", after := #[{ on := 0, ground := Ground.data }], guard := none }]
def clone2 (T : Nat) : Array Oper := #[{ dst := some 2, op := Op.assign (Operand.const (Value.slice none 0 0)), type := T, pos := "slices.go:358", after := #[], guard := none }]
def clone3 (T : Nat) : Array Oper := #[{ dst := some 5, op := Op.buildSlice T 0 #[], type := T, pos := "slices.go:362", after := #[], guard := none },
 {dst := some 6, op := Op.move (Operand.tmp 0), type := T, pos := "slices.go:362", after := #[], guard := none },
 {dst := some 7, op := Op.call { callee := Callee.builtin Builtin.append, args := #[Operand.tmp 5, Operand.tmp 6], argTypes := #[T, T] }, type := T, pos := "slices.go:362",
  after := #[{ on := 0, ground := Ground.data }, { on := 1, ground := Ground.data }], guard := none },
 {dst := some 2, op := Op.assign (Operand.tmp 7), type := T, pos := "slices.go:362",
  after := #[{ on := 2, ground := Ground.data }, { on := 2, ground := Ground.chain }, { on := 0, ground := Ground.phase }, { on := 1, ground := Ground.phase }, { on := 2, ground := Ground.phase }], guard := none }]
def cloneCode (T bt : Nat) : Code :=
 (Code.region 0 (clone0 T) false).seq (((Code.region 1 (clone1 T bt) false).seq (Code.cond (Operand.tmp 4) ((Code.region 2 (clone2 T) false).seq Code.ret) Code.skip)).seq ((Code.region 3 (clone3 T) false).seq Code.ret))
theorem op_at (hE : EnvB P E) (hF : Fen F) {ops : Array Oper} {o : Oper} {nt n : Nat} {a : Act} {st : St} (s : SR nt B X O w a st) (hg : o.guard = none) (hd : noD o = true) (hok : opOk nt o = true) {nid : Nat} {v : V} {h' : Heap} (hn : hget st.h nid = none) (hM : X.M nid = none) (hle : nid ≤ st.h.length)
  (e : stepOp E false nid st.t st.h o.op = some (v, h')) {K : Act → World → Prop} {Q : Exit → Act → World → Prop} (hK : ∀ X' O' w' a', SR nt B X' O' w' a' ⟨putDst st.t o.dst v, h', st.lp, st.df⟩ → Step B X O w st.h X' O' w' h' → K a' w') :
  if Region.wanted o (yielded ops a.tmps) = true then o.wpIn F n P a w K Q else (∀ f, o.about P w a.eval = some f → F.fn f) ∧ K (a.put o.dst undef) w := by
 obtain ⟨hdd, ho⟩ := opOk_dst hok
 have hw : Region.wanted o (yielded ops a.tmps) = true := by unfold Region.wanted; rw [hg]
 rw [if_pos hw]
 unfold Oper.wpIn
 refine ⟨fun f _ => hF.fn f, ?_⟩
 rw [noD_sem hd]
 obtain ⟨x, w1, X1, O1, hrun, q1, q2, q3⟩ := stepOp_sound hE s.h hn hM hle s.t ho e
 have s1 := (s.step q1 q3).put hdd q2
 rcases hrun with hrun | ⟨hrun, rfl⟩ <;> rw [hrun] <;> exact hK X1 O1 w1 _ s1 q3
theorem eql_nil {T el : Nat} (hT : P.underlying T = some (.slice el)) (b : Option Addr) (n c : Nat) : (do eqGuard .eql T (.tmp 3) (.const (.slice none 0 0)) (.slice b n c) (.slice none 0 0); binOp .eql T (.slice b n c) (.slice none 0 0) : Sem Value).run P w = .ok (.bool b.isNone) w := by
 have h1 : (eqGuard .eql T (.tmp 3) (.const (.slice none 0 0)) (.slice b n c) (.slice none 0 0)).run P w = .ok () w := by simp [eqGuard]
 have h2 : (Op.equal T (.slice b n c) (.slice none 0 0)).run P w = .ok b.isNone w := by
  unfold Op.equal
  rw [show Op.maxDepth = 9999 + 1 from rfl]
  unfold Op.equalIn
  cases b <;> simp [run_underlying hT]
 simp [h1, binOp, h2]
theorem hput_hput (h : Heap) {n : Nat} (a b : Blk) (hn : n ≤ h.length) : hput (hput h n a) n b = hput h n b := by
 have h1 := hput_len h n a
 have h2 := hput_len h n b
 have h3 := hput_len (hput h n a) n b
 have hlt : n < (hput h n a).length := by rw [h1]; split <;> omega
 rw [if_pos hlt, h1] at h3
 refine heap_ext (by rw [h3, h2]) fun i => ?_
 rw [hget_hput _ n i b (by omega), hget_hput h n i b hn, hget_hput h n i a hn]
 split <;> rfl
theorem delems_put {x : V} {l : List D} {nid : Nat} {k : Blk} (hl : x.delems h = some l) (hn : hget h nid = none) (hle : nid ≤ h.length) : x.delems (hput h nid k) = some l ∧ isArv (hput h nid k) x = false := by
 unfold V.delems at hl
 split at hl
 ·exact ⟨hl, rfl⟩
 ·exact ⟨hl, rfl⟩
 ·rename_i b g off len lim
  split at hl
  ·rename_i g' s ro l' hb
   have hne : b ≠ nid := fun e => by subst e; rw [hn] at hb; cases hb
   have hb' : hget (hput h nid k) b = some (.arr g' s ro l') := by rw [hget_hput h nid b k hle, if_neg hne]; exact hb
   constructor
   ·unfold V.delems; simp only [hb']; exact hl
   ·unfold isArv; simp only [hb']
  ·cases hl
 ·cases hl
theorem clone_sound (hE : EnvB P E) (hF : Fen F) {g T bt el : Nat} {fn : Func} {ti te : TI} (hf : P.funcs[g]? = some fn) (hb : fn.body = some (cloneCode T bt)) (hname : (fn.name == "runtime.NumGoroutine") = false) (hnt : fn.ntmps = 8) (hres : fn.results = #[.tmp 2])
  (hT : E.ty T = some ti) (hTk : ti.k = .slc el) (hel : E.ty el = some te) (n : Nat) (hr : HR B X O w h) (xs : List V) (args : Array Value) (ha : All2 (fun v x => VREL X v true [x]) xs args.toList)
  (nid : Nat) (hn : hget h nid = none) (hM : X.M nid = none) (hle : nid ≤ h.length) (v : V) (h' : Heap) (e : cloneV E nid el xs h = some (v, h')) : CallN F n P B X O w h (callFunc g args) v h' := by
 have hTu : P.underlying T = some (.slice el) := by have := (hE.ty T ti hT).kind; rw [hTk] at this; exact this
 unfold cloneV at e
 split at e
 ·rename_i x
  rw [hel, Option.bind_some] at e
  obtain ⟨l, hl, e⟩ := Option.bind_eq_some_iff.1 e
  obtain ⟨hc, e⟩ := bif_some e
  cases e
  simp only [Bool.and_eq_true] at hc
  obtain ⟨⟨hz, hzd⟩, hfw, hroom⟩ := hc
  obtain ⟨vx, r, ea, rx, rr⟩ := ha
  cases rr
  have harg : args = #[vx] := by apply Array.toList_inj.1; rw [ea]
  subst harg
  refine .inr ⟨g, #[vx], callFunc_enter hf hb hname _, ?_⟩
  refine callsIn_of_wp hf hb (hF.fn g) ?_ hF.round
  obtain ⟨ax, nx, cx, e1, e2, e3, e4, e5⟩ := delems_cells hr hl rx
  subst e1
  have s0 : SR 8 B X O w { tmps := #[Value.slice ax nx cx] ++ Array.replicate (fn.ntmps - 1) undef, defers := [] } ⟨tmOf 8 [x], h, [], []⟩ := by
   have := start_SR hr (l := [x]) (args := #[Value.slice ax nx cx]) (All2.cons rx All2.nil) (nt := 8) rfl
   rw [hnt]; exact this
  show (cloneCode T bt).wpIn F n P (bodyPost P fn _) { tmps := #[Value.slice ax nx cx] ++ Array.replicate (fn.ntmps - 1) undef, defers := [] } w
  have hev0 : ({ tmps := #[Value.slice ax nx cx] ++ Array.replicate (fn.ntmps - 1) undef, defers := [] } : Act).tmps.getD 0 undef = .slice ax nx cx := by
   show (#[Value.slice ax nx cx] ++ Array.replicate (fn.ntmps - 1) undef).getD 0 undef = _
   rw [Array.getD_eq_getD_getElem?, Array.getElem?_append_left (by simp)]; rfl
  have hsz0 : ({ tmps := #[Value.slice ax nx cx] ++ Array.replicate (fn.ntmps - 1) undef, defers := [] } : Act).tmps.size = 8 := s0.n
  generalize ({ tmps := #[Value.slice ax nx cx] ++ Array.replicate (fn.ntmps - 1) undef, defers := [] } : Act) = a0 at s0 hev0 hsz0 ⊢
  have hfull : VREL X (.full []) true [.slice none 0 0] := by simp only [VREL]; exact ⟨_, rfl, none, 0, rfl, rfl, Nat.zero_le _, .inl rfl⟩
  have hend : ∀ {X1 : Cx} {O1 : Nat → Addr → Prop} {w1 : World} {a1 : Act} {st : St}, SR 8 B X1 O1 w1 a1 st → st.df = [] →
    (∀ y, VREL X1 (st.t.get 2) true [y] → ∃ X2 O2, HR B X2 O2 w1 (hput h nid (.arr 1 te.size 0 l)) ∧ VREL X2 (.own nid 1 0 (llen l) false) true [y] ∧ Step B X O w h X2 O2 w1 (hput h nid (.arr 1 te.size 0 l))) →
    bodyPost P fn (fun e w' => match e with | .returned x => Leaves' B X O w h (.own nid 1 0 (llen l) false) (hput h nid (.arr 1 te.size 0 l)) x w' | _ => False) .ret a1 w1 := fun {X1 O1 w1 a1 st} s1 hdf hk => by
   have had : a1.defers = [] := DF.nil_of (by have := s1.df; rw [hdf] at this; exact this)
   obtain ⟨y, hy1, hy2⟩ := results_sound hE.toEnvTy s1.h s1.t (fn := fn) (v := st.t.get 2) (by unfold resultsV; rw [hres]; rfl)
   obtain ⟨X2, O2, q1, q2, q3⟩ := hk _ hy2
   exact ⟨had, y, hy1, X2, O2, q1, q2, q3⟩
  refine wpIn_seq (wpIn_region ?_)
  show wpOpsIn F n P (clone0 T) _ [0] a0 w
  refine (show Oper.wpIn F n P _ a0 w _ _ from ?_)
  refine ⟨fun f _ => hF.fn f, ?_⟩
  rw [noD_sem (by rfl)]
  have s1 := s0.put (dst := some 2) (fun d hd => by cases hd; decide) hfull
  show Code.wpIn F n P _ _ (a0.put (some 2) (.slice none 0 0)) w
  generalize ha1 : a0.put (some 2) (.slice none 0 0) = a1 at s1 ⊢
  have hev1 : a1.tmps.getD 0 undef = .slice ax nx cx := by
   rw [← ha1]
   show (a0.tmps.setIfInBounds 2 (.slice none 0 0)).getD 0 undef = _
   rw [Array.getD_eq_getD_getElem?, Array.getElem?_setIfInBounds, if_neg (by decide), ← Array.getD_eq_getD_getElem?]
   exact hev0
  refine wpIn_seq (wpIn_seq (wpIn_region ?_))
  show wpOpsIn F n P (clone1 T bt) _ [0, 1] a1 w
  refine (show Oper.wpIn F n P _ a1 w _ _ from ?_)
  refine ⟨fun f _ => hF.fn f, ?_⟩
  rw [noD_sem (by rfl)]
  have hmv : VREL X x true [a1.eval (.tmp 0)] := by
   show VREL X x true [a1.tmps.getD 0 undef]
   rw [hev1]; exact rx
  have s2 := s1.put (dst := some 3) (fun d hd => by cases hd; decide) hmv
  show wpOpsIn F n P (clone1 T bt) _ [1] (a1.put (some 3) (a1.eval (.tmp 0))) w
  generalize ha2 : a1.put (some 3) (a1.eval (.tmp 0)) = a2 at s2 ⊢
  have hev2 : a2.eval (.tmp 3) = .slice ax nx cx := by
   rw [← ha2]
   show (a1.tmps.setIfInBounds 3 (a1.tmps.getD 0 undef)).getD 3 undef = _
   have hs : 3 < a1.tmps.size := by have := s1.n; omega
   rw [hev1, Array.getD_eq_getD_getElem?, Array.getElem?_setIfInBounds_self_of_lt hs]; rfl
  refine (show Oper.wpIn F n P _ a2 w _ _ from ?_)
  refine ⟨fun f _ => hF.fn f, ?_⟩
  rw [noD_sem (by rfl)]
  have hrun : (execOp a2.eval ((clone1 T bt)[1]'(by show 1 < 2; decide))).run P w = .ok (.value (.bool ax.isNone)) w := by
   show (do pure (Next.value (← (do eqGuard .eql T (.tmp 3) (.const (.slice none 0 0)) (a2.eval (.tmp 3)) (.slice none 0 0); binOp .eql T (a2.eval (.tmp 3)) (.slice none 0 0)))) : Sem Next).run P w = _
   rw [hev2]
   have := eql_nil (w := w) hTu ax nx cx
   rw [Sem.run_bind, this]; rfl
  rw [hrun]
  have s3 := s2.put (dst := some 4) (fun d hd => by cases hd; decide) (v := .im (.bool ax.isNone)) (x := .bool ax.isNone) (by simp [VREL, REL])
  show Code.wpIn F n P _ _ (a2.put (some 4) (.bool ax.isNone)) w
  generalize ha3 : a2.put (some 4) (.bool ax.isNone) = a3 at s3 ⊢
  have hev3 : a3.eval (.tmp 4) = .bool ax.isNone := by
   rw [← ha3]
   show (a2.tmps.setIfInBounds 4 _).getD 4 undef = _
   have hs : 4 < a2.tmps.size := by have := s2.n; omega
   rw [Array.getD_eq_getD_getElem?, Array.getElem?_setIfInBounds_self_of_lt hs]; rfl
  refine wpIn_cond hev3 ?_
  cases ax with
  | none =>
   have hnx : nx = 0 := by
    rcases e5 with e5 | ⟨a0', _, _, q, _⟩
    ·exact e5
    ·cases q
   have hl0 : l = [] := List.eq_nil_of_length_eq_zero (by omega)
   subst hl0
   show Code.wpIn F n P _ _ a3 w
   refine wpIn_seq (wpIn_region ?_)
   show wpOpsIn F n P (clone2 T) _ [0] a3 w
   refine (show Oper.wpIn F n P _ a3 w _ _ from ?_)
   refine ⟨fun f _ => hF.fn f, ?_⟩
   rw [noD_sem (by rfl)]
   have s4 := s3.put (dst := some 2) (fun d hd => by cases hd; decide) hfull
   show Code.wpIn F n P _ _ (a3.put (some 2) (.slice none 0 0)) w
   refine wpIn_ret ?_
   refine hend s4 rfl fun y hy => ?_
   have hg2 : (putDst (putDst (putDst (putDst (tmOf 8 [x]) (some 2) (.full [])) (some 3) x) (some 4) (.im (.bool (none : Option Addr).isNone))) (some 2) (.full [])).get 2 = .full [] := rfl
   have hy : VREL X (.full []) true [y] := by rw [← hg2]; exact hy
   simp only [VREL] at hy
   obtain ⟨y', ey, ya, yn, y1, y2, _, _⟩ := hy
   cases ey; subst y1
   have yn0 : yn = 0 := y2
   subst yn0
   let bi : BI := ⟨1, ya, te.size, 0, false⟩
   have hbr : BR (X.withM nid bi) w (fun _ => False) nid (.arr 1 te.size 0 []) := ⟨bi, Cx.withM_same _ _ _, rfl, rfl, ⟨Nat.le_refl _, Nat.le_refl _⟩, Nat.zero_le _, .inl rfl⟩
   refine ⟨X.withM nid bi, _, hr.add hn hM hle (.refl w) (Nat.le_refl _) bi (fun _ => False) _ (fun _ h => h.elim) hbr, ?_, ⟨Up.add hM (.refl _ _) (.refl w) _ bi, by rw [hput_len]; split <;> omega, .add hM hle (.refl w) bi _ _⟩⟩
   simp only [VREL]
   exact ⟨_, rfl, ⟨ya, 0, rfl, Nat.le_refl _, by decide, .inl rfl⟩, bi, Cx.withM_same _ _ _, Nat.le_refl _, fun _ => ⟨ya, 0, rfl, Nat.le_refl _, by decide, Nat.le_refl _, (fun h => by cases h), .inl rfl⟩⟩
  | some a00 =>
   show Code.wpIn F n P _ _ a3 w
   refine wpIn_skip ?_
   refine wpIn_seq (wpIn_region ?_)
   show wpOpsIn F n P (clone3 T) _ [0, 1, 2, 3] a3 w
   simp only [wpOpsIn]
   have hbs : stepOp E false nid (putDst (putDst (putDst (tmOf 8 [x]) (some 2) (.full [])) (some 3) x) (some 4) (.im (.bool (some a00 : Option Addr).isNone))) h (.buildSlice T 0 #[]) = some (.own nid 0 0 0 false, hput h nid (.arr 0 te.size 0 [])) := by
    show sBuildSlice E false nid h T 0 [] = _
    unfold sBuildSlice
    rw [hT, Option.bind_some, hTk]
    simp only [hel, Option.bind_some]
    unfold zeroOk at hzd
    split at hzd
    ·rename_i z hz2
     rw [hz2]
     simp only [Option.bind_some, hzd, Bool.not_true, cond_false]
     simp [fillD, allArr, ownsP, close, reps]
     rfl
    ·cases hzd
   refine op_at hE hF s3 rfl rfl rfl hn hM hle hbs fun X4 O4 w4 a4 s4 p4 => ?_
   have s4 : SR 8 B X4 O4 w4 a4 ⟨putDst (putDst (putDst (putDst (tmOf 8 [x]) (some 2) (.full [])) (some 3) x) (some 4) (.im (.bool (some a00 : Option Addr).isNone))) (some 5) (.own nid 0 0 0 false), hput h nid (.arr 0 te.size 0 []), [], []⟩ := s4
   refine op_at (nid := (hput h nid (.arr 0 te.size 0 [])).length) hE hF s4 rfl rfl rfl (nid_none rfl) (nid_M s4.h) (Nat.le_refl _) (v := x) (h' := hput h nid (.arr 0 te.size 0 [])) rfl fun X5 O5 w5 a5 s5 p5 => ?_
   have s5 : SR 8 B X5 O5 w5 a5 ⟨putDst (putDst (putDst (putDst (putDst (tmOf 8 [x]) (some 2) (.full [])) (some 3) x) (some 4) (.im (.bool (some a00 : Option Addr).isNone))) (some 5) (.own nid 0 0 0 false)) (some 6) x, hput h nid (.arr 0 te.size 0 []), [], []⟩ := s5
   have hd5 := delems_put (k := .arr 0 te.size 0 []) hl hn hle
   have hap : builtinV E (hput h nid (.arr 0 te.size 0 [])).length .append #[T, T] [.own nid 0 0 0 false, x] (hput h nid (.arr 0 te.size 0 [])) = some (.own nid 1 0 (0 + llen l) false, hput (hput h nid (.arr 0 te.size 0 [])) nid (.arr 1 te.size 0 ([] ++ l))) := by
    have hg0 : hget (hput h nid (.arr 0 te.size 0 [])) nid = some (.arr 0 te.size 0 []) := by rw [hget_hput h nid nid _ hle, if_pos rfl]
    show bAppend E _ #[T, T] (.own nid 0 0 0 false) x _ = _
    unfold bAppend
    show ((E.ty T).bind _) = _
    rw [hT, Option.bind_some, hTk]
    simp only [hel, Option.bind_some]
    show (Option.bind (some T) _) = _
    rw [Option.bind_some, hz, cond_true]
    have hkT : E.kind T = some (.slc el) := by unfold Env.kind; rw [hT]; simp [hTk]
    unfold appendX
    rw [hkT]
    have hisn : isArv (hput h nid (.arr 0 te.size 0 [])) (.own nid 0 0 0 false) = false := by unfold isArv; simp only [hg0]
    simp only [isIntK, cond_false, hisn, hd5.2, Bool.or_self]
    have hnew : newElems E te T x (hput h nid (.arr 0 te.size 0 [])) = some l := by
     unfold newElems
     rw [hkT]
     have hk2 : (x.delems (hput h nid (.arr 0 te.size 0 []))).bind (fun l => bif firstWd te.size l then some l else none) = some l := by
      rw [hd5.1, Option.bind_some, hfw, cond_true]
     cases x <;> exact hk2
    rw [hnew, Option.bind_some]
    unfold appendTo
    simp only [hg0, cond_false]
    have hcut : cutOk 0 0 0 0 ([] : List D) = true := rfl
    rw [hcut]
    have hrm : room (0 + llen l) te.bytes = true := by rw [Nat.zero_add]; exact hroom
    simp only [Nat.beq_refl, hrm, Bool.and_self, Nat.ble_eq_true_of_le (Nat.le_refl 0), cond_true]
    rfl
   have hstep : stepOp E false (hput h nid (.arr 0 te.size 0 [])).length (putDst (putDst (putDst (putDst (putDst (tmOf 8 [x]) (some 2) (.full [])) (some 3) x) (some 4) (.im (.bool (some a00 : Option Addr).isNone))) (some 5) (.own nid 0 0 0 false)) (some 6) x) (hput h nid (.arr 0 te.size 0 []))
     (.call { callee := Callee.builtin Builtin.append, args := #[Operand.tmp 5, Operand.tmp 6], argTypes := #[T, T] }) = some (.own nid 1 0 (0 + llen l) false, hput (hput h nid (.arr 0 te.size 0 [])) nid (.arr 1 te.size 0 ([] ++ l))) := by
    have hevs : evs (putDst (putDst (putDst (putDst (putDst (tmOf 8 [x]) (some 2) (.full [])) (some 3) x) (some 4) (.im (.bool (some a00 : Option Addr).isNone))) (some 5) (.own nid 0 0 0 false)) (some 6) x) #[Operand.tmp 5, Operand.tmp 6] = [.own nid 0 0 0 false, x] := rfl
    show builtinV E _ .append #[T, T] (evs _ #[Operand.tmp 5, Operand.tmp 6]) _ = _
    rw [hevs]
    exact hap
   refine op_at (nid := (hput h nid (.arr 0 te.size 0 [])).length) hE hF s5 rfl rfl rfl (nid_none rfl) (nid_M s5.h) (Nat.le_refl _) hstep fun X6 O6 w6 a6 s6 p6 => ?_
   have s6 : SR 8 B X6 O6 w6 a6 ⟨putDst (putDst (putDst (putDst (putDst (putDst (tmOf 8 [x]) (some 2) (.full [])) (some 3) x) (some 4) (.im (.bool (some a00 : Option Addr).isNone))) (some 5) (.own nid 0 0 0 false)) (some 6) x) (some 7) (.own nid 1 0 (0 + llen l) false), hput (hput h nid (.arr 0 te.size 0 [])) nid (.arr 1 te.size 0 ([] ++ l)), [], []⟩ := s6
   refine op_at (nid := (hput (hput h nid (.arr 0 te.size 0 [])) nid (.arr 1 te.size 0 ([] ++ l))).length) hE hF s6 rfl rfl rfl (nid_none rfl) (nid_M s6.h) (Nat.le_refl _) (v := .own nid 1 0 (0 + llen l) false) (h' := hput (hput h nid (.arr 0 te.size 0 [])) nid (.arr 1 te.size 0 ([] ++ l))) rfl fun X7 O7 w7 a7 s7 p7 => ?_
   show Code.wpIn F n P _ _ a7 w7
   refine wpIn_ret ?_
   refine hend s7 rfl fun y hy => ?_
   have hy : VREL X7 (.own nid 1 0 (0 + llen l) false) true [y] := hy
   rw [Nat.zero_add] at hy
   have hh : hput (hput h nid (.arr 0 te.size 0 [])) nid (.arr 1 te.size 0 ([] ++ l)) = hput h nid (.arr 1 te.size 0 l) := by rw [hput_hput h _ _ hle]; rfl
   have s7h := s7.h
   have st := ((p4.trans p5).trans p6).trans p7
   simp only [hh] at s7h st
   exact ⟨X7, O7, s7h, hy, st⟩
 ·cases e
end
end Go.As
/-
 AS: an environment out of tables.
-/
namespace Go.As
variable [Gh]
def notPtr (P : Program) (u : Nat) : Bool := match P.underlying u with | some (.pointer _) => false | some _ => true | none => false
def methB1 (P : Program) (u : Nat) (nm : String) (g : Nat) : Bool :=
 match P.info? u with
 | some i => (match i.methods.find? (fun m => m.name == nm) with
  | some m => (match m.path.toList, m.func with | [], some (f, false) => bif Nat.beq f g then notPtr P u else false | _, _ => false)
  | none => false)
 | none => false
def methBL (P : Program) (u : Nat) (l : List (String × Nat)) : Bool := l.all fun p => methB1 P u p.1 p.2
theorem methL_mem {nm : String} {g : Nat} : ∀ {l : List (String × Nat)}, methL l nm = some g → (nm, g) ∈ l
 | [], e => by cases e
 | p :: l, e => by
  have e : (bif decide (p.1 = nm) then some p.2 else methL l nm) = some g := e
  cases h : decide (p.1 = nm) with
  | true =>
   rw [h, cond_true] at e
   have := of_decide_eq_true h
   cases e; subst this; simp
  | false =>
   rw [h, cond_false] at e
   exact List.mem_cons_of_mem _ (methL_mem e)
theorem notPtr_ok {P : Program} {u : Nat} (h : notPtr P u = true) : ∃ d, P.underlying u = some d ∧ ∀ e, d ≠ .pointer e := by
 unfold notPtr at h
 split at h
 ·cases h
 ·rename_i d hd0 hd
  exact ⟨d, hd, fun e q => hd0 e q⟩
 ·cases h
theorem method_run {P : Program} {u g : Nat} {nm : String} (h : methB1 P u nm g = true) (n : Nat) (v : Value) (w : World) : (method (n + 1) u v nm).run P w = .ok (g, v) w := by
 unfold methB1 at h
 split at h
 ·rename_i i hi
  split at h
  ·rename_i m hm
   split at h
   ·rename_i f hp hf
    obtain ⟨hb, h2⟩ : Nat.beq f g = true ∧ notPtr P u = true := by
     cases hb : Nat.beq f g with
     | true => rw [hb, cond_true] at h; exact ⟨rfl, h⟩
     | false => rw [hb, cond_false] at h; cases h
    have hfg := beq_of hb
    subst hfg
    obtain ⟨d, hd, hnp⟩ := notPtr_ok h2
    have ht : (typeInfo u).run P w = .ok i w := by simp [typeInfo, hi]
    have hu := run_underlying (w := w) hd
    unfold method
    simp only [Sem.run_bind, ht, Result.andThen_ok, hm, hp, follow, hf]
    have hr : ∀ o, (receiverAt u (.val v) false o).run P w = .ok v w := fun o => by
     unfold receiverAt
     rw [Sem.run_bind, hu, Result.andThen_ok]
     split
     ·simp_all
     ·simp_all
     ·simp_all
     ·simp_all
     ·rename_i q; cases q; simp [Place.get]
    simp [hr]
   ·cases h
  ·cases h
 ·cases h
def CloneOk (P : Program) (E : Env) (g el : Nat) : Prop :=
 ∃ fn T bt, P.funcs[g]? = some fn ∧ fn.body = some (cloneCode T bt) ∧ (fn.name == "runtime.NumGoroutine") = false ∧ fn.ntmps = 8 ∧ fn.results = #[.tmp 2] ∧
  (match E.ty T with | some ti => (match ti.k with | .slc e => bif Nat.beq e el then (E.ty el).isSome else false | _ => false) | none => false) = true
theorem CloneOk.sound {F : Fence} {P : Program} {E : Env} {g el : Nat} (hE : EnvB P E) (hF : Fen F) (h : CloneOk P E g el) : ∀ (n B : Nat) (X : Cx) (O : Nat → Addr → Prop) (w : World) (h : Heap), HR B X O w h → ∀ (xs : List V) (args : Array Value), All2 (fun v x => VREL X v true [x]) xs args.toList →
  ∀ nid, hget h nid = none → X.M nid = none → nid ≤ h.length → ∀ v h', cloneV E nid el xs h = some (v, h') → CallN F n P B X O w h (callFunc g args) v h' := by
 obtain ⟨fn, T, bt, h1, h2, h3, h4, h5, h6⟩ := h
 split at h6
 ·rename_i ti hti
  split at h6
  ·rename_i e he
   cases hb : Nat.beq e el with
   | false => rw [hb, cond_false] at h6; cases h6
   | true =>
    rw [hb, cond_true] at h6
    have := beq_of hb
    subst this
    obtain ⟨te, hte⟩ := Option.isSome_iff_exists.1 h6
    intro n B X O w h hr xs args ha nid q1 q2 q3 v h' e
    exact clone_sound hE hF h1 h2 h3 h4 h5 hti he hte n hr xs args ha nid q1 q2 q3 v h' e
  ·cases h6
 ·cases h6
noncomputable abbrev mkEnv (ty : Tb TI) (fn : Tb Func) (cl : Tb Nat) (mt : Tb (List (String × Nat))) (inl keep : Nat → Bool) (dr : Nat → Nat → Option (List (Nat × List Nat))) (bty : Nat × Nat) : Env :=
 ⟨ty.find, fn.find, fun _ => none, cl.find, fun _ => 0, methF mt, inl, keep, dr, bty⟩
theorem envOk_of {F : Fence} {P : Program} (hF : Fen F) {ty : Tb TI} {fn : Tb Func} {cl : Tb Nat} {mt : Tb (List (String × Nat))} {inl keep : Nat → Bool} {dr : Nat → Nat → Option (List (Nat × List Nat))} {bty : Nat × Nat}
  (h1 : ty.allB (tyB P) = true) (hd : Nat.blt 12 P.depth = true) (hb : (ty.find bty.1).isNone = true) (hm : P.follows .mixedOrders = true)
  (hg : ∀ f nt c, Gh.K f nt c ↔ (codeOk (mkEnv ty fn cl mt inl keep dr bty) f nt c = true ∧ noDefer c = true))
  (hf : TbAll (fun f fn' => P.funcs[f]? = some fn') fn) (hf2 : fn.allB (fnB (mkEnv ty fn cl mt inl keep dr bty)) = true)
  (hmt : mt.allB (methBL P) = true) (hcl : TbAll (CloneOk P (mkEnv ty fn cl mt inl keep dr bty)) cl) : EnvOk F P (mkEnv ty fn cl mt inl keep dr bty) :=
 have hB : EnvB P (mkEnv ty fn cl mt inl keep dr bty) := {
  ty := fun t ti e => tyB_ok ((TbAll.of h1).find e)
  depth := Nat.le_of_ble_eq_true hd
  bld := fun ti e => by
   have e : ty.find bty.1 = some ti := e
   rw [e] at hb; cases hb }
 {toEnvB := hB
  mixed := hm
  gh := hg
  fn := fun f fn' e => by
   have e : fn.find f = some fn' := e
   obtain ⟨q1, q2⟩ := fnB_ok ((TbAll.of hf2).find e)
   exact ⟨hf.find e, q1, q2⟩
  meth := fun u nm g e v w => by
   have e : ((mt.find u).bind fun l => methL l nm) = some g := e
   obtain ⟨l, hl, e⟩ := Option.bind_eq_some_iff.1 e
   have h := (TbAll.of hmt).find hl
   have h := (List.all_eq_true.1 h) _ (methL_mem e)
   obtain ⟨n, hn⟩ := Nat.exists_eq_succ_of_ne_zero (n := P.types.size + Made.depth) (by unfold Made.depth; omega)
   rw [hn]
   exact method_run h n v w
  sm := fun g S e => by cases e
  ext := fun g e => absurd rfl e
  clone := fun g el e => (hcl.find e).sound hB hF }
theorem body_of {P : Program} {E : Env} {T : Memo} {fn : Tb Func} (hf : TbAll (fun f fn' => P.funcs[f]? = some fn') fn) (hf2 : fn.allB (fnB E) = true) (h : T.allB (fun f _ => match fn.find f with | some fn => fn.body.isSome | none => false) = true) :
  ∀ f t, T.find f = some t → ∃ fn c, P.funcs[f]? = some fn ∧ fn.body = some c ∧ (fn.name == "runtime.NumGoroutine") = false := fun f t e => by
 have h := (TbAll.of h).find e
 split at h
 ·rename_i fn' hfn
  obtain ⟨c, hc⟩ := Option.isSome_iff_exists.1 h
  exact ⟨fn', c, hf.find hfn, hc, (fnB_ok ((TbAll.of hf2).find hfn)).1⟩
 ·cases h
end Go.As
/-
 AS: from a contract on data to a law's row.
-/
namespace Go.As
open Go.ChangeShapes Go.WideShapes
open Go.RowKit (Below)
variable [Gh]
variable {P : Program}
theorem wf_inR {k : IntKind} {n : Int} (h : (Lit.int k n).wf = true) : inR k n := by
 simp only [Lit.wf, Bool.and_eq_true, decide_eq_true_eq] at h
 exact h
theorem rel_int {C : IV} {k : IntKind} {n : Int} {m : Bool} (h : (Lit.int k n).wf = true) : REL C (.int k n) m [.int k n] := by
 simp only [REL]
 refine ⟨?_, wf_inR h⟩
 first
  | rfl
  | trivial
theorem rel_agg4 {C : IV} {k0 k1 k2 k3 : IntKind} {x0 x1 x2 x3 : Int} (w0 : (Lit.int k0 x0).wf = true) (w1 : (Lit.int k1 x1).wf = true) (w2 : (Lit.int k2 x2).wf = true) (w3 : (Lit.int k3 x3).wf = true) :
  REL C (.agg 4 [.int k0 x0, .int k1 x1, .int k2 x2, .int k3 x3]) true [.agg #[.int k0 x0, .int k1 x1, .int k2 x2, .int k3 x3]] := by
 simp only [REL, RELs]
 exact ⟨_, [[.int k0 x0], [.int k1 x1], [.int k2 x2], [.int k3 x3]], rfl, rfl, ⟨_, _, rfl, ⟨rfl, wf_inR w0⟩, _, _, rfl, ⟨rfl, wf_inR w1⟩, _, _, rfl, ⟨rfl, wf_inR w2⟩, _, _, rfl, ⟨rfl, wf_inR w3⟩, rfl⟩, rfl⟩
theorem calls_true {f : Nat} {ds : List D} (h : DataOk Fence.wide P f ds (.bool true)) {args : Array Value} (w : World) (ha : All2 (fun d x => REL (fun _ => none) d true [x]) ds args.toList) :
  Calls P f args w fun e w' => e = .returned (.bool true) ∧ Below w.heap.size w w' := by
 refine callsIn_wide.1 (CallsIn.mono (h 1 (fun _ => none) w args (fun _ _ e => by cases e) ha) fun e w' q => ?_)
 cases e with
 | returned x =>
  obtain ⟨C', _, _, hb, _, hr⟩ := q
  simp only [REL] at hr
  cases hr
  exact ⟨rfl, hb⟩
 | _ => exact False.elim q
theorem post_of_new {H : Type} {enc : TypeId × Value → H} {f : Func} {s : ChangeSpec} {apart fresh handsOn again : Bool} {W W' : World} {args : Array Value} {v : Value} {ds gs : List (DataW H)}
  (hW : DataW.Whole enc P f.params.toList s.vars apart W args.toList ds gs [])
  (hres : ∀ (b : Nat) (sp : Nat → Bool) (hd : Bool), DataW.TrodAll enc P W' b sp hd f.resultTypes.toList (v.resultList f.resultTypes.size) (s.fn H (ds ++ gs)).results [])
  (hargs : ∀ sp : Nat → Bool, DataW.TrodAll enc P W' 0 sp true f.params.toList args.toList (s.fn H (ds ++ gs)).args [])
  (hvars : ∀ sp : Nat → Bool, DataW.TrodVars enc P W' sp s.vars (s.fn H (ds ++ gs)).vars [])
  (hk : Below W.heap.size W W')
  (hok : ∀ (j : Nat) (t : TypeId) (r : Value), f.resultTypes[j]? = some t → (v.resultList f.resultTypes.size)[j]? = some r → Value.okWide P W' .any 0 t r) :
  s.post enc P f apart fresh handsOn again W args v W' := by
 refine ⟨ds, gs, [], [], [], [], hW, hres _ _ _, hargs _, hvars _, hk.frame _, fun _ => ?_⟩
 exact ⟨hok, _, _, ([] ++ []) ++ [], ⟨[] ++ [], [], trodAll_append (hargs _) (hres _ _ _), hvars _, rfl, fun b off hp => by simp at hp, fun _ => by simp⟩, fun p hp _ => by simp at hp⟩
theorem goesBy_none {c : OpenClaim} (hs : c.start = .entering) (h : P.funcs.toList.any Func.goes = false) : false = c.goesBy P := by
 have hall : ∀ fn ∈ P.funcs.toList, Func.goes fn = false := fun fn hfn => by
  cases hq : Func.goes fn with
  | false => rfl
  | true => rw [List.any_eq_true.2 ⟨fn, hfn, hq⟩] at h; cases h
 have h2 : P.funcs.any Func.goes = false := by rw [← Array.any_toList]; exact h
 have hg : ∀ g : Nat, (P.funcs[g]?).any Func.goes = false := fun g => by
  cases hq : P.funcs[g]? with
  | none => rfl
  | some fn => exact hall fn (by rw [← Array.getElem?_toList] at hq; exact List.mem_of_getElem? hq)
 have hf : ∀ f, P.goes f = false := fun f => by
  unfold Program.goes
  simp [hg, h2]
 unfold OpenClaim.goesBy Program.goesAt Program.goesFrom
 rw [hs]
 cases P.funcNamed c.func with
 | none => rfl
 | some f => simp [hf]
end Go.As
/-
 AS: types of data: a datum as a value of Lean's.
-/
namespace Go.As
noncomputable section
inductive Ty where
 | bool
 | int (k : IntKind)
 | str
 | slc (t : Ty)
 | st (w : Nat) (l : Ty)
 | tup (l : Ty)
 | nl
 | cn (t l : Ty)
@[reducible] def Ty.den (t : Ty) : Type :=
 Ty.rec (motive := fun _ => Type) Bool (fun _ => Int) (List Nat) (fun _ d => List d) (fun _ _ d => d) (fun _ d => d) Unit (fun _ _ a b => a × b) t
mutual
def Ty.enc : (t : Ty) → t.den → D
 | .bool, b => .bool b
 | .int k, n => .int k n
 | .str, s => .str s
 | .slc t, l => .slc (List.map (Ty.enc t) l)
 | .st w l, x => .agg w (Ty.encL l x)
 | .tup l, x => .tup (Ty.encL l x)
 | .nl, _ => .nil
 | .cn _ _, _ => .nil
def Ty.encL : (l : Ty) → l.den → List D
 | .cn t l, x => Ty.enc t x.1 :: Ty.encL l x.2
 | _, _ => []
end
def Ty.wd : Ty → Nat
 | .st w _ => w
 | _ => 1
def kEq : IntKind → IntKind → Bool
 | .i8, .i8 | .i16, .i16 | .i32, .i32 | .i64, .i64 | .u8, .u8 | .u16, .u16 | .u32, .u32 | .u64, .u64 => true
 | _, _ => false
def Ty.beq : Ty → Ty → Bool
 | .bool, .bool | .str, .str | .nl, .nl => true
 | .int k, .int k' => kEq k k'
 | .slc a, .slc b => Ty.beq a b
 | .st w a, .st v b => Nat.beq w v && Ty.beq a b
 | .tup a, .tup b => Ty.beq a b
 | .cn a l, .cn b r => Ty.beq a b && Ty.beq l r
 | _, _ => false
theorem kEq_eq : ∀ {a b : IntKind}, kEq a b = true → a = b := by
 intro a b h
 cases a <;> cases b <;> first | rfl | cases h
theorem Ty.beq_eq : ∀ {a b : Ty}, Ty.beq a b = true → a = b := by
 intro a
 induction a with
 | bool => intro b h; cases b <;> first | rfl | cases h
 | str => intro b h; cases b <;> first | rfl | cases h
 | nl => intro b h; cases b <;> first | rfl | cases h
 | int k => intro b h; cases b with
  | int k' => rw [kEq_eq (show kEq k k' = true from h)]
  | _ => cases h
 | slc a ih => intro b h; cases b with
  | slc b => rw [ih (show Ty.beq a b = true from h)]
  | _ => cases h
 | tup a ih => intro b h; cases b with
  | tup b => rw [ih (show Ty.beq a b = true from h)]
  | _ => cases h
 | st w a ih => intro b h; cases b with
  | st v b =>
   have h : (Nat.beq w v && Ty.beq a b) = true := h
   rw [Bool.and_eq_true] at h
   rw [Nat.eq_of_beq_eq_true h.1, ih h.2]
  | _ => cases h
 | cn a l iha ihl => intro b h; cases b with
  | cn b r =>
   have h : (Ty.beq a b && Ty.beq l r) = true := h
   rw [Bool.and_eq_true] at h
   rw [iha h.1, ihl h.2]
  | _ => cases h
def Ty.cs (a b : Ty) (x : a.den) : Option b.den := if h : Ty.beq a b = true then some (Ty.beq_eq h ▸ x) else none
mutual
def Ty.flat : Ty → Bool
 | .slc _ => false
 | .st _ l => Ty.flats l
 | .tup l => Ty.flats l
 | _ => true
def Ty.flats : Ty → Bool
 | .cn t l => Ty.flat t && Ty.flats l
 | _ => true
end
def tyOf (E : Env) (n : Nat) : Nat → Option Ty :=
 Nat.rec (fun _ => none) (fun _ ih t => (E.ty t).bind fun ti => match ti.k with
  | .bool => some .bool
  | .int k => some (.int k)
  | .str => some .str
  | .slc e => (ih e).map .slc
  | .st fs => (List.rec (some .nl) (fun f _ r => (ih f.2.2).bind fun a => r.map fun l => .cn a l) fs : Option Ty).map (.st ti.size)
  | .arr m e => (ih e).map fun a => .st ti.size (Nat.rec .nl (fun _ l => .cn a l) m)
  | _ => none) n
end
end Go.As
/-
 AS: what a law is handed: data in memory, as the row's reader reads them.
-/
namespace Go.As
open Go.ChangeShapes Go.WideShapes Go.Joins
open Go.RowKit (Below)
variable [Gh]
def Ty.Ok : (t : Ty) → t.den → Prop
 | .bool, _ => True
 | .int k, n => inR k n
 | .str, s => s.length ≤ LMX ∧ ∀ c ∈ s, c < 256
 | .slc t, l => l.length ≤ maxLen ∧ ∀ x ∈ l, Ty.Ok t x
 | .st _ l, x => Ty.Ok l x
 | .tup l, x => Ty.Ok l x
 | .nl, _ => True
 | .cn t l, x => Ty.Ok t x.1 ∧ Ty.Ok l x.2
noncomputable def argFs (ok : Nat → Ty → Bool) (w : Nat) : List (Nat × Nat × Nat) → Ty → Nat → Bool
 | [], .nl, off => Nat.beq off w
 | f :: fs, .cn a l, off => Nat.beq f.1 off && (Nat.beq a.wd f.2.1 && (ok f.2.2 a && argFs ok w fs l (off + a.wd)))
 | _, _, _ => false
noncomputable def argEs (ok : Ty → Bool) (s w : Nat) : Nat → Ty → Nat → Bool
 | 0, .nl, off => Nat.beq off w
 | m + 1, .cn a l, off => Nat.beq a.wd s && (ok a && argEs ok s w m l (off + s))
 | _, _, _ => false
noncomputable def argOk (E : Env) : Nat → Nat → Ty → Bool
 | 0, _, _ => false
 | n + 1, t, u => match E.ty t with
  | none => false
  | some ti => Nat.beq u.wd ti.size && (match ti.k, u with
   | .bool, .bool => true
   | .int k, .int k' => kEq k k'
   | .str, .str => true
   | .slc e, .slc a => Nat.blt 0 a.wd && argOk E n e a
   | .st fs, .st w l => argFs (fun t u => argOk E n t u) w fs l 0
   | .arr m e, .st w l => Nat.blt 0 m && (match E.ty e with | some te => argEs (fun u => argOk E n e u) te.size w m l 0 | none => false)
   | _, _ => false)
section
variable {P : Program} {E : Env} {W : World} {H : Type} {enc : TypeId × Value → H} {sp : Nat → Bool} {held : Bool}
theorem argOk_wd (hE : EnvTy P E) {n t : Nat} {u : Ty} (h : argOk E n t u = true) : P.cellsOf t = u.wd := by
 cases n with
 | zero => cases h
 | succ n =>
  unfold argOk at h
  split at h
  ·cases h
  ·rename_i ti hti
   rw [Bool.and_eq_true] at h
   rw [(hE.ty t ti hti).sizeOf, Nat.eq_of_beq_eq_true h.1]
theorem RELs_app {C : IV} : ∀ {l : List D} {wss : List (List Value)} {d : D} {ws : List Value}, RELs C l false wss → REL C d false ws → RELs C (l ++ [d]) false (wss ++ [ws])
 | [], wss, d, ws, h, k => by
  simp only [RELs] at h; subst h
  simp only [List.nil_append, RELs]
  exact ⟨ws, [], rfl, k, rfl⟩
 | _ :: l, wss, d, ws, h, k => by
  simp only [RELs] at h
  obtain ⟨w, r, rfl, h1, h2⟩ := h
  simp only [List.cons_append, RELs]
  exact ⟨w, _, rfl, h1, RELs_app h2 k⟩
theorem slc_cells {a : Ty} {a0 : Addr} {s : Nat} : ∀ (n : Nat), (∀ i, i < n → ∃ (y : a.den) (ws : List Value), REL (fun p => W.cell? p) (a.enc y) false ws ∧ a.Ok y ∧ ws.length = s ∧ ∀ j, j < s → W.cell? ((a0.add (i * s)).add j) = ws[j]?) →
  ∃ (L : List a.den) (wss : List (List Value)), L.length = n ∧ RELs (fun p => W.cell? p) (L.map a.enc) false wss ∧ (∀ ws ∈ wss, ws.length = s) ∧ wss.flatten.length = n * s ∧ (∀ x ∈ L, a.Ok x) ∧ cellsAt (fun p => W.cell? p) a0 wss.flatten
 | 0, _ => ⟨[], [], rfl, by simp [RELs], by simp, by simp, by simp, fun j v e => by simp at e⟩
 | n + 1, h => by
  obtain ⟨L, wss, h1, h2, h3, h4, h5, h6⟩ := slc_cells n fun i hi => h i (by omega)
  obtain ⟨y, ws, q1, q2, q3, q4⟩ := h n (by omega)
  refine ⟨L ++ [y], wss ++ [ws], by simp [h1], ?_, ?_, ?_, ?_, ?_⟩
  ·rw [List.map_append]
   exact RELs_app h2 q1
  ·intro x hx
   rcases List.mem_append.1 hx with hx | hx
   ·exact h3 x hx
   ·rw [List.mem_singleton.1 hx]; exact q3
  ·rw [List.flatten_append, List.length_append, h4]
   simp [q3, Nat.succ_mul]
  ·intro x hx
   rcases List.mem_append.1 hx with hx | hx
   ·exact h5 x hx
   ·rw [List.mem_singleton.1 hx]; exact q2
  ·intro j v e
   rw [List.flatten_append] at e
   by_cases hj : j < wss.flatten.length
   ·rw [List.getElem?_append_left hj] at e
    exact h6 j v e
   ·rw [List.getElem?_append_right (by omega)] at e
    simp only [List.flatten_cons, List.flatten_nil, List.append_nil] at e
    have hjs : j - wss.flatten.length < s := by
     have := (List.getElem?_eq_some_iff.1 e).1
     omega
    have := q4 _ hjs
    rw [e] at this
    rw [← this, Go.Deep.add_add]
    congr 2
    omega
theorem trod_rel (hE : EnvTy P E) : ∀ (n t : Nat) (u : Ty), argOk E n t u = true → ∀ (fuel : Nat) (cs : List Value) (x : DataW H × List MemPlace), DataW.trod enc P W 0 sp held fuel t cs = some x →
  ∃ y : u.den, REL (fun p => W.cell? p) (u.enc y) false cs ∧ u.Ok y ∧ cs.length = u.wd := by
 intro n
 induction n with
 | zero => intro t u h; cases h
 | succ n ih =>
  intro t u h fuel cs x hx
  unfold argOk at h
  split at h
  ·cases h
  rename_i ti hti
  rw [Bool.and_eq_true] at h
  obtain ⟨hw0, h⟩ := h
  have hw := Nat.eq_of_beq_eq_true hw0
  clear hw0
  have hT := hE.ty t ti hti
  have hk := hT.kind
  split at h
  ·rename_i hk0
   rw [hk0] at hk
   obtain ⟨b, rfl, rfl⟩ := DataW.trod_bool hk hx
   exact ⟨b, by simp only [Ty.enc, REL], trivial, rfl⟩
  ·rename_i k k' hk0
   rw [hk0] at hk
   have := kEq_eq h
   subst this
   obtain ⟨m, rfl, rfl, hm⟩ := DataW.trod_int hk hx
   exact ⟨m, by simp only [Ty.enc, REL]; first | exact ⟨rfl, wf_inR hm⟩ | exact ⟨trivial, wf_inR hm⟩, wf_inR hm, rfl⟩
  ·rename_i hk0
   rw [hk0] at hk
   obtain ⟨s, rfl, rfl, hs⟩ := DataW.trod_string hk hx
   refine ⟨bytesL s, ?_, ⟨?_, ?_⟩, rfl⟩
   ·simp only [Ty.enc, REL]
    exact ⟨s, rfl, rfl, by unfold maxLen at hs; unfold LMX; omega⟩
   ·unfold maxLen at hs; unfold LMX bytesL; simp; omega
   ·intro c hc
    unfold bytesL at hc
    obtain ⟨b, _, rfl⟩ := List.mem_map.1 hc
    exact b.toNat_lt
  ·rename_i e a hk0
   rw [hk0] at hk
   rw [Bool.and_eq_true] at h
   obtain ⟨h0, ha⟩ := h
   have h0 : 0 < a.wd := Nat.le_of_ble_eq_true h0
   have hsz := argOk_wd hE ha
   rcases Go.Deep.open_slice hk hx with ⟨rfl, rfl⟩ | ⟨a0, len, cap, m, k, Dt, Pl, rfl, _, hl, hc, hm, rfl, hel⟩
   ·refine ⟨[], ?_, ⟨by simp, by simp⟩, rfl⟩
    simp only [Ty.enc, REL, List.map_nil]
    exact ⟨none, 0, 0, rfl, rfl, Nat.le_refl _, Nat.zero_le _, .inl rfl⟩
   ·have hlm : len ≤ m := by rw [hm]; split <;> omega
    obtain ⟨L, wss, h1, h2, h3, h4, h5, h6⟩ := slc_cells (W := W) (a := a) (a0 := a0) (s := a.wd) len fun i hi => by
     obtain ⟨cs', c1, c2⟩ := hel i (by omega)
     obtain ⟨y, r1, r2, r3⟩ := ih e a ha _ _ _ c2
     obtain ⟨_, c3, c4⟩ := World.cells?_some c1
     rw [hsz] at c3 c4
     exact ⟨y, cs', r1, r2, r3, fun j hj => c4 j hj⟩
    refine ⟨L, ?_, ⟨by rw [h1]; omega, h5⟩, rfl⟩
    simp only [Ty.enc, REL]
    refine ⟨some a0, len, cap, rfl, by simp [h1], hl, by unfold maxLen at hc; unfold LMX; omega, ?_⟩
    by_cases hz : len = 0
    ·exact .inl hz
    ·refine .inr ⟨a0, wss, a.wd, rfl, ?_, h2, h3, h6⟩
     have hpos : 0 < wss.flatten.length := by rw [h4]; exact Nat.mul_pos (by omega) h0
     have := h6 0 _ (List.getElem?_eq_getElem hpos)
     rw [Addr.add_zero] at this
     replace this : W.cell? a0 = _ := this
     unfold World.cell? at this
     split at this
     ·cases hs : a0.spot with
      | none => rfl
      | some _ => rw [hs] at this; simp at this
     ·cases this
  ·rename_i fs w l hk0
   rw [hk0] at hk
   obtain ⟨fields, hu, hf, _⟩ := hk
   obtain ⟨xs, k, _, rfl, hlen, hxl, hxs⟩ := DataW.trod_struct hu hx
   have hcs : cs.length = w := by rw [hlen, hT.sizeOf, ← hw]; rfl
   have aux : ∀ (fl : List Field) (l : Ty) (off : Nat), argFs (fun t u => argOk E n t u) w (fl.map fun f => (f.offset, P.cellsOf f.type, f.type)) l off = true →
     (∀ f ∈ fl, ∃ y, DataW.trod enc P W 0 sp held k f.type ((cs.drop f.offset).take (P.cellsOf f.type)) = some y) → ∃ (y : l.den) (wss : List (List Value)), RELs (fun p => W.cell? p) (l.encL y) false wss ∧ wss.flatten = cs.drop off ∧ l.Ok y := by
    intro fl
    induction fl with
    | nil =>
     intro l off h1 _
     cases l with
     | nl =>
      have : off = w := Nat.eq_of_beq_eq_true h1
      exact ⟨(), [], by simp [Ty.encL, RELs], by rw [this, ← hcs]; simp, trivial⟩
     | _ => cases h1
    | cons f fl ihf =>
     intro l off h1 h2
     cases l with
     | cn a l =>
      simp only [List.map_cons, argFs, Bool.and_eq_true] at h1
      obtain ⟨e1, e2, e3, e4⟩ := h1
      have e1 : f.offset = off := Nat.eq_of_beq_eq_true e1
      have e2 : a.wd = P.cellsOf f.type := Nat.eq_of_beq_eq_true e2
      obtain ⟨z, hz⟩ := h2 f (List.mem_cons_self ..)
      obtain ⟨y, r1, r2, r3⟩ := ih f.type a e3 _ _ _ hz
      obtain ⟨ys, wss, r4, r5, r6⟩ := ihf l (off + a.wd) e4 fun g hg => h2 g (List.mem_cons_of_mem _ hg)
      refine ⟨(y, ys), ((cs.drop f.offset).take (P.cellsOf f.type)) :: wss, ?_, ?_, r2, r6⟩
      ·simp only [Ty.encL, RELs]
       exact ⟨_, _, rfl, r1, r4⟩
      ·rw [List.flatten_cons, r5, e1, ← e2, ← List.drop_drop, List.take_append_drop]
     | _ => cases h1
   rw [← hf] at h
   obtain ⟨y, wss, r1, r2, r3⟩ := aux fields.toList l 0 h fun f hf' => by
    obtain ⟨i, hi⟩ := List.getElem?_of_mem hf'
    have hi' : fields[i]? = some f := by rw [← Array.getElem?_toList]; exact hi
    have hil : i < xs.length := by
     rw [hxl]
     have := (List.getElem?_eq_some_iff.1 hi).1
     simpa using this
    exact ⟨xs[i], by rw [hxs i f hi', List.getElem?_eq_getElem hil]⟩
   refine ⟨y, ?_, r3, hcs⟩
   simp only [Ty.enc, REL]
   exact ⟨wss, by rw [r2]; rfl, r1, hcs⟩
  ·rename_i m e w l hk0
   rw [hk0] at hk
   obtain ⟨xs, k, _, rfl, hlen, hxl, hxs⟩ := DataW.trod_array hk hx
   have hcs : cs.length = w := by rw [hlen, hT.sizeOf, ← hw]; rfl
   have aux : ∀ (m' : Nat) (l : Ty) (i : Nat), argEs (fun u => argOk E n e u) (P.cellsOf e) w m' l (i * P.cellsOf e) = true → i + m' = m →
     ∃ (y : l.den) (wss : List (List Value)), RELs (fun p => W.cell? p) (l.encL y) false wss ∧ wss.flatten = cs.drop (i * P.cellsOf e) ∧ l.Ok y := by
    intro m'
    induction m' with
    | zero =>
     intro l i h1 _
     cases l with
     | nl =>
      have : i * P.cellsOf e = w := Nat.eq_of_beq_eq_true h1
      exact ⟨(), [], by simp [Ty.encL, RELs], by rw [this, ← hcs]; simp, trivial⟩
     | _ => cases h1
    | succ m' ihm =>
     intro l i h1 h2
     cases l with
     | cn a l =>
      simp only [argEs, Bool.and_eq_true] at h1
      obtain ⟨e2, e3, e4⟩ := h1
      have e2 : a.wd = P.cellsOf e := Nat.eq_of_beq_eq_true e2
      have hil : i < xs.length := by omega
      have hz := hxs i (by omega)
      rw [List.getElem?_eq_getElem hil] at hz
      obtain ⟨y, r1, r2, r3⟩ := ih e a e3 _ _ _ hz
      obtain ⟨ys, wss, r4, r5, r6⟩ := ihm l (i + 1) (by rw [Nat.succ_mul]; exact e4) (by omega)
      refine ⟨(y, ys), ((cs.drop (i * P.cellsOf e)).take (P.cellsOf e)) :: wss, ?_, ?_, r2, r6⟩
      ·simp only [Ty.encL, RELs]
       exact ⟨_, _, rfl, r1, r4⟩
      ·rw [List.flatten_cons, r5, Nat.succ_mul, ← List.drop_drop, List.take_append_drop]
     | _ => cases h1
   rw [Bool.and_eq_true] at h
   obtain ⟨_, h⟩ := h
   split at h
   case h_2 => cases h
   case h_1 te hte =>
    rw [← (hE.ty e te hte).sizeOf] at h
    obtain ⟨y, wss, r1, r2, r3⟩ := aux m l 0 (by rw [Nat.zero_mul]; exact h) (by omega)
    refine ⟨y, ?_, r3, hcs⟩
    simp only [Ty.enc, REL]
    rw [Nat.zero_mul] at r2
    exact ⟨wss, by rw [r2]; rfl, r1, hcs⟩
  ·cases h
theorem arg_rel (hE : EnvTy P E) {n t : Nat} {u : Ty} (h : argOk E n t u = true) {v : Value} {d : DataW H} {p : List MemPlace} {r : Reach} {b0 : Nat} (hv : Value.okWide P W r b0 t v) (hx : DataW.Trod enc P W 0 sp held t v d p) :
  ∃ y : u.den, REL (fun p => W.cell? p) (u.enc y) true [v] ∧ u.Ok y := by
 obtain ⟨fuel, hf⟩ := hx
 obtain ⟨y, r1, r2, r3⟩ := trod_rel hE n t u h fuel _ _ hf
 refine ⟨y, ?_, r2⟩
 cases n with
 | zero => cases h
 | succ n =>
  unfold argOk at h
  split at h
  ·cases h
  rename_i ti hti
  rw [Bool.and_eq_true] at h
  have hk := (hE.ty t ti hti).kind
  replace h := h.2
  split at h
  ·rename_i hk0
   rw [hk0] at hk
   obtain ⟨_, rfl⟩ := okWide_bool hk hv
   simpa only [Ty.enc, REL, Value.cells] using r1
  ·rename_i k k' hk0
   rw [hk0] at hk
   obtain ⟨_, rfl⟩ := okWide_int hk hv
   simpa only [Ty.enc, REL, Value.cells] using r1
  ·rename_i hk0
   rw [hk0] at hk
   obtain ⟨_, rfl⟩ := okWide_string hk hv
   simpa only [Ty.enc, REL, Value.cells] using r1
  ·rename_i e0 a hk0
   rw [hk0] at hk
   obtain ⟨_, _, _, rfl⟩ := okWide_slice hk hv
   simpa only [Ty.enc, REL, Value.cells] using r1
  ·rename_i fs w l hk0
   rw [hk0] at hk
   obtain ⟨fields, hu, _⟩ := hk
   obtain ⟨cs, rfl, _⟩ := okWide_struct hu hv
   simp only [Ty.enc, REL] at r1 ⊢
   obtain ⟨wss, e1, e2, e3⟩ := r1
   exact ⟨cs, wss, rfl, by simpa [Value.cells] using e1, e2, by simpa [Value.cells] using e3⟩
  ·rename_i m e w l hk0
   rw [hk0] at hk
   obtain ⟨cs, rfl, _⟩ : ∃ cs, v = .agg cs ∧ cs.size = P.cellsOf t := by
    unfold Value.okWide at hv
    rw [show P.underlying t = some (.array m e) from hk] at hv
    obtain ⟨cs, e1, e2, _⟩ := hv
    exact ⟨cs, e1, e2⟩
   simp only [Ty.enc, REL] at r1 ⊢
   obtain ⟨wss, e1, e2, e3⟩ := r1
   exact ⟨cs, wss, rfl, by simpa [Value.cells] using e1, e2, by simpa [Value.cells] using e3⟩
  ·cases h
def TyIn (E : Env) (t : Nat) : Prop := ∃ n u, argOk E n t u = true
theorem argFs_kids {ok : Nat → Ty → Bool} {w : Nat} {P : Program} : ∀ (fl : List Field) (l : Ty) (off : Nat), argFs ok w (fl.map fun f => (f.offset, P.cellsOf f.type, f.type)) l off = true →
  (∀ f ∈ fl, ∃ a, ok f.type a = true) ∧ w = off + (fl.map fun f => P.cellsOf f.type).sum ∧ ∀ (j : Nat) f, fl[j]? = some f → f.offset = off + ((fl.take j).map fun f => P.cellsOf f.type).sum
 | [], l, off, h => by
  cases l with
  | nl => exact ⟨by simp, by have : off = w := Nat.eq_of_beq_eq_true h; simp [this], by simp⟩
  | _ => cases h
 | f :: fl, l, off, h => by
  cases l with
  | cn a l =>
   simp only [List.map_cons, argFs, Bool.and_eq_true] at h
   obtain ⟨e1, e2, e3, e4⟩ := h
   have e1 : f.offset = off := Nat.eq_of_beq_eq_true e1
   have e2 : a.wd = P.cellsOf f.type := Nat.eq_of_beq_eq_true e2
   obtain ⟨h1, h2, h3⟩ := argFs_kids fl l _ e4
   refine ⟨fun g hg => ?_, by rw [h2, e2, List.map_cons, List.sum_cons]; omega, fun j g hg => ?_⟩
   ·rcases List.mem_cons.1 hg with rfl | hg
    ·exact ⟨a, e3⟩
    ·exact h1 g hg
   ·cases j with
    | zero => simp at hg; subst hg; simp [e1]
    | succ j =>
     rw [h3 j g (by simpa using hg), e2, List.take_succ_cons, List.map_cons, List.sum_cons]; omega
  | _ => cases h
theorem argEs_kids {ok : Ty → Bool} {s w : Nat} : ∀ (m : Nat) (l : Ty) (off : Nat), argEs ok s w m l off = true → w = off + m * s ∧ (0 < m → ∃ a, ok a = true)
 | 0, l, off, h => by
  cases l with
  | nl => exact ⟨by have : off = w := Nat.eq_of_beq_eq_true h; simp [this], fun h => absurd h (Nat.lt_irrefl 0)⟩
  | _ => cases h
 | m + 1, l, off, h => by
  cases l with
  | cn a l =>
   simp only [argEs, Bool.and_eq_true] at h
   obtain ⟨h1, _⟩ := argEs_kids m l _ h.2.2
   exact ⟨by rw [h1, Nat.succ_mul]; omega, fun _ => ⟨a, h.2.1⟩⟩
  | _ => cases h
theorem TyIn.cases (hE : EnvTy P E) {t : Nat} (h : TyIn E t) : P.underlying t = some .bool ∨ (∃ k, P.underlying t = some (.int k)) ∨ P.underlying t = some .string ∨
  (∃ e, P.underlying t = some (.slice e) ∧ TyIn E e ∧ 0 < P.cellsOf e) ∨
  (∃ fs : Array Field, P.underlying t = some (.struct fs) ∧ (∀ f ∈ fs.toList, TyIn E f.type) ∧ P.cellsOf t = (fs.toList.map fun f => P.cellsOf f.type).sum ∧ ∀ (j : Nat) f, fs.toList[j]? = some f → f.offset = ((fs.toList.take j).map fun f => P.cellsOf f.type).sum) ∨
  (∃ m e, P.underlying t = some (.array m e) ∧ TyIn E e ∧ P.cellsOf t = m * P.cellsOf e) := by
 obtain ⟨n, u, h⟩ := h
 have hsz := argOk_wd hE h
 cases n with
 | zero => cases h
 | succ n =>
  unfold argOk at h
  split at h
  ·cases h
  rename_i ti hti
  rw [Bool.and_eq_true] at h
  have hk := (hE.ty t ti hti).kind
  replace h := h.2
  split at h
  ·rename_i hk0
   rw [hk0] at hk; exact .inl hk
  ·rename_i k k' hk0
   rw [hk0] at hk; exact .inr (.inl ⟨_, hk⟩)
  ·rename_i hk0
   rw [hk0] at hk; exact .inr (.inr (.inl hk))
  ·rename_i e a hk0
   rw [hk0] at hk
   rw [Bool.and_eq_true] at h
   exact .inr (.inr (.inr (.inl ⟨e, hk, ⟨n, a, h.2⟩, by rw [argOk_wd hE h.2]; exact Nat.le_of_ble_eq_true h.1⟩)))
  ·rename_i fs w l hk0
   rw [hk0] at hk
   obtain ⟨fields, hu, hf, _⟩ := hk
   rw [← hf] at h
   obtain ⟨h1, h2, h3⟩ := argFs_kids fields.toList l 0 h
   refine .inr (.inr (.inr (.inr (.inl ⟨fields, hu, fun f hf => ?_, ?_, fun j f hj => ?_⟩))))
   ·obtain ⟨a, ha⟩ := h1 f hf
    exact ⟨n, a, ha⟩
   ·rw [hsz]; show w = _; rw [h2]; simp
   ·rw [h3 j f hj]; simp
  ·rename_i m e w l hk0
   rw [hk0] at hk
   rw [Bool.and_eq_true] at h
   obtain ⟨hm, h⟩ := h
   split at h
   ·rename_i te hte
    obtain ⟨h1, h2⟩ := argEs_kids m l 0 h
    obtain ⟨a, ha⟩ := h2 (Nat.le_of_ble_eq_true hm)
    refine .inr (.inr (.inr (.inr (.inr ⟨m, e, hk, ⟨n, a, ha⟩, ?_⟩))))
    rw [hsz, (hE.ty e te hte).sizeOf]; show w = _; rw [h1]; simp
   ·cases h
  ·cases h
theorem kids_in (hE : EnvTy P E) : Kids P (TyIn E) where
 pointer := fun {t e} h hu => by
  rcases h.cases hE with q | ⟨_, q⟩ | q | ⟨_, q, _⟩ | ⟨_, q, _⟩ | ⟨_, _, q, _⟩ <;> rw [hu] at q <;> cases q
 slice := fun {t e} h hu => by
  rcases h.cases hE with q | ⟨_, q⟩ | q | ⟨_, q, h1, _⟩ | ⟨_, q, _⟩ | ⟨_, _, q, _⟩ <;> rw [hu] at q <;> cases q
  exact h1
 array := fun {t e n} h hu => by
  rcases h.cases hE with q | ⟨_, q⟩ | q | ⟨_, q, _⟩ | ⟨_, q, _⟩ | ⟨_, _, q, h1, h2⟩ <;> rw [hu] at q <;> cases q
  exact ⟨h1, h2⟩
 struct := fun {t fs} h hu => by
  rcases h.cases hE with q | ⟨_, q⟩ | q | ⟨_, q, _⟩ | ⟨_, q, h1⟩ | ⟨_, _, q, _⟩ <;> rw [hu] at q <;> cases q
  exact h1
 map := fun {t k e} h hu => by
  rcases h.cases hE with q | ⟨_, q⟩ | q | ⟨_, q, _⟩ | ⟨_, q, _⟩ | ⟨_, _, q, _⟩ <;> rw [hu] at q <;> cases q
theorem slc_pos (hE : EnvTy P E) {t e : Nat} (h : TyIn E t) (hu : P.underlying t = some (.slice e)) : 0 < P.cellsOf e := by
 rcases h.cases hE with q | ⟨_, q⟩ | q | ⟨_, q, _, h1⟩ | ⟨_, q, _⟩ | ⟨_, _, q, _⟩ <;> rw [hu] at q <;> cases q
 exact h1
theorem trodAll_stays (hE : EnvTy P E) {W' : World} (hb : Below W.heap.size W W') {sp' : Nat → Bool} : ∀ {ts : List TypeId} {vs : List Value} {ds : List (DataW H)} {ps : List MemPlace}, (∀ t ∈ ts, TyIn E t) →
  DataW.TrodAll enc P W 0 (fun _ => true) true ts vs ds ps → (∀ b, b < W.heap.size → sp' b = true) → DataW.TrodAll enc P W' 0 sp' true ts vs ds ps
 | [], [], [], _, _, h, _ => h
 | t :: ts, v :: vs, d :: ds, _, ht, ⟨p, q, ⟨n, h1⟩, h2, e⟩, hs => by
  refine ⟨p, q, ⟨n, ?_⟩, trodAll_stays hE hb (fun t h => ht t (List.mem_cons_of_mem _ h)) h2 hs, e⟩
  have hlt := DataW.trod_lt _ _ _ _ h1
  exact DataW.trod_stays (kids_in hE) (fun a b => slc_pos hE a b) (fun h => by cases h) (ht t (List.mem_cons_self ..)) h1 (fun x hx => hb.same (hlt x hx)) (fun x hx => hs _ (hlt x hx))
theorem post_of_data (hE : EnvTy P E) {f : Func} {s : ChangeSpec} {apart fresh handsOn again : Bool} {W' : World} {args : Array Value} {v : Value} {ds gs : List (DataW H)} {before : List MemPlace}
  (hW : DataW.Whole enc P f.params.toList s.vars false W args.toList ds gs before) (hap : apart = false) (hv : s.vars = []) (hT : ∀ t ∈ f.params.toList, TyIn E t)
  (hres : ∀ (b : Nat) (sp : Nat → Bool) (hd : Bool), DataW.TrodAll enc P W' b sp hd f.resultTypes.toList (v.resultList f.resultTypes.size) (s.fn H (ds ++ gs)).results [])
  (hargs : (s.fn H (ds ++ gs)).args = ds) (hvars : (s.fn H (ds ++ gs)).vars = [])
  (hk : Below W.heap.size W W')
  (hok : ∀ (j : Nat) (t : TypeId) (r : Value), f.resultTypes[j]? = some t → (v.resultList f.resultTypes.size)[j]? = some r → Value.okWide P W' .any 0 t r) :
  s.post enc P f apart fresh handsOn again W args v W' := by
 subst hap
 have hW0 := hW
 obtain ⟨p, q, h1, h2, e, hz, _⟩ := hW
 rw [hv] at h2
 obtain ⟨rfl, rfl⟩ : gs = [] ∧ q = [] := by
  cases gs with
  | nil => exact ⟨rfl, h2⟩
  | cons g r => cases h2
 rw [List.append_nil] at e
 obtain rfl : p = before := e.symm
 have ha : ∀ sp : Nat → Bool, (∀ b, b < W.heap.size → sp b = true) → DataW.TrodAll enc P W' 0 sp true f.params.toList args.toList (s.fn H (ds ++ [])).args p := fun sp hs => by
  rw [hargs]; exact trodAll_stays hE hk hT h1 hs
 have hva : ∀ sp : Nat → Bool, DataW.TrodVars enc P W' sp s.vars (s.fn H (ds ++ [])).vars [] := fun sp => by rw [hv, hvars]; rfl
 refine ⟨ds, [], p, [], p, [], hW0, hres _ _ _, ha _ (fun b hb => by simpa using hb), hva _, hk.frame _, fun _ => ?_⟩
 refine ⟨hok, _, _, ([] ++ p) ++ [], ⟨[] ++ p, [], trodAll_append (ha _ (fun _ _ => rfl)) (hres _ _ _), hva _, rfl, fun b off hp => ?_, fun h => by cases h⟩, fun x hx _ => by simpa using hx⟩
 have hp' : MemPlace.cell b off ∈ p := by simpa using hp
 have hlt : b < W.heap.size := h1.lt _ hp'
 rw [hk.frozen hlt]
 exact hz b off hp'
theorem calls_true_mem {f : Nat} {ds : List D} (h : DataOk Fence.wide P f ds (.bool true)) {args : Array Value} (w : World) (ha : All2 (fun d x => REL (fun p => w.cell? p) d true [x]) ds args.toList) :
  Calls P f args w fun e w' => e = .returned (.bool true) ∧ Below w.heap.size w w' := by
 refine callsIn_wide.1 (CallsIn.mono (h 1 (fun p => w.cell? p) w args (fun _ _ e => e) ha) fun e w' q => ?_)
 cases e with
 | returned x =>
  obtain ⟨C', _, _, hb, _, hr⟩ := q
  simp only [REL] at hr
  cases hr
  exact ⟨rfl, hb⟩
 | _ => exact False.elim q
end
end Go.As
