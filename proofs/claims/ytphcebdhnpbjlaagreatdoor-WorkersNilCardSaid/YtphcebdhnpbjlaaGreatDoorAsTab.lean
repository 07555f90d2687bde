/-
  AS: the tables of a program, looked at once.
-/
import Derived.Test.YtphcebdhnpbjlaaGreatDoorAsWhole
set_option linter.unusedSectionVars false
set_option linter.unusedSimpArgs false
set_option linter.unusedVariables false
namespace Go.As
variable [Gh]

/-! ### tables -/
def TbAll {α : Type} (p : Nat → α → Prop) : Tb α → Prop
  | .e => True
  | .n k v l r => p k v ∧ TbAll p l ∧ TbAll p r
noncomputable def Tb.allB {α : Type} (p : Nat → α → Bool) (t : Tb α) : Bool := Tb.rec true (fun k v _ _ l r => bif p k v then (bif l then r else false) else false) t
theorem Tb.find_n {α : Type} (k : Nat) (v : α) (l r : Tb α) (i : Nat) : (Tb.n k v l r).find i = bif Nat.beq i k then some v else bif Nat.blt i k then l.find i else r.find i := rfl
theorem TbAll.find {α : Type} {p : Nat → α → Prop} {i : Nat} {v : α} : ∀ {t : Tb α}, TbAll p t → t.find i = some v → p i v
  | .e, _, e => by cases e
  | .n k u l r, h, e => by
    rw [Tb.find_n] at e
    cases hb : Nat.beq i k with
    | true => rw [hb, cond_true] at e; cases e; rw [beq_of hb]; exact h.1
    | false =>
      rw [hb, cond_false] at e
      cases hc : Nat.blt i k with
      | true => rw [hc, cond_true] at e; exact TbAll.find h.2.1 e
      | false => rw [hc, cond_false] at e; exact TbAll.find h.2.2 e
theorem TbAll.of {α : Type} {p : Nat → α → Bool} : ∀ {t : Tb α}, t.allB p = true → TbAll (fun k v => p k v = true) t
  | .e, _ => trivial
  | .n k u l r, h => by
    have h : (bif p k u then (bif l.allB p then r.allB p else false) else false) = true := h
    cases h1 : p k u with
    | false => rw [h1] at h; cases h
    | true =>
      rw [h1, cond_true] at h
      cases h2 : l.allB p with
      | false => rw [h2] at h; cases h
      | true => rw [h2, cond_true] at h; exact ⟨h1, TbAll.of h2, TbAll.of h⟩

/-! ### zero values -/
def isZ : Int → Bool
  | .ofNat 0 => true
  | _ => false
theorem isZ_ok : ∀ {n : Int}, isZ n = true → n = 0
  | .ofNat 0, _ => rfl
  | .ofNat (n + 1), h => Bool.noConfusion (show false = true from h)
  | .negSucc n, h => Bool.noConfusion (show false = true from h)
mutual
def zeroD : D → Option (List Value)
  | .bool b => some [.bool b]
  | .int k n => bif isZ n then some [.int k 0] else none
  | .str [] => some [.string ⟨#[]⟩]
  | .nil => some [.pointer none]
  | .nfn => some [.nilFunc]
  | .inil => some [.nilIface]
  | .mnil => some [.map none]
  | .agg w l => (zeroDs l).bind fun cs => bif Nat.beq cs.length w then some cs else none
  | _ => none
def zeroDs : List D → Option (List Value)
  | [] => some []
  | d :: l => (zeroD d).bind fun a => (zeroDs l).map fun b => a ++ b
end
mutual
def zeroV : V → Option (List Value)
  | .im d => zeroD d
  | .full [] => some [.slice none 0 0]
  | .agg w l => (zeroVs l).bind fun cs => bif Nat.beq cs.length w then some cs else none
  | _ => none
def zeroVs : List V → Option (List Value)
  | [] => some []
  | d :: l => (zeroV d).bind fun a => (zeroVs l).map fun b => a ++ b
end
theorem inR_zero (k : IntKind) : inR k 0 := by
  show k.min ≤ 0 ∧ 0 ≤ k.max
  cases k <;> decide
mutual
theorem zeroD_ok {C : IV} : ∀ {d : D} {cs : List Value}, zeroD d = some cs → REL C d false cs
  | .bool b, cs, e => by simp only [zeroD, Option.some.injEq] at e; subst e; simp [REL]
  | .int k n, cs, e => by
    simp only [zeroD] at e
    obtain ⟨hz, e⟩ := bif_some e
    cases e
    simp only [REL]
    rw [isZ_ok hz]
    exact ⟨rfl, inR_zero k⟩
  | .str [], cs, e => by simp only [zeroD, Option.some.injEq] at e; subst e; exact ⟨_, rfl, rfl, by simp [ByteArray.size]⟩
  | .str (_ :: _), cs, e => by simp [zeroD] at e
  | .nil, cs, e => by simp only [zeroD, Option.some.injEq] at e; subst e; simp [REL]
  | .nfn, cs, e => by simp only [zeroD, Option.some.injEq] at e; subst e; simp [REL]
  | .inil, cs, e => by simp only [zeroD, Option.some.injEq] at e; subst e; simp [REL]
  | .mnil, cs, e => by simp only [zeroD, Option.some.injEq] at e; subst e; simp [REL]
  | .agg w l, cs, e => by
    simp only [zeroD, Option.bind_eq_some_iff] at e
    obtain ⟨cs', h1, e⟩ := e
    obtain ⟨hb, e⟩ := bif_some e
    cases e
    obtain ⟨wss, h2, h3⟩ := zeroDs_ok (C := C) h1
    simp only [REL]
    exact ⟨wss, h3, h2, beq_of hb⟩
  | .ref _, cs, e => by simp [zeroD] at e
  | .slc _, cs, e => by simp [zeroD] at e
  | .tup _, cs, e => by simp [zeroD] at e
  | .fn _, cs, e => by simp [zeroD] at e
  | .ifc _ _, cs, e => by simp [zeroD] at e
theorem zeroDs_ok {C : IV} : ∀ {l : List D} {cs : List Value}, zeroDs l = some cs → ∃ wss, RELs C l false wss ∧ cs = wss.flatten
  | [], cs, e => by simp only [zeroDs, Option.some.injEq] at e; subst e; exact ⟨[], by simp [RELs], rfl⟩
  | d :: l, cs, e => by
    simp only [zeroDs, Option.bind_eq_some_iff, Option.map_eq_some_iff] at e
    obtain ⟨a, h1, b, h2, e⟩ := e
    obtain ⟨wss, h3, rfl⟩ := zeroDs_ok (C := C) h2
    exact ⟨a :: wss, by simp only [RELs]; exact ⟨a, wss, rfl, zeroD_ok h1, h3⟩, e.symm⟩
end
mutual
theorem zeroV_ok {X : Cx} : ∀ {v : V} {cs : List Value}, zeroV v = some cs → VREL X v false cs
  | .im d, cs, e => by simp only [zeroV] at e; simp only [VREL]; exact zeroD_ok e
  | .full [], cs, e => by
    simp only [zeroV, Option.some.injEq] at e; subst e
    simp only [VREL]
    exact ⟨_, rfl, none, 0, rfl, rfl, Nat.zero_le _, .inl rfl⟩
  | .full (_ :: _), cs, e => by simp [zeroV] at e
  | .agg w l, cs, e => by
    simp only [zeroV, Option.bind_eq_some_iff] at e
    obtain ⟨cs', h1, e⟩ := e
    obtain ⟨hb, e⟩ := bif_some e
    cases e
    obtain ⟨wss, h2, h3⟩ := zeroVs_ok (X := X) h1
    simp only [VREL]
    exact ⟨wss, h3, h2, beq_of hb⟩
  | .undef, cs, e => by simp [zeroV] at e
  | .tup _, cs, e => by simp [zeroV] at e
  | .own .., cs, e => by simp [zeroV] at e
  | .ptr .., cs, e => by simp [zeroV] at e
  | .fn .., cs, e => by simp [zeroV] at e
  | .ifc .., cs, e => by simp [zeroV] at e
  | .mp _, cs, e => by simp [zeroV] at e
  | .yld _, cs, e => by simp [zeroV] at e
theorem zeroVs_ok {X : Cx} : ∀ {l : List V} {cs : List Value}, zeroVs l = some cs → ∃ wss, VRELs X l false wss ∧ cs = wss.flatten
  | [], cs, e => by simp only [zeroVs, Option.some.injEq] at e; subst e; exact ⟨[], by simp [VRELs], rfl⟩
  | d :: l, cs, e => by
    simp only [zeroVs, Option.bind_eq_some_iff, Option.map_eq_some_iff] at e
    obtain ⟨a, h1, b, h2, e⟩ := e
    obtain ⟨wss, h3, rfl⟩ := zeroVs_ok (X := X) h2
    exact ⟨a :: wss, by simp only [VRELs]; exact ⟨a, wss, rfl, zeroV_ok h1, h3⟩, e.symm⟩
end
/-- Leaves that are zero. -/
def leafEq : Value → Value → Bool
  | .bool a, .bool b => (match a, b with | true, true => true | false, false => true | _, _ => false)
  | .int k n, .int k' m => isZ n && (isZ m && decide (k = k'))
  | .string ⟨⟨[]⟩⟩, .string ⟨⟨[]⟩⟩ => true
  | .pointer none, .pointer none => true
  | .slice none 0 0, .slice none 0 0 => true
  | .map none, .map none => true
  | .nilFunc, .nilFunc => true
  | .nilIface, .nilIface => true
  | _, _ => false
theorem leafEq_ok {a b : Value} (h : leafEq a b = true) : a = b := by
  unfold leafEq at h
  split at h
  · split at h <;> simp_all
  · simp only [Bool.and_eq_true] at h
    rw [isZ_ok h.1, isZ_ok h.2.1, of_decide_eq_true h.2.2]
  all_goals first
    | rfl
    | cases h
def leavesEq : List Value → List Value → Bool
  | [], [] => true
  | a :: l, b :: r => bif leafEq a b then leavesEq l r else false
  | _, _ => false
theorem leavesEq_ok : ∀ {a b : List Value}, leavesEq a b = true → a = b
  | [], [], _ => rfl
  | [], _ :: _, h => by cases h
  | _ :: _, [], h => by cases h
  | a :: l, b :: r, h => by
    have h : (bif leafEq a b then leavesEq l r else false) = true := h
    cases h1 : leafEq a b with
    | false => rw [h1] at h; cases h
    | true => rw [h1, cond_true] at h; rw [leafEq_ok h1, leavesEq_ok h]
def zeroB (v : V) (z : Value) : Bool :=
  match zeroV v with
  | none => false
  | some cs => bif v.isAgg then (match z with | .agg zs => leavesEq zs.toList cs | _ => false) else (match cs with | [c] => leafEq z c | _ => false)
theorem zeroB_ok {X : Cx} {v : V} {z : Value} (hp : v.plain = true) (h : zeroB v z = true) : VREL X v true [z] := by
  unfold zeroB at h
  split at h
  · cases h
  · rename_i cs hcs
    have hv := zeroV_ok (X := X) hcs
    cases ha : v.isAgg with
    | true =>
      rw [ha, cond_true] at h
      split at h
      · rename_i zs
        have := leavesEq_ok h
        exact (VREL.agg_iff ha).2 ⟨zs, rfl, by rw [this]; exact hv⟩
      · cases h
    | false =>
      rw [ha, cond_false] at h
      split at h
      · rename_i c
        obtain ⟨x, e, _, r⟩ := hv.one hp ha
        cases e
        rw [leafEq_ok h]; exact r true
      · cases h

/-! ### types -/
def triples : List (Nat × Nat × Nat) → List (Nat × Nat × Nat) → Bool
  | [], [] => true
  | a :: l, b :: r => bif Nat.beq a.1 b.1 && (Nat.beq a.2.1 b.2.1 && Nat.beq a.2.2 b.2.2) then triples l r else false
  | _, _ => false
theorem triples_ok : ∀ {a b : List (Nat × Nat × Nat)}, triples a b = true → a = b
  | [], [], _ => rfl
  | [], _ :: _, h => by cases h
  | _ :: _, [], h => by cases h
  | (a1, a2, a3) :: l, (b1, b2, b3) :: r, h => by
    have h : (bif Nat.beq a1 b1 && (Nat.beq a2 b2 && Nat.beq a3 b3) then triples l r else false) = true := h
    cases h1 : Nat.beq a1 b1 && (Nat.beq a2 b2 && Nat.beq a3 b3) with
    | false => rw [h1] at h; cases h
    | true =>
      rw [h1, cond_true] at h
      simp only [Bool.and_eq_true] at h1
      rw [beq_of h1.1, beq_of h1.2.1, beq_of h1.2.2, triples_ok h]
def kindB (P : Program) (t : Nat) (k : TK) : Bool :=
  match P.underlying t with
  | none => false
  | some d => match k, d with
    | .bool, .bool => true
    | .int k, .int k' => decide (k = k')
    | .str, .string => true
    | .ptr, .pointer _ => true
    | .slc e, .slice e' => Nat.beq e e'
    | .arr n e, .array n' e' => Nat.beq n n' && Nat.beq e e'
    | .st fs, .struct fields => triples (fields.toList.map fun f => (f.offset, P.cellsOf f.type, f.type)) fs && (fields.toList.all (fun f => !(decide (f.name = "_")) && (P.info? f.type).isSome) && !P.stoodInHeld t)
    | .fn, .func _ _ _ => true
    | .ifc nm, .interface ms => (match nm, !ms.isEmpty with | true, true => true | false, false => true | _, _ => false)
    | .map k e, .map k' e' => Nat.beq k k' && Nat.beq e e'
    | _, _ => false
theorem kindB_ok {P : Program} {t : Nat} {k : TK} (h : kindB P t k = true) : KindOk P t k := by
  unfold kindB at h
  split at h
  · cases h
  · rename_i d hd
    split at h <;> simp only [KindOk]
    · exact hd
    · rw [of_decide_eq_true h]; exact hd
    · exact hd
    · exact ⟨_, hd⟩
    · rw [beq_of h]; exact hd
    · rw [Bool.and_eq_true] at h; rw [beq_of h.1, beq_of h.2]; exact hd
    · simp only [Bool.and_eq_true, List.all_eq_true, Bool.not_eq_true', decide_eq_false_iff_not] at h
      exact ⟨_, hd, triples_ok h.1, fun f hf => ⟨(h.2.1 f hf).1, Option.isSome_iff_exists.1 (h.2.1 f hf).2⟩, h.2.2⟩
    · exact ⟨_, _, _, hd⟩
    · refine ⟨_, hd, ?_⟩
      split at h <;> simp_all
    · rw [Bool.and_eq_true] at h; rw [beq_of h.1, beq_of h.2]; exact hd
    · cases h
def tyB (P : Program) (t : Nat) (ti : TI) : Bool :=
  match P.info? t with
  | none => false
  | some i => bif Nat.beq i.size ti.size && Nat.beq i.bytes ti.bytes then (bif (bif ti.zero.plain then (match i.zero with | some z => zeroB ti.zero z | none => false) else true) then kindB P t ti.k else false) else false
theorem tyB_ok {P : Program} {t : Nat} {ti : TI} (h : tyB P t ti = true) : TyOk P t ti := by
  unfold tyB at h
  split at h
  · cases h
  · rename_i i hi
    cases h1 : Nat.beq i.size ti.size && Nat.beq i.bytes ti.bytes with
    | false => rw [h1] at h; cases h
    | true =>
      rw [h1, cond_true] at h
      rw [Bool.and_eq_true] at h1
      cases h2 : (bif ti.zero.plain then (match i.zero with | some z => zeroB ti.zero z | none => false) else true) with
      | false => rw [h2] at h; cases h
      | true =>
        rw [h2, cond_true] at h
        refine ⟨⟨i, hi, beq_of h1.1, beq_of h1.2, fun x hx hp => ?_⟩, kindB_ok h⟩
        subst hx
        rw [hp, cond_true] at h2
        split at h2
        · rename_i z hz
          exact ⟨z, hz, zeroB_ok hp h2⟩
        · cases h2

/-! ### functions -/
noncomputable def fnB (E : Env) (f : Nat) (fn : Func) : Bool := (!(fn.name == "runtime.NumGoroutine")) && (match fn.body with | some c => codeOk E f fn.ntmps c | none => true)
theorem fnB_ok {E : Env} {f : Nat} {fn : Func} (h : fnB E f fn = true) : (fn.name == "runtime.NumGoroutine") = false ∧ ∀ c, fn.body = some c → codeOk E f fn.ntmps c = true := by
  unfold fnB at h
  rw [Bool.and_eq_true, Bool.not_eq_true'] at h
  refine ⟨h.1, fun c hc => ?_⟩
  have := h.2
  rw [hc] at this
  exact this
end Go.As
