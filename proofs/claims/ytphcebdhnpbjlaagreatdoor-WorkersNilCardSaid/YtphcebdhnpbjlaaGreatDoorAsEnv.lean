/-
  AS: an environment out of tables.
-/
import Derived.Test.YtphcebdhnpbjlaaGreatDoorAsClone
set_option linter.unusedSectionVars false
set_option linter.unusedSimpArgs false
set_option linter.unusedVariables false
namespace Go.As
variable [Gh]

/-! ### methods -/
def notPtr (P : Program) (u : Nat) : Bool := match P.underlying u with | some (.pointer _) => false | some _ => true | none => false
def methB1 (P : Program) (u : Nat) (nm : String) (g : Nat) : Bool :=
  match P.info? u with
  | some i => (match i.methods.find? (fun m => m.name == nm) with
    | some m => (match m.path.toList, m.func with | [], some (f, false) => bif Nat.beq f g then notPtr P u else false | _, _ => false)
    | none => false)
  | none => false
def methBL (P : Program) (u : Nat) (l : List (String × Nat)) : Bool := l.all fun p => methB1 P u p.1 p.2
theorem methL_mem {nm : String} {g : Nat} : ∀ {l : List (String × Nat)}, methL l nm = some g → (nm, g) ∈ l
  | [], e => by cases e
  | p :: l, e => by
    have e : (bif decide (p.1 = nm) then some p.2 else methL l nm) = some g := e
    cases h : decide (p.1 = nm) with
    | true =>
      rw [h, cond_true] at e
      have := of_decide_eq_true h
      cases e; subst this; simp
    | false =>
      rw [h, cond_false] at e
      exact List.mem_cons_of_mem _ (methL_mem e)
theorem notPtr_ok {P : Program} {u : Nat} (h : notPtr P u = true) : ∃ d, P.underlying u = some d ∧ ∀ e, d ≠ .pointer e := by
  unfold notPtr at h
  split at h
  · cases h
  · rename_i d hd0 hd
    exact ⟨d, hd, fun e q => hd0 e q⟩
  · cases h
theorem method_run {P : Program} {u g : Nat} {nm : String} (h : methB1 P u nm g = true) (n : Nat) (v : Value) (w : World) : (method (n + 1) u v nm).run P w = .ok (g, v) w := by
  unfold methB1 at h
  split at h
  · rename_i i hi
    split at h
    · rename_i m hm
      split at h
      · rename_i f hp hf
        obtain ⟨hb, h2⟩ : Nat.beq f g = true ∧ notPtr P u = true := by
          cases hb : Nat.beq f g with
          | true => rw [hb, cond_true] at h; exact ⟨rfl, h⟩
          | false => rw [hb, cond_false] at h; cases h
        have hfg := beq_of hb
        subst hfg
        obtain ⟨d, hd, hnp⟩ := notPtr_ok h2
        have ht : (typeInfo u).run P w = .ok i w := by simp [typeInfo, hi]
        have hu := run_underlying (w := w) hd
        unfold method
        simp only [Sem.run_bind, ht, Result.andThen_ok, hm, hp, follow, hf]
        have hr : ∀ o, (receiverAt u (.val v) false o).run P w = .ok v w := fun o => by
          unfold receiverAt
          rw [Sem.run_bind, hu, Result.andThen_ok]
          split
          · simp_all
          · simp_all
          · simp_all
          · simp_all
          · rename_i q; cases q; simp [Place.get]
        simp [hr]
      · cases h
    · cases h
  · cases h

/-! ### clones -/
def CloneOk (P : Program) (E : Env) (g el : Nat) : Prop :=
  ∃ fn T bt, P.funcs[g]? = some fn ∧ fn.body = some (cloneCode T bt) ∧ (fn.name == "runtime.NumGoroutine") = false ∧ fn.ntmps = 8 ∧ fn.results = #[.tmp 2] ∧
    (match E.ty T with | some ti => (match ti.k with | .slc e => bif Nat.beq e el then (E.ty el).isSome else false | _ => false) | none => false) = true
theorem CloneOk.sound {F : Fence} {P : Program} {E : Env} {g el : Nat} (hE : EnvB P E) (hF : Fen F) (h : CloneOk P E g el) : ∀ (n B : Nat) (X : Cx) (O : Nat → Addr → Prop) (w : World) (h : Heap), HR B X O w h → ∀ (xs : List V) (args : Array Value), All2 (fun v x => VREL X v true [x]) xs args.toList →
    ∀ nid, hget h nid = none → X.M nid = none → nid ≤ h.length → ∀ v h', cloneV E nid el xs h = some (v, h') → CallN F n P B X O w h (callFunc g args) v h' := by
  obtain ⟨fn, T, bt, h1, h2, h3, h4, h5, h6⟩ := h
  split at h6
  · rename_i ti hti
    split at h6
    · rename_i e he
      cases hb : Nat.beq e el with
      | false => rw [hb, cond_false] at h6; cases h6
      | true =>
        rw [hb, cond_true] at h6
        have := beq_of hb
        subst this
        obtain ⟨te, hte⟩ := Option.isSome_iff_exists.1 h6
        intro n B X O w h hr xs args ha nid q1 q2 q3 v h' e
        exact clone_sound hE hF h1 h2 h3 h4 h5 hti he hte n hr xs args ha nid q1 q2 q3 v h' e
    · cases h6
  · cases h6

/-! ### the environment -/
noncomputable abbrev mkEnv (ty : Tb TI) (fn : Tb Func) (cl : Tb Nat) (mt : Tb (List (String × Nat))) (inl keep : Nat → Bool) (dr : Nat → Nat → Option (List (Nat × List Nat))) (bty : Nat × Nat) : Env :=
  ⟨ty.find, fn.find, fun _ => none, cl.find, fun _ => 0, methF mt, inl, keep, dr, bty⟩
theorem envOk_of {F : Fence} {P : Program} (hF : Fen F) {ty : Tb TI} {fn : Tb Func} {cl : Tb Nat} {mt : Tb (List (String × Nat))} {inl keep : Nat → Bool} {dr : Nat → Nat → Option (List (Nat × List Nat))} {bty : Nat × Nat}
    (h1 : ty.allB (tyB P) = true) (hd : Nat.blt 12 P.depth = true) (hb : (ty.find bty.1).isNone = true) (hm : P.follows .mixedOrders = true)
    (hg : ∀ f nt c, Gh.K f nt c ↔ (codeOk (mkEnv ty fn cl mt inl keep dr bty) f nt c = true ∧ noDefer c = true))
    (hf : TbAll (fun f fn' => P.funcs[f]? = some fn') fn) (hf2 : fn.allB (fnB (mkEnv ty fn cl mt inl keep dr bty)) = true)
    (hmt : mt.allB (methBL P) = true) (hcl : TbAll (CloneOk P (mkEnv ty fn cl mt inl keep dr bty)) cl) : EnvOk F P (mkEnv ty fn cl mt inl keep dr bty) :=
  have hB : EnvB P (mkEnv ty fn cl mt inl keep dr bty) := {
    ty := fun t ti e => tyB_ok ((TbAll.of h1).find e)
    depth := Nat.le_of_ble_eq_true hd
    bld := fun ti e => by
      have e : ty.find bty.1 = some ti := e
      rw [e] at hb; cases hb }
  { toEnvB := hB
    mixed := hm
    gh := hg
    fn := fun f fn' e => by
      have e : fn.find f = some fn' := e
      obtain ⟨q1, q2⟩ := fnB_ok ((TbAll.of hf2).find e)
      exact ⟨hf.find e, q1, q2⟩
    meth := fun u nm g e v w => by
      have e : ((mt.find u).bind fun l => methL l nm) = some g := e
      obtain ⟨l, hl, e⟩ := Option.bind_eq_some_iff.1 e
      have h := (TbAll.of hmt).find hl
      have h := (List.all_eq_true.1 h) _ (methL_mem e)
      obtain ⟨n, hn⟩ := Nat.exists_eq_succ_of_ne_zero (n := P.types.size + Made.depth) (by unfold Made.depth; omega)
      rw [hn]
      exact method_run h n v w
    sm := fun g S e => by cases e
    ext := fun g e => absurd rfl e
    clone := fun g el e => (hcl.find e).sound hB hF }
/-- A table's functions have bodies. -/
theorem body_of {P : Program} {E : Env} {T : Memo} {fn : Tb Func} (hf : TbAll (fun f fn' => P.funcs[f]? = some fn') fn) (hf2 : fn.allB (fnB E) = true) (h : T.allB (fun f _ => match fn.find f with | some fn => fn.body.isSome | none => false) = true) :
    ∀ f t, T.find f = some t → ∃ fn c, P.funcs[f]? = some fn ∧ fn.body = some c ∧ (fn.name == "runtime.NumGoroutine") = false := fun f t e => by
  have h := (TbAll.of h).find e
  split at h
  · rename_i fn' hfn
    obtain ⟨c, hc⟩ := Option.isSome_iff_exists.1 h
    exact ⟨fn', c, hf.find hfn, hc, (fnB_ok ((TbAll.of hf2).find hfn)).1⟩
  · cases h
end Go.As
