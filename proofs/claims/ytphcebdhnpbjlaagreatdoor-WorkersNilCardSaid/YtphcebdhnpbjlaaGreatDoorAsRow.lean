/-
  AS: from a contract on data to a law's row.
-/
import Derived.Test.YtphcebdhnpbjlaaGreatDoorAsEnv
import Derived.ProofKit
import GoSem.ClaimGoes
set_option linter.unusedSectionVars false
set_option linter.unusedSimpArgs false
set_option linter.unusedVariables false
namespace Go.As
open Go.ChangeShapes Go.WideShapes
open Go.RowKit (Below)
variable [Gh]
variable {P : Program}

theorem wf_inR {k : IntKind} {n : Int} (h : (Lit.int k n).wf = true) : inR k n := by
  simp only [Lit.wf, Bool.and_eq_true, decide_eq_true_eq] at h
  exact h
theorem rel_int {C : IV} {k : IntKind} {n : Int} {m : Bool} (h : (Lit.int k n).wf = true) : REL C (.int k n) m [.int k n] := by
  simp only [REL]
  refine ⟨?_, wf_inR h⟩
  first
    | rfl
    | trivial
theorem rel_agg4 {C : IV} {k0 k1 k2 k3 : IntKind} {x0 x1 x2 x3 : Int} (w0 : (Lit.int k0 x0).wf = true) (w1 : (Lit.int k1 x1).wf = true) (w2 : (Lit.int k2 x2).wf = true) (w3 : (Lit.int k3 x3).wf = true) :
    REL C (.agg 4 [.int k0 x0, .int k1 x1, .int k2 x2, .int k3 x3]) true [.agg #[.int k0 x0, .int k1 x1, .int k2 x2, .int k3 x3]] := by
  simp only [REL, RELs]
  exact ⟨_, [[.int k0 x0], [.int k1 x1], [.int k2 x2], [.int k3 x3]], rfl, rfl, ⟨_, _, rfl, ⟨rfl, wf_inR w0⟩, _, _, rfl, ⟨rfl, wf_inR w1⟩, _, _, rfl, ⟨rfl, wf_inR w2⟩, _, _, rfl, ⟨rfl, wf_inR w3⟩, rfl⟩, rfl⟩

/-- A law that holds. -/
theorem calls_true {f : Nat} {ds : List D} (h : DataOk Fence.wide P f ds (.bool true)) {args : Array Value} (w : World) (ha : All2 (fun d x => REL (fun _ => none) d true [x]) ds args.toList) :
    Calls P f args w fun e w' => e = .returned (.bool true) ∧ Below w.heap.size w w' := by
  refine callsIn_wide.1 (CallsIn.mono (h 1 (fun _ => none) w args (fun _ _ e => by cases e) ha) fun e w' q => ?_)
  cases e with
  | returned x =>
    obtain ⟨C', _, _, hb, _, hr⟩ := q
    simp only [REL] at hr
    cases hr
    exact ⟨rfl, hb⟩
  | _ => exact False.elim q

/-- A row's end, where the arguments lead to no memory and the call has only made blocks of its own. -/
theorem post_of_new {H : Type} {enc : TypeId × Value → H} {f : Func} {s : ChangeSpec} {apart fresh handsOn again : Bool} {W W' : World} {args : Array Value} {v : Value} {ds gs : List (DataW H)}
    (hW : DataW.Whole enc P f.params.toList s.vars apart W args.toList ds gs [])
    (hres : ∀ (b : Nat) (sp : Nat → Bool) (hd : Bool), DataW.TrodAll enc P W' b sp hd f.resultTypes.toList (v.resultList f.resultTypes.size) (s.fn H (ds ++ gs)).results [])
    (hargs : ∀ sp : Nat → Bool, DataW.TrodAll enc P W' 0 sp true f.params.toList args.toList (s.fn H (ds ++ gs)).args [])
    (hvars : ∀ sp : Nat → Bool, DataW.TrodVars enc P W' sp s.vars (s.fn H (ds ++ gs)).vars [])
    (hk : Below W.heap.size W W')
    (hok : ∀ (j : Nat) (t : TypeId) (r : Value), f.resultTypes[j]? = some t → (v.resultList f.resultTypes.size)[j]? = some r → Value.okWide P W' .any 0 t r) :
    s.post enc P f apart fresh handsOn again W args v W' := by
  refine ⟨ds, gs, [], [], [], [], hW, hres _ _ _, hargs _, hvars _, hk.frame _, fun _ => ?_⟩
  exact ⟨hok, _, _, ([] ++ []) ++ [], ⟨[] ++ [], [], trodAll_append (hargs _) (hres _ _ _), hvars _, rfl, fun b off hp => by simp at hp, fun _ => by simp⟩, fun p hp _ => by simp at hp⟩

/-- Where no function of the program starts a goroutine, no call does. -/
theorem goesBy_none {c : OpenClaim} (hs : c.start = .entering) (h : P.funcs.toList.any Func.goes = false) : false = c.goesBy P := by
  have hall : ∀ fn ∈ P.funcs.toList, Func.goes fn = false := fun fn hfn => by
    cases hq : Func.goes fn with
    | false => rfl
    | true => rw [List.any_eq_true.2 ⟨fn, hfn, hq⟩] at h; cases h
  have h2 : P.funcs.any Func.goes = false := by rw [← Array.any_toList]; exact h
  have hg : ∀ g : Nat, (P.funcs[g]?).any Func.goes = false := fun g => by
    cases hq : P.funcs[g]? with
    | none => rfl
    | some fn => exact hall fn (by rw [← Array.getElem?_toList] at hq; exact List.mem_of_getElem? hq)
  have hf : ∀ f, P.goes f = false := fun f => by
    unfold Program.goes
    simp [hg, h2]
  unfold OpenClaim.goesBy Program.goesAt Program.goesFrom
  rw [hs]
  cases P.funcNamed c.func with
  | none => rfl
  | some f => simp [hf]
end Go.As
