/-
  The lifted law: for every action and every int the law returns true, its arguments read as before, memory that was there is as it was. No further condition.
-/
import Derived.Test.YtphcebdhnpbjlaaGreatDoorRows
import Derived.Test.YtphcebdhnpbjlaaGreatDoorAsRow
import Derived.Test.YtphcebdhnpbjlaaGreatDoorMain
import Derived.ChangeSame
import Derived.ChangeVars
import Derived.JoinedOf
import Derived.RowKit
import Derived.RowKitTokens
import Derived.LaidLaws
import Derived.LaidHandle
import Derived.Stop.Joined
import Derived.Lib.SmallJoins
set_option linter.unusedSectionVars false
set_option linter.unusedSimpArgs false
set_option linter.unusedVariables false
namespace Go.Proofs.YtphcebdhnpbjlaaGreatDoor
open Go Go.ChangeShapes Go.WideShapes Go.RowKit Go.Joins

theorem own : ownKnob Tryz.prog.godebug = none := by kernel_rfl
def laidL : List (String × DataW Unit) := [("errors.errorType", Rows.laid_errors_errorType)]
/-- A world that meets the condition: the settled one, the variable's cell laid. -/
noncomputable def laidWorld (os : Os) : World :=
  let w0 := World.holding Tryz.prog os ⟨#[], #[], []⟩
  { w0 with heap := w0.heap.modify 0 fun
      | .cells _ t frozen => .cells #[.iface 262 (.agg #[typeHandle Tryz.prog 162])] t frozen
      | o => o }
theorem laidWorld_met (os : Os) (args : Array Value) : laidMetH Tryz.prog laidL ((laidWorld os).forCall (fun _ _ => 0) ⟨#[], args, []⟩).memory :=
  laidMetH_of_parts (laidMet_nil _ _) (by kernel_rfl)

set_option maxRecDepth 100000 in
theorem law_lifted (os : Os) (started : os.Started) (H : Type) (enc : TypeId × Value → H) :
    ReturnsInHanded {} Tryz.checked os 3 .any (fun w args => (Rows.workersNilSpec.pre enc Tryz.prog Tryz.f3 [] false w args ∧ laidMetH Tryz.prog laidL w) ∧ sizedMet enc Tryz.prog Tryz.f3 (OpenSpec.ofChange Rows.workersNilSpec) false w args)
      (Rows.workersNilSpec.post enc Tryz.prog Tryz.f3 false true false false) := by
  refine returnsInHanded_of_change_and (C := Tryz.checked) (X := fun w _ => laidMetH Tryz.prog laidL w) (fun _ _ _ hh h => h.of_heap hh) own started (by kernel_rfl) Tryz.func3
    (ChangeSpec.witness_at (enc := enc) (C := Tryz.checked) (os := os) (X := fun w _ => laidMetH Tryz.prog laidL w) false (laidWorld os) #[.agg #[.int .i64 0, .int .i64 0, .int .i64 0, .int .i64 0], .int .i64 0] 8 rfl (by kernel_rfl) (by kernel_rfl) (by kernel_rfl) (by kernel_rfl) (by kernel_rfl) (laidWorld_met os _)) ?_
  intro W base args ds gs before hval0 hW _ _ hL _
  have hval : ∀ (j : Nat) t v, Tryz.f3.params[j]? = some t → args[j]? = some v → Value.okWide Tryz.prog W .any base t v := hval0
  have hW' := hW
  obtain ⟨p, q, hA0, hV0, rfl, hfz, hnd⟩ := hW
  have hA : DataW.TrodAll enc Tryz.prog W 0 (fun _ => true) true Tryz.f3.params.toList args.toList ds p := hA0
  have hV : DataW.TrodVars enc Tryz.prog W (fun _ => true) [] gs q := hV0
  rw [Tryz.params3] at hA hval
  obtain ⟨v0, v1, d0, d1, p0, p1, rfl, rfl, rfl, h0, h1⟩ := trodAll_two hA
  obtain ⟨c0, c1, c2, c3, y0, y1, y2, y3, n, rfl, rfl, rfl, t0, t1, t2, t3⟩ := open_agg4 Tryz.underlying23 (by kernel_rfl) (by kernel_rfl) (hval 0 23 v0 rfl rfl) h0
  obtain ⟨i, rfl, rfl, rfl, wi⟩ := open_int Tryz.underlying3 (hval 1 3 v1 rfl rfl) h1
  obtain ⟨x0, e0, rfl, w0⟩ := DataW.trod_int Tryz.underlying3 t0
  obtain ⟨x1, e1, rfl, w1⟩ := DataW.trod_int Tryz.underlying3 t1
  obtain ⟨x2, e2, rfl, w2⟩ := DataW.trod_int Tryz.underlying3 t2
  obtain ⟨x3, e3, rfl, w3⟩ := DataW.trod_int Tryz.underlying3 t3
  cases e0; cases e1; cases e2; cases e3
  obtain ⟨rfl, rfl⟩ : gs = [] ∧ q = [] := by
    cases gs with
    | nil => exact ⟨rfl, hV⟩
    | cons g r => exact absurd hV (by intro h; cases h)
  clear hA0 hval0 hV0
  try simp only [List.append_nil] at hW'
  have hr : As.All2 (fun d x => As.REL (fun _ => none) d true [x]) [.agg 4 [.int .i64 x0, .int .i64 x1, .int .i64 x2, .int .i64 x3], .int .i64 i] (#[.agg #[.int .i64 x0, .int .i64 x1, .int .i64 x2, .int .i64 x3], .int .i64 i] : Array Value).toList := As.All2.cons (As.rel_agg4 w0 w1 w2 w3) (As.All2.cons (As.rel_int wi) As.All2.nil)
  refine (As.calls_true (law_ok x0 x1 x2 x3 i) W hr).mono fun e W' ⟨he, hw⟩ => ?_
  subst he
  have ea : ∀ sp : Nat → Bool, DataW.TrodAll enc Tryz.prog W' 0 sp true Tryz.f3.params.toList [.agg #[.int .i64 x0, .int .i64 x1, .int .i64 x2, .int .i64 x3], .int .i64 i] [.agg [.lit (.int .i64 x0), .lit (.int .i64 x1), .lit (.int .i64 x2), .lit (.int .i64 x3)], .lit (.int .i64 i)] [] := fun sp =>
    trodAll_mk2 (shut_agg4 (y0 := (_, [])) (y1 := (_, [])) (y2 := (_, [])) (y3 := (_, [])) Tryz.underlying23 (by kernel_rfl) (by kernel_rfl) (field_of_Trod (shut_int Tryz.underlying3 w0) rfl) (field_of_Trod (shut_int Tryz.underlying3 w1) rfl) (field_of_Trod (shut_int Tryz.underlying3 w2) rfl) (field_of_Trod (shut_int Tryz.underlying3 w3) rfl)) (shut_int Tryz.underlying3 wi)
  exact ⟨_, rfl, As.post_of_new hW' (fun _ _ _ => trodAll_mk1 (shut_bool Tryz.underlying4 true)) ea (fun _ => rfl) hw (ok_one (by kernel_rfl) rfl (okWide_bool_mk Tryz.underlying4 true))⟩
end Go.Proofs.YtphcebdhnpbjlaaGreatDoor
