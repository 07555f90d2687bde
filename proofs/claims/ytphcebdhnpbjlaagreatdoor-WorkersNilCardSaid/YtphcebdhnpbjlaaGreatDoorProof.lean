/-
  WorkersNil, the tied card: for every action and every int the law returns true, its arguments read as before, memory that was there is as it was. No further condition.
-/
import Derived.Test.YtphcebdhnpbjlaaGreatDoorHolds
import Derived.Test.YtphcebdhnpbjlaaGreatDoorGoes
import Derived.Test.YtphcebdhnpbjlaaGreatDoorFact
import Derived.Test.YtphcebdhnpbjlaaGreatDoorCards
import Derived.Test.YtphcebdhnpbjlaaGreatDoorTie
import Derived.SevenTiedAt
set_option linter.unusedSectionVars false
set_option linter.unusedSimpArgs false
set_option linter.unusedVariables false
namespace Go.Proofs.YtphcebdhnpbjlaaGreatDoor
open Go
/-- THE TIED CARD. -/
theorem workersNil_card : Rows.WorkersNilCardSaid :=
  Claim7.holds_tied_plain_at .later [] [.handle] true (true, "ad8c6f8c380bd94dfa16d485374ecb2ef84818087c6d62e04bf2b3a7f05ed460") true
    workersNil_holds (fun _ h => by cases h) wf_ok (fun _ h => by cases h) workersNil_row_tie rfl ⟨rfl, rfl⟩ main_ok rfl
    (fun f fn hf hfn => by
      obtain rfl : f = 3 := Option.some.inj (named_ok.symm.trans hf) |>.symm
      obtain rfl : fn = Tryz.f3 := (Option.some.inj (Tryz.func3.symm.trans hfn)).symm
      exact ⟨looks_ok, fun j t ht => by
        rw [Tryz.params3] at ht
        have hm : t ∈ [23, 3] := by simpa using Array.mem_of_getElem? ht
        exact (show Tryz.prog.wantsStandIn t = false by simpa using List.all_eq_true.1 stand_ok t hm)⟩)
    goes_ok
end Go.Proofs.YtphcebdhnpbjlaaGreatDoor
