/-
  WorkersSchedule, the tied card: for every input the law returns true, its arguments read as before, memory that was there is as it was. No further condition.
-/
import Derived.Test.YtfpkonppeefhfaaGreatDoorHolds
import Derived.Test.YtfpkonppeefhfaaGreatDoorGoes
import Derived.Test.YtfpkonppeefhfaaGreatDoorFact
import Derived.Test.YtfpkonppeefhfaaGreatDoorCards
import Derived.Test.YtfpkonppeefhfaaGreatDoorTied
import Derived.SevenTiedAt
set_option linter.unusedSectionVars false
set_option linter.unusedSimpArgs false
set_option linter.unusedVariables false
namespace Go.Proofs.YtfpkonppeefhfaaGreatDoor
open Go
theorem workersSchedule_card : Rows.WorkersScheduleCardSaid :=
 Claim7.holds_tied_plain_at .later [] [.handle] true (true, "266afbf9dc354e52db8004d3b36789dd61850d0cbaef565b3f03e202f0332086") true
  workersSchedule_holds (fun _ h => by cases h) wf_ok (fun _ h => by cases h) own_row_tie rfl ⟨rfl, rfl⟩ main_ok rfl
  (fun f fn hf hfn => by
   obtain rfl : f = 3 := Option.some.inj (named_ok.symm.trans hf) |>.symm
   obtain rfl : fn = Tryz.f3 := (Option.some.inj (Tryz.func3.symm.trans hfn)).symm
   exact ⟨looks_ok, fun j t ht => by
    rw [Tryz.params3] at ht
    have hm : t ∈ [22, 22, 3] := by simpa using Array.mem_of_getElem? ht
    exact (show Tryz.prog.wantsStandIn t = false by simpa using List.all_eq_true.1 stand_ok t hm)⟩)
  goes_ok
end Go.Proofs.YtfpkonppeefhfaaGreatDoor
