/-
  WorkersMakespan, the tied card: for every input the law returns true, its arguments read as before, memory that was there is as it was. No further condition.
-/
import Derived.Test.YtjdihfpfimkinaaGreatDoorHolds
import Derived.Test.YtjdihfpfimkinaaGreatDoorGoes
import Derived.Test.YtjdihfpfimkinaaGreatDoorFact
import Derived.Test.YtjdihfpfimkinaaGreatDoorCards
import Derived.Test.YtjdihfpfimkinaaGreatDoorTied
import Derived.SevenTiedAt
set_option linter.unusedSectionVars false
set_option linter.unusedSimpArgs false
set_option linter.unusedVariables false
namespace Go.Proofs.YtjdihfpfimkinaaGreatDoor
open Go
/-- THE TIED CARD. -/
theorem workersMakespan_card : Rows.WorkersMakespanCardSaid :=
  Claim7.holds_tied_plain_at .later [] [.handle] true (true, "c64239eb3a2dd99d3401c65bb8ef33ee955de0454933444da95ec3e1ab5f384f") true
    workersMakespan_holds (fun _ h => by cases h) wf_ok (fun _ h => by cases h) own_row_tie rfl ⟨rfl, rfl⟩ main_ok rfl
    (fun f fn hf hfn => by
      obtain rfl : f = 3 := Option.some.inj (named_ok.symm.trans hf) |>.symm
      obtain rfl : fn = Tryz.f3 := (Option.some.inj (Tryz.func3.symm.trans hfn)).symm
      exact ⟨looks_ok, fun j t ht => by
        rw [Tryz.params3] at ht
        have hm : t ∈ [22, 3] := by simpa using Array.mem_of_getElem? ht
        exact (show Tryz.prog.wantsStandIn t = false by simpa using List.all_eq_true.1 stand_ok t hm)⟩)
    goes_ok
end Go.Proofs.YtjdihfpfimkinaaGreatDoor
