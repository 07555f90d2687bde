/-
  ClipNodeMask, the tied card: for every input the law returns true and its arguments read afterwards as they read before. Condition: what the arguments and the listed package variable hold is together of bulk at most 1048576.
-/
import Derived.Test.YtlbeeoomoojgfaaGreatDoorHolds
import Derived.Test.YtlbeeoomoojgfaaGreatDoorGoes
import Derived.Test.YtlbeeoomoojgfaaGreatDoorFact
import Derived.Test.YtlbeeoomoojgfaaGreatDoorCards
import Derived.Test.YtlbeeoomoojgfaaGreatDoorTied
import Derived.SevenTiedAt
namespace Go.Proofs.YtlbeeoomoojgfaaGreatDoor
open Go
/-- THE TIED CARD. -/
theorem clipNodeMask_card : Rows.ClipNodeMaskUptoCardSaid :=
  Claim7.holds_tied_plain_at .later [] [.handle] true (true, "7adca002abf346f45d797c3b9d856085c8486ef4193c0038cf706f5145383f14") true
    clipNodeMask_holds (fun _ h => by cases h) wf_ok (fun _ h => by cases h) own_row_tie rfl ⟨rfl, rfl⟩ main_ok rfl
    (fun f fn hf hfn => by
      obtain rfl : f = 3 := Option.some.inj (named_ok.symm.trans hf) |>.symm
      obtain rfl : fn = Tryz.f3 := (Option.some.inj (Tryz.func3.symm.trans hfn)).symm
      exact ⟨looks_ok, fun j t ht => by
        rw [Tryz.params3] at ht
        have hm : t ∈ [26, 3, 28] := by simpa using Array.mem_of_getElem? ht
        exact (show Tryz.prog.wantsStandIn t = false by simpa using List.all_eq_true.1 stand_ok t hm)⟩)
    goes_ok
end Go.Proofs.YtlbeeoomoojgfaaGreatDoor
