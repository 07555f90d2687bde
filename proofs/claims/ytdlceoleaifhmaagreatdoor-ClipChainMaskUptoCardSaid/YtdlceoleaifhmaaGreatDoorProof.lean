/-
  ClipChainMask, the tied card: for every input the law returns true and its arguments read afterwards as they read before. Condition: what the arguments and the listed package variable hold is together of bulk at most 1048576.
-/
import Derived.Test.YtdlceoleaifhmaaGreatDoorHolds
import Derived.Test.YtdlceoleaifhmaaGreatDoorGoes
import Derived.Test.YtdlceoleaifhmaaGreatDoorFact
import Derived.Test.YtdlceoleaifhmaaGreatDoorCards
import Derived.Test.YtdlceoleaifhmaaGreatDoorTied
import Derived.SevenTiedAt
namespace Go.Proofs.YtdlceoleaifhmaaGreatDoor
open Go
/-- THE TIED CARD. -/
theorem clipChainMask_card : Rows.ClipChainMaskUptoCardSaid :=
  Claim7.holds_tied_plain_at .later [] [.handle] true (true, "9fc32b17503846290d8a77d1d9aeadfc4fb57015ddc21fe7611bbad0cea7bd4c") true
    clipChainMask_holds (fun _ h => by cases h) wf_ok (fun _ h => by cases h) own_row_tie rfl ⟨rfl, rfl⟩ main_ok rfl
    (fun f fn hf hfn => by
      obtain rfl : f = 3 := Option.some.inj (named_ok.symm.trans hf) |>.symm
      obtain rfl : fn = Tryz.f3 := (Option.some.inj (Tryz.func3.symm.trans hfn)).symm
      exact ⟨looks_ok, fun j t ht => by
        rw [Tryz.params3] at ht
        have hm : t ∈ [26, 3, 28] := by simpa using Array.mem_of_getElem? ht
        exact (show Tryz.prog.wantsStandIn t = false by simpa using List.all_eq_true.1 stand_ok t hm)⟩)
    goes_ok
end Go.Proofs.YtdlceoleaifhmaaGreatDoor
