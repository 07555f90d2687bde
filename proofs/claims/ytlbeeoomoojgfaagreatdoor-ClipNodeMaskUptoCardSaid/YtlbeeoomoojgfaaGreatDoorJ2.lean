/-
  Closed facts of the row, one by one.
-/
import Derived.Test.YtlbeeoomoojgfaaGreatDoorRows
import Derived.JoinedOf
import Derived.KernelRfl
namespace Go.Proofs.YtlbeeoomoojgfaaGreatDoor
open Go
theorem k1 : (laidOutB Tryz.prog) = true := by kernel_rfl
theorem k3 : (Tryz.f3.params.all (Tryz.prog.readableRec ·)) = true := by kernel_rfl
theorem k5 : ((Rows.clipNodeMaskUptoRow.stops == [])) = true := by kernel_rfl
theorem k7 : ((Rows.clipNodeMaskUptoRow.knobs == [])) = true := by kernel_rfl
theorem k9 : ((Rows.clipNodeMaskUptoRow.inPlace == Tryz.prog.inPlace 3)) = true := by kernel_rfl
theorem k11 : ((Rows.clipNodeMaskUptoRow.recurses == Tryz.prog.recurses 3)) = true := by kernel_rfl
theorem k13 : ((Rows.clipNodeMaskUptoRow.maps == (Tryz.f3.params.toList ++ ((Rows.OpenSpec.upto Rows.clipNodeMaskSpec)).bare.plain.varTypes Tryz.prog).any (Tryz.prog.mapsRec ·))) = true := by kernel_rfl
theorem k15 : ((Rows.clipNodeMaskUptoRow.mapsOut == Tryz.prog.mapsAmong Tryz.f3.resultTypes.toList)) = true := by kernel_rfl
theorem k17 : ((Rows.clipNodeMaskUptoRow.wideKeys == (Tryz.f3.params.toList ++ ((Rows.OpenSpec.upto Rows.clipNodeMaskSpec)).bare.plain.varTypes Tryz.prog ++ Tryz.f3.resultTypes.toList).any (Tryz.prog.wideKeysFrom ·))) = true := by kernel_rfl
theorem k19 : (Tryz.f3.resultTypes.all (fun t => Tryz.prog.readableRec t && decide (t < Tryz.prog.types.size))) = true := by kernel_rfl
theorem k21 : ((Rows.clipNodeMaskUptoRow.loopsOut == Tryz.f3.resultTypes.toList.any (Tryz.prog.loopsFrom ·))) = true := by kernel_rfl
theorem k23 : (Rows.clipNodeMaskUptoRow.shortTexts.isNone) = true := by kernel_rfl
theorem k25 : (Tryz.prog.mayEnter) = true := by kernel_rfl
theorem k27 : ((Tryz.prog.make == some Rows.clipNodeMaskUptoRow.make)) = true := by kernel_rfl
theorem k29 : ((Rows.clipNodeMaskUptoRow.pinned == Rows.clipNodeMaskUptoRow.pinnedBy)) = true := by kernel_rfl
theorem k31 : (Rows.clipNodeMaskUptoRow.veiledFits Tryz.prog Tryz.f3.params.toList (Tryz.f3.params.toList ++ ((Rows.OpenSpec.upto Rows.clipNodeMaskSpec)).bare.plain.varTypes Tryz.prog ++ Tryz.f3.resultTypes.toList)) = true := by kernel_rfl
end Go.Proofs.YtlbeeoomoojgfaaGreatDoor
