/-
  Closed facts of the row, one by one.
-/
import Derived.Test.YtfpkonppeefhfaaGreatDoorRows
import Derived.JoinedOf
import Derived.KernelRfl
set_option linter.unusedSectionVars false
set_option linter.unusedSimpArgs false
set_option linter.unusedVariables false
namespace Go.Proofs.YtfpkonppeefhfaaGreatDoor
open Go
theorem k1 : (laidOutB Tryz.prog) = true := by kernel_rfl
theorem k3 : (Tryz.f3.params.all (Tryz.prog.readableRec ·)) = true := by kernel_rfl
theorem k5 : ((Rows.workersScheduleRow.stops == [])) = true := by kernel_rfl
theorem k7 : ((Rows.workersScheduleRow.knobs == [])) = true := by kernel_rfl
theorem k9 : ((Rows.workersScheduleRow.inPlace == Tryz.prog.inPlace 3)) = true := by kernel_rfl
theorem k11 : ((Rows.workersScheduleRow.recurses == Tryz.prog.recurses 3)) = true := by kernel_rfl
theorem k13 : ((Rows.workersScheduleRow.maps == (Tryz.f3.params.toList ++ Rows.workersScheduleSpec.plain.varTypes Tryz.prog).any (Tryz.prog.mapsRec ·))) = true := by kernel_rfl
theorem k15 : ((Rows.workersScheduleRow.mapsOut == Tryz.prog.mapsAmong Tryz.f3.resultTypes.toList)) = true := by kernel_rfl
theorem k17 : ((Rows.workersScheduleRow.wideKeys == (Tryz.f3.params.toList ++ Rows.workersScheduleSpec.plain.varTypes Tryz.prog ++ Tryz.f3.resultTypes.toList).any (Tryz.prog.wideKeysFrom ·))) = true := by kernel_rfl
theorem k19 : (Tryz.f3.resultTypes.all (fun t => Tryz.prog.readableRec t && decide (t < Tryz.prog.types.size))) = true := by kernel_rfl
theorem k21 : ((Rows.workersScheduleRow.loopsOut == Tryz.f3.resultTypes.toList.any (Tryz.prog.loopsFrom ·))) = true := by kernel_rfl
theorem k23 : (Rows.workersScheduleRow.shortTexts.isNone) = true := by kernel_rfl
theorem k25 : (Tryz.prog.mayEnter) = true := by kernel_rfl
theorem k27 : ((Tryz.prog.make == some Rows.workersScheduleRow.make)) = true := by kernel_rfl
theorem k29 : ((Rows.workersScheduleRow.pinned == Rows.workersScheduleRow.pinnedBy)) = true := by kernel_rfl
theorem k31 : (Rows.workersScheduleRow.veiledFits Tryz.prog Tryz.f3.params.toList (Tryz.f3.params.toList ++ Rows.workersScheduleSpec.plain.varTypes Tryz.prog ++ Tryz.f3.resultTypes.toList)) = true := by kernel_rfl
end Go.Proofs.YtfpkonppeefhfaaGreatDoor
