/-
  Closed facts of the row, one by one.
-/
import Derived.Test.YtfpkonppeefhfaaGreatDoorRows
import Derived.JoinedOf
import Derived.KernelRfl
set_option linter.unusedSectionVars false
set_option linter.unusedSimpArgs false
set_option linter.unusedVariables false
namespace Go.Proofs.YtfpkonppeefhfaaGreatDoor
open Go
theorem k0 : (Rows.workersScheduleRow.wf (OpenSpec.ofChange Rows.workersScheduleSpec)) = true := by kernel_rfl
theorem k2 : (mapsRowed Tryz.prog) = true := by kernel_rfl
theorem k4 : (namedTie Tryz.prog Rows.workersScheduleRow.named Rows.workersScheduleSpec.vars) = true := by kernel_rfl
theorem k6 : ((Tryz.prog.stops == [])) = true := by kernel_rfl
theorem k8 : ((Tryz.prog.stopKnobs == [])) = true := by kernel_rfl
theorem k10 : ((Rows.workersScheduleRow.unfollowed == Tryz.prog.unfollowed 3)) = true := by kernel_rfl
theorem k12 : ((Rows.workersScheduleRow.named == Tryz.prog.varsNamed 3)) = true := by kernel_rfl
theorem k14 : ((Rows.workersScheduleRow.ifaces == (Tryz.f3.params.toList ++ Rows.workersScheduleSpec.plain.varTypes Tryz.prog).any (Tryz.prog.ifacesRec ·))) = true := by kernel_rfl
theorem k16 : ((Rows.workersScheduleRow.loops == (Tryz.f3.params.toList ++ Rows.workersScheduleSpec.plain.varTypes Tryz.prog).any (Tryz.prog.loopsFrom ·))) = true := by kernel_rfl
theorem k18 : (Rows.workersScheduleSpec.vars.all (Tryz.prog.varReadable ·)) = true := by kernel_rfl
theorem k20 : ((Rows.workersScheduleRow.ifacesOut == Tryz.f3.resultTypes.toList.any (Tryz.prog.ifacesRec ·))) = true := by kernel_rfl
theorem k22 : ((Rows.workersScheduleRow.plainKeys == Tryz.prog.plainKeys)) = true := by kernel_rfl
theorem k24 : (Tryz.prog.stopsHeard) = true := by kernel_rfl
theorem k26 : ((Rows.workersScheduleRow.lifted == Tryz.prog.liftsFinal)) = true := by kernel_rfl
theorem k30 : ((Rows.workersScheduleRow.veiled == (Tryz.f3.params.toList ++ Rows.workersScheduleSpec.plain.varTypes Tryz.prog ++ Tryz.f3.resultTypes.toList).any (Tryz.prog.veiledRec ·))) = true := by kernel_rfl
end Go.Proofs.YtfpkonppeefhfaaGreatDoor
