/-
  Closed facts of the row, one by one.
-/
import Derived.Test.YtjdihfpfimkinaaGreatDoorRows
import Derived.JoinedOf
import Derived.KernelRfl
set_option linter.unusedSectionVars false
set_option linter.unusedSimpArgs false
set_option linter.unusedVariables false
namespace Go.Proofs.YtjdihfpfimkinaaGreatDoor
open Go
theorem k1 : (laidOutB Tryz.prog) = true := by kernel_rfl
theorem k3 : (Tryz.f3.params.all (Tryz.prog.readableRec ·)) = true := by kernel_rfl
theorem k5 : ((Rows.workersMakespanRow.stops == [])) = true := by kernel_rfl
theorem k7 : ((Rows.workersMakespanRow.knobs == [])) = true := by kernel_rfl
theorem k9 : ((Rows.workersMakespanRow.inPlace == Tryz.prog.inPlace 3)) = true := by kernel_rfl
theorem k11 : ((Rows.workersMakespanRow.recurses == Tryz.prog.recurses 3)) = true := by kernel_rfl
theorem k13 : ((Rows.workersMakespanRow.maps == (Tryz.f3.params.toList ++ Rows.workersMakespanSpec.plain.varTypes Tryz.prog).any (Tryz.prog.mapsRec ·))) = true := by kernel_rfl
theorem k15 : ((Rows.workersMakespanRow.mapsOut == Tryz.prog.mapsAmong Tryz.f3.resultTypes.toList)) = true := by kernel_rfl
theorem k17 : ((Rows.workersMakespanRow.wideKeys == (Tryz.f3.params.toList ++ Rows.workersMakespanSpec.plain.varTypes Tryz.prog ++ Tryz.f3.resultTypes.toList).any (Tryz.prog.wideKeysFrom ·))) = true := by kernel_rfl
theorem k19 : (Tryz.f3.resultTypes.all (fun t => Tryz.prog.readableRec t && decide (t < Tryz.prog.types.size))) = true := by kernel_rfl
theorem k21 : ((Rows.workersMakespanRow.loopsOut == Tryz.f3.resultTypes.toList.any (Tryz.prog.loopsFrom ·))) = true := by kernel_rfl
theorem k23 : (Rows.workersMakespanRow.shortTexts.isNone) = true := by kernel_rfl
theorem k25 : (Tryz.prog.mayEnter) = true := by kernel_rfl
theorem k27 : ((Tryz.prog.make == some Rows.workersMakespanRow.make)) = true := by kernel_rfl
theorem k29 : ((Rows.workersMakespanRow.pinned == Rows.workersMakespanRow.pinnedBy)) = true := by kernel_rfl
theorem k31 : (Rows.workersMakespanRow.veiledFits Tryz.prog Tryz.f3.params.toList (Tryz.f3.params.toList ++ Rows.workersMakespanSpec.plain.varTypes Tryz.prog ++ Tryz.f3.resultTypes.toList)) = true := by kernel_rfl
end Go.Proofs.YtjdihfpfimkinaaGreatDoor
