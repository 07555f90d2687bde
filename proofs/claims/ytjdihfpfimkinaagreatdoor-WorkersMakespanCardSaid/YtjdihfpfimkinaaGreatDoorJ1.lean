/-
  Closed facts of the row, one by one.
-/
import Derived.Test.YtjdihfpfimkinaaGreatDoorRows
import Derived.JoinedOf
import Derived.KernelRfl
set_option linter.unusedSectionVars false
set_option linter.unusedSimpArgs false
set_option linter.unusedVariables false
namespace Go.Proofs.YtjdihfpfimkinaaGreatDoor
open Go
theorem k0 : (Rows.workersMakespanRow.wf (OpenSpec.ofChange Rows.workersMakespanSpec)) = true := by kernel_rfl
theorem k2 : (mapsRowed Tryz.prog) = true := by kernel_rfl
theorem k4 : (namedTie Tryz.prog Rows.workersMakespanRow.named Rows.workersMakespanSpec.vars) = true := by kernel_rfl
theorem k6 : ((Tryz.prog.stops == [])) = true := by kernel_rfl
theorem k8 : ((Tryz.prog.stopKnobs == [])) = true := by kernel_rfl
theorem k10 : ((Rows.workersMakespanRow.unfollowed == Tryz.prog.unfollowed 3)) = true := by kernel_rfl
theorem k12 : ((Rows.workersMakespanRow.named == Tryz.prog.varsNamed 3)) = true := by kernel_rfl
theorem k14 : ((Rows.workersMakespanRow.ifaces == (Tryz.f3.params.toList ++ Rows.workersMakespanSpec.plain.varTypes Tryz.prog).any (Tryz.prog.ifacesRec ·))) = true := by kernel_rfl
theorem k16 : ((Rows.workersMakespanRow.loops == (Tryz.f3.params.toList ++ Rows.workersMakespanSpec.plain.varTypes Tryz.prog).any (Tryz.prog.loopsFrom ·))) = true := by kernel_rfl
theorem k18 : (Rows.workersMakespanSpec.vars.all (Tryz.prog.varReadable ·)) = true := by kernel_rfl
theorem k20 : ((Rows.workersMakespanRow.ifacesOut == Tryz.f3.resultTypes.toList.any (Tryz.prog.ifacesRec ·))) = true := by kernel_rfl
theorem k22 : ((Rows.workersMakespanRow.plainKeys == Tryz.prog.plainKeys)) = true := by kernel_rfl
theorem k24 : (Tryz.prog.stopsHeard) = true := by kernel_rfl
theorem k26 : ((Rows.workersMakespanRow.lifted == Tryz.prog.liftsFinal)) = true := by kernel_rfl
theorem k30 : ((Rows.workersMakespanRow.veiled == (Tryz.f3.params.toList ++ Rows.workersMakespanSpec.plain.varTypes Tryz.prog ++ Tryz.f3.resultTypes.toList).any (Tryz.prog.veiledRec ·))) = true := by kernel_rfl
end Go.Proofs.YtjdihfpfimkinaaGreatDoor
