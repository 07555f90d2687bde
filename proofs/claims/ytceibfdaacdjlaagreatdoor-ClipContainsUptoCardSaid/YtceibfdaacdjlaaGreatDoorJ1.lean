/-
  Closed facts of the row, one by one.
-/
import Derived.Test.YtceibfdaacdjlaaGreatDoorRows
import Derived.JoinedOf
import Derived.KernelRfl
namespace Go.Proofs.YtceibfdaacdjlaaGreatDoor
open Go
theorem k0 : (Rows.clipContainsUptoRow.wf (OpenSpec.ofChange ((Rows.OpenSpec.upto Rows.clipContainsSpec)).bare)) = true := by kernel_rfl
theorem k2 : (mapsRowed Tryz.prog) = true := by kernel_rfl
theorem k4 : (namedTie Tryz.prog Rows.clipContainsUptoRow.named ((Rows.OpenSpec.upto Rows.clipContainsSpec)).bare.vars) = true := by kernel_rfl
theorem k6 : ((Tryz.prog.stops == [])) = true := by kernel_rfl
theorem k8 : ((Tryz.prog.stopKnobs == [])) = true := by kernel_rfl
theorem k10 : ((Rows.clipContainsUptoRow.unfollowed == Tryz.prog.unfollowed 3)) = true := by kernel_rfl
theorem k12 : ((Rows.clipContainsUptoRow.named == Tryz.prog.varsNamed 3)) = true := by kernel_rfl
theorem k14 : ((Rows.clipContainsUptoRow.ifaces == (Tryz.f3.params.toList ++ ((Rows.OpenSpec.upto Rows.clipContainsSpec)).bare.plain.varTypes Tryz.prog).any (Tryz.prog.ifacesRec ·))) = true := by kernel_rfl
theorem k16 : ((Rows.clipContainsUptoRow.loops == (Tryz.f3.params.toList ++ ((Rows.OpenSpec.upto Rows.clipContainsSpec)).bare.plain.varTypes Tryz.prog).any (Tryz.prog.loopsFrom ·))) = true := by kernel_rfl
theorem k18 : (((Rows.OpenSpec.upto Rows.clipContainsSpec)).bare.vars.all (Tryz.prog.varReadable ·)) = true := by kernel_rfl
theorem k20 : ((Rows.clipContainsUptoRow.ifacesOut == Tryz.f3.resultTypes.toList.any (Tryz.prog.ifacesRec ·))) = true := by kernel_rfl
theorem k22 : ((Rows.clipContainsUptoRow.plainKeys == Tryz.prog.plainKeys)) = true := by kernel_rfl
theorem k24 : (Tryz.prog.stopsHeard) = true := by kernel_rfl
theorem k26 : ((Rows.clipContainsUptoRow.lifted == Tryz.prog.liftsFinal)) = true := by kernel_rfl
theorem k30 : ((Rows.clipContainsUptoRow.veiled == (Tryz.f3.params.toList ++ ((Rows.OpenSpec.upto Rows.clipContainsSpec)).bare.plain.varTypes Tryz.prog ++ Tryz.f3.resultTypes.toList).any (Tryz.prog.veiledRec ·))) = true := by kernel_rfl
end Go.Proofs.YtceibfdaacdjlaaGreatDoor
