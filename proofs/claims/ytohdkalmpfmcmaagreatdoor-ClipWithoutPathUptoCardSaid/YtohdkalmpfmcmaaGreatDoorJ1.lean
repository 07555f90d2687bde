/-
  Closed facts of the row, one by one.
-/
import Derived.Test.YtohdkalmpfmcmaaGreatDoorRows
import Derived.JoinedOf
import Derived.KernelRfl
namespace Go.Proofs.YtohdkalmpfmcmaaGreatDoor
open Go
theorem k0 : (Rows.clipWithoutPathUptoRow.wf (OpenSpec.ofChange ((Rows.OpenSpec.upto Rows.clipWithoutPathSpec)).bare)) = true := by kernel_rfl
theorem k2 : (mapsRowed Tryz.prog) = true := by kernel_rfl
theorem k4 : (namedTie Tryz.prog Rows.clipWithoutPathUptoRow.named ((Rows.OpenSpec.upto Rows.clipWithoutPathSpec)).bare.vars) = true := by kernel_rfl
theorem k6 : ((Tryz.prog.stops == [])) = true := by kernel_rfl
theorem k8 : ((Tryz.prog.stopKnobs == [])) = true := by kernel_rfl
theorem k10 : ((Rows.clipWithoutPathUptoRow.unfollowed == Tryz.prog.unfollowed 3)) = true := by kernel_rfl
theorem k12 : ((Rows.clipWithoutPathUptoRow.named == Tryz.prog.varsNamed 3)) = true := by kernel_rfl
theorem k14 : ((Rows.clipWithoutPathUptoRow.ifaces == (Tryz.f3.params.toList ++ ((Rows.OpenSpec.upto Rows.clipWithoutPathSpec)).bare.plain.varTypes Tryz.prog).any (Tryz.prog.ifacesRec ·))) = true := by kernel_rfl
theorem k16 : ((Rows.clipWithoutPathUptoRow.loops == (Tryz.f3.params.toList ++ ((Rows.OpenSpec.upto Rows.clipWithoutPathSpec)).bare.plain.varTypes Tryz.prog).any (Tryz.prog.loopsFrom ·))) = true := by kernel_rfl
theorem k18 : (((Rows.OpenSpec.upto Rows.clipWithoutPathSpec)).bare.vars.all (Tryz.prog.varReadable ·)) = true := by kernel_rfl
theorem k20 : ((Rows.clipWithoutPathUptoRow.ifacesOut == Tryz.f3.resultTypes.toList.any (Tryz.prog.ifacesRec ·))) = true := by kernel_rfl
theorem k22 : ((Rows.clipWithoutPathUptoRow.plainKeys == Tryz.prog.plainKeys)) = true := by kernel_rfl
theorem k24 : (Tryz.prog.stopsHeard) = true := by kernel_rfl
theorem k26 : ((Rows.clipWithoutPathUptoRow.lifted == Tryz.prog.liftsFinal)) = true := by kernel_rfl
theorem k30 : ((Rows.clipWithoutPathUptoRow.veiled == (Tryz.f3.params.toList ++ ((Rows.OpenSpec.upto Rows.clipWithoutPathSpec)).bare.plain.varTypes Tryz.prog ++ Tryz.f3.resultTypes.toList).any (Tryz.prog.veiledRec ·))) = true := by kernel_rfl
end Go.Proofs.YtohdkalmpfmcmaaGreatDoor
