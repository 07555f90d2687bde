/-
  Closed facts of the row, one by one.
-/
import Derived.Test.YtlbeeoomoojgfaaGreatDoorRows
import Derived.JoinedOf
import Derived.KernelRfl
namespace Go.Proofs.YtlbeeoomoojgfaaGreatDoor
open Go
theorem k0 : (Rows.clipNodeMaskUptoRow.wf (OpenSpec.ofChange ((Rows.OpenSpec.upto Rows.clipNodeMaskSpec)).bare)) = true := by kernel_rfl
theorem k2 : (mapsRowed Tryz.prog) = true := by kernel_rfl
theorem k4 : (namedTie Tryz.prog Rows.clipNodeMaskUptoRow.named ((Rows.OpenSpec.upto Rows.clipNodeMaskSpec)).bare.vars) = true := by kernel_rfl
theorem k6 : ((Tryz.prog.stops == [])) = true := by kernel_rfl
theorem k8 : ((Tryz.prog.stopKnobs == [])) = true := by kernel_rfl
theorem k10 : ((Rows.clipNodeMaskUptoRow.unfollowed == Tryz.prog.unfollowed 3)) = true := by kernel_rfl
theorem k12 : ((Rows.clipNodeMaskUptoRow.named == Tryz.prog.varsNamed 3)) = true := by kernel_rfl
theorem k14 : ((Rows.clipNodeMaskUptoRow.ifaces == (Tryz.f3.params.toList ++ ((Rows.OpenSpec.upto Rows.clipNodeMaskSpec)).bare.plain.varTypes Tryz.prog).any (Tryz.prog.ifacesRec ·))) = true := by kernel_rfl
theorem k16 : ((Rows.clipNodeMaskUptoRow.loops == (Tryz.f3.params.toList ++ ((Rows.OpenSpec.upto Rows.clipNodeMaskSpec)).bare.plain.varTypes Tryz.prog).any (Tryz.prog.loopsFrom ·))) = true := by kernel_rfl
theorem k18 : (((Rows.OpenSpec.upto Rows.clipNodeMaskSpec)).bare.vars.all (Tryz.prog.varReadable ·)) = true := by kernel_rfl
theorem k20 : ((Rows.clipNodeMaskUptoRow.ifacesOut == Tryz.f3.resultTypes.toList.any (Tryz.prog.ifacesRec ·))) = true := by kernel_rfl
theorem k22 : ((Rows.clipNodeMaskUptoRow.plainKeys == Tryz.prog.plainKeys)) = true := by kernel_rfl
theorem k24 : (Tryz.prog.stopsHeard) = true := by kernel_rfl
theorem k26 : ((Rows.clipNodeMaskUptoRow.lifted == Tryz.prog.liftsFinal)) = true := by kernel_rfl
theorem k30 : ((Rows.clipNodeMaskUptoRow.veiled == (Tryz.f3.params.toList ++ ((Rows.OpenSpec.upto Rows.clipNodeMaskSpec)).bare.plain.varTypes Tryz.prog ++ Tryz.f3.resultTypes.toList).any (Tryz.prog.veiledRec ·))) = true := by kernel_rfl
end Go.Proofs.YtlbeeoomoojgfaaGreatDoor
