/-
  Texts of this claim, laid together: Rjk.
-/
import Derived.Test.YtlmpjdionndncaaGreatDoorCards
import Derived.Test.YtlmpjdionndncaaGreatDoorTie
import Derived.JoinedOf
import Derived.KernelRfl

namespace Go.Proofs.YtlmpjdionndncaaGreatDoor.RRunsOrder
open Go Go.ChangeShapes Go.WideShapes
theorem both {a b : Bool} (ha : a = true) (hb : b = true) : (a && b) = true := by rw [ha, hb]; rfl
set_option maxRecDepth 1000000 in
theorem k0 : (Rows.runsOrderRow.wf (OpenSpec.ofChange Rows.runsOrderSpec)) = true := by kernel_rfl
set_option maxRecDepth 1000000 in
theorem k1 : (laidOutB Tryz.prog) = true := by kernel_rfl
set_option maxRecDepth 1000000 in
theorem k2 : (mapsRowed Tryz.prog) = true := by kernel_rfl
set_option maxRecDepth 1000000 in
theorem k3 : (Tryz.f3.params.all (Tryz.prog.readableRec ·)) = true := by kernel_rfl
set_option maxRecDepth 1000000 in
theorem k4 : (namedTie Tryz.prog Rows.runsOrderRow.named Rows.runsOrderSpec.vars) = true := by kernel_rfl
set_option maxRecDepth 1000000 in
theorem k5 : ((Rows.runsOrderRow.stops == [])) = true := by kernel_rfl
set_option maxRecDepth 1000000 in
theorem k6 : ((Tryz.prog.stops == [])) = true := by kernel_rfl
set_option maxRecDepth 1000000 in
theorem k7 : ((Rows.runsOrderRow.knobs == [])) = true := by kernel_rfl
set_option maxRecDepth 1000000 in
theorem k8 : ((Tryz.prog.stopKnobs == [])) = true := by kernel_rfl
set_option maxRecDepth 1000000 in
theorem k9 : ((Rows.runsOrderRow.inPlace == Tryz.prog.inPlace 3)) = true := by kernel_rfl
set_option maxRecDepth 1000000 in
theorem k10 : ((Rows.runsOrderRow.unfollowed == Tryz.prog.unfollowed 3)) = true := by kernel_rfl
set_option maxRecDepth 1000000 in
theorem k11 : ((Rows.runsOrderRow.recurses == Tryz.prog.recurses 3)) = true := by kernel_rfl
set_option maxRecDepth 1000000 in
theorem k12 : ((Rows.runsOrderRow.named == Tryz.prog.varsNamed 3)) = true := by kernel_rfl
set_option maxRecDepth 1000000 in
theorem k13 : ((Rows.runsOrderRow.maps == (Tryz.f3.params.toList ++ Rows.runsOrderSpec.plain.varTypes Tryz.prog).any (Tryz.prog.mapsRec ·))) = true := by kernel_rfl
set_option maxRecDepth 1000000 in
theorem k14 : ((Rows.runsOrderRow.ifaces == (Tryz.f3.params.toList ++ Rows.runsOrderSpec.plain.varTypes Tryz.prog).any (Tryz.prog.ifacesRec ·))) = true := by kernel_rfl
set_option maxRecDepth 1000000 in
theorem k15 : ((Rows.runsOrderRow.mapsOut == Tryz.prog.mapsAmong Tryz.f3.resultTypes.toList)) = true := by kernel_rfl
set_option maxRecDepth 1000000 in
theorem k16 : ((Rows.runsOrderRow.loops == (Tryz.f3.params.toList ++ Rows.runsOrderSpec.plain.varTypes Tryz.prog).any (Tryz.prog.loopsFrom ·))) = true := by kernel_rfl
set_option maxRecDepth 1000000 in
theorem k17 : ((Rows.runsOrderRow.wideKeys == (Tryz.f3.params.toList ++ Rows.runsOrderSpec.plain.varTypes Tryz.prog ++ Tryz.f3.resultTypes.toList).any (Tryz.prog.wideKeysFrom ·))) = true := by kernel_rfl
set_option maxRecDepth 1000000 in
theorem k18 : (Rows.runsOrderSpec.vars.all (Tryz.prog.varReadable ·)) = true := by kernel_rfl
set_option maxRecDepth 1000000 in
theorem k19 : (Tryz.f3.resultTypes.all (fun t => Tryz.prog.readableRec t && decide (t < Tryz.prog.types.size))) = true := by kernel_rfl
set_option maxRecDepth 1000000 in
theorem k20 : ((Rows.runsOrderRow.ifacesOut == Tryz.f3.resultTypes.toList.any (Tryz.prog.ifacesRec ·))) = true := by kernel_rfl
set_option maxRecDepth 1000000 in
theorem k21 : ((Rows.runsOrderRow.loopsOut == Tryz.f3.resultTypes.toList.any (Tryz.prog.loopsFrom ·))) = true := by kernel_rfl
set_option maxRecDepth 1000000 in
theorem k22 : ((Rows.runsOrderRow.plainKeys == Tryz.prog.plainKeys)) = true := by kernel_rfl
set_option maxRecDepth 1000000 in
theorem k23 : (Rows.runsOrderRow.shortTexts.isNone) = true := by kernel_rfl
set_option maxRecDepth 1000000 in
theorem k24 : (Tryz.prog.stopsHeard) = true := by kernel_rfl
set_option maxRecDepth 1000000 in
theorem k25 : (Tryz.prog.mayEnter) = true := by kernel_rfl
set_option maxRecDepth 1000000 in
theorem k26 : ((Rows.runsOrderRow.lifted == Tryz.prog.liftsFinal)) = true := by kernel_rfl
set_option maxRecDepth 1000000 in
theorem k27 : ((Tryz.prog.make == some Rows.runsOrderRow.make)) = true := by kernel_rfl
set_option maxRecDepth 1000000 in
theorem k28 : ((Rows.runsOrderRow.kinds == (if Rows.runsOrderRow.domain.isEmpty then [] else Tryz.f3.params.toList.map fun t => match Tryz.prog.underlying t with | some (.int k) => some k | _ => none))) = true := by kernel_rfl
set_option maxRecDepth 1000000 in
theorem k29 : ((Rows.runsOrderRow.pinned == Rows.runsOrderRow.pinnedBy)) = true := by kernel_rfl
set_option maxRecDepth 1000000 in
theorem k30 : ((Rows.runsOrderRow.veiled == (Tryz.f3.params.toList ++ Rows.runsOrderSpec.plain.varTypes Tryz.prog ++ Tryz.f3.resultTypes.toList).any (Tryz.prog.veiledRec ·))) = true := by kernel_rfl
set_option maxRecDepth 1000000 in
theorem k31 : (Rows.runsOrderRow.veiledFits Tryz.prog Tryz.f3.params.toList (Tryz.f3.params.toList ++ Rows.runsOrderSpec.plain.varTypes Tryz.prog ++ Tryz.f3.resultTypes.toList)) = true := by kernel_rfl
end Go.Proofs.YtlmpjdionndncaaGreatDoor.RRunsOrder
