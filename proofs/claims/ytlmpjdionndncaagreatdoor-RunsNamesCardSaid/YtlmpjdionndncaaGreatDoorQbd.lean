/-
  Texts of this claim, laid together: Rzjk.
-/
import Derived.Test.YtlmpjdionndncaaGreatDoorCards
import Derived.Test.YtlmpjdionndncaaGreatDoorTie
import Derived.JoinedOf
import Derived.KernelRfl

namespace Go.Proofs.YtlmpjdionndncaaGreatDoor.RRunsNames
open Go Go.ChangeShapes Go.WideShapes
theorem both {a b : Bool} (ha : a = true) (hb : b = true) : (a && b) = true := by rw [ha, hb]; rfl
set_option maxRecDepth 1000000 in
theorem k0 : (Rows.runsNamesRow.wf (OpenSpec.ofChange Rows.runsNamesSpec)) = true := by kernel_rfl
set_option maxRecDepth 1000000 in
theorem k1 : (laidOutB Tryz.prog) = true := by kernel_rfl
set_option maxRecDepth 1000000 in
theorem k2 : (mapsRowed Tryz.prog) = true := by kernel_rfl
set_option maxRecDepth 1000000 in
theorem k3 : (Tryz.f4.params.all (Tryz.prog.readableRec ·)) = true := by kernel_rfl
set_option maxRecDepth 1000000 in
theorem k4 : (namedTie Tryz.prog Rows.runsNamesRow.named Rows.runsNamesSpec.vars) = true := by kernel_rfl
set_option maxRecDepth 1000000 in
theorem k5 : ((Rows.runsNamesRow.stops == [])) = true := by kernel_rfl
set_option maxRecDepth 1000000 in
theorem k6 : ((Tryz.prog.stops == [])) = true := by kernel_rfl
set_option maxRecDepth 1000000 in
theorem k7 : ((Rows.runsNamesRow.knobs == [])) = true := by kernel_rfl
set_option maxRecDepth 1000000 in
theorem k8 : ((Tryz.prog.stopKnobs == [])) = true := by kernel_rfl
set_option maxRecDepth 1000000 in
theorem k9 : ((Rows.runsNamesRow.inPlace == Tryz.prog.inPlace 4)) = true := by kernel_rfl
set_option maxRecDepth 1000000 in
theorem k10 : ((Rows.runsNamesRow.unfollowed == Tryz.prog.unfollowed 4)) = true := by kernel_rfl
set_option maxRecDepth 1000000 in
theorem k11 : ((Rows.runsNamesRow.recurses == Tryz.prog.recurses 4)) = true := by kernel_rfl
set_option maxRecDepth 1000000 in
theorem k12 : ((Rows.runsNamesRow.named == Tryz.prog.varsNamed 4)) = true := by kernel_rfl
set_option maxRecDepth 1000000 in
theorem k13 : ((Rows.runsNamesRow.maps == (Tryz.f4.params.toList ++ Rows.runsNamesSpec.plain.varTypes Tryz.prog).any (Tryz.prog.mapsRec ·))) = true := by kernel_rfl
set_option maxRecDepth 1000000 in
theorem k14 : ((Rows.runsNamesRow.ifaces == (Tryz.f4.params.toList ++ Rows.runsNamesSpec.plain.varTypes Tryz.prog).any (Tryz.prog.ifacesRec ·))) = true := by kernel_rfl
set_option maxRecDepth 1000000 in
theorem k15 : ((Rows.runsNamesRow.mapsOut == Tryz.prog.mapsAmong Tryz.f4.resultTypes.toList)) = true := by kernel_rfl
set_option maxRecDepth 1000000 in
theorem k16 : ((Rows.runsNamesRow.loops == (Tryz.f4.params.toList ++ Rows.runsNamesSpec.plain.varTypes Tryz.prog).any (Tryz.prog.loopsFrom ·))) = true := by kernel_rfl
set_option maxRecDepth 1000000 in
theorem k17 : ((Rows.runsNamesRow.wideKeys == (Tryz.f4.params.toList ++ Rows.runsNamesSpec.plain.varTypes Tryz.prog ++ Tryz.f4.resultTypes.toList).any (Tryz.prog.wideKeysFrom ·))) = true := by kernel_rfl
set_option maxRecDepth 1000000 in
theorem k18 : (Rows.runsNamesSpec.vars.all (Tryz.prog.varReadable ·)) = true := by kernel_rfl
set_option maxRecDepth 1000000 in
theorem k19 : (Tryz.f4.resultTypes.all (fun t => Tryz.prog.readableRec t && decide (t < Tryz.prog.types.size))) = true := by kernel_rfl
set_option maxRecDepth 1000000 in
theorem k20 : ((Rows.runsNamesRow.ifacesOut == Tryz.f4.resultTypes.toList.any (Tryz.prog.ifacesRec ·))) = true := by kernel_rfl
set_option maxRecDepth 1000000 in
theorem k21 : ((Rows.runsNamesRow.loopsOut == Tryz.f4.resultTypes.toList.any (Tryz.prog.loopsFrom ·))) = true := by kernel_rfl
set_option maxRecDepth 1000000 in
theorem k22 : ((Rows.runsNamesRow.plainKeys == Tryz.prog.plainKeys)) = true := by kernel_rfl
set_option maxRecDepth 1000000 in
theorem k23 : (Rows.runsNamesRow.shortTexts.isNone) = true := by kernel_rfl
set_option maxRecDepth 1000000 in
theorem k24 : (Tryz.prog.stopsHeard) = true := by kernel_rfl
set_option maxRecDepth 1000000 in
theorem k25 : (Tryz.prog.mayEnter) = true := by kernel_rfl
set_option maxRecDepth 1000000 in
theorem k26 : ((Rows.runsNamesRow.lifted == Tryz.prog.liftsFinal)) = true := by kernel_rfl
set_option maxRecDepth 1000000 in
theorem k27 : ((Tryz.prog.make == some Rows.runsNamesRow.make)) = true := by kernel_rfl
set_option maxRecDepth 1000000 in
theorem k28 : ((Rows.runsNamesRow.kinds == (if Rows.runsNamesRow.domain.isEmpty then [] else Tryz.f4.params.toList.map fun t => match Tryz.prog.underlying t with | some (.int k) => some k | _ => none))) = true := by kernel_rfl
set_option maxRecDepth 1000000 in
theorem k29 : ((Rows.runsNamesRow.pinned == Rows.runsNamesRow.pinnedBy)) = true := by kernel_rfl
set_option maxRecDepth 1000000 in
theorem k30 : ((Rows.runsNamesRow.veiled == (Tryz.f4.params.toList ++ Rows.runsNamesSpec.plain.varTypes Tryz.prog ++ Tryz.f4.resultTypes.toList).any (Tryz.prog.veiledRec ·))) = true := by kernel_rfl
set_option maxRecDepth 1000000 in
theorem k31 : (Rows.runsNamesRow.veiledFits Tryz.prog Tryz.f4.params.toList (Tryz.f4.params.toList ++ Rows.runsNamesSpec.plain.varTypes Tryz.prog ++ Tryz.f4.resultTypes.toList)) = true := by kernel_rfl
end Go.Proofs.YtlmpjdionndncaaGreatDoor.RRunsNames
