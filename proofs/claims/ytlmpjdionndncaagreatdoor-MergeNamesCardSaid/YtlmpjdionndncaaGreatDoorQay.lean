/-
  Texts of this claim, laid together: Mzjk.
-/
import Derived.Test.YtlmpjdionndncaaGreatDoorCards
import Derived.Test.YtlmpjdionndncaaGreatDoorTie
import Derived.JoinedOf
import Derived.KernelRfl

namespace Go.Proofs.YtlmpjdionndncaaGreatDoor.RMergeNames
open Go Go.ChangeShapes Go.WideShapes
theorem both {a b : Bool} (ha : a = true) (hb : b = true) : (a && b) = true := by rw [ha, hb]; rfl
set_option maxRecDepth 1000000 in
theorem k0 : (Rows.mergeNamesRow.wf (OpenSpec.ofChange Rows.mergeNamesSpec)) = true := by kernel_rfl
set_option maxRecDepth 1000000 in
theorem k1 : (laidOutB Tryz.prog) = true := by kernel_rfl
set_option maxRecDepth 1000000 in
theorem k2 : (mapsRowed Tryz.prog) = true := by kernel_rfl
set_option maxRecDepth 1000000 in
theorem k3 : (Tryz.f5.params.all (Tryz.prog.readableRec ·)) = true := by kernel_rfl
set_option maxRecDepth 1000000 in
theorem k4 : (namedTie Tryz.prog Rows.mergeNamesRow.named Rows.mergeNamesSpec.vars) = true := by kernel_rfl
set_option maxRecDepth 1000000 in
theorem k5 : ((Rows.mergeNamesRow.stops == [])) = true := by kernel_rfl
set_option maxRecDepth 1000000 in
theorem k6 : ((Tryz.prog.stops == [])) = true := by kernel_rfl
set_option maxRecDepth 1000000 in
theorem k7 : ((Rows.mergeNamesRow.knobs == [])) = true := by kernel_rfl
set_option maxRecDepth 1000000 in
theorem k8 : ((Tryz.prog.stopKnobs == [])) = true := by kernel_rfl
set_option maxRecDepth 1000000 in
theorem k9 : ((Rows.mergeNamesRow.inPlace == Tryz.prog.inPlace 5)) = true := by kernel_rfl
set_option maxRecDepth 1000000 in
theorem k10 : ((Rows.mergeNamesRow.unfollowed == Tryz.prog.unfollowed 5)) = true := by kernel_rfl
set_option maxRecDepth 1000000 in
theorem k11 : ((Rows.mergeNamesRow.recurses == Tryz.prog.recurses 5)) = true := by kernel_rfl
set_option maxRecDepth 1000000 in
theorem k12 : ((Rows.mergeNamesRow.named == Tryz.prog.varsNamed 5)) = true := by kernel_rfl
set_option maxRecDepth 1000000 in
theorem k13 : ((Rows.mergeNamesRow.maps == (Tryz.f5.params.toList ++ Rows.mergeNamesSpec.plain.varTypes Tryz.prog).any (Tryz.prog.mapsRec ·))) = true := by kernel_rfl
set_option maxRecDepth 1000000 in
theorem k14 : ((Rows.mergeNamesRow.ifaces == (Tryz.f5.params.toList ++ Rows.mergeNamesSpec.plain.varTypes Tryz.prog).any (Tryz.prog.ifacesRec ·))) = true := by kernel_rfl
set_option maxRecDepth 1000000 in
theorem k15 : ((Rows.mergeNamesRow.mapsOut == Tryz.prog.mapsAmong Tryz.f5.resultTypes.toList)) = true := by kernel_rfl
set_option maxRecDepth 1000000 in
theorem k16 : ((Rows.mergeNamesRow.loops == (Tryz.f5.params.toList ++ Rows.mergeNamesSpec.plain.varTypes Tryz.prog).any (Tryz.prog.loopsFrom ·))) = true := by kernel_rfl
set_option maxRecDepth 1000000 in
theorem k17 : ((Rows.mergeNamesRow.wideKeys == (Tryz.f5.params.toList ++ Rows.mergeNamesSpec.plain.varTypes Tryz.prog ++ Tryz.f5.resultTypes.toList).any (Tryz.prog.wideKeysFrom ·))) = true := by kernel_rfl
set_option maxRecDepth 1000000 in
theorem k18 : (Rows.mergeNamesSpec.vars.all (Tryz.prog.varReadable ·)) = true := by kernel_rfl
set_option maxRecDepth 1000000 in
theorem k19 : (Tryz.f5.resultTypes.all (fun t => Tryz.prog.readableRec t && decide (t < Tryz.prog.types.size))) = true := by kernel_rfl
set_option maxRecDepth 1000000 in
theorem k20 : ((Rows.mergeNamesRow.ifacesOut == Tryz.f5.resultTypes.toList.any (Tryz.prog.ifacesRec ·))) = true := by kernel_rfl
set_option maxRecDepth 1000000 in
theorem k21 : ((Rows.mergeNamesRow.loopsOut == Tryz.f5.resultTypes.toList.any (Tryz.prog.loopsFrom ·))) = true := by kernel_rfl
set_option maxRecDepth 1000000 in
theorem k22 : ((Rows.mergeNamesRow.plainKeys == Tryz.prog.plainKeys)) = true := by kernel_rfl
set_option maxRecDepth 1000000 in
theorem k23 : (Rows.mergeNamesRow.shortTexts.isNone) = true := by kernel_rfl
set_option maxRecDepth 1000000 in
theorem k24 : (Tryz.prog.stopsHeard) = true := by kernel_rfl
set_option maxRecDepth 1000000 in
theorem k25 : (Tryz.prog.mayEnter) = true := by kernel_rfl
set_option maxRecDepth 1000000 in
theorem k26 : ((Rows.mergeNamesRow.lifted == Tryz.prog.liftsFinal)) = true := by kernel_rfl
set_option maxRecDepth 1000000 in
theorem k27 : ((Tryz.prog.make == some Rows.mergeNamesRow.make)) = true := by kernel_rfl
set_option maxRecDepth 1000000 in
theorem k28 : ((Rows.mergeNamesRow.kinds == (if Rows.mergeNamesRow.domain.isEmpty then [] else Tryz.f5.params.toList.map fun t => match Tryz.prog.underlying t with | some (.int k) => some k | _ => none))) = true := by kernel_rfl
set_option maxRecDepth 1000000 in
theorem k29 : ((Rows.mergeNamesRow.pinned == Rows.mergeNamesRow.pinnedBy)) = true := by kernel_rfl
set_option maxRecDepth 1000000 in
theorem k30 : ((Rows.mergeNamesRow.veiled == (Tryz.f5.params.toList ++ Rows.mergeNamesSpec.plain.varTypes Tryz.prog ++ Tryz.f5.resultTypes.toList).any (Tryz.prog.veiledRec ·))) = true := by kernel_rfl
set_option maxRecDepth 1000000 in
theorem k31 : (Rows.mergeNamesRow.veiledFits Tryz.prog Tryz.f5.params.toList (Tryz.f5.params.toList ++ Rows.mergeNamesSpec.plain.varTypes Tryz.prog ++ Tryz.f5.resultTypes.toList)) = true := by kernel_rfl
end Go.Proofs.YtlmpjdionndncaaGreatDoor.RMergeNames
