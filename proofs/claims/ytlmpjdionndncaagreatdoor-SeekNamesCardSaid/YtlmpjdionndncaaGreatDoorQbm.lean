/-
  Texts of this claim, laid together: Kzjk.
-/
import Derived.Test.YtlmpjdionndncaaGreatDoorCards
import Derived.Test.YtlmpjdionndncaaGreatDoorTie
import Derived.JoinedOf
import Derived.KernelRfl

namespace Go.Proofs.YtlmpjdionndncaaGreatDoor.RSeekNames
open Go Go.ChangeShapes Go.WideShapes
theorem both {a b : Bool} (ha : a = true) (hb : b = true) : (a && b) = true := by rw [ha, hb]; rfl
set_option maxRecDepth 1000000 in
theorem k0 : (Rows.seekNamesRow.wf (OpenSpec.ofChange Rows.seekNamesSpec)) = true := by kernel_rfl
set_option maxRecDepth 1000000 in
theorem k1 : (laidOutB Tryz.prog) = true := by kernel_rfl
set_option maxRecDepth 1000000 in
theorem k2 : (mapsRowed Tryz.prog) = true := by kernel_rfl
set_option maxRecDepth 1000000 in
theorem k3 : (Tryz.f6.params.all (Tryz.prog.readableRec ·)) = true := by kernel_rfl
set_option maxRecDepth 1000000 in
theorem k4 : (namedTie Tryz.prog Rows.seekNamesRow.named Rows.seekNamesSpec.vars) = true := by kernel_rfl
set_option maxRecDepth 1000000 in
theorem k5 : ((Rows.seekNamesRow.stops == [])) = true := by kernel_rfl
set_option maxRecDepth 1000000 in
theorem k6 : ((Tryz.prog.stops == [])) = true := by kernel_rfl
set_option maxRecDepth 1000000 in
theorem k7 : ((Rows.seekNamesRow.knobs == [])) = true := by kernel_rfl
set_option maxRecDepth 1000000 in
theorem k8 : ((Tryz.prog.stopKnobs == [])) = true := by kernel_rfl
set_option maxRecDepth 1000000 in
theorem k9 : ((Rows.seekNamesRow.inPlace == Tryz.prog.inPlace 6)) = true := by kernel_rfl
set_option maxRecDepth 1000000 in
theorem k10 : ((Rows.seekNamesRow.unfollowed == Tryz.prog.unfollowed 6)) = true := by kernel_rfl
set_option maxRecDepth 1000000 in
theorem k11 : ((Rows.seekNamesRow.recurses == Tryz.prog.recurses 6)) = true := by kernel_rfl
set_option maxRecDepth 1000000 in
theorem k12 : ((Rows.seekNamesRow.named == Tryz.prog.varsNamed 6)) = true := by kernel_rfl
set_option maxRecDepth 1000000 in
theorem k13 : ((Rows.seekNamesRow.maps == (Tryz.f6.params.toList ++ Rows.seekNamesSpec.plain.varTypes Tryz.prog).any (Tryz.prog.mapsRec ·))) = true := by kernel_rfl
set_option maxRecDepth 1000000 in
theorem k14 : ((Rows.seekNamesRow.ifaces == (Tryz.f6.params.toList ++ Rows.seekNamesSpec.plain.varTypes Tryz.prog).any (Tryz.prog.ifacesRec ·))) = true := by kernel_rfl
set_option maxRecDepth 1000000 in
theorem k15 : ((Rows.seekNamesRow.mapsOut == Tryz.prog.mapsAmong Tryz.f6.resultTypes.toList)) = true := by kernel_rfl
set_option maxRecDepth 1000000 in
theorem k16 : ((Rows.seekNamesRow.loops == (Tryz.f6.params.toList ++ Rows.seekNamesSpec.plain.varTypes Tryz.prog).any (Tryz.prog.loopsFrom ·))) = true := by kernel_rfl
set_option maxRecDepth 1000000 in
theorem k17 : ((Rows.seekNamesRow.wideKeys == (Tryz.f6.params.toList ++ Rows.seekNamesSpec.plain.varTypes Tryz.prog ++ Tryz.f6.resultTypes.toList).any (Tryz.prog.wideKeysFrom ·))) = true := by kernel_rfl
set_option maxRecDepth 1000000 in
theorem k18 : (Rows.seekNamesSpec.vars.all (Tryz.prog.varReadable ·)) = true := by kernel_rfl
set_option maxRecDepth 1000000 in
theorem k19 : (Tryz.f6.resultTypes.all (fun t => Tryz.prog.readableRec t && decide (t < Tryz.prog.types.size))) = true := by kernel_rfl
set_option maxRecDepth 1000000 in
theorem k20 : ((Rows.seekNamesRow.ifacesOut == Tryz.f6.resultTypes.toList.any (Tryz.prog.ifacesRec ·))) = true := by kernel_rfl
set_option maxRecDepth 1000000 in
theorem k21 : ((Rows.seekNamesRow.loopsOut == Tryz.f6.resultTypes.toList.any (Tryz.prog.loopsFrom ·))) = true := by kernel_rfl
set_option maxRecDepth 1000000 in
theorem k22 : ((Rows.seekNamesRow.plainKeys == Tryz.prog.plainKeys)) = true := by kernel_rfl
set_option maxRecDepth 1000000 in
theorem k23 : (Rows.seekNamesRow.shortTexts.isNone) = true := by kernel_rfl
set_option maxRecDepth 1000000 in
theorem k24 : (Tryz.prog.stopsHeard) = true := by kernel_rfl
set_option maxRecDepth 1000000 in
theorem k25 : (Tryz.prog.mayEnter) = true := by kernel_rfl
set_option maxRecDepth 1000000 in
theorem k26 : ((Rows.seekNamesRow.lifted == Tryz.prog.liftsFinal)) = true := by kernel_rfl
set_option maxRecDepth 1000000 in
theorem k27 : ((Tryz.prog.make == some Rows.seekNamesRow.make)) = true := by kernel_rfl
set_option maxRecDepth 1000000 in
theorem k28 : ((Rows.seekNamesRow.kinds == (if Rows.seekNamesRow.domain.isEmpty then [] else Tryz.f6.params.toList.map fun t => match Tryz.prog.underlying t with | some (.int k) => some k | _ => none))) = true := by kernel_rfl
set_option maxRecDepth 1000000 in
theorem k29 : ((Rows.seekNamesRow.pinned == Rows.seekNamesRow.pinnedBy)) = true := by kernel_rfl
set_option maxRecDepth 1000000 in
theorem k30 : ((Rows.seekNamesRow.veiled == (Tryz.f6.params.toList ++ Rows.seekNamesSpec.plain.varTypes Tryz.prog ++ Tryz.f6.resultTypes.toList).any (Tryz.prog.veiledRec ·))) = true := by kernel_rfl
set_option maxRecDepth 1000000 in
theorem k31 : (Rows.seekNamesRow.veiledFits Tryz.prog Tryz.f6.params.toList (Tryz.f6.params.toList ++ Rows.seekNamesSpec.plain.varTypes Tryz.prog ++ Tryz.f6.resultTypes.toList)) = true := by kernel_rfl
end Go.Proofs.YtlmpjdionndncaaGreatDoor.RSeekNames
