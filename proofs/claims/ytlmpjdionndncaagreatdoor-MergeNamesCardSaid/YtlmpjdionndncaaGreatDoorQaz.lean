/-
  Texts of this claim, laid together: Mzj, Mzjc.
-/
import Derived.Test.YtlmpjdionndncaaGreatDoorQay
import Derived.Test.YtlmpjdionndncaaGreatDoorCards
import Derived.Test.YtlmpjdionndncaaGreatDoorTie
import Derived.SevenTiedAt
import Derived.KernelRfl

namespace Go.Proofs.YtlmpjdionndncaaGreatDoor.RMergeNames
open Go Go.ChangeShapes Go.WideShapes
set_option maxRecDepth 1000000 in
theorem jf : joinedFacts Tryz.prog 5 Tryz.f5 Rows.mergeNamesSpec Rows.mergeNamesRow = true := by
 unfold joinedFacts
 exact (both (both (both (both (both (both (both (both (both (both (both (both (both (both (both (both (both (both (both (both (both (both (both (both (both (both (both (both (both (both (both k0 k1) k2) k3) k4) k5) k6) k7) k8) k9) k10) k11) k12) k13) k14) k15) k16) k17) k18) k19) k20) k21) k22) k23) k24) k25) k26) k27) k28) k29) k30) k31)
set_option maxRecDepth 1000000 in
theorem cw : Rows.mergeNamesRow.wfByText (OpenSpec.ofChange Rows.mergeNamesSpec) = true := by kernel_rfl
set_option maxRecDepth 1000000 in
theorem cm : Tryz.pinned.checked.prog.mainIs = some (true, "958f70530007b389710de9c1b407bb97ab38853ba0222182a722152f40baa8d1".toList) := by kernel_rfl
set_option maxRecDepth 1000000 in
theorem ck : false = Tryz.pinned.checked.prog.looks [] := by kernel_rfl
set_option maxRecDepth 1000000 in
theorem cg : false = Rows.mergeNamesRow.goesBy Tryz.pinned.checked.prog := by kernel_rfl
set_option maxRecDepth 1000000 in
theorem cn : Tryz.prog.funcNamed "quadrat/quadratlaw27.MergeNames" = some 5 := by kernel_rfl
end Go.Proofs.YtlmpjdionndncaaGreatDoor.RMergeNames
