/-
  Texts of this claim, laid together: Kzp67, Kzp68, Kzp69.
-/
import Derived.Test.YtlmpjdionndncaaGreatDoorQac
import Derived.Test.YtlmpjdionndncaaGreatDoorQae

namespace Go.Proofs.YtlmpjdionndncaaGreatDoor.RSeekNames
open Go Go.RowKit Ev
set_option maxRecDepth 1000000 in
theorem part67 : Ev.Reach Tryz.prog st67 st68 :=
 Ev.Reach.segD (Ev.tabF_ok Ev.tab) Ev.runsHook_ok Tryz.checked.mixed (HK := Ev.runsHook) (FT := tabF Tryz.prog) (k := 4550) (bitsT 29363 29546 []) (by kernel_rfl)
set_option maxRecDepth 1000000 in
theorem part68 : Ev.Reach Tryz.prog st68 st69 :=
 Ev.Reach.segD (Ev.tabF_ok Ev.tab) Ev.runsHook_ok Tryz.checked.mixed (HK := Ev.runsHook) (FT := tabF Tryz.prog) (k := 4550) (bitsT 29546 29728 []) (by kernel_rfl)
set_option maxRecDepth 1000000 in
theorem part69 : Ev.Reach Tryz.prog st69 st70 :=
 Ev.Reach.segD (Ev.tabF_ok Ev.tab) Ev.runsHook_ok Tryz.checked.mixed (HK := Ev.runsHook) (FT := tabF Tryz.prog) (k := 2493) (bitsT 29728 30105 [22150,22151,22152,22153,28151,28155,29363]) (by kernel_rfl)
end Go.Proofs.YtlmpjdionndncaaGreatDoor.RSeekNames
