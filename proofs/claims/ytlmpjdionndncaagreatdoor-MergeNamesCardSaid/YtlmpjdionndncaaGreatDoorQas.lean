/-
  Texts of this claim, laid together: Mzp66, Mzp67, Mzp68, Mzp69, Mzp70, Mzp71.
-/
import Derived.Test.YtlmpjdionndncaaGreatDoorQac
import Derived.Test.YtlmpjdionndncaaGreatDoorQaf

namespace Go.Proofs.YtlmpjdionndncaaGreatDoor.RMergeNames
open Go Go.RowKit Ev
set_option maxRecDepth 1000000 in
theorem part66 : Ev.Reach Tryz.prog st66 st67 :=
 Ev.Reach.segD (Ev.tabF_ok Ev.tab) Ev.runsHook_ok Tryz.checked.mixed (HK := Ev.runsHook) (FT := tabF Tryz.prog) (k := 5516) (bitsT 23922 24277 [15977]) (by kernel_rfl)
set_option maxRecDepth 1000000 in
theorem part67 : Ev.Reach Tryz.prog st67 st68 :=
 Ev.Reach.segD (Ev.tabF_ok Ev.tab) Ev.runsHook_ok Tryz.checked.mixed (HK := Ev.runsHook) (FT := tabF Tryz.prog) (k := 272) (bitsT 24277 24318 []) (by kernel_rfl)
set_option maxRecDepth 1000000 in
theorem part68 : Ev.Reach Tryz.prog st68 st69 :=
 Ev.Reach.segD (Ev.tabF_ok Ev.tab) Ev.runsHook_ok Tryz.checked.mixed (HK := Ev.runsHook) (FT := tabF Tryz.prog) (k := 6896) (bitsT 24318 24773 [15977]) (by kernel_rfl)
set_option maxRecDepth 1000000 in
theorem part69 : Ev.Reach Tryz.prog st69 st70 :=
 Ev.Reach.segD (Ev.tabF_ok Ev.tab) Ev.runsHook_ok Tryz.checked.mixed (HK := Ev.runsHook) (FT := tabF Tryz.prog) (k := 4547) (bitsT 24773 26503 []) (by kernel_rfl)
set_option maxRecDepth 1000000 in
theorem part70 : Ev.Reach Tryz.prog st70 st71 :=
 Ev.Reach.segD (Ev.tabF_ok Ev.tab) Ev.runsHook_ok Tryz.checked.mixed (HK := Ev.runsHook) (FT := tabF Tryz.prog) (k := 4550) (bitsT 26503 28253 [24809]) (by kernel_rfl)
set_option maxRecDepth 1000000 in
theorem part71 : Ev.Reach Tryz.prog st71 st72 :=
 Ev.Reach.segD (Ev.tabF_ok Ev.tab) Ev.runsHook_ok Tryz.checked.mixed (HK := Ev.runsHook) (FT := tabF Tryz.prog) (k := 4550) (bitsT 28253 30003 [24809]) (by kernel_rfl)
end Go.Proofs.YtlmpjdionndncaaGreatDoor.RMergeNames
