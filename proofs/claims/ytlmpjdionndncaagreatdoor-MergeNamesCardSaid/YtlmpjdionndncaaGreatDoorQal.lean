/-
  Texts of this claim, laid together: Mzp24, Mzp25, Mzp26, Mzp27, Mzp28, Mzp29.
-/
import Derived.Test.YtlmpjdionndncaaGreatDoorQac
import Derived.Test.YtlmpjdionndncaaGreatDoorQad

namespace Go.Proofs.YtlmpjdionndncaaGreatDoor.RMergeNames
open Go Go.RowKit Ev
set_option maxRecDepth 1000000 in
theorem part24 : Ev.Reach Tryz.prog st24 st25 :=
 Ev.Reach.segD (Ev.tabF_ok Ev.tab) Ev.runsHook_ok Tryz.checked.mixed (HK := Ev.runsHook) (FT := tabF Tryz.prog) (k := 5369) (bitsT 0 12315 []) (by kernel_rfl)
set_option maxRecDepth 1000000 in
theorem part25 : Ev.Reach Tryz.prog st25 st26 :=
 Ev.Reach.segD (Ev.tabF_ok Ev.tab) Ev.runsHook_ok Tryz.checked.mixed (HK := Ev.runsHook) (FT := tabF Tryz.prog) (k := 4494) (bitsT 12315 12575 [7644,11939]) (by kernel_rfl)
set_option maxRecDepth 1000000 in
theorem part26 : Ev.Reach Tryz.prog st26 st27 :=
 Ev.Reach.segD (Ev.tabF_ok Ev.tab) Ev.runsHook_ok Tryz.checked.mixed (HK := Ev.runsHook) (FT := tabF Tryz.prog) (k := 3453) (bitsT 12575 12758 [11939,11940,12509,12574]) (by kernel_rfl)
set_option maxRecDepth 1000000 in
theorem part27 : Ev.Reach Tryz.prog st27 st28 :=
 Ev.Reach.segD (Ev.tabF_ok Ev.tab) Ev.runsHook_ok Tryz.checked.mixed (HK := Ev.runsHook) (FT := tabF Tryz.prog) (k := 1710) (bitsT 12758 12848 [11939,11940,12574]) (by kernel_rfl)
set_option maxRecDepth 1000000 in
theorem part28 : Ev.Reach Tryz.prog st28 st29 :=
 Ev.Reach.segD (Ev.tabF_ok Ev.tab) Ev.runsHook_ok Tryz.checked.mixed (HK := Ev.runsHook) (FT := tabF Tryz.prog) (k := 3727) (bitsT 12848 13157 [22,23,24,6027,7644,7664]) (by kernel_rfl)
set_option maxRecDepth 1000000 in
theorem part29 : Ev.Reach Tryz.prog st29 st30 :=
 Ev.Reach.segD (Ev.tabF_ok Ev.tab) Ev.runsHook_ok Tryz.checked.mixed (HK := Ev.runsHook) (FT := tabF Tryz.prog) (k := 2187) (bitsT 13157 13343 [7643,7646,7664]) (by kernel_rfl)
end Go.Proofs.YtlmpjdionndncaaGreatDoor.RMergeNames
