/-
  Texts of this claim, laid together: Mzp60, Mzp61, Mzp62, Mzp63, Mzp64, Mzp65.
-/
import Derived.Test.YtlmpjdionndncaaGreatDoorQac
import Derived.Test.YtlmpjdionndncaaGreatDoorQae
import Derived.Test.YtlmpjdionndncaaGreatDoorQaf

namespace Go.Proofs.YtlmpjdionndncaaGreatDoor.RMergeNames
open Go Go.RowKit Ev
set_option maxRecDepth 1000000 in
theorem part60 : Ev.Reach Tryz.prog st60 st61 :=
 Ev.Reach.segD (Ev.tabF_ok Ev.tab) Ev.runsHook_ok Tryz.checked.mixed (HK := Ev.runsHook) (FT := tabF Tryz.prog) (k := 2482) (bitsT 22099 22298 [22,23,24,6027,7643,7646,7664,20863]) (by kernel_rfl)
set_option maxRecDepth 1000000 in
theorem part61 : Ev.Reach Tryz.prog st61 st62 :=
 Ev.Reach.segD (Ev.tabF_ok Ev.tab) Ev.runsHook_ok Tryz.checked.mixed (HK := Ev.runsHook) (FT := tabF Tryz.prog) (k := 4223) (bitsT 22298 22645 [22,23,24,6027,7664,20863,20868]) (by kernel_rfl)
set_option maxRecDepth 1000000 in
theorem part62 : Ev.Reach Tryz.prog st62 st63 :=
 Ev.Reach.segD (Ev.tabF_ok Ev.tab) Ev.runsHook_ok Tryz.checked.mixed (HK := Ev.runsHook) (FT := tabF Tryz.prog) (k := 4307) (bitsT 22645 22995 [23,24,7643,7646,7664,20868]) (by kernel_rfl)
set_option maxRecDepth 1000000 in
theorem part63 : Ev.Reach Tryz.prog st63 st64 :=
 Ev.Reach.segD (Ev.tabF_ok Ev.tab) Ev.runsHook_ok Tryz.checked.mixed (HK := Ev.runsHook) (FT := tabF Tryz.prog) (k := 1846) (bitsT 22995 23318 [22,23,24,6027,7664]) (by kernel_rfl)
set_option maxRecDepth 1000000 in
theorem part64 : Ev.Reach Tryz.prog st64 st65 :=
 Ev.Reach.segD (Ev.tabF_ok Ev.tab) Ev.runsHook_ok Tryz.checked.mixed (HK := Ev.runsHook) (FT := tabF Tryz.prog) (k := 9401) (bitsT 23318 23910 [7644,15977]) (by kernel_rfl)
set_option maxRecDepth 1000000 in
theorem part65 : Ev.Reach Tryz.prog st65 st66 :=
 Ev.Reach.segD (Ev.tabF_ok Ev.tab) Ev.runsHook_ok Tryz.checked.mixed (HK := Ev.runsHook) (FT := tabF Tryz.prog) (k := 142) (bitsT 23910 23922 []) (by kernel_rfl)
end Go.Proofs.YtlmpjdionndncaaGreatDoor.RMergeNames
