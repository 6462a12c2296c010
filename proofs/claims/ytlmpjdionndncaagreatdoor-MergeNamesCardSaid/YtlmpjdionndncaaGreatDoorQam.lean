/-
  Texts of this claim, laid together: Mzp30, Mzp31, Mzp32, Mzp33, Mzp34, Mzp35.
-/
import Derived.Test.YtlmpjdionndncaaGreatDoorQac
import Derived.Test.YtlmpjdionndncaaGreatDoorQad

namespace Go.Proofs.YtlmpjdionndncaaGreatDoor.RMergeNames
open Go Go.RowKit Ev
set_option maxRecDepth 1000000 in
theorem part30 : Ev.Reach Tryz.prog st30 st31 :=
 Ev.Reach.segD (Ev.tabF_ok Ev.tab) Ev.runsHook_ok Tryz.checked.mixed (HK := Ev.runsHook) (FT := tabF Tryz.prog) (k := 3824) (bitsT 13343 13653 [22,23,24,6027,7664,13183,13188]) (by kernel_rfl)
set_option maxRecDepth 1000000 in
theorem part31 : Ev.Reach Tryz.prog st31 st32 :=
 Ev.Reach.segD (Ev.tabF_ok Ev.tab) Ev.runsHook_ok Tryz.checked.mixed (HK := Ev.runsHook) (FT := tabF Tryz.prog) (k := 2050) (bitsT 13653 13807 [7643,7646,7664,13188]) (by kernel_rfl)
set_option maxRecDepth 1000000 in
theorem part32 : Ev.Reach Tryz.prog st32 st33 :=
 Ev.Reach.segD (Ev.tabF_ok Ev.tab) Ev.runsHook_ok Tryz.checked.mixed (HK := Ev.runsHook) (FT := tabF Tryz.prog) (k := 3830) (bitsT 13807 14119 [22,23,24,6027,7664,13183,13188]) (by kernel_rfl)
set_option maxRecDepth 1000000 in
theorem part33 : Ev.Reach Tryz.prog st33 st34 :=
 Ev.Reach.segD (Ev.tabF_ok Ev.tab) Ev.runsHook_ok Tryz.checked.mixed (HK := Ev.runsHook) (FT := tabF Tryz.prog) (k := 4273) (bitsT 14119 14468 [22,23,24,6027,7643,7646,7664,13188]) (by kernel_rfl)
set_option maxRecDepth 1000000 in
theorem part34 : Ev.Reach Tryz.prog st34 st35 :=
 Ev.Reach.segD (Ev.tabF_ok Ev.tab) Ev.runsHook_ok Tryz.checked.mixed (HK := Ev.runsHook) (FT := tabF Tryz.prog) (k := 4392) (bitsT 14468 14856 [22,23,24,6027,7644,12899]) (by kernel_rfl)
set_option maxRecDepth 1000000 in
theorem part35 : Ev.Reach Tryz.prog st35 st36 :=
 Ev.Reach.segD (Ev.tabF_ok Ev.tab) Ev.runsHook_ok Tryz.checked.mixed (HK := Ev.runsHook) (FT := tabF Tryz.prog) (k := 1975) (bitsT 14856 15000 [7643,7646,7664,14853]) (by kernel_rfl)
end Go.Proofs.YtlmpjdionndncaaGreatDoor.RMergeNames
