/-
  Texts of this claim, laid together: Mzp18, Mzp19, Mzp20, Mzp21, Mzp22, Mzp23.
-/
import Derived.Test.YtlmpjdionndncaaGreatDoorQac
import Derived.Test.YtlmpjdionndncaaGreatDoorQad

namespace Go.Proofs.YtlmpjdionndncaaGreatDoor.RMergeNames
open Go Go.RowKit Ev
set_option maxRecDepth 1000000 in
theorem part18 : Ev.Reach Tryz.prog st18 st19 :=
 Ev.Reach.segD (Ev.tabF_ok Ev.tab) Ev.runsHook_ok Tryz.checked.mixed (HK := Ev.runsHook) (FT := tabF Tryz.prog) (k := 4251) (bitsT 10082 10478 [22,23,24,6027,7643,7646,7664,9424]) (by kernel_rfl)
set_option maxRecDepth 1000000 in
theorem part19 : Ev.Reach Tryz.prog st19 st20 :=
 Ev.Reach.segD (Ev.tabF_ok Ev.tab) Ev.runsHook_ok Tryz.checked.mixed (HK := Ev.runsHook) (FT := tabF Tryz.prog) (k := 3685) (bitsT 10478 10823 [22,23,24,6027,7643,7646,7664]) (by kernel_rfl)
set_option maxRecDepth 1000000 in
theorem part20 : Ev.Reach Tryz.prog st20 st21 :=
 Ev.Reach.segD (Ev.tabF_ok Ev.tab) Ev.runsHook_ok Tryz.checked.mixed (HK := Ev.runsHook) (FT := tabF Tryz.prog) (k := 4673) (bitsT 10823 11214 [7643,7644,7646,7664,9848]) (by kernel_rfl)
set_option maxRecDepth 1000000 in
theorem part21 : Ev.Reach Tryz.prog st21 st22 :=
 Ev.Reach.segD (Ev.tabF_ok Ev.tab) Ev.runsHook_ok Tryz.checked.mixed (HK := Ev.runsHook) (FT := tabF Tryz.prog) (k := 4386) (bitsT 11214 11488 [7644,10908]) (by kernel_rfl)
set_option maxRecDepth 1000000 in
theorem part22 : Ev.Reach Tryz.prog st22 st23 :=
 Ev.Reach.segD (Ev.tabF_ok Ev.tab) Ev.runsHook_ok Tryz.checked.mixed (HK := Ev.runsHook) (FT := tabF Tryz.prog) (k := 2723) (bitsT 11488 11643 [10908,10909,11479]) (by kernel_rfl)
set_option maxRecDepth 1000000 in
theorem part23 : Ev.Reach Tryz.prog st23 st24 :=
 Ev.Reach.segD (Ev.tabF_ok Ev.tab) Ev.runsHook_ok Tryz.checked.mixed (HK := Ev.runsHook) (FT := tabF Tryz.prog) (k := 3198) (bitsT 11643 11923 [22,23,24,6027,7644,7664]) (by kernel_rfl)
end Go.Proofs.YtlmpjdionndncaaGreatDoor.RMergeNames
