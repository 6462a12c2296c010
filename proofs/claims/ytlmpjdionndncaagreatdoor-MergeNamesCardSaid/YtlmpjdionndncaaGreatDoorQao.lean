/-
  Texts of this claim, laid together: Mzp42, Mzp43, Mzp44, Mzp45, Mzp46, Mzp47.
-/
import Derived.Test.YtlmpjdionndncaaGreatDoorQac
import Derived.Test.YtlmpjdionndncaaGreatDoorQad
import Derived.Test.YtlmpjdionndncaaGreatDoorQae

namespace Go.Proofs.YtlmpjdionndncaaGreatDoor.RMergeNames
open Go Go.RowKit Ev
set_option maxRecDepth 1000000 in
theorem part42 : Ev.Reach Tryz.prog st42 st43 :=
 Ev.Reach.segD (Ev.tabF_ok Ev.tab) Ev.runsHook_ok Tryz.checked.mixed (HK := Ev.runsHook) (FT := tabF Tryz.prog) (k := 4253) (bitsT 16862 17194 [23,24,7643,7646,7664,16434]) (by kernel_rfl)
set_option maxRecDepth 1000000 in
theorem part43 : Ev.Reach Tryz.prog st43 st44 :=
 Ev.Reach.segD (Ev.tabF_ok Ev.tab) Ev.runsHook_ok Tryz.checked.mixed (HK := Ev.runsHook) (FT := tabF Tryz.prog) (k := 2482) (bitsT 17194 17393 [22,23,24,6027,7643,7646,7664,16429]) (by kernel_rfl)
set_option maxRecDepth 1000000 in
theorem part44 : Ev.Reach Tryz.prog st44 st45 :=
 Ev.Reach.segD (Ev.tabF_ok Ev.tab) Ev.runsHook_ok Tryz.checked.mixed (HK := Ev.runsHook) (FT := tabF Tryz.prog) (k := 4181) (bitsT 17393 17726 [22,23,24,6027,7664,16429,16434]) (by kernel_rfl)
set_option maxRecDepth 1000000 in
theorem part45 : Ev.Reach Tryz.prog st45 st46 :=
 Ev.Reach.segD (Ev.tabF_ok Ev.tab) Ev.runsHook_ok Tryz.checked.mixed (HK := Ev.runsHook) (FT := tabF Tryz.prog) (k := 4265) (bitsT 17726 18062 [23,24,7643,7646,7664,16434]) (by kernel_rfl)
set_option maxRecDepth 1000000 in
theorem part46 : Ev.Reach Tryz.prog st46 st47 :=
 Ev.Reach.segD (Ev.tabF_ok Ev.tab) Ev.runsHook_ok Tryz.checked.mixed (HK := Ev.runsHook) (FT := tabF Tryz.prog) (k := 2482) (bitsT 18062 18261 [22,23,24,6027,7643,7646,7664,16429]) (by kernel_rfl)
set_option maxRecDepth 1000000 in
theorem part47 : Ev.Reach Tryz.prog st47 st48 :=
 Ev.Reach.segD (Ev.tabF_ok Ev.tab) Ev.runsHook_ok Tryz.checked.mixed (HK := Ev.runsHook) (FT := tabF Tryz.prog) (k := 4199) (bitsT 18261 18598 [22,23,24,6027,7664]) (by kernel_rfl)
end Go.Proofs.YtlmpjdionndncaaGreatDoor.RMergeNames
