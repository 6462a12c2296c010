/-
  Texts of this claim, laid together: Mzp84, Mzp85, Mzp86, Mzp87, Mzp88, Mzp89.
-/
import Derived.Test.YtlmpjdionndncaaGreatDoorQac
import Derived.Test.YtlmpjdionndncaaGreatDoorQaf

namespace Go.Proofs.YtlmpjdionndncaaGreatDoor.RMergeNames
open Go Go.RowKit Ev
set_option maxRecDepth 1000000 in
theorem part84 : Ev.Reach Tryz.prog st84 st85 :=
 Ev.Reach.segD (Ev.tabF_ok Ev.tab) Ev.runsHook_ok Tryz.checked.mixed (HK := Ev.runsHook) (FT := tabF Tryz.prog) (k := 2465) (bitsT 33749 34183 [24806,24807,24808]) (by kernel_rfl)
set_option maxRecDepth 1000000 in
theorem part85 : Ev.Reach Tryz.prog st85 st86 :=
 Ev.Reach.segD (Ev.tabF_ok Ev.tab) Ev.runsHook_ok Tryz.checked.mixed (HK := Ev.runsHook) (FT := tabF Tryz.prog) (k := 4283) (bitsT 34183 34496 [32428,32794]) (by kernel_rfl)
set_option maxRecDepth 1000000 in
theorem part86 : Ev.Reach Tryz.prog st86 st87 :=
 Ev.Reach.segD (Ev.tabF_ok Ev.tab) Ev.runsHook_ok Tryz.checked.mixed (HK := Ev.runsHook) (FT := tabF Tryz.prog) (k := 3904) (bitsT 34496 34866 [24806,24807,24808,30811,32427,32428,32430,32448,34208,34213]) (by kernel_rfl)
set_option maxRecDepth 1000000 in
theorem part87 : Ev.Reach Tryz.prog st87 st88 :=
 Ev.Reach.segD (Ev.tabF_ok Ev.tab) Ev.runsHook_ok Tryz.checked.mixed (HK := Ev.runsHook) (FT := tabF Tryz.prog) (k := 4290) (bitsT 34866 35262 [24806,24807,24808,30811,32427,32430,32448,34208]) (by kernel_rfl)
set_option maxRecDepth 1000000 in
theorem part88 : Ev.Reach Tryz.prog st88 st89 :=
 Ev.Reach.segD (Ev.tabF_ok Ev.tab) Ev.runsHook_ok Tryz.checked.mixed (HK := Ev.runsHook) (FT := tabF Tryz.prog) (k := 3685) (bitsT 35262 35607 [24806,24807,24808,30811,32427,32430,32448]) (by kernel_rfl)
set_option maxRecDepth 1000000 in
theorem part89 : Ev.Reach Tryz.prog st89 st90 :=
 Ev.Reach.segD (Ev.tabF_ok Ev.tab) Ev.runsHook_ok Tryz.checked.mixed (HK := Ev.runsHook) (FT := tabF Tryz.prog) (k := 4673) (bitsT 35607 35998 [32427,32428,32430,32448,34632]) (by kernel_rfl)
end Go.Proofs.YtlmpjdionndncaaGreatDoor.RMergeNames
