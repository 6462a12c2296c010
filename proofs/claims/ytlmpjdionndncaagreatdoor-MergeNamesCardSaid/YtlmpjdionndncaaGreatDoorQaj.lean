/-
  Texts of this claim, laid together: Mzp12, Mzp13, Mzp14, Mzp15, Mzp16, Mzp17.
-/
import Derived.Test.YtlmpjdionndncaaGreatDoorQac
import Derived.Test.YtlmpjdionndncaaGreatDoorQad

namespace Go.Proofs.YtlmpjdionndncaaGreatDoor.RMergeNames
open Go Go.RowKit Ev
set_option maxRecDepth 1000000 in
theorem part12 : Ev.Reach Tryz.prog st12 st13 :=
 Ev.Reach.segD (Ev.tabF_ok Ev.tab) Ev.runsHook_ok Tryz.checked.mixed (HK := Ev.runsHook) (FT := tabF Tryz.prog) (k := 2493) (bitsT 7600 7977 [22,23,24,25,6023,6027,7235]) (by kernel_rfl)
set_option maxRecDepth 1000000 in
theorem part13 : Ev.Reach Tryz.prog st13 st14 :=
 Ev.Reach.segD (Ev.tabF_ok Ev.tab) Ev.runsHook_ok Tryz.checked.mixed (HK := Ev.runsHook) (FT := tabF Tryz.prog) (k := 2571) (bitsT 7977 8439 [23,24,25,6025,7644]) (by kernel_rfl)
set_option maxRecDepth 1000000 in
theorem part14 : Ev.Reach Tryz.prog st14 st15 :=
 Ev.Reach.segD (Ev.tabF_ok Ev.tab) Ev.runsHook_ok Tryz.checked.mixed (HK := Ev.runsHook) (FT := tabF Tryz.prog) (k := 3201) (bitsT 8439 8965 [23,24,25,6025,7643,7646,7653,7655]) (by kernel_rfl)
set_option maxRecDepth 1000000 in
theorem part15 : Ev.Reach Tryz.prog st15 st16 :=
 Ev.Reach.segD (Ev.tabF_ok Ev.tab) Ev.runsHook_ok Tryz.checked.mixed (HK := Ev.runsHook) (FT := tabF Tryz.prog) (k := 2465) (bitsT 8965 9399 [22,23,24]) (by kernel_rfl)
set_option maxRecDepth 1000000 in
theorem part16 : Ev.Reach Tryz.prog st16 st17 :=
 Ev.Reach.segD (Ev.tabF_ok Ev.tab) Ev.runsHook_ok Tryz.checked.mixed (HK := Ev.runsHook) (FT := tabF Tryz.prog) (k := 4283) (bitsT 9399 9712 [7644,8010]) (by kernel_rfl)
set_option maxRecDepth 1000000 in
theorem part17 : Ev.Reach Tryz.prog st17 st18 :=
 Ev.Reach.segD (Ev.tabF_ok Ev.tab) Ev.runsHook_ok Tryz.checked.mixed (HK := Ev.runsHook) (FT := tabF Tryz.prog) (k := 3865) (bitsT 9712 10082 [22,23,24,6027,7643,7644,7646,7664,9424,9429]) (by kernel_rfl)
end Go.Proofs.YtlmpjdionndncaaGreatDoor.RMergeNames
