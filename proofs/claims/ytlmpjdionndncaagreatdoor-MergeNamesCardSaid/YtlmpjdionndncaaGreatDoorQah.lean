/-
  Texts of this claim, laid together: Mzp0, Mzp1, Mzp2, Mzp3, Mzp4, Mzp5.
-/
import Derived.Test.YtlmpjdionndncaaGreatDoorQac

namespace Go.Proofs.YtlmpjdionndncaaGreatDoor.RMergeNames
open Go Go.RowKit Ev
theorem start : startE (tabF Tryz.prog) 5 = some st0 := by kernel_rfl
set_option maxRecDepth 1000000 in
theorem part0 : Ev.Reach Tryz.prog st0 st1 :=
 Ev.Reach.segD (Ev.tabF_ok Ev.tab) Ev.runsHook_ok Tryz.checked.mixed (HK := Ev.runsHook) (FT := tabF Tryz.prog) (k := 4545) (bitsT 0 1759 []) (by kernel_rfl)
set_option maxRecDepth 1000000 in
theorem part1 : Ev.Reach Tryz.prog st1 st2 :=
 Ev.Reach.segD (Ev.tabF_ok Ev.tab) Ev.runsHook_ok Tryz.checked.mixed (HK := Ev.runsHook) (FT := tabF Tryz.prog) (k := 4550) (bitsT 1759 3509 [25]) (by kernel_rfl)
set_option maxRecDepth 1000000 in
theorem part2 : Ev.Reach Tryz.prog st2 st3 :=
 Ev.Reach.segD (Ev.tabF_ok Ev.tab) Ev.runsHook_ok Tryz.checked.mixed (HK := Ev.runsHook) (FT := tabF Tryz.prog) (k := 4550) (bitsT 3509 5259 [25]) (by kernel_rfl)
set_option maxRecDepth 1000000 in
theorem part3 : Ev.Reach Tryz.prog st3 st4 :=
 Ev.Reach.segD (Ev.tabF_ok Ev.tab) Ev.runsHook_ok Tryz.checked.mixed (HK := Ev.runsHook) (FT := tabF Tryz.prog) (k := 4530) (bitsT 5259 6146 [25]) (by kernel_rfl)
set_option maxRecDepth 1000000 in
theorem part4 : Ev.Reach Tryz.prog st4 st5 :=
 Ev.Reach.segD (Ev.tabF_ok Ev.tab) Ev.runsHook_ok Tryz.checked.mixed (HK := Ev.runsHook) (FT := tabF Tryz.prog) (k := 4508) (bitsT 6146 6341 []) (by kernel_rfl)
set_option maxRecDepth 1000000 in
theorem part5 : Ev.Reach Tryz.prog st5 st6 :=
 Ev.Reach.segD (Ev.tabF_ok Ev.tab) Ev.runsHook_ok Tryz.checked.mixed (HK := Ev.runsHook) (FT := tabF Tryz.prog) (k := 4531) (bitsT 6341 6539 []) (by kernel_rfl)
end Go.Proofs.YtlmpjdionndncaaGreatDoor.RMergeNames
