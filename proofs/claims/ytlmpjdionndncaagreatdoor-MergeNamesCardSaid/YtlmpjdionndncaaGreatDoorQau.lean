/-
  Texts of this claim, laid together: Mzp78, Mzp79, Mzp80, Mzp81, Mzp82, Mzp83.
-/
import Derived.Test.YtlmpjdionndncaaGreatDoorQac
import Derived.Test.YtlmpjdionndncaaGreatDoorQaf

namespace Go.Proofs.YtlmpjdionndncaaGreatDoor.RMergeNames
open Go Go.RowKit Ev
set_option maxRecDepth 1000000 in
theorem part78 : Ev.Reach Tryz.prog st78 st79 :=
 Ev.Reach.segD (Ev.tabF_ok Ev.tab) Ev.runsHook_ok Tryz.checked.mixed (HK := Ev.runsHook) (FT := tabF Tryz.prog) (k := 2582) (bitsT 31908 32019 []) (by kernel_rfl)
set_option maxRecDepth 1000000 in
theorem part79 : Ev.Reach Tryz.prog st79 st80 :=
 Ev.Reach.segD (Ev.tabF_ok Ev.tab) Ev.runsHook_ok Tryz.checked.mixed (HK := Ev.runsHook) (FT := tabF Tryz.prog) (k := 4550) (bitsT 32019 32202 []) (by kernel_rfl)
set_option maxRecDepth 1000000 in
theorem part80 : Ev.Reach Tryz.prog st80 st81 :=
 Ev.Reach.segD (Ev.tabF_ok Ev.tab) Ev.runsHook_ok Tryz.checked.mixed (HK := Ev.runsHook) (FT := tabF Tryz.prog) (k := 4550) (bitsT 32202 32384 []) (by kernel_rfl)
set_option maxRecDepth 1000000 in
theorem part81 : Ev.Reach Tryz.prog st81 st82 :=
 Ev.Reach.segD (Ev.tabF_ok Ev.tab) Ev.runsHook_ok Tryz.checked.mixed (HK := Ev.runsHook) (FT := tabF Tryz.prog) (k := 2493) (bitsT 32384 32761 [24806,24807,24808,24809,30807,30811,32019]) (by kernel_rfl)
set_option maxRecDepth 1000000 in
theorem part82 : Ev.Reach Tryz.prog st82 st83 :=
 Ev.Reach.segD (Ev.tabF_ok Ev.tab) Ev.runsHook_ok Tryz.checked.mixed (HK := Ev.runsHook) (FT := tabF Tryz.prog) (k := 2571) (bitsT 32761 33223 [24807,24808,24809,30809,32428]) (by kernel_rfl)
set_option maxRecDepth 1000000 in
theorem part83 : Ev.Reach Tryz.prog st83 st84 :=
 Ev.Reach.segD (Ev.tabF_ok Ev.tab) Ev.runsHook_ok Tryz.checked.mixed (HK := Ev.runsHook) (FT := tabF Tryz.prog) (k := 3201) (bitsT 33223 33749 [24807,24808,24809,30809,32427,32430,32437,32439]) (by kernel_rfl)
end Go.Proofs.YtlmpjdionndncaaGreatDoor.RMergeNames
