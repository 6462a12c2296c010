/-
  Texts of this claim, laid together: Mzp36, Mzp37, Mzp38, Mzp39, Mzp40, Mzp41.
-/
import Derived.Test.YtlmpjdionndncaaGreatDoorQac
import Derived.Test.YtlmpjdionndncaaGreatDoorQad

namespace Go.Proofs.YtlmpjdionndncaaGreatDoor.RMergeNames
open Go Go.RowKit Ev
set_option maxRecDepth 1000000 in
theorem part36 : Ev.Reach Tryz.prog st36 st37 :=
 Ev.Reach.segD (Ev.tabF_ok Ev.tab) Ev.runsHook_ok Tryz.checked.mixed (HK := Ev.runsHook) (FT := tabF Tryz.prog) (k := 4170) (bitsT 15000 15365 [22,23,24,6027,7644,7664]) (by kernel_rfl)
set_option maxRecDepth 1000000 in
theorem part37 : Ev.Reach Tryz.prog st37 st38 :=
 Ev.Reach.segD (Ev.tabF_ok Ev.tab) Ev.runsHook_ok Tryz.checked.mixed (HK := Ev.runsHook) (FT := tabF Tryz.prog) (k := 4092) (bitsT 15365 15695 [7643,7644,7664,15057]) (by kernel_rfl)
set_option maxRecDepth 1000000 in
theorem part38 : Ev.Reach Tryz.prog st38 st39 :=
 Ev.Reach.segD (Ev.tabF_ok Ev.tab) Ev.runsHook_ok Tryz.checked.mixed (HK := Ev.runsHook) (FT := tabF Tryz.prog) (k := 2906) (bitsT 15695 15858 [15692]) (by kernel_rfl)
set_option maxRecDepth 1000000 in
theorem part39 : Ev.Reach Tryz.prog st39 st40 :=
 Ev.Reach.segD (Ev.tabF_ok Ev.tab) Ev.runsHook_ok Tryz.checked.mixed (HK := Ev.runsHook) (FT := tabF Tryz.prog) (k := 4160) (bitsT 15858 16217 [22,23,24,6027,7643,7644,7646,7664]) (by kernel_rfl)
set_option maxRecDepth 1000000 in
theorem part40 : Ev.Reach Tryz.prog st40 st41 :=
 Ev.Reach.segD (Ev.tabF_ok Ev.tab) Ev.runsHook_ok Tryz.checked.mixed (HK := Ev.runsHook) (FT := tabF Tryz.prog) (k := 2473) (bitsT 16217 16533 [22,23,24,6027,7643,7646,7664,15977]) (by kernel_rfl)
set_option maxRecDepth 1000000 in
theorem part41 : Ev.Reach Tryz.prog st41 st42 :=
 Ev.Reach.segD (Ev.tabF_ok Ev.tab) Ev.runsHook_ok Tryz.checked.mixed (HK := Ev.runsHook) (FT := tabF Tryz.prog) (k := 4169) (bitsT 16533 16862 [22,23,24,6027,7664,16429,16434]) (by kernel_rfl)
end Go.Proofs.YtlmpjdionndncaaGreatDoor.RMergeNames
