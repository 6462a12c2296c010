/-
  Texts of this claim, laid together: Mzp54, Mzp55, Mzp56, Mzp57, Mzp58, Mzp59.
-/
import Derived.Test.YtlmpjdionndncaaGreatDoorQac
import Derived.Test.YtlmpjdionndncaaGreatDoorQae

namespace Go.Proofs.YtlmpjdionndncaaGreatDoor.RMergeNames
open Go Go.RowKit Ev
set_option maxRecDepth 1000000 in
theorem part54 : Ev.Reach Tryz.prog st54 st55 :=
 Ev.Reach.segD (Ev.tabF_ok Ev.tab) Ev.runsHook_ok Tryz.checked.mixed (HK := Ev.runsHook) (FT := tabF Tryz.prog) (k := 1394) (bitsT 20381 20485 [18785,18786,20380]) (by kernel_rfl)
set_option maxRecDepth 1000000 in
theorem part55 : Ev.Reach Tryz.prog st55 st56 :=
 Ev.Reach.segD (Ev.tabF_ok Ev.tab) Ev.runsHook_ok Tryz.checked.mixed (HK := Ev.runsHook) (FT := tabF Tryz.prog) (k := 4270) (bitsT 20485 20837 [22,23,24,6027,7644,7664,15977]) (by kernel_rfl)
set_option maxRecDepth 1000000 in
theorem part56 : Ev.Reach Tryz.prog st56 st57 :=
 Ev.Reach.segD (Ev.tabF_ok Ev.tab) Ev.runsHook_ok Tryz.checked.mixed (HK := Ev.runsHook) (FT := tabF Tryz.prog) (k := 4409) (bitsT 20837 21211 [23,24,7643,7646,7664]) (by kernel_rfl)
set_option maxRecDepth 1000000 in
theorem part57 : Ev.Reach Tryz.prog st57 st58 :=
 Ev.Reach.segD (Ev.tabF_ok Ev.tab) Ev.runsHook_ok Tryz.checked.mixed (HK := Ev.runsHook) (FT := tabF Tryz.prog) (k := 2482) (bitsT 21211 21410 [22,23,24,6027,7643,7646,7664,20863]) (by kernel_rfl)
set_option maxRecDepth 1000000 in
theorem part58 : Ev.Reach Tryz.prog st58 st59 :=
 Ev.Reach.segD (Ev.tabF_ok Ev.tab) Ev.runsHook_ok Tryz.checked.mixed (HK := Ev.runsHook) (FT := tabF Tryz.prog) (k := 4211) (bitsT 21410 21753 [22,23,24,6027,7664,20863,20868]) (by kernel_rfl)
set_option maxRecDepth 1000000 in
theorem part59 : Ev.Reach Tryz.prog st59 st60 :=
 Ev.Reach.segD (Ev.tabF_ok Ev.tab) Ev.runsHook_ok Tryz.checked.mixed (HK := Ev.runsHook) (FT := tabF Tryz.prog) (k := 4295) (bitsT 21753 22099 [23,24,7643,7646,7664,20868]) (by kernel_rfl)
end Go.Proofs.YtlmpjdionndncaaGreatDoor.RMergeNames
