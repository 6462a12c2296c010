/-
  Texts of this claim, laid together: Mzp90, Mzp91, Mzp92, Mzp93, Mzp94, Mzp95.
-/
import Derived.Test.YtlmpjdionndncaaGreatDoorQac
import Derived.Test.YtlmpjdionndncaaGreatDoorQaf

namespace Go.Proofs.YtlmpjdionndncaaGreatDoor.RMergeNames
open Go Go.RowKit Ev
set_option maxRecDepth 1000000 in
theorem part90 : Ev.Reach Tryz.prog st90 st91 :=
 Ev.Reach.segD (Ev.tabF_ok Ev.tab) Ev.runsHook_ok Tryz.checked.mixed (HK := Ev.runsHook) (FT := tabF Tryz.prog) (k := 4386) (bitsT 35998 36272 [32428,35692]) (by kernel_rfl)
set_option maxRecDepth 1000000 in
theorem part91 : Ev.Reach Tryz.prog st91 st92 :=
 Ev.Reach.segD (Ev.tabF_ok Ev.tab) Ev.runsHook_ok Tryz.checked.mixed (HK := Ev.runsHook) (FT := tabF Tryz.prog) (k := 2696) (bitsT 36272 36427 [35692,35693,36263]) (by kernel_rfl)
set_option maxRecDepth 1000000 in
theorem part92 : Ev.Reach Tryz.prog st92 st93 :=
 Ev.Reach.segD (Ev.tabF_ok Ev.tab) Ev.runsHook_ok Tryz.checked.mixed (HK := Ev.runsHook) (FT := tabF Tryz.prog) (k := 3198) (bitsT 36427 36707 [24806,24807,24808,30811,32428,32448]) (by kernel_rfl)
set_option maxRecDepth 1000000 in
theorem part93 : Ev.Reach Tryz.prog st93 st94 :=
 Ev.Reach.segD (Ev.tabF_ok Ev.tab) Ev.runsHook_ok Tryz.checked.mixed (HK := Ev.runsHook) (FT := tabF Tryz.prog) (k := 5369) (bitsT 36707 37099 [32427,32428,32430,32448,36473]) (by kernel_rfl)
set_option maxRecDepth 1000000 in
theorem part94 : Ev.Reach Tryz.prog st94 st95 :=
 Ev.Reach.segD (Ev.tabF_ok Ev.tab) Ev.runsHook_ok Tryz.checked.mixed (HK := Ev.runsHook) (FT := tabF Tryz.prog) (k := 4494) (bitsT 37099 37359 [32428,36723]) (by kernel_rfl)
set_option maxRecDepth 1000000 in
theorem part95 : Ev.Reach Tryz.prog st95 st96 :=
 Ev.Reach.segD (Ev.tabF_ok Ev.tab) Ev.runsHook_ok Tryz.checked.mixed (HK := Ev.runsHook) (FT := tabF Tryz.prog) (k := 3457) (bitsT 37359 37556 [36724,37293,37358]) (by kernel_rfl)
end Go.Proofs.YtlmpjdionndncaaGreatDoor.RMergeNames
