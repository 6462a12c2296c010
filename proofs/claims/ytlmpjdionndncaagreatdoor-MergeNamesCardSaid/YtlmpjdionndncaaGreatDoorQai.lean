/-
  Texts of this claim, laid together: Mzp6, Mzp7, Mzp8, Mzp9, Mzp10, Mzp11.
-/
import Derived.Test.YtlmpjdionndncaaGreatDoorQac

namespace Go.Proofs.YtlmpjdionndncaaGreatDoor.RMergeNames
open Go Go.RowKit Ev
set_option maxRecDepth 1000000 in
theorem part6 : Ev.Reach Tryz.prog st6 st7 :=
 Ev.Reach.segD (Ev.tabF_ok Ev.tab) Ev.runsHook_ok Tryz.checked.mixed (HK := Ev.runsHook) (FT := tabF Tryz.prog) (k := 4508) (bitsT 6539 6734 []) (by kernel_rfl)
set_option maxRecDepth 1000000 in
theorem part7 : Ev.Reach Tryz.prog st7 st8 :=
 Ev.Reach.segD (Ev.tabF_ok Ev.tab) Ev.runsHook_ok Tryz.checked.mixed (HK := Ev.runsHook) (FT := tabF Tryz.prog) (k := 4531) (bitsT 6734 6932 []) (by kernel_rfl)
set_option maxRecDepth 1000000 in
theorem part8 : Ev.Reach Tryz.prog st8 st9 :=
 Ev.Reach.segD (Ev.tabF_ok Ev.tab) Ev.runsHook_ok Tryz.checked.mixed (HK := Ev.runsHook) (FT := tabF Tryz.prog) (k := 4508) (bitsT 6932 7127 []) (by kernel_rfl)
set_option maxRecDepth 1000000 in
theorem part9 : Ev.Reach Tryz.prog st9 st10 :=
 Ev.Reach.segD (Ev.tabF_ok Ev.tab) Ev.runsHook_ok Tryz.checked.mixed (HK := Ev.runsHook) (FT := tabF Tryz.prog) (k := 2490) (bitsT 7127 7235 []) (by kernel_rfl)
set_option maxRecDepth 1000000 in
theorem part10 : Ev.Reach Tryz.prog st10 st11 :=
 Ev.Reach.segD (Ev.tabF_ok Ev.tab) Ev.runsHook_ok Tryz.checked.mixed (HK := Ev.runsHook) (FT := tabF Tryz.prog) (k := 4550) (bitsT 7235 7418 []) (by kernel_rfl)
set_option maxRecDepth 1000000 in
theorem part11 : Ev.Reach Tryz.prog st11 st12 :=
 Ev.Reach.segD (Ev.tabF_ok Ev.tab) Ev.runsHook_ok Tryz.checked.mixed (HK := Ev.runsHook) (FT := tabF Tryz.prog) (k := 4550) (bitsT 7418 7600 []) (by kernel_rfl)
end Go.Proofs.YtlmpjdionndncaaGreatDoor.RMergeNames
