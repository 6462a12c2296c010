/-
  Texts of this claim, laid together: Kzp9, Kzp10, Kzp11.
-/
import Derived.Test.YtlmpjdionndncaaGreatDoorQac

namespace Go.Proofs.YtlmpjdionndncaaGreatDoor.RSeekNames
open Go Go.RowKit Ev
set_option maxRecDepth 1000000 in
theorem part9 : Ev.Reach Tryz.prog st9 st10 :=
 Ev.Reach.segD (Ev.tabF_ok Ev.tab) Ev.runsHook_ok Tryz.checked.mixed (HK := Ev.runsHook) (FT := tabF Tryz.prog) (k := 2490) (bitsT 7130 7238 []) (by kernel_rfl)
set_option maxRecDepth 1000000 in
theorem part10 : Ev.Reach Tryz.prog st10 st11 :=
 Ev.Reach.segD (Ev.tabF_ok Ev.tab) Ev.runsHook_ok Tryz.checked.mixed (HK := Ev.runsHook) (FT := tabF Tryz.prog) (k := 4550) (bitsT 7238 7421 []) (by kernel_rfl)
set_option maxRecDepth 1000000 in
theorem part11 : Ev.Reach Tryz.prog st11 st12 :=
 Ev.Reach.segD (Ev.tabF_ok Ev.tab) Ev.runsHook_ok Tryz.checked.mixed (HK := Ev.runsHook) (FT := tabF Tryz.prog) (k := 4550) (bitsT 7421 7603 []) (by kernel_rfl)
end Go.Proofs.YtlmpjdionndncaaGreatDoor.RSeekNames
