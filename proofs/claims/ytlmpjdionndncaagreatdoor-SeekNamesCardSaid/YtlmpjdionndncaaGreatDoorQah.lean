/-
  Texts of this claim, laid together: Kzp6, Kzp7, Kzp8.
-/
import Derived.Test.YtlmpjdionndncaaGreatDoorQac

namespace Go.Proofs.YtlmpjdionndncaaGreatDoor.RSeekNames
open Go Go.RowKit Ev
set_option maxRecDepth 1000000 in
theorem part6 : Ev.Reach Tryz.prog st6 st7 :=
 Ev.Reach.segD (Ev.tabF_ok Ev.tab) Ev.runsHook_ok Tryz.checked.mixed (HK := Ev.runsHook) (FT := tabF Tryz.prog) (k := 4508) (bitsT 6542 6737 []) (by kernel_rfl)
set_option maxRecDepth 1000000 in
theorem part7 : Ev.Reach Tryz.prog st7 st8 :=
 Ev.Reach.segD (Ev.tabF_ok Ev.tab) Ev.runsHook_ok Tryz.checked.mixed (HK := Ev.runsHook) (FT := tabF Tryz.prog) (k := 4531) (bitsT 6737 6935 []) (by kernel_rfl)
set_option maxRecDepth 1000000 in
theorem part8 : Ev.Reach Tryz.prog st8 st9 :=
 Ev.Reach.segD (Ev.tabF_ok Ev.tab) Ev.runsHook_ok Tryz.checked.mixed (HK := Ev.runsHook) (FT := tabF Tryz.prog) (k := 4508) (bitsT 6935 7130 []) (by kernel_rfl)
end Go.Proofs.YtlmpjdionndncaaGreatDoor.RSeekNames
