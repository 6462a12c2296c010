/-
  Texts of this claim, laid together: Kzp36, Kzp37, Kzp38.
-/
import Derived.Test.YtlmpjdionndncaaGreatDoorQac
import Derived.Test.YtlmpjdionndncaaGreatDoorQad

namespace Go.Proofs.YtlmpjdionndncaaGreatDoor.RSeekNames
open Go Go.RowKit Ev
set_option maxRecDepth 1000000 in
theorem part36 : Ev.Reach Tryz.prog st36 st37 :=
 Ev.Reach.segD (Ev.tabF_ok Ev.tab) Ev.runsHook_ok Tryz.checked.mixed (HK := Ev.runsHook) (FT := tabF Tryz.prog) (k := 4474) (bitsT 15332 15685 [26,27,7646,7647,7649,7667]) (by kernel_rfl)
set_option maxRecDepth 1000000 in
theorem part37 : Ev.Reach Tryz.prog st37 st38 :=
 Ev.Reach.segD (Ev.tabF_ok Ev.tab) Ev.runsHook_ok Tryz.checked.mixed (HK := Ev.runsHook) (FT := tabF Tryz.prog) (k := 2641) (bitsT 15685 15923 [25,26,27,6030,7646,7649,7667,15513]) (by kernel_rfl)
set_option maxRecDepth 1000000 in
theorem part38 : Ev.Reach Tryz.prog st38 st39 :=
 Ev.Reach.segD (Ev.tabF_ok Ev.tab) Ev.runsHook_ok Tryz.checked.mixed (HK := Ev.runsHook) (FT := tabF Tryz.prog) (k := 4256) (bitsT 15923 16194 [7647,15513]) (by kernel_rfl)
end Go.Proofs.YtlmpjdionndncaaGreatDoor.RSeekNames
