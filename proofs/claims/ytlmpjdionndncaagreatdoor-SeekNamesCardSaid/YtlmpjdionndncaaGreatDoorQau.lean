/-
  Texts of this claim, laid together: Kzp45, Kzp46, Kzp47.
-/
import Derived.Test.YtlmpjdionndncaaGreatDoorQac
import Derived.Test.YtlmpjdionndncaaGreatDoorQad

namespace Go.Proofs.YtlmpjdionndncaaGreatDoor.RSeekNames
open Go Go.RowKit Ev
set_option maxRecDepth 1000000 in
theorem part45 : Ev.Reach Tryz.prog st45 st46 :=
 Ev.Reach.segD (Ev.tabF_ok Ev.tab) Ev.runsHook_ok Tryz.checked.mixed (HK := Ev.runsHook) (FT := tabF Tryz.prog) (k := 2866) (bitsT 17563 17825 [7646,7649,7667]) (by kernel_rfl)
set_option maxRecDepth 1000000 in
theorem part46 : Ev.Reach Tryz.prog st46 st47 :=
 Ev.Reach.segD (Ev.tabF_ok Ev.tab) Ev.runsHook_ok Tryz.checked.mixed (HK := Ev.runsHook) (FT := tabF Tryz.prog) (k := 3656) (bitsT 17825 18111 [25,26,27,6030,7667]) (by kernel_rfl)
set_option maxRecDepth 1000000 in
theorem part47 : Ev.Reach Tryz.prog st47 st48 :=
 Ev.Reach.segD (Ev.tabF_ok Ev.tab) Ev.runsHook_ok Tryz.checked.mixed (HK := Ev.runsHook) (FT := tabF Tryz.prog) (k := 3397) (bitsT 18111 18359 [15513]) (by kernel_rfl)
end Go.Proofs.YtlmpjdionndncaaGreatDoor.RSeekNames
