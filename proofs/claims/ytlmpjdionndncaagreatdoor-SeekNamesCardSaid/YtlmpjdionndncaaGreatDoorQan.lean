/-
  Texts of this claim, laid together: Kzp24, Kzp25, Kzp26.
-/
import Derived.Test.YtlmpjdionndncaaGreatDoorQac
import Derived.Test.YtlmpjdionndncaaGreatDoorQad

namespace Go.Proofs.YtlmpjdionndncaaGreatDoor.RSeekNames
open Go Go.RowKit Ev
set_option maxRecDepth 1000000 in
theorem part24 : Ev.Reach Tryz.prog st24 st25 :=
 Ev.Reach.segD (Ev.tabF_ok Ev.tab) Ev.runsHook_ok Tryz.checked.mixed (HK := Ev.runsHook) (FT := tabF Tryz.prog) (k := 4035) (bitsT 0 12380 []) (by kernel_rfl)
set_option maxRecDepth 1000000 in
theorem part25 : Ev.Reach Tryz.prog st25 st26 :=
 Ev.Reach.segD (Ev.tabF_ok Ev.tab) Ev.runsHook_ok Tryz.checked.mixed (HK := Ev.runsHook) (FT := tabF Tryz.prog) (k := 4263) (bitsT 12380 12751 [25,26,27,6030,7646,7649,7667,12045]) (by kernel_rfl)
set_option maxRecDepth 1000000 in
theorem part26 : Ev.Reach Tryz.prog st26 st27 :=
 Ev.Reach.segD (Ev.tabF_ok Ev.tab) Ev.runsHook_ok Tryz.checked.mixed (HK := Ev.runsHook) (FT := tabF Tryz.prog) (k := 1753) (bitsT 12751 12973 [25,26,27,6030,7646,7649,7667]) (by kernel_rfl)
end Go.Proofs.YtlmpjdionndncaaGreatDoor.RSeekNames
