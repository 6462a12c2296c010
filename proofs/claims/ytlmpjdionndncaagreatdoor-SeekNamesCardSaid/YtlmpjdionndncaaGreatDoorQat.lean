/-
  Texts of this claim, laid together: Kzp42, Kzp43, Kzp44.
-/
import Derived.Test.YtlmpjdionndncaaGreatDoorQac
import Derived.Test.YtlmpjdionndncaaGreatDoorQad

namespace Go.Proofs.YtlmpjdionndncaaGreatDoor.RSeekNames
open Go Go.RowKit Ev
set_option maxRecDepth 1000000 in
theorem part42 : Ev.Reach Tryz.prog st42 st43 :=
 Ev.Reach.segD (Ev.tabF_ok Ev.tab) Ev.runsHook_ok Tryz.checked.mixed (HK := Ev.runsHook) (FT := tabF Tryz.prog) (k := 2220) (bitsT 16785 16904 []) (by kernel_rfl)
set_option maxRecDepth 1000000 in
theorem part43 : Ev.Reach Tryz.prog st43 st44 :=
 Ev.Reach.segD (Ev.tabF_ok Ev.tab) Ev.runsHook_ok Tryz.checked.mixed (HK := Ev.runsHook) (FT := tabF Tryz.prog) (k := 3737) (bitsT 16904 17190 [25,26,27,6030,7647,7667,15513]) (by kernel_rfl)
set_option maxRecDepth 1000000 in
theorem part44 : Ev.Reach Tryz.prog st44 st45 :=
 Ev.Reach.segD (Ev.tabF_ok Ev.tab) Ev.runsHook_ok Tryz.checked.mixed (HK := Ev.runsHook) (FT := tabF Tryz.prog) (k := 4155) (bitsT 17190 17563 [25,26,27,6030,7646,7649,7667]) (by kernel_rfl)
end Go.Proofs.YtlmpjdionndncaaGreatDoor.RSeekNames
