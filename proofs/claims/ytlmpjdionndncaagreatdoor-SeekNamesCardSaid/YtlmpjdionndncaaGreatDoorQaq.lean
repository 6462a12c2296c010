/-
  Texts of this claim, laid together: Kzp33, Kzp34, Kzp35.
-/
import Derived.Test.YtlmpjdionndncaaGreatDoorQac
import Derived.Test.YtlmpjdionndncaaGreatDoorQad

namespace Go.Proofs.YtlmpjdionndncaaGreatDoor.RSeekNames
open Go Go.RowKit Ev
set_option maxRecDepth 1000000 in
theorem part33 : Ev.Reach Tryz.prog st33 st34 :=
 Ev.Reach.segD (Ev.tabF_ok Ev.tab) Ev.runsHook_ok Tryz.checked.mixed (HK := Ev.runsHook) (FT := tabF Tryz.prog) (k := 4373) (bitsT 14513 14764 []) (by kernel_rfl)
set_option maxRecDepth 1000000 in
theorem part34 : Ev.Reach Tryz.prog st34 st35 :=
 Ev.Reach.segD (Ev.tabF_ok Ev.tab) Ev.runsHook_ok Tryz.checked.mixed (HK := Ev.runsHook) (FT := tabF Tryz.prog) (k := 3436) (bitsT 14764 15034 [25,26,27,6030,7647,7667]) (by kernel_rfl)
set_option maxRecDepth 1000000 in
theorem part35 : Ev.Reach Tryz.prog st35 st36 :=
 Ev.Reach.segD (Ev.tabF_ok Ev.tab) Ev.runsHook_ok Tryz.checked.mixed (HK := Ev.runsHook) (FT := tabF Tryz.prog) (k := 4320) (bitsT 15034 15332 [7647,14819]) (by kernel_rfl)
end Go.Proofs.YtlmpjdionndncaaGreatDoor.RSeekNames
