/-
  Texts of this claim, laid together: Kzp21, Kzp22, Kzp23.
-/
import Derived.Test.YtlmpjdionndncaaGreatDoorQac
import Derived.Test.YtlmpjdionndncaaGreatDoorQad

namespace Go.Proofs.YtlmpjdionndncaaGreatDoor.RSeekNames
open Go Go.RowKit Ev
set_option maxRecDepth 1000000 in
theorem part21 : Ev.Reach Tryz.prog st21 st22 :=
 Ev.Reach.segD (Ev.tabF_ok Ev.tab) Ev.runsHook_ok Tryz.checked.mixed (HK := Ev.runsHook) (FT := tabF Tryz.prog) (k := 3397) (bitsT 11258 11482 [11031]) (by kernel_rfl)
set_option maxRecDepth 1000000 in
theorem part22 : Ev.Reach Tryz.prog st22 st23 :=
 Ev.Reach.segD (Ev.tabF_ok Ev.tab) Ev.runsHook_ok Tryz.checked.mixed (HK := Ev.runsHook) (FT := tabF Tryz.prog) (k := 3926) (bitsT 11482 11738 []) (by kernel_rfl)
set_option maxRecDepth 1000000 in
theorem part23 : Ev.Reach Tryz.prog st23 st24 :=
 Ev.Reach.segD (Ev.tabF_ok Ev.tab) Ev.runsHook_ok Tryz.checked.mixed (HK := Ev.runsHook) (FT := tabF Tryz.prog) (k := 3022) (bitsT 11738 11995 [25,26,27,6030,7647,7667]) (by kernel_rfl)
end Go.Proofs.YtlmpjdionndncaaGreatDoor.RSeekNames
