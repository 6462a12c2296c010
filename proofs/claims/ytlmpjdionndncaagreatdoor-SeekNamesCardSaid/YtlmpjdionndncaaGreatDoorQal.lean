/-
  Texts of this claim, laid together: Kzp18, Kzp19, Kzp20.
-/
import Derived.Test.YtlmpjdionndncaaGreatDoorQac
import Derived.Test.YtlmpjdionndncaaGreatDoorQad

namespace Go.Proofs.YtlmpjdionndncaaGreatDoor.RSeekNames
open Go Go.RowKit Ev
set_option maxRecDepth 1000000 in
theorem part18 : Ev.Reach Tryz.prog st18 st19 :=
 Ev.Reach.segD (Ev.tabF_ok Ev.tab) Ev.runsHook_ok Tryz.checked.mixed (HK := Ev.runsHook) (FT := tabF Tryz.prog) (k := 4135) (bitsT 10523 10809 [7646,7647,7649,7667,10251]) (by kernel_rfl)
set_option maxRecDepth 1000000 in
theorem part19 : Ev.Reach Tryz.prog st19 st20 :=
 Ev.Reach.segD (Ev.tabF_ok Ev.tab) Ev.runsHook_ok Tryz.checked.mixed (HK := Ev.runsHook) (FT := tabF Tryz.prog) (k := 4238) (bitsT 10809 11081 [7647]) (by kernel_rfl)
set_option maxRecDepth 1000000 in
theorem part20 : Ev.Reach Tryz.prog st20 st21 :=
 Ev.Reach.segD (Ev.tabF_ok Ev.tab) Ev.runsHook_ok Tryz.checked.mixed (HK := Ev.runsHook) (FT := tabF Tryz.prog) (k := 2824) (bitsT 11081 11258 [11031]) (by kernel_rfl)
end Go.Proofs.YtlmpjdionndncaaGreatDoor.RSeekNames
