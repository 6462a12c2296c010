/-
  Texts of this claim, laid together: Kzp15, Kzp16, Kzp17.
-/
import Derived.Test.YtlmpjdionndncaaGreatDoorQac
import Derived.Test.YtlmpjdionndncaaGreatDoorQad

namespace Go.Proofs.YtlmpjdionndncaaGreatDoor.RSeekNames
open Go Go.RowKit Ev
set_option maxRecDepth 1000000 in
theorem part15 : Ev.Reach Tryz.prog st15 st16 :=
 Ev.Reach.segD (Ev.tabF_ok Ev.tab) Ev.runsHook_ok Tryz.checked.mixed (HK := Ev.runsHook) (FT := tabF Tryz.prog) (k := 2998) (bitsT 9332 9816 [25,26,27,7646,7649]) (by kernel_rfl)
set_option maxRecDepth 1000000 in
theorem part16 : Ev.Reach Tryz.prog st16 st17 :=
 Ev.Reach.segD (Ev.tabF_ok Ev.tab) Ev.runsHook_ok Tryz.checked.mixed (HK := Ev.runsHook) (FT := tabF Tryz.prog) (k := 4242) (bitsT 9816 10155 [7647,8013]) (by kernel_rfl)
set_option maxRecDepth 1000000 in
theorem part17 : Ev.Reach Tryz.prog st17 st18 :=
 Ev.Reach.segD (Ev.tabF_ok Ev.tab) Ev.runsHook_ok Tryz.checked.mixed (HK := Ev.runsHook) (FT := tabF Tryz.prog) (k := 3578) (bitsT 10155 10523 [25,26,27,6030,7646,7647,7649,7667]) (by kernel_rfl)
end Go.Proofs.YtlmpjdionndncaaGreatDoor.RSeekNames
