/-
  Texts of this claim, laid together: Kzp70, Kzp71, Kzp72.
-/
import Derived.Test.YtlmpjdionndncaaGreatDoorQac
import Derived.Test.YtlmpjdionndncaaGreatDoorQae

namespace Go.Proofs.YtlmpjdionndncaaGreatDoor.RSeekNames
open Go Go.RowKit Ev
set_option maxRecDepth 1000000 in
theorem part70 : Ev.Reach Tryz.prog st70 st71 :=
 Ev.Reach.segD (Ev.tabF_ok Ev.tab) Ev.runsHook_ok Tryz.checked.mixed (HK := Ev.runsHook) (FT := tabF Tryz.prog) (k := 2698) (bitsT 30105 30582 [22151,22152,22153,28153,29771,29772,29774,29781,29783]) (by kernel_rfl)
set_option maxRecDepth 1000000 in
theorem part71 : Ev.Reach Tryz.prog st71 st72 :=
 Ev.Reach.segD (Ev.tabF_ok Ev.tab) Ev.runsHook_ok Tryz.checked.mixed (HK := Ev.runsHook) (FT := tabF Tryz.prog) (k := 4500) (bitsT 30582 31457 [22151,22152,22153,28153,29771,29774,29781,29783]) (by kernel_rfl)
set_option maxRecDepth 1000000 in
theorem part72 : Ev.Reach Tryz.prog st72 st73 :=
 Ev.Reach.segD (Ev.tabF_ok Ev.tab) Ev.runsHook_ok Tryz.checked.mixed (HK := Ev.runsHook) (FT := tabF Tryz.prog) (k := 2998) (bitsT 0 31941 []) (by kernel_rfl)
end Go.Proofs.YtlmpjdionndncaaGreatDoor.RSeekNames
