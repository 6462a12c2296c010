/-
  Texts of this claim, laid together: Kzp64, Kzp65, Kzp66.
-/
import Derived.Test.YtlmpjdionndncaaGreatDoorQac
import Derived.Test.YtlmpjdionndncaaGreatDoorQae

namespace Go.Proofs.YtlmpjdionndncaaGreatDoor.RSeekNames
open Go Go.RowKit Ev
set_option maxRecDepth 1000000 in
theorem part64 : Ev.Reach Tryz.prog st64 st65 :=
 Ev.Reach.segD (Ev.tabF_ok Ev.tab) Ev.runsHook_ok Tryz.checked.mixed (HK := Ev.runsHook) (FT := tabF Tryz.prog) (k := 4531) (bitsT 28862 29060 []) (by kernel_rfl)
set_option maxRecDepth 1000000 in
theorem part65 : Ev.Reach Tryz.prog st65 st66 :=
 Ev.Reach.segD (Ev.tabF_ok Ev.tab) Ev.runsHook_ok Tryz.checked.mixed (HK := Ev.runsHook) (FT := tabF Tryz.prog) (k := 4508) (bitsT 29060 29255 []) (by kernel_rfl)
set_option maxRecDepth 1000000 in
theorem part66 : Ev.Reach Tryz.prog st66 st67 :=
 Ev.Reach.segD (Ev.tabF_ok Ev.tab) Ev.runsHook_ok Tryz.checked.mixed (HK := Ev.runsHook) (FT := tabF Tryz.prog) (k := 2490) (bitsT 29255 29363 []) (by kernel_rfl)
end Go.Proofs.YtlmpjdionndncaaGreatDoor.RSeekNames
