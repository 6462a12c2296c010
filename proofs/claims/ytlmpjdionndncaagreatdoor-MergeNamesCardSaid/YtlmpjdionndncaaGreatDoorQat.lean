/-
  Texts of this claim, laid together: Mzp72, Mzp73, Mzp74, Mzp75, Mzp76, Mzp77.
-/
import Derived.Test.YtlmpjdionndncaaGreatDoorQac
import Derived.Test.YtlmpjdionndncaaGreatDoorQaf

namespace Go.Proofs.YtlmpjdionndncaaGreatDoor.RMergeNames
open Go Go.RowKit Ev
set_option maxRecDepth 1000000 in
theorem part72 : Ev.Reach Tryz.prog st72 st73 :=
 Ev.Reach.segD (Ev.tabF_ok Ev.tab) Ev.runsHook_ok Tryz.checked.mixed (HK := Ev.runsHook) (FT := tabF Tryz.prog) (k := 4519) (bitsT 0 30924 []) (by kernel_rfl)
set_option maxRecDepth 1000000 in
theorem part73 : Ev.Reach Tryz.prog st73 st74 :=
 Ev.Reach.segD (Ev.tabF_ok Ev.tab) Ev.runsHook_ok Tryz.checked.mixed (HK := Ev.runsHook) (FT := tabF Tryz.prog) (k := 4531) (bitsT 30924 31122 []) (by kernel_rfl)
set_option maxRecDepth 1000000 in
theorem part74 : Ev.Reach Tryz.prog st74 st75 :=
 Ev.Reach.segD (Ev.tabF_ok Ev.tab) Ev.runsHook_ok Tryz.checked.mixed (HK := Ev.runsHook) (FT := tabF Tryz.prog) (k := 4508) (bitsT 31122 31317 []) (by kernel_rfl)
set_option maxRecDepth 1000000 in
theorem part75 : Ev.Reach Tryz.prog st75 st76 :=
 Ev.Reach.segD (Ev.tabF_ok Ev.tab) Ev.runsHook_ok Tryz.checked.mixed (HK := Ev.runsHook) (FT := tabF Tryz.prog) (k := 4531) (bitsT 31317 31515 []) (by kernel_rfl)
set_option maxRecDepth 1000000 in
theorem part76 : Ev.Reach Tryz.prog st76 st77 :=
 Ev.Reach.segD (Ev.tabF_ok Ev.tab) Ev.runsHook_ok Tryz.checked.mixed (HK := Ev.runsHook) (FT := tabF Tryz.prog) (k := 4508) (bitsT 31515 31710 []) (by kernel_rfl)
set_option maxRecDepth 1000000 in
theorem part77 : Ev.Reach Tryz.prog st77 st78 :=
 Ev.Reach.segD (Ev.tabF_ok Ev.tab) Ev.runsHook_ok Tryz.checked.mixed (HK := Ev.runsHook) (FT := tabF Tryz.prog) (k := 4531) (bitsT 31710 31908 []) (by kernel_rfl)
end Go.Proofs.YtlmpjdionndncaaGreatDoor.RMergeNames
