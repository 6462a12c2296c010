/-
  Texts of this claim, laid together: Kzp5604, Kzp5605, Kzp5606.
-/
import Derived.Test.YtlmpjdionndncaaGreatDoorQac
import Derived.Test.YtlmpjdionndncaaGreatDoorQae

namespace Go.Proofs.YtlmpjdionndncaaGreatDoor.RSeekNames
open Go Go.RowKit Ev
set_option maxRecDepth 1000000 in
theorem part5604 : Ev.Reach Tryz.prog st5604 st5605 :=
 Ev.Reach.segE (Ev.tabF_ok Ev.tab) Ev.runsHook_ok Tryz.checked.mixed (HK := Ev.runsHook) (FT := tabF Tryz.prog) (k := 2112) 21030 (bitsT 20923 21069 [20920]) (by kernel_rfl)
set_option maxRecDepth 1000000 in
theorem part5605 : Ev.Reach Tryz.prog st5605 st5606 :=
 Ev.Reach.segE (Ev.tabF_ok Ev.tab) Ev.runsHook_ok Tryz.checked.mixed (HK := Ev.runsHook) (FT := tabF Tryz.prog) (k := 3472) 21030 (bitsT 21069 21284 [15513]) (by kernel_rfl)
set_option maxRecDepth 1000000 in
theorem part5606 : Ev.Reach Tryz.prog st5606 st5607 :=
 Ev.Reach.segE (Ev.tabF_ok Ev.tab) Ev.runsHook_ok Tryz.checked.mixed (HK := Ev.runsHook) (FT := tabF Tryz.prog) (k := 2124) 21393 (bitsT 21284 21434 [21281]) (by kernel_rfl)
end Go.Proofs.YtlmpjdionndncaaGreatDoor.RSeekNames
