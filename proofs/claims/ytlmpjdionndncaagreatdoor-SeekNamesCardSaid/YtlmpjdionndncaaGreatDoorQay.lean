/-
  Texts of this claim, laid together: Kzp5601, Kzp5602, Kzp5603.
-/
import Derived.Test.YtlmpjdionndncaaGreatDoorQac
import Derived.Test.YtlmpjdionndncaaGreatDoorQae

namespace Go.Proofs.YtlmpjdionndncaaGreatDoor.RSeekNames
open Go Go.RowKit Ev
set_option maxRecDepth 1000000 in
theorem part5601 : Ev.Reach Tryz.prog st5601 st5602 :=
 Ev.Reach.segE (Ev.tabF_ok Ev.tab) Ev.runsHook_ok Tryz.checked.mixed (HK := Ev.runsHook) (FT := tabF Tryz.prog) (k := 2393) 20252 (bitsT 20342 20544 [7647,15513]) (by kernel_rfl)
set_option maxRecDepth 1000000 in
theorem part5602 : Ev.Reach Tryz.prog st5602 st5603 :=
 Ev.Reach.segE (Ev.tabF_ok Ev.tab) Ev.runsHook_ok Tryz.checked.mixed (HK := Ev.runsHook) (FT := tabF Tryz.prog) (k := 2279) 20669 (bitsT 20544 20669 []) (by kernel_rfl)
set_option maxRecDepth 1000000 in
theorem part5603 : Ev.Reach Tryz.prog st5603 st5604 :=
 Ev.Reach.segE (Ev.tabF_ok Ev.tab) Ev.runsHook_ok Tryz.checked.mixed (HK := Ev.runsHook) (FT := tabF Tryz.prog) (k := 3622) 20675 (bitsT 20669 20923 [15513]) (by kernel_rfl)
end Go.Proofs.YtlmpjdionndncaaGreatDoor.RSeekNames
