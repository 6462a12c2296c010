/-
  Texts of this claim, laid together: Kzp54, Kzp55, Kzp56.
-/
import Derived.Test.YtlmpjdionndncaaGreatDoorQac
import Derived.Test.YtlmpjdionndncaaGreatDoorQad
import Derived.Test.YtlmpjdionndncaaGreatDoorQae

namespace Go.Proofs.YtlmpjdionndncaaGreatDoor.RSeekNames
open Go Go.RowKit Ev
set_option maxRecDepth 1000000 in
theorem part54 : Ev.Reach Tryz.prog st54 st55 :=
 Ev.Reach.segD (Ev.tabF_ok Ev.tab) Ev.runsHook_ok Tryz.checked.mixed (HK := Ev.runsHook) (FT := tabF Tryz.prog) (k := 3518) (bitsT 19746 19984 [15513]) (by kernel_rfl)
set_option maxRecDepth 1000000 in
theorem part55 : Ev.Reach Tryz.prog st55 st56 :=
 Ev.Reach.segD (Ev.tabF_ok Ev.tab) Ev.runsHook_ok Tryz.checked.mixed (HK := Ev.runsHook) (FT := tabF Tryz.prog) (k := 3309) (bitsT 19984 20159 [15513]) (by kernel_rfl)
set_option maxRecDepth 1000000 in
theorem part56 : Ev.Reach Tryz.prog st56 st5601 :=
 Ev.Reach.segE (Ev.tabF_ok Ev.tab) Ev.runsHook_ok Tryz.checked.mixed (HK := Ev.runsHook) (FT := tabF Tryz.prog) (k := 2550) 20296 (bitsT 20159 20342 [7647,15513]) (by kernel_rfl)
end Go.Proofs.YtlmpjdionndncaaGreatDoor.RSeekNames
