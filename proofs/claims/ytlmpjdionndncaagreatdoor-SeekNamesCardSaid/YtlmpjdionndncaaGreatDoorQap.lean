/-
  Texts of this claim, laid together: Kzp30, Kzp31, Kzp32.
-/
import Derived.Test.YtlmpjdionndncaaGreatDoorQac
import Derived.Test.YtlmpjdionndncaaGreatDoorQad

namespace Go.Proofs.YtlmpjdionndncaaGreatDoor.RSeekNames
open Go Go.RowKit Ev
set_option maxRecDepth 1000000 in
theorem part30 : Ev.Reach Tryz.prog st30 st31 :=
 Ev.Reach.segD (Ev.tabF_ok Ev.tab) Ev.runsHook_ok Tryz.checked.mixed (HK := Ev.runsHook) (FT := tabF Tryz.prog) (k := 3437) (bitsT 13619 13901 [25,26,27,6030,7647,7667]) (by kernel_rfl)
set_option maxRecDepth 1000000 in
theorem part31 : Ev.Reach Tryz.prog st31 st32 :=
 Ev.Reach.segD (Ev.tabF_ok Ev.tab) Ev.runsHook_ok Tryz.checked.mixed (HK := Ev.runsHook) (FT := tabF Tryz.prog) (k := 5339) (bitsT 13901 14271 [7646,7647,7649,7667,13671]) (by kernel_rfl)
set_option maxRecDepth 1000000 in
theorem part32 : Ev.Reach Tryz.prog st32 st33 :=
 Ev.Reach.segD (Ev.tabF_ok Ev.tab) Ev.runsHook_ok Tryz.checked.mixed (HK := Ev.runsHook) (FT := tabF Tryz.prog) (k := 4408) (bitsT 14271 14513 [13671]) (by kernel_rfl)
end Go.Proofs.YtlmpjdionndncaaGreatDoor.RSeekNames
