/-
  Texts of this claim, laid together: Kzp51, Kzp52, Kzp53.
-/
import Derived.Test.YtlmpjdionndncaaGreatDoorQac
import Derived.Test.YtlmpjdionndncaaGreatDoorQad

namespace Go.Proofs.YtlmpjdionndncaaGreatDoor.RSeekNames
open Go Go.RowKit Ev
set_option maxRecDepth 1000000 in
theorem part51 : Ev.Reach Tryz.prog st51 st52 :=
 Ev.Reach.segD (Ev.tabF_ok Ev.tab) Ev.runsHook_ok Tryz.checked.mixed (HK := Ev.runsHook) (FT := tabF Tryz.prog) (k := 3295) (bitsT 19158 19333 [15513,18856]) (by kernel_rfl)
set_option maxRecDepth 1000000 in
theorem part52 : Ev.Reach Tryz.prog st52 st53 :=
 Ev.Reach.segD (Ev.tabF_ok Ev.tab) Ev.runsHook_ok Tryz.checked.mixed (HK := Ev.runsHook) (FT := tabF Tryz.prog) (k := 3518) (bitsT 19333 19571 [15513]) (by kernel_rfl)
set_option maxRecDepth 1000000 in
theorem part53 : Ev.Reach Tryz.prog st53 st54 :=
 Ev.Reach.segD (Ev.tabF_ok Ev.tab) Ev.runsHook_ok Tryz.checked.mixed (HK := Ev.runsHook) (FT := tabF Tryz.prog) (k := 3295) (bitsT 19571 19746 [15513,19495]) (by kernel_rfl)
end Go.Proofs.YtlmpjdionndncaaGreatDoor.RSeekNames
