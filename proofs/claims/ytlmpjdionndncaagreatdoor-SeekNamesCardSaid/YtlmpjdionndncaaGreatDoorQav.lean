/-
  Texts of this claim, laid together: Kzp48, Kzp49, Kzp50.
-/
import Derived.Test.YtlmpjdionndncaaGreatDoorQac
import Derived.Test.YtlmpjdionndncaaGreatDoorQad

namespace Go.Proofs.YtlmpjdionndncaaGreatDoor.RSeekNames
open Go Go.RowKit Ev
set_option maxRecDepth 1000000 in
theorem part48 : Ev.Reach Tryz.prog st48 st49 :=
 Ev.Reach.segD (Ev.tabF_ok Ev.tab) Ev.runsHook_ok Tryz.checked.mixed (HK := Ev.runsHook) (FT := tabF Tryz.prog) (k := 4172) (bitsT 0 18721 []) (by kernel_rfl)
set_option maxRecDepth 1000000 in
theorem part49 : Ev.Reach Tryz.prog st49 st50 :=
 Ev.Reach.segD (Ev.tabF_ok Ev.tab) Ev.runsHook_ok Tryz.checked.mixed (HK := Ev.runsHook) (FT := tabF Tryz.prog) (k := 912) (bitsT 18721 18863 [25,26,27,6030]) (by kernel_rfl)
set_option maxRecDepth 1000000 in
theorem part50 : Ev.Reach Tryz.prog st50 st51 :=
 Ev.Reach.segD (Ev.tabF_ok Ev.tab) Ev.runsHook_ok Tryz.checked.mixed (HK := Ev.runsHook) (FT := tabF Tryz.prog) (k := 4502) (bitsT 18863 19158 [7647,15513]) (by kernel_rfl)
end Go.Proofs.YtlmpjdionndncaaGreatDoor.RSeekNames
