/-
  Texts of this claim, laid together: Kzp27, Kzp28, Kzp29.
-/
import Derived.Test.YtlmpjdionndncaaGreatDoorQac
import Derived.Test.YtlmpjdionndncaaGreatDoorQad

namespace Go.Proofs.YtlmpjdionndncaaGreatDoor.RSeekNames
open Go Go.RowKit Ev
set_option maxRecDepth 1000000 in
theorem part27 : Ev.Reach Tryz.prog st27 st28 :=
 Ev.Reach.segD (Ev.tabF_ok Ev.tab) Ev.runsHook_ok Tryz.checked.mixed (HK := Ev.runsHook) (FT := tabF Tryz.prog) (k := 4528) (bitsT 12973 13250 [7647,11783,12922,12923]) (by kernel_rfl)
set_option maxRecDepth 1000000 in
theorem part28 : Ev.Reach Tryz.prog st28 st29 :=
 Ev.Reach.segD (Ev.tabF_ok Ev.tab) Ev.runsHook_ok Tryz.checked.mixed (HK := Ev.runsHook) (FT := tabF Tryz.prog) (k := 4506) (bitsT 13250 13514 [7647,12922]) (by kernel_rfl)
set_option maxRecDepth 1000000 in
theorem part29 : Ev.Reach Tryz.prog st29 st30 :=
 Ev.Reach.segD (Ev.tabF_ok Ev.tab) Ev.runsHook_ok Tryz.checked.mixed (HK := Ev.runsHook) (FT := tabF Tryz.prog) (k := 1917) (bitsT 13514 13619 [12922,12923,13448,13513]) (by kernel_rfl)
end Go.Proofs.YtlmpjdionndncaaGreatDoor.RSeekNames
