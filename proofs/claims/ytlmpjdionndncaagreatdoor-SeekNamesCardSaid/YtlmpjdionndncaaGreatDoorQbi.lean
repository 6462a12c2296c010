/-
  Texts of this claim, laid together: Kzp76, Kzp77, Kzp78.
-/
import Derived.Test.YtlmpjdionndncaaGreatDoorQac
import Derived.Test.YtlmpjdionndncaaGreatDoorQae

namespace Go.Proofs.YtlmpjdionndncaaGreatDoor.RSeekNames
open Go Go.RowKit Ev
set_option maxRecDepth 1000000 in
theorem part76 : Ev.Reach Tryz.prog st76 st77 :=
 Ev.Reach.segD (Ev.tabF_ok Ev.tab) Ev.runsHook_ok Tryz.checked.mixed (HK := Ev.runsHook) (FT := tabF Tryz.prog) (k := 4633) (bitsT 32949 33325 [29771,29772,29774,29792,32369]) (by kernel_rfl)
set_option maxRecDepth 1000000 in
theorem part77 : Ev.Reach Tryz.prog st77 st78 :=
 Ev.Reach.segD (Ev.tabF_ok Ev.tab) Ev.runsHook_ok Tryz.checked.mixed (HK := Ev.runsHook) (FT := tabF Tryz.prog) (k := 4156) (bitsT 33325 33577 [29772,33017]) (by kernel_rfl)
set_option maxRecDepth 1000000 in
theorem part78 : Ev.Reach Tryz.prog st78 st79 :=
 Ev.Reach.segD (Ev.tabF_ok Ev.tab) Ev.runsHook_ok Tryz.checked.mixed (HK := Ev.runsHook) (FT := tabF Tryz.prog) (k := 4478) (bitsT 33577 33920 [22150,22151,22152,28155,29772,29792]) (by kernel_rfl)
end Go.Proofs.YtlmpjdionndncaaGreatDoor.RSeekNames
