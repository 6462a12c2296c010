/-
  Texts of this claim, laid together: Kzp73, Kzp74, Kzp75.
-/
import Derived.Test.YtlmpjdionndncaaGreatDoorQac
import Derived.Test.YtlmpjdionndncaaGreatDoorQae

namespace Go.Proofs.YtlmpjdionndncaaGreatDoor.RSeekNames
open Go Go.RowKit Ev
set_option maxRecDepth 1000000 in
theorem part73 : Ev.Reach Tryz.prog st73 st74 :=
 Ev.Reach.segD (Ev.tabF_ok Ev.tab) Ev.runsHook_ok Tryz.checked.mixed (HK := Ev.runsHook) (FT := tabF Tryz.prog) (k := 4370) (bitsT 31941 32273 [29772,30138]) (by kernel_rfl)
set_option maxRecDepth 1000000 in
theorem part74 : Ev.Reach Tryz.prog st74 st75 :=
 Ev.Reach.segD (Ev.tabF_ok Ev.tab) Ev.runsHook_ok Tryz.checked.mixed (HK := Ev.runsHook) (FT := tabF Tryz.prog) (k := 3435) (bitsT 32273 32604 [22150,22151,22152,28155,29771,29772,29774,29792,31992,31997]) (by kernel_rfl)
set_option maxRecDepth 1000000 in
theorem part75 : Ev.Reach Tryz.prog st75 st76 :=
 Ev.Reach.segD (Ev.tabF_ok Ev.tab) Ev.runsHook_ok Tryz.checked.mixed (HK := Ev.runsHook) (FT := tabF Tryz.prog) (k := 3685) (bitsT 32604 32949 [22150,22151,22152,28155,29771,29774,29792]) (by kernel_rfl)
end Go.Proofs.YtlmpjdionndncaaGreatDoor.RSeekNames
