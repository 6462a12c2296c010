/-
  Texts of this claim, laid together: Kzp79, Kzp80, Kzp81.
-/
import Derived.Test.YtlmpjdionndncaaGreatDoorQac
import Derived.Test.YtlmpjdionndncaaGreatDoorQae

namespace Go.Proofs.YtlmpjdionndncaaGreatDoor.RSeekNames
open Go Go.RowKit Ev
set_option maxRecDepth 1000000 in
theorem part79 : Ev.Reach Tryz.prog st79 st80 :=
 Ev.Reach.segD (Ev.tabF_ok Ev.tab) Ev.runsHook_ok Tryz.checked.mixed (HK := Ev.runsHook) (FT := tabF Tryz.prog) (k := 4113) (bitsT 33920 34192 [29771,29772,29774,29792,33702]) (by kernel_rfl)
set_option maxRecDepth 1000000 in
theorem part80 : Ev.Reach Tryz.prog st80 st81 :=
 Ev.Reach.segD (Ev.tabF_ok Ev.tab) Ev.runsHook_ok Tryz.checked.mixed (HK := Ev.runsHook) (FT := tabF Tryz.prog) (k := 4156) (bitsT 34192 34468 [29772]) (by kernel_rfl)
set_option maxRecDepth 1000000 in
theorem part81 : Ev.Reach Tryz.prog st81 st82 :=
 Ev.Reach.segD (Ev.tabF_ok Ev.tab) Ev.runsHook_ok Tryz.checked.mixed (HK := Ev.runsHook) (FT := tabF Tryz.prog) (k := 3876) (bitsT 34468 34686 [34444]) (by kernel_rfl)
end Go.Proofs.YtlmpjdionndncaaGreatDoor.RSeekNames
