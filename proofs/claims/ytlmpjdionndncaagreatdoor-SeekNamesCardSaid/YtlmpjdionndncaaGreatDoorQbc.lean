/-
  Texts of this claim, laid together: Kzp58, Kzp59, Kzp60.
-/
import Derived.Test.YtlmpjdionndncaaGreatDoorQac
import Derived.Test.YtlmpjdionndncaaGreatDoorQae

namespace Go.Proofs.YtlmpjdionndncaaGreatDoor.RSeekNames
open Go Go.RowKit Ev
set_option maxRecDepth 1000000 in
theorem part58 : Ev.Reach Tryz.prog st58 st59 :=
 Ev.Reach.segD (Ev.tabF_ok Ev.tab) Ev.runsHook_ok Tryz.checked.mixed (HK := Ev.runsHook) (FT := tabF Tryz.prog) (k := 4550) (bitsT 23882 25632 [22153]) (by kernel_rfl)
set_option maxRecDepth 1000000 in
theorem part59 : Ev.Reach Tryz.prog st59 st60 :=
 Ev.Reach.segD (Ev.tabF_ok Ev.tab) Ev.runsHook_ok Tryz.checked.mixed (HK := Ev.runsHook) (FT := tabF Tryz.prog) (k := 4550) (bitsT 25632 27382 [22153]) (by kernel_rfl)
set_option maxRecDepth 1000000 in
theorem part60 : Ev.Reach Tryz.prog st60 st61 :=
 Ev.Reach.segD (Ev.tabF_ok Ev.tab) Ev.runsHook_ok Tryz.checked.mixed (HK := Ev.runsHook) (FT := tabF Tryz.prog) (k := 4543) (bitsT 27382 28274 [22153]) (by kernel_rfl)
end Go.Proofs.YtlmpjdionndncaaGreatDoor.RSeekNames
