/-
  Texts of this claim, laid together: Kzp5610, Kzp5611, Kzp57.
-/
import Derived.Test.YtlmpjdionndncaaGreatDoorQac
import Derived.Test.YtlmpjdionndncaaGreatDoorQae

namespace Go.Proofs.YtlmpjdionndncaaGreatDoor.RSeekNames
open Go Go.RowKit Ev
set_option maxRecDepth 1000000 in
theorem part5610 : Ev.Reach Tryz.prog st5610 st5611 :=
 Ev.Reach.segE (Ev.tabF_ok Ev.tab) Ev.runsHook_ok Tryz.checked.mixed (HK := Ev.runsHook) (FT := tabF Tryz.prog) (k := 1970) 21755 (bitsT 22020 22125 [22017]) (by kernel_rfl)
set_option maxRecDepth 1000000 in
theorem part5611 : Ev.Reach Tryz.prog st5611 st57 :=
 Ev.Reach.segD (Ev.tabF_ok Ev.tab) Ev.runsHook_ok Tryz.checked.mixed (HK := Ev.runsHook) (FT := tabF Tryz.prog) (k := 4) (bitsT 22125 22125 []) (by kernel_rfl)
set_option maxRecDepth 1000000 in
theorem part57 : Ev.Reach Tryz.prog st57 st58 :=
 Ev.Reach.segD (Ev.tabF_ok Ev.tab) Ev.runsHook_ok Tryz.checked.mixed (HK := Ev.runsHook) (FT := tabF Tryz.prog) (k := 4538) (bitsT 22125 23882 []) (by kernel_rfl)
end Go.Proofs.YtlmpjdionndncaaGreatDoor.RSeekNames
