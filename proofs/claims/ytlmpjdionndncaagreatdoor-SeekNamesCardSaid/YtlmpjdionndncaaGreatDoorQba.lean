/-
  Texts of this claim, laid together: Kzp5607, Kzp5608, Kzp5609.
-/
import Derived.Test.YtlmpjdionndncaaGreatDoorQac
import Derived.Test.YtlmpjdionndncaaGreatDoorQae

namespace Go.Proofs.YtlmpjdionndncaaGreatDoor.RSeekNames
open Go Go.RowKit Ev
set_option maxRecDepth 1000000 in
theorem part5607 : Ev.Reach Tryz.prog st5607 st5608 :=
 Ev.Reach.segE (Ev.tabF_ok Ev.tab) Ev.runsHook_ok Tryz.checked.mixed (HK := Ev.runsHook) (FT := tabF Tryz.prog) (k := 3475) 21393 (bitsT 21434 21650 [15513]) (by kernel_rfl)
set_option maxRecDepth 1000000 in
theorem part5608 : Ev.Reach Tryz.prog st5608 st5609 :=
 Ev.Reach.segE (Ev.tabF_ok Ev.tab) Ev.runsHook_ok Tryz.checked.mixed (HK := Ev.runsHook) (FT := tabF Tryz.prog) (k := 2150) 21757 (bitsT 21650 21802 [21647]) (by kernel_rfl)
set_option maxRecDepth 1000000 in
theorem part5609 : Ev.Reach Tryz.prog st5609 st5610 :=
 Ev.Reach.segE (Ev.tabF_ok Ev.tab) Ev.runsHook_ok Tryz.checked.mixed (HK := Ev.runsHook) (FT := tabF Tryz.prog) (k := 3497) 21757 (bitsT 21802 22020 [15513]) (by kernel_rfl)
end Go.Proofs.YtlmpjdionndncaaGreatDoor.RSeekNames
