/-
  Texts of this claim, laid together: Kzp12, Kzp13, Kzp14.
-/
import Derived.Test.YtlmpjdionndncaaGreatDoorQac

namespace Go.Proofs.YtlmpjdionndncaaGreatDoor.RSeekNames
open Go Go.RowKit Ev
set_option maxRecDepth 1000000 in
theorem part12 : Ev.Reach Tryz.prog st12 st13 :=
 Ev.Reach.segD (Ev.tabF_ok Ev.tab) Ev.runsHook_ok Tryz.checked.mixed (HK := Ev.runsHook) (FT := tabF Tryz.prog) (k := 2493) (bitsT 7603 7980 [25,26,27,28,6026,6030,7238]) (by kernel_rfl)
set_option maxRecDepth 1000000 in
theorem part13 : Ev.Reach Tryz.prog st13 st14 :=
 Ev.Reach.segD (Ev.tabF_ok Ev.tab) Ev.runsHook_ok Tryz.checked.mixed (HK := Ev.runsHook) (FT := tabF Tryz.prog) (k := 2698) (bitsT 7980 8457 [26,27,28,6028,7646,7647,7649,7656,7658]) (by kernel_rfl)
set_option maxRecDepth 1000000 in
theorem part14 : Ev.Reach Tryz.prog st14 st15 :=
 Ev.Reach.segD (Ev.tabF_ok Ev.tab) Ev.runsHook_ok Tryz.checked.mixed (HK := Ev.runsHook) (FT := tabF Tryz.prog) (k := 4500) (bitsT 8457 9332 [26,27,28,6028,7646,7649,7656,7658]) (by kernel_rfl)
end Go.Proofs.YtlmpjdionndncaaGreatDoor.RSeekNames
