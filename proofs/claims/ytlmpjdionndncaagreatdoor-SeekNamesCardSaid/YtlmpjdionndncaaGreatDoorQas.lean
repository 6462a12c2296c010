/-
  Texts of this claim, laid together: Kzp39, Kzp40, Kzp41.
-/
import Derived.Test.YtlmpjdionndncaaGreatDoorQac
import Derived.Test.YtlmpjdionndncaaGreatDoorQad

namespace Go.Proofs.YtlmpjdionndncaaGreatDoor.RSeekNames
open Go Go.RowKit Ev
set_option maxRecDepth 1000000 in
theorem part39 : Ev.Reach Tryz.prog st39 st40 :=
 Ev.Reach.segD (Ev.tabF_ok Ev.tab) Ev.runsHook_ok Tryz.checked.mixed (HK := Ev.runsHook) (FT := tabF Tryz.prog) (k := 3282) (bitsT 16194 16367 [15513,15926]) (by kernel_rfl)
set_option maxRecDepth 1000000 in
theorem part40 : Ev.Reach Tryz.prog st40 st41 :=
 Ev.Reach.segD (Ev.tabF_ok Ev.tab) Ev.runsHook_ok Tryz.checked.mixed (HK := Ev.runsHook) (FT := tabF Tryz.prog) (k := 3272) (bitsT 16367 16539 [15513]) (by kernel_rfl)
set_option maxRecDepth 1000000 in
theorem part41 : Ev.Reach Tryz.prog st41 st42 :=
 Ev.Reach.segD (Ev.tabF_ok Ev.tab) Ev.runsHook_ok Tryz.checked.mixed (HK := Ev.runsHook) (FT := tabF Tryz.prog) (k := 4384) (bitsT 16539 16785 [15513]) (by kernel_rfl)
end Go.Proofs.YtlmpjdionndncaaGreatDoor.RSeekNames
