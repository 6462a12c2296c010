/-
  Texts of this claim, laid together: Kzp0, Kzp1, Kzp2.
-/
import Derived.Test.YtlmpjdionndncaaGreatDoorQac

namespace Go.Proofs.YtlmpjdionndncaaGreatDoor.RSeekNames
open Go Go.RowKit Ev
theorem start : startE (tabF Tryz.prog) 6 = some st0 := by kernel_rfl
set_option maxRecDepth 1000000 in
theorem part0 : Ev.Reach Tryz.prog st0 st1 :=
 Ev.Reach.segD (Ev.tabF_ok Ev.tab) Ev.runsHook_ok Tryz.checked.mixed (HK := Ev.runsHook) (FT := tabF Tryz.prog) (k := 4550) (bitsT 0 1762 []) (by kernel_rfl)
set_option maxRecDepth 1000000 in
theorem part1 : Ev.Reach Tryz.prog st1 st2 :=
 Ev.Reach.segD (Ev.tabF_ok Ev.tab) Ev.runsHook_ok Tryz.checked.mixed (HK := Ev.runsHook) (FT := tabF Tryz.prog) (k := 4550) (bitsT 1762 3512 [28]) (by kernel_rfl)
set_option maxRecDepth 1000000 in
theorem part2 : Ev.Reach Tryz.prog st2 st3 :=
 Ev.Reach.segD (Ev.tabF_ok Ev.tab) Ev.runsHook_ok Tryz.checked.mixed (HK := Ev.runsHook) (FT := tabF Tryz.prog) (k := 4550) (bitsT 3512 5262 [28]) (by kernel_rfl)
end Go.Proofs.YtlmpjdionndncaaGreatDoor.RSeekNames
