/-
  Texts of this claim, laid together: Mzp48, Mzp49, Mzp50, Mzp51, Mzp52, Mzp53.
-/
import Derived.Test.YtlmpjdionndncaaGreatDoorQac
import Derived.Test.YtlmpjdionndncaaGreatDoorQae

namespace Go.Proofs.YtlmpjdionndncaaGreatDoor.RMergeNames
open Go Go.RowKit Ev
set_option maxRecDepth 1000000 in
theorem part48 : Ev.Reach Tryz.prog st48 st49 :=
 Ev.Reach.segD (Ev.tabF_ok Ev.tab) Ev.runsHook_ok Tryz.checked.mixed (HK := Ev.runsHook) (FT := tabF Tryz.prog) (k := 866) (bitsT 0 18836 []) (by kernel_rfl)
set_option maxRecDepth 1000000 in
theorem part49 : Ev.Reach Tryz.prog st49 st50 :=
 Ev.Reach.segD (Ev.tabF_ok Ev.tab) Ev.runsHook_ok Tryz.checked.mixed (HK := Ev.runsHook) (FT := tabF Tryz.prog) (k := 5172) (bitsT 18836 19137 [7644,15977,18785,18786]) (by kernel_rfl)
set_option maxRecDepth 1000000 in
theorem part50 : Ev.Reach Tryz.prog st50 st51 :=
 Ev.Reach.segD (Ev.tabF_ok Ev.tab) Ev.runsHook_ok Tryz.checked.mixed (HK := Ev.runsHook) (FT := tabF Tryz.prog) (k := 5259) (bitsT 19137 19445 [15977,18785]) (by kernel_rfl)
set_option maxRecDepth 1000000 in
theorem part51 : Ev.Reach Tryz.prog st51 st52 :=
 Ev.Reach.segD (Ev.tabF_ok Ev.tab) Ev.runsHook_ok Tryz.checked.mixed (HK := Ev.runsHook) (FT := tabF Tryz.prog) (k := 5265) (bitsT 19445 19755 [15977,18785]) (by kernel_rfl)
set_option maxRecDepth 1000000 in
theorem part52 : Ev.Reach Tryz.prog st52 st53 :=
 Ev.Reach.segD (Ev.tabF_ok Ev.tab) Ev.runsHook_ok Tryz.checked.mixed (HK := Ev.runsHook) (FT := tabF Tryz.prog) (k := 5271) (bitsT 19755 20067 [15977,18785]) (by kernel_rfl)
set_option maxRecDepth 1000000 in
theorem part53 : Ev.Reach Tryz.prog st53 st54 :=
 Ev.Reach.segD (Ev.tabF_ok Ev.tab) Ev.runsHook_ok Tryz.checked.mixed (HK := Ev.runsHook) (FT := tabF Tryz.prog) (k := 5277) (bitsT 20067 20381 [15977,18785]) (by kernel_rfl)
end Go.Proofs.YtlmpjdionndncaaGreatDoor.RMergeNames
