/-
  Texts of this claim, laid together: Kzp3, Kzp4, Kzp5.
-/
import Derived.Test.YtlmpjdionndncaaGreatDoorQac

namespace Go.Proofs.YtlmpjdionndncaaGreatDoor.RSeekNames
open Go Go.RowKit Ev
set_option maxRecDepth 1000000 in
theorem part3 : Ev.Reach Tryz.prog st3 st4 :=
 Ev.Reach.segD (Ev.tabF_ok Ev.tab) Ev.runsHook_ok Tryz.checked.mixed (HK := Ev.runsHook) (FT := tabF Tryz.prog) (k := 4530) (bitsT 5262 6149 [28]) (by kernel_rfl)
set_option maxRecDepth 1000000 in
theorem part4 : Ev.Reach Tryz.prog st4 st5 :=
 Ev.Reach.segD (Ev.tabF_ok Ev.tab) Ev.runsHook_ok Tryz.checked.mixed (HK := Ev.runsHook) (FT := tabF Tryz.prog) (k := 4508) (bitsT 6149 6344 []) (by kernel_rfl)
set_option maxRecDepth 1000000 in
theorem part5 : Ev.Reach Tryz.prog st5 st6 :=
 Ev.Reach.segD (Ev.tabF_ok Ev.tab) Ev.runsHook_ok Tryz.checked.mixed (HK := Ev.runsHook) (FT := tabF Tryz.prog) (k := 4531) (bitsT 6344 6542 []) (by kernel_rfl)
end Go.Proofs.YtlmpjdionndncaaGreatDoor.RSeekNames
