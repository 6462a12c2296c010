/-
  Texts of this claim, laid together: Kzp82, Kzp83, Kzp84.
-/
import Derived.Test.YtlmpjdionndncaaGreatDoorQac
import Derived.Test.YtlmpjdionndncaaGreatDoorQae

namespace Go.Proofs.YtlmpjdionndncaaGreatDoor.RSeekNames
open Go Go.RowKit Ev
set_option maxRecDepth 1000000 in
theorem part82 : Ev.Reach Tryz.prog st82 st83 :=
 Ev.Reach.segD (Ev.tabF_ok Ev.tab) Ev.runsHook_ok Tryz.checked.mixed (HK := Ev.runsHook) (FT := tabF Tryz.prog) (k := 3841) (bitsT 34686 34913 []) (by kernel_rfl)
set_option maxRecDepth 1000000 in
theorem part83 : Ev.Reach Tryz.prog st83 st84 :=
 Ev.Reach.segD (Ev.tabF_ok Ev.tab) Ev.runsHook_ok Tryz.checked.mixed (HK := Ev.runsHook) (FT := tabF Tryz.prog) (k := 3242) (bitsT 34913 35172 [22150,22151,22152,28155,29772,29792]) (by kernel_rfl)
set_option maxRecDepth 1000000 in
theorem part84 : Ev.Reach Tryz.prog st84 st85 :=
 Ev.Reach.segD (Ev.tabF_ok Ev.tab) Ev.runsHook_ok Tryz.checked.mixed (HK := Ev.runsHook) (FT := tabF Tryz.prog) (k := 5046) (bitsT 35172 35499 []) (by kernel_rfl)
end Go.Proofs.YtlmpjdionndncaaGreatDoor.RSeekNames
