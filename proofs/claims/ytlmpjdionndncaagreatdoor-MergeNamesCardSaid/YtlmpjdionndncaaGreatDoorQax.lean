/-
  Texts of this claim, laid together: Mzp96, Mzp97, Mzp98, Mzp99, Mzp100, Mzp101, Mzz.
-/
import Derived.Test.YtlmpjdionndncaaGreatDoorQac
import Derived.Test.YtlmpjdionndncaaGreatDoorQaf
import Derived.Test.YtlmpjdionndncaaGreatDoorQag
import Derived.Test.YtlmpjdionndncaaGreatDoorQah
import Derived.Test.YtlmpjdionndncaaGreatDoorQai
import Derived.Test.YtlmpjdionndncaaGreatDoorQaj
import Derived.Test.YtlmpjdionndncaaGreatDoorQak
import Derived.Test.YtlmpjdionndncaaGreatDoorQal
import Derived.Test.YtlmpjdionndncaaGreatDoorQam
import Derived.Test.YtlmpjdionndncaaGreatDoorQan
import Derived.Test.YtlmpjdionndncaaGreatDoorQao
import Derived.Test.YtlmpjdionndncaaGreatDoorQap
import Derived.Test.YtlmpjdionndncaaGreatDoorQaq
import Derived.Test.YtlmpjdionndncaaGreatDoorQar
import Derived.Test.YtlmpjdionndncaaGreatDoorQas
import Derived.Test.YtlmpjdionndncaaGreatDoorQat
import Derived.Test.YtlmpjdionndncaaGreatDoorQau
import Derived.Test.YtlmpjdionndncaaGreatDoorQav
import Derived.Test.YtlmpjdionndncaaGreatDoorQaw

namespace Go.Proofs.YtlmpjdionndncaaGreatDoor.RMergeNames
open Go Go.RowKit Ev
set_option maxRecDepth 1000000 in
theorem part96 : Ev.Reach Tryz.prog st96 st97 :=
 Ev.Reach.segD (Ev.tabF_ok Ev.tab) Ev.runsHook_ok Tryz.checked.mixed (HK := Ev.runsHook) (FT := tabF Tryz.prog) (k := 1866) (bitsT 0 37656 []) (by kernel_rfl)
set_option maxRecDepth 1000000 in
theorem part97 : Ev.Reach Tryz.prog st97 st98 :=
 Ev.Reach.segD (Ev.tabF_ok Ev.tab) Ev.runsHook_ok Tryz.checked.mixed (HK := Ev.runsHook) (FT := tabF Tryz.prog) (k := 3727) (bitsT 37656 37965 [24806,24807,24808,30811,32428,32448]) (by kernel_rfl)
set_option maxRecDepth 1000000 in
theorem part98 : Ev.Reach Tryz.prog st98 st99 :=
 Ev.Reach.segD (Ev.tabF_ok Ev.tab) Ev.runsHook_ok Tryz.checked.mixed (HK := Ev.runsHook) (FT := tabF Tryz.prog) (k := 8362) (bitsT 37965 38519 [32428,37707]) (by kernel_rfl)
set_option maxRecDepth 1000000 in
theorem part99 : Ev.Reach Tryz.prog st99 st100 :=
 Ev.Reach.segD (Ev.tabF_ok Ev.tab) Ev.runsHook_ok Tryz.checked.mixed (HK := Ev.runsHook) (FT := tabF Tryz.prog) (k := 147) (bitsT 38519 38531 []) (by kernel_rfl)
set_option maxRecDepth 1000000 in
theorem part100 : Ev.Reach Tryz.prog st100 st101 :=
 Ev.Reach.segD (Ev.tabF_ok Ev.tab) Ev.runsHook_ok Tryz.checked.mixed (HK := Ev.runsHook) (FT := tabF Tryz.prog) (k := 9734) (bitsT 38531 39212 [15977]) (by kernel_rfl)
set_option maxRecDepth 1000000 in
theorem fin : isTrue (finalE Tryz.prog (tabF Tryz.prog) 5 (runG Ev.runsHook Tryz.prog (tabF Tryz.prog) 141 st101)) = true := by kernel_rfl
end Go.Proofs.YtlmpjdionndncaaGreatDoor.RMergeNames
namespace Go.Proofs.YtlmpjdionndncaaGreatDoor.RMergeNames
open Go.ChangeShapes Go.WideShapes Go.ChangeAt Go.RowKit
theorem walk (w : World) : Calls Tryz.prog 5 #[] w (fun e w' => e = .returned (.bool true) ∧ Fr No w w') :=
 Ev.calls_of_reachG (Ev.tabF_ok Ev.tab) Ev.runsHook_ok Tryz.checked.mixed start (Ev.Reach.trans (Ev.Reach.trans (Ev.Reach.trans (Ev.Reach.trans (Ev.Reach.trans (Ev.Reach.trans (Ev.Reach.trans (Ev.Reach.trans (Ev.Reach.trans (Ev.Reach.trans (Ev.Reach.trans (Ev.Reach.trans (Ev.Reach.trans (Ev.Reach.trans (Ev.Reach.trans (Ev.Reach.trans (Ev.Reach.trans (Ev.Reach.trans (Ev.Reach.trans (Ev.Reach.trans (Ev.Reach.trans (Ev.Reach.trans (Ev.Reach.trans (Ev.Reach.trans (Ev.Reach.trans (Ev.Reach.trans (Ev.Reach.trans (Ev.Reach.trans (Ev.Reach.trans (Ev.Reach.trans (Ev.Reach.trans (Ev.Reach.trans (Ev.Reach.trans (Ev.Reach.trans (Ev.Reach.trans (Ev.Reach.trans (Ev.Reach.trans (Ev.Reach.trans (Ev.Reach.trans (Ev.Reach.trans (Ev.Reach.trans (Ev.Reach.trans (Ev.Reach.trans (Ev.Reach.trans (Ev.Reach.trans (Ev.Reach.trans (Ev.Reach.trans (Ev.Reach.trans (Ev.Reach.trans (Ev.Reach.trans (Ev.Reach.trans (Ev.Reach.trans (Ev.Reach.trans (Ev.Reach.trans (Ev.Reach.trans (Ev.Reach.trans (Ev.Reach.trans (Ev.Reach.trans (Ev.Reach.trans (Ev.Reach.trans (Ev.Reach.trans (Ev.Reach.trans (Ev.Reach.trans (Ev.Reach.trans (Ev.Reach.trans (Ev.Reach.trans (Ev.Reach.trans (Ev.Reach.trans (Ev.Reach.trans (Ev.Reach.trans (Ev.Reach.trans (Ev.Reach.trans (Ev.Reach.trans (Ev.Reach.trans (Ev.Reach.trans (Ev.Reach.trans (Ev.Reach.trans (Ev.Reach.trans (Ev.Reach.trans (Ev.Reach.trans (Ev.Reach.trans (Ev.Reach.trans (Ev.Reach.trans (Ev.Reach.trans (Ev.Reach.trans (Ev.Reach.trans (Ev.Reach.trans (Ev.Reach.trans (Ev.Reach.trans (Ev.Reach.trans (Ev.Reach.trans (Ev.Reach.trans (Ev.Reach.trans (Ev.Reach.trans (Ev.Reach.trans (Ev.Reach.trans (Ev.Reach.trans (Ev.Reach.trans (Ev.Reach.trans (Ev.Reach.trans part0 part1) part2) part3) part4) part5) part6) part7) part8) part9) part10) part11) part12) part13) part14) part15) part16) part17) part18) part19) part20) part21) part22) part23) part24) part25) part26) part27) part28) part29) part30) part31) part32) part33) part34) part35) part36) part37) part38) part39) part40) part41) part42) part43) part44) part45) part46) part47) part48) part49) part50) part51) part52) part53) part54) part55) part56) part57) part58) part59) part60) part61) part62) part63) part64) part65) part66) part67) part68) part69) part70) part71) part72) part73) part74) part75) part76) part77) part78) part79) part80) part81) part82) part83) part84) part85) part86) part87) part88) part89) part90) part91) part92) part93) part94) part95) part96) part97) part98) part99) part100) fin w
end Go.Proofs.YtlmpjdionndncaaGreatDoor.RMergeNames
