/-
  Texts of this claim, laid together: Kzp85, Kzz.
-/
import Derived.Test.YtlmpjdionndncaaGreatDoorQac
import Derived.Test.YtlmpjdionndncaaGreatDoorQae
import Derived.Test.YtlmpjdionndncaaGreatDoorQaf
import Derived.Test.YtlmpjdionndncaaGreatDoorQag
import Derived.Test.YtlmpjdionndncaaGreatDoorQah
import Derived.Test.YtlmpjdionndncaaGreatDoorQai
import Derived.Test.YtlmpjdionndncaaGreatDoorQaj
import Derived.Test.YtlmpjdionndncaaGreatDoorQak
import Derived.Test.YtlmpjdionndncaaGreatDoorQal
import Derived.Test.YtlmpjdionndncaaGreatDoorQam
import Derived.Test.YtlmpjdionndncaaGreatDoorQan
import Derived.Test.YtlmpjdionndncaaGreatDoorQao
import Derived.Test.YtlmpjdionndncaaGreatDoorQap
import Derived.Test.YtlmpjdionndncaaGreatDoorQaq
import Derived.Test.YtlmpjdionndncaaGreatDoorQar
import Derived.Test.YtlmpjdionndncaaGreatDoorQas
import Derived.Test.YtlmpjdionndncaaGreatDoorQat
import Derived.Test.YtlmpjdionndncaaGreatDoorQau
import Derived.Test.YtlmpjdionndncaaGreatDoorQav
import Derived.Test.YtlmpjdionndncaaGreatDoorQaw
import Derived.Test.YtlmpjdionndncaaGreatDoorQax
import Derived.Test.YtlmpjdionndncaaGreatDoorQay
import Derived.Test.YtlmpjdionndncaaGreatDoorQaz
import Derived.Test.YtlmpjdionndncaaGreatDoorQba
import Derived.Test.YtlmpjdionndncaaGreatDoorQbb
import Derived.Test.YtlmpjdionndncaaGreatDoorQbc
import Derived.Test.YtlmpjdionndncaaGreatDoorQbd
import Derived.Test.YtlmpjdionndncaaGreatDoorQbe
import Derived.Test.YtlmpjdionndncaaGreatDoorQbf
import Derived.Test.YtlmpjdionndncaaGreatDoorQbg
import Derived.Test.YtlmpjdionndncaaGreatDoorQbh
import Derived.Test.YtlmpjdionndncaaGreatDoorQbi
import Derived.Test.YtlmpjdionndncaaGreatDoorQbj
import Derived.Test.YtlmpjdionndncaaGreatDoorQbk

namespace Go.Proofs.YtlmpjdionndncaaGreatDoor.RSeekNames
open Go Go.RowKit Ev
set_option maxRecDepth 1000000 in
theorem fin : isTrue (finalE Tryz.prog (tabF Tryz.prog) 6 (runG Ev.runsHook Tryz.prog (tabF Tryz.prog) 37 st85)) = true := by kernel_rfl
end Go.Proofs.YtlmpjdionndncaaGreatDoor.RSeekNames
namespace Go.Proofs.YtlmpjdionndncaaGreatDoor.RSeekNames
open Go.ChangeShapes Go.WideShapes Go.ChangeAt Go.RowKit
theorem walk (w : World) : Calls Tryz.prog 6 #[] w (fun e w' => e = .returned (.bool true) ∧ Fr No w w') :=
 Ev.calls_of_reachG (Ev.tabF_ok Ev.tab) Ev.runsHook_ok Tryz.checked.mixed start (Ev.Reach.trans (Ev.Reach.trans (Ev.Reach.trans (Ev.Reach.trans (Ev.Reach.trans (Ev.Reach.trans (Ev.Reach.trans (Ev.Reach.trans (Ev.Reach.trans (Ev.Reach.trans (Ev.Reach.trans (Ev.Reach.trans (Ev.Reach.trans (Ev.Reach.trans (Ev.Reach.trans (Ev.Reach.trans (Ev.Reach.trans (Ev.Reach.trans (Ev.Reach.trans (Ev.Reach.trans (Ev.Reach.trans (Ev.Reach.trans (Ev.Reach.trans (Ev.Reach.trans (Ev.Reach.trans (Ev.Reach.trans (Ev.Reach.trans (Ev.Reach.trans (Ev.Reach.trans (Ev.Reach.trans (Ev.Reach.trans (Ev.Reach.trans (Ev.Reach.trans (Ev.Reach.trans (Ev.Reach.trans (Ev.Reach.trans (Ev.Reach.trans (Ev.Reach.trans (Ev.Reach.trans (Ev.Reach.trans (Ev.Reach.trans (Ev.Reach.trans (Ev.Reach.trans (Ev.Reach.trans (Ev.Reach.trans (Ev.Reach.trans (Ev.Reach.trans (Ev.Reach.trans (Ev.Reach.trans (Ev.Reach.trans (Ev.Reach.trans (Ev.Reach.trans (Ev.Reach.trans (Ev.Reach.trans (Ev.Reach.trans (Ev.Reach.trans (Ev.Reach.trans (Ev.Reach.trans (Ev.Reach.trans (Ev.Reach.trans (Ev.Reach.trans (Ev.Reach.trans (Ev.Reach.trans (Ev.Reach.trans (Ev.Reach.trans (Ev.Reach.trans (Ev.Reach.trans (Ev.Reach.trans (Ev.Reach.trans (Ev.Reach.trans (Ev.Reach.trans (Ev.Reach.trans (Ev.Reach.trans (Ev.Reach.trans (Ev.Reach.trans (Ev.Reach.trans (Ev.Reach.trans (Ev.Reach.trans (Ev.Reach.trans (Ev.Reach.trans (Ev.Reach.trans (Ev.Reach.trans (Ev.Reach.trans (Ev.Reach.trans part0 part1) part2) part3) part4) part5) part6) part7) part8) part9) part10) part11) part12) part13) part14) part15) part16) part17) part18) part19) part20) part21) part22) part23) part24) part25) part26) part27) part28) part29) part30) part31) part32) part33) part34) part35) part36) part37) part38) part39) part40) part41) part42) part43) part44) part45) part46) part47) part48) part49) part50) part51) part52) part53) part54) part55) (Ev.Reach.trans (Ev.Reach.trans (Ev.Reach.trans (Ev.Reach.trans (Ev.Reach.trans (Ev.Reach.trans (Ev.Reach.trans (Ev.Reach.trans (Ev.Reach.trans (Ev.Reach.trans (Ev.Reach.trans part56 part5601) part5602) part5603) part5604) part5605) part5606) part5607) part5608) part5609) part5610) part5611)) part57) part58) part59) part60) part61) part62) part63) part64) part65) part66) part67) part68) part69) part70) part71) part72) part73) part74) part75) part76) part77) part78) part79) part80) part81) part82) part83) part84) fin w
end Go.Proofs.YtlmpjdionndncaaGreatDoor.RSeekNames
