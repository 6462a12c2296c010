/-
  Texts of this claim, laid together: Rop29, Roz.
-/
import Derived.Test.YtlmpjdionndncaaGreatDoorQac
import Derived.Test.YtlmpjdionndncaaGreatDoorQbf
import Derived.Test.YtlmpjdionndncaaGreatDoorQad
import Derived.Test.YtlmpjdionndncaaGreatDoorQae
import Derived.Test.YtlmpjdionndncaaGreatDoorQaf
import Derived.Test.YtlmpjdionndncaaGreatDoorQag
import Derived.Test.YtlmpjdionndncaaGreatDoorQah
import Derived.Test.YtlmpjdionndncaaGreatDoorQai
import Derived.Test.YtlmpjdionndncaaGreatDoorQaj
import Derived.Test.YtlmpjdionndncaaGreatDoorQak
import Derived.Test.YtlmpjdionndncaaGreatDoorQal
import Derived.Test.YtlmpjdionndncaaGreatDoorQam
import Derived.Test.YtlmpjdionndncaaGreatDoorQan
import Derived.Test.YtlmpjdionndncaaGreatDoorQao
import Derived.Test.YtlmpjdionndncaaGreatDoorQap
import Derived.Test.YtlmpjdionndncaaGreatDoorQaq
import Derived.Test.YtlmpjdionndncaaGreatDoorQar
import Derived.Test.YtlmpjdionndncaaGreatDoorQas
import Derived.Test.YtlmpjdionndncaaGreatDoorQat
import Derived.Test.YtlmpjdionndncaaGreatDoorQau
import Derived.Test.YtlmpjdionndncaaGreatDoorQav
import Derived.Test.YtlmpjdionndncaaGreatDoorQaw
import Derived.Test.YtlmpjdionndncaaGreatDoorQax
import Derived.Test.YtlmpjdionndncaaGreatDoorQay
import Derived.Test.YtlmpjdionndncaaGreatDoorQaz
import Derived.Test.YtlmpjdionndncaaGreatDoorQba
import Derived.Test.YtlmpjdionndncaaGreatDoorQbb
import Derived.Test.YtlmpjdionndncaaGreatDoorQbc
import Derived.Test.YtlmpjdionndncaaGreatDoorQbd
import Derived.Test.YtlmpjdionndncaaGreatDoorQbe

namespace Go.Proofs.YtlmpjdionndncaaGreatDoor.Ralive
open Go Go.RowKit Ev
set_option maxRecDepth 1000000 in
theorem fin : isTrue (finalE Tryz.prog (tabOf Tryz.prog) 7 (runG Ev.runsHook Tryz.prog (tabOf Tryz.prog) 3774 st29)) = true := by kernel_rfl
end Go.Proofs.YtlmpjdionndncaaGreatDoor.Ralive
namespace Go.Proofs.YtlmpjdionndncaaGreatDoor.Ralive
open Go.ChangeShapes Go.WideShapes Go.ChangeAt Go.RowKit
theorem walk (w : World) : Calls Tryz.prog 7 #[] w (fun e w' => e = .returned (.bool true) ∧ Fr No w w') :=
 Ev.calls_of_reachG (Ev.tab_ok Ev.tab) Ev.runsHook_ok Tryz.checked.mixed start (Ev.Reach.trans (Ev.Reach.trans (Ev.Reach.trans (Ev.Reach.trans (Ev.Reach.trans (Ev.Reach.trans (Ev.Reach.trans (Ev.Reach.trans (Ev.Reach.trans (Ev.Reach.trans (Ev.Reach.trans (Ev.Reach.trans (Ev.Reach.trans (Ev.Reach.trans (Ev.Reach.trans (Ev.Reach.trans (Ev.Reach.trans (Ev.Reach.trans (Ev.Reach.trans (Ev.Reach.trans (Ev.Reach.trans (Ev.Reach.trans (Ev.Reach.trans (Ev.Reach.trans (Ev.Reach.trans (Ev.Reach.trans (Ev.Reach.trans (Ev.Reach.trans part0 part1) part2) part3) part4) part5) part6) part7) part8) part9) part10) part11) part12) part13) part14) part15) part16) part17) part18) part19) part20) part21) part22) part23) part24) part25) part26) part27) part28) fin w
end Go.Proofs.YtlmpjdionndncaaGreatDoor.Ralive
