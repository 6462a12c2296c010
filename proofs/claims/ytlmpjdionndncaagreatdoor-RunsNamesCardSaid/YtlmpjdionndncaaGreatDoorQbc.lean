/-
  Texts of this claim, laid together: Rzs51, Rzp50, Rzp51, Rzz.
-/
import Derived.Test.YtlmpjdionndncaaGreatDoorQac
import Derived.Test.YtlmpjdionndncaaGreatDoorProg
import Derived.Test.YtlmpjdionndncaaGreatDoorQbb
import Derived.Test.YtlmpjdionndncaaGreatDoorQad
import Derived.Test.YtlmpjdionndncaaGreatDoorQae
import Derived.Test.YtlmpjdionndncaaGreatDoorQaf
import Derived.Test.YtlmpjdionndncaaGreatDoorQag
import Derived.Test.YtlmpjdionndncaaGreatDoorQah
import Derived.Test.YtlmpjdionndncaaGreatDoorQai
import Derived.Test.YtlmpjdionndncaaGreatDoorQaj
import Derived.Test.YtlmpjdionndncaaGreatDoorQak
import Derived.Test.YtlmpjdionndncaaGreatDoorQal
import Derived.Test.YtlmpjdionndncaaGreatDoorQam
import Derived.Test.YtlmpjdionndncaaGreatDoorQan
import Derived.Test.YtlmpjdionndncaaGreatDoorQao
import Derived.Test.YtlmpjdionndncaaGreatDoorQap
import Derived.Test.YtlmpjdionndncaaGreatDoorQaq
import Derived.Test.YtlmpjdionndncaaGreatDoorQar
import Derived.Test.YtlmpjdionndncaaGreatDoorQas
import Derived.Test.YtlmpjdionndncaaGreatDoorQat
import Derived.Test.YtlmpjdionndncaaGreatDoorQau
import Derived.Test.YtlmpjdionndncaaGreatDoorQav
import Derived.Test.YtlmpjdionndncaaGreatDoorQaw
import Derived.Test.YtlmpjdionndncaaGreatDoorQax
import Derived.Test.YtlmpjdionndncaaGreatDoorQay
import Derived.Test.YtlmpjdionndncaaGreatDoorQaz
import Derived.Test.YtlmpjdionndncaaGreatDoorQba

/-
 RunsNames: a state of its run (51).
-/
namespace Go.Proofs.YtlmpjdionndncaaGreatDoor.RRunsNames
open Go Go.RowKit Ev
set_option maxRecDepth 100000
noncomputable def st51 : ASt := ⟨⟨10,76,(patS .e [(0,.ptr 21200 0),(1,vi 1),(2,.agg ([vi 2,vi 2,vi 8,vb false])),(3,.sl 22471 0 3 3),(6,.ptr 22472 0),(8,vb false),(9,.su 23877 0 3 0 3),(10,vi 0),(11,vi 1),(12,.su 24426 0 2 0 2),(13,vi 0),(14,.tup ([.su 23877 0 3 0 3,vi 0])),(15,.ptr 21200 0),(16,vi 1),(17,.agg ([vi 2,vi 2,vi 8,vb false])),(18,.tup ([.su 23877 0 3 0 3,vi 0])),(19,.su 23877 0 3 0 3),(20,vi 0),(21,vi 0),(22,vb false),(23,vb false),(24,.su 23877 0 3 0 3),(25,vi 3),(26,.sl 22471 0 3 3),(27,vi 3),(28,vb false),(29,vb false),(30,.su 23877 0 3 0 3),(31,vi 3),(32,vi 1),(33,vb true),(34,vi 1),(35,.tup ([.su 24426 0 2 0 2,vi 0])),(36,.ptr 21200 0),(37,.ptr 21179 0),(38,.su 23877 0 3 0 3),(39,vi 1),(40,.ptr 23877 6),(41,.ptr 23877 7),(42,vi 5),(43,.tup ([.su 24426 0 2 0 2,vi 0])),(44,.su 24426 0 2 0 2),(45,vi 0),(46,vi 0),(47,vb false),(48,vb false),(49,.su 24426 0 2 0 2),(50,.agg ([vi 1,.sl 24428 0 1 1,.su 24430 0 2 0 2])),(51,.sl 22471 0 3 3),(52,vi 1),(53,.ptr 22471 3),(54,.agg ([vi 1,.sl 22463 0 1 1,.su 22465 0 2 0 2])),(55,vb true),(56,vb false),(57,vb false),(58,vb false),(59,.su 23877 0 3 0 3),(60,vi 1),(61,.ptr 23877 6),(62,.ptr 23877 8),(63,vi 1),(64,vb false),(65,vb false),(66,vb false),(67,.su 23877 0 3 0 3),(68,vi 1),(69,.ptr 23877 6),(70,.ptr 23877 9),(71,.su 23251 0 1 0 1),(72,vi 1),(73,vb false),(74,vb false),(75,vi 1)]),.no,[cd 10 [1,1,1,0,1,0,0,1,1,0,0,1,1,1],.inBlock 1,cd 10 [1,1,1,0,1,0,0,1,1,1],il 10 [1,1,1,0,1,0,0],.inBlock 0,cd 10 [1,1,1,1]],[],false,none,22472⟩,(cat2 [] (drN 0 st50.cs)),
 addL (patL (kilL st50.H [(22908,1),(24142,1)]) [(21180,mn 247 (([vi 8,.ifc 202 (.agg ([.ptr 21179 0])),.su 24369 0 3 0 3])))]) 24143 (catL [deadL 222,[ms 2 1 (([vi 4,vi 3])),
 mn 239 (([vi 5,vi 0,vi 1,.su 24365 0 2 0 2,vi 0,vb false,vi 0])),
 .dead,
 .dead,
 ms 240 1 (([.ptr 22759 0,.ptr 24091 0,.ptr 24366 0]))],deadL 63]),24433⟩
end Go.Proofs.YtlmpjdionndncaaGreatDoor.RRunsNames
namespace Go.Proofs.YtlmpjdionndncaaGreatDoor.RRunsNames
open Go Go.RowKit Ev
set_option maxRecDepth 1000000 in
theorem part50 : Ev.Reach Tryz.prog st50 st51 :=
 Ev.Reach.segD (Ev.tabF_ok Ev.tab) Ev.runsHook_ok Tryz.checked.mixed (HK := Ev.runsHook) (FT := tabF Tryz.prog) (k := 4476) (bitsT 24143 24433 [21180]) (by kernel_rfl)
set_option maxRecDepth 1000000 in
theorem fin : isTrue (finalE Tryz.prog (tabF Tryz.prog) 4 (runG Ev.runsHook Tryz.prog (tabF Tryz.prog) 3710 st51)) = true := by kernel_rfl
end Go.Proofs.YtlmpjdionndncaaGreatDoor.RRunsNames
namespace Go.Proofs.YtlmpjdionndncaaGreatDoor.RRunsNames
open Go.ChangeShapes Go.WideShapes Go.ChangeAt Go.RowKit
theorem walk (w : World) : Calls Tryz.prog 4 #[] w (fun e w' => e = .returned (.bool true) ∧ Fr No w w') :=
 Ev.calls_of_reachG (Ev.tabF_ok Ev.tab) Ev.runsHook_ok Tryz.checked.mixed start (Ev.Reach.trans (Ev.Reach.trans (Ev.Reach.trans (Ev.Reach.trans (Ev.Reach.trans (Ev.Reach.trans (Ev.Reach.trans (Ev.Reach.trans (Ev.Reach.trans (Ev.Reach.trans (Ev.Reach.trans (Ev.Reach.trans (Ev.Reach.trans (Ev.Reach.trans (Ev.Reach.trans (Ev.Reach.trans (Ev.Reach.trans (Ev.Reach.trans (Ev.Reach.trans (Ev.Reach.trans (Ev.Reach.trans (Ev.Reach.trans (Ev.Reach.trans (Ev.Reach.trans (Ev.Reach.trans (Ev.Reach.trans (Ev.Reach.trans (Ev.Reach.trans (Ev.Reach.trans (Ev.Reach.trans (Ev.Reach.trans (Ev.Reach.trans (Ev.Reach.trans (Ev.Reach.trans (Ev.Reach.trans (Ev.Reach.trans (Ev.Reach.trans (Ev.Reach.trans (Ev.Reach.trans (Ev.Reach.trans (Ev.Reach.trans (Ev.Reach.trans (Ev.Reach.trans (Ev.Reach.trans (Ev.Reach.trans (Ev.Reach.trans (Ev.Reach.trans (Ev.Reach.trans (Ev.Reach.trans (Ev.Reach.trans part0 part1) part2) part3) part4) part5) part6) part7) part8) part9) part10) part11) part12) part13) part14) part15) part16) part17) part18) part19) part20) part21) part22) part23) part24) part25) part26) part27) part28) part29) part30) part31) part32) part33) part34) part35) part36) part37) part38) part39) part40) part41) part42) part43) part44) part45) part46) part47) part48) part49) part50) fin w
end Go.Proofs.YtlmpjdionndncaaGreatDoor.RRunsNames
