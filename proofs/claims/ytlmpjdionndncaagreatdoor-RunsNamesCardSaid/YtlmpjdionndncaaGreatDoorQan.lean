/-
  Texts of this claim, laid together: Rzs21, Rzp20, Rzs22, Rzp21.
-/
import Derived.Test.YtlmpjdionndncaaGreatDoorQac
import Derived.Test.YtlmpjdionndncaaGreatDoorProg
import Derived.Test.YtlmpjdionndncaaGreatDoorQam

/-
 RunsNames: a state of its run (21).
-/
namespace Go.Proofs.YtlmpjdionndncaaGreatDoor.RRunsNames
open Go Go.RowKit Ev
set_option maxRecDepth 100000
noncomputable def st21 : ASt := ⟨⟨10,76,(patS .e [(0,.ptr 7660 0),(1,vi 1),(2,.agg ([vi 2,vi 2,vi 8,vb true])),(3,.sl 8931 0 3 3),(6,.ptr 8932 0),(8,vb false),(9,.su 10337 0 3 0 3),(10,vi 0),(11,vi 1),(12,.su 10886 0 2 0 2),(13,vi 0),(14,.tup ([.su 10337 0 3 0 3,vi 0])),(15,.ptr 7660 0),(16,vi 1),(17,.agg ([vi 2,vi 2,vi 8,vb true])),(18,.tup ([.su 10337 0 3 0 3,vi 0])),(19,.su 10337 0 3 0 3),(20,vi 0),(21,vi 0),(22,vb false),(23,vb false),(24,.su 10337 0 3 0 3),(25,vi 3),(26,.sl 8931 0 3 3),(27,vi 3),(28,vb false),(29,vb false),(30,.su 10337 0 3 0 3),(31,vi 3),(32,vi 1),(33,vb true),(34,vi 1),(35,.tup ([.su 10886 0 2 0 2,vi 0])),(36,.ptr 7660 0),(37,.ptr 7639 0),(38,.su 10337 0 3 0 3),(39,vi 1),(40,.ptr 10337 6),(41,.ptr 10337 7),(42,vi 5),(43,.tup ([.su 10886 0 2 0 2,vi 0])),(44,.su 10886 0 2 0 2),(45,vi 0),(46,vi 0),(47,vb false),(48,vb false),(49,.su 10886 0 2 0 2),(50,.agg ([vi 1,.sl 10888 0 1 1,.su 10890 0 2 0 2])),(51,.sl 8931 0 3 3),(52,vi 1),(53,.ptr 8931 3),(54,.agg ([vi 1,.sl 8923 0 1 1,.su 8925 0 2 0 2])),(55,vb true),(56,vb false),(57,vb false),(58,vb false),(59,.su 10337 0 3 0 3),(60,vi 1),(61,.ptr 10337 6),(62,.ptr 10337 8),(63,vi 1),(64,vb false),(65,vb false),(66,vb false),(67,.su 10337 0 3 0 3),(68,vi 1),(69,.ptr 10337 6),(70,.ptr 10337 9),(71,.su 9711 0 1 0 1),(72,vi 1),(73,vb false),(74,vb false),(75,vi 1)]),.no,[cd 10 [1,1,1,0,1,0,0,1,1,0,0,1,1,1],.inBlock 1,cd 10 [1,1,1,0,1,0,0,1,1,1],il 10 [1,1,1,0,1,0,0],.inBlock 0,cd 10 [1,1,1,1]],[],false,none,8932⟩,(cat2 [] (drN 0 st20.cs)),
 addL (patL (kilL st20.H [(9368,1),(10602,1)]) [(7640,mn 247 (([vi 8,.ifc 202 (.agg ([.ptr 7639 0])),.su 10829 0 3 0 3])))]) 10603 (catL [deadL 222,[ms 2 1 (([vi 3,vi 4])),
 mn 239 (([vi 5,vi 0,vi 1,.su 10825 0 2 0 2,vi 0,vb false,vi 0])),
 .dead,
 .dead,
 ms 240 1 (([.ptr 9219 0,.ptr 10551 0,.ptr 10826 0]))],deadL 63]),10893⟩
end Go.Proofs.YtlmpjdionndncaaGreatDoor.RRunsNames
namespace Go.Proofs.YtlmpjdionndncaaGreatDoor.RRunsNames
open Go Go.RowKit Ev
set_option maxRecDepth 1000000 in
theorem part20 : Ev.Reach Tryz.prog st20 st21 :=
 Ev.Reach.segD (Ev.tabF_ok Ev.tab) Ev.runsHook_ok Tryz.checked.mixed (HK := Ev.runsHook) (FT := tabF Tryz.prog) (k := 4476) (bitsT 10603 10893 [7640]) (by kernel_rfl)
end Go.Proofs.YtlmpjdionndncaaGreatDoor.RRunsNames
/-
 RunsNames: a state of its run (22).
-/
namespace Go.Proofs.YtlmpjdionndncaaGreatDoor.RRunsNames
open Go Go.RowKit Ev
set_option maxRecDepth 100000
noncomputable def st22 : ASt := ⟨⟨4,158,(patS (frC st21 0).T [(33,vb true)]),(rg 4 [1,1,1,0] 10),[cd 4 [1,1,1,1]],[],false,none,0⟩,(cat2 [] (drN 1 st21.cs)),
 addL (patL (kilL st21.H [(8918,1),(8920,1),(8923,1),(8925,1),(8928,1),(8930,2),(9318,1),(9711,1),(10070,1),(10337,1),(10829,1)]) [(7640,mn 247 (([vi 8,.ifc 202 (.agg ([.ptr 7639 0])),.su 11093 0 4 0 4])))]) 10893 (catL [deadL 196,[ms 2 1 (([vi 5])),
 mn 239 (([vi 6,vi 0,vi 1,.su 11089 0 1 0 1,vi 0,vb false,vi 0])),
 .dead,
 .dead,
 ms 240 1 (([.ptr 9219 0,.ptr 10551 0,.ptr 10826 0,.ptr 11090 0]))],deadL 28]),11122⟩
end Go.Proofs.YtlmpjdionndncaaGreatDoor.RRunsNames
namespace Go.Proofs.YtlmpjdionndncaaGreatDoor.RRunsNames
open Go Go.RowKit Ev
set_option maxRecDepth 1000000 in
theorem part21 : Ev.Reach Tryz.prog st21 st22 :=
 Ev.Reach.segD (Ev.tabF_ok Ev.tab) Ev.runsHook_ok Tryz.checked.mixed (HK := Ev.runsHook) (FT := tabF Tryz.prog) (k := 3685) (bitsT 10893 11122 [7640]) (by kernel_rfl)
end Go.Proofs.YtlmpjdionndncaaGreatDoor.RRunsNames
