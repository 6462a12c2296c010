/-
  Texts of this claim, laid together: Rzs31, Rzp30, Rzs32, Rzp31.
-/
import Derived.Test.YtlmpjdionndncaaGreatDoorQac
import Derived.Test.YtlmpjdionndncaaGreatDoorProg
import Derived.Test.YtlmpjdionndncaaGreatDoorQar

/-
 RunsNames: a state of its run (31).
-/
namespace Go.Proofs.YtlmpjdionndncaaGreatDoor.RRunsNames
open Go Go.RowKit Ev
set_option maxRecDepth 100000
noncomputable def st31 : ASt := ⟨⟨60,39,(patS .e [(0,vi 1200),(2,.v (.pointer none)),(3,vi 0),(4,.ptr 13561 0),(5,vi 234),(6,vi 1200),(7,vb false),(8,vb false),(9,vi 1200),(10,vb false),(11,vb false),(12,.agg ([.v (.slice none 0 0),.v (.slice none 0 0),vi 0,.v (.slice none 0 0),vi 0,vi 0,vi 0,vb false])),(13,.ptr 13561 0),(14,vi 234),(15,vi 1200),(16,vb true),(17,vi 233),(18,vi 234),(19,.ptr 13561 0),(20,.ptr 13561 0),(21,.ptr 13561 0),(22,.ptr 13561 0),(23,.su 14729 0 234 0 234),(24,.sl 14732 0 128 128),(25,.sl 14733 0 1 1),(26,.su 14734 0 235 0 235),(27,.ptr 13561 0),(28,.ptr 13561 0),(29,.ptr 13561 0),(30,.ptr 13561 0),(31,.ptr 13561 0),(32,.ptr 13561 1),(33,.su 14726 0 233 0 233),(34,.sl 14730 0 1 1),(35,.su 14731 0 234 0 234),(36,.ptr 13561 0),(37,.ptr 13561 1)]),.no,[cd 60 [1,1,1,0,1,0,0,1,0,0,1],.inBlock 1,cd 60 [1,1,1,0,1,0,0,1,1],il 60 [1,1,1,0,1,0,0],.inBlock 0,cd 60 [1,1,1,1]],[],false,none,13561⟩,(cat2 [⟨32,117,(patS .e [(0,.agg ([vi 8,vi 1,vi 2,vb false,vi 400,vi 1200])),(1,.sl 13556 0 3 3),(2,.ptr 13557 0),(4,.v (.pointer none)),(5,.ptr 13560 0),(6,vi 0),(22,.tup ([.ptr 13560 0,vi 0])),(23,.ptr 13557 5),(24,vi 1200),(25,.tup ([.ptr 13560 0,vi 0])),(26,.ptr 13560 0),(27,vi 0),(29,.ptr 13557 5),(30,vi 1200)]),(rg 32 [1,1,0] 2),[cd 32 [1,1,1]],[],false,none,13557⟩,
 ⟨9,15,(patS .e [(0,.v (.pointer none)),(2,.agg ([vi 8,vi 1,vi 2,vb false,vi 400,vi 1200])),(3,.sl 13541 0 5 5),(4,.agg ([vi 1,.sl 13543 0 1 1,.su 13545 0 5 0 5])),(5,.agg ([vi 2,.sl 13553 0 1 1,.su 13552 0 2 0 2])),(6,.agg ([vi 1,.sl 13555 0 1 1,.v (.slice none 0 0)])),(7,.sl 13556 0 3 3)]),(rg 9 [1,0] 6),[cd 9 [1,1]],[],false,none,13540⟩,
 ⟨7,17,(patS .e [(0,vb false)]),(rg 7 [1,0] 0),[cd 7 [1,1]],[],false,none,13540⟩,
 ⟨4,158,(patS (frC st30 0).T [(2,vb true),(3,.v (.slice none 0 0)),(4,vi 260),(5,.v (.slice none 0 0)),(6,vi 201),(7,.v (.slice none 0 0)),(8,vi 260),(9,.ptr 13510 0),(10,vi 0),(11,.ptr 13520 0),(12,vi 201),(13,.ptr 13530 0),(14,vi 201),(15,.v (.pointer none)),(16,.v (.slice none 0 0)),(17,vi 1),(18,.ptr 13536 0),(19,vi 1),(20,vb true),(53,vb true),(54,vb true),(55,.tup ([.v (.slice none 0 0),vi 260])),(56,.ptr 7660 0),(57,.agg ([vi 0,vi 2,vi 8,vb false])),(58,.tup ([.v (.slice none 0 0),vi 260])),(59,.v (.slice none 0 0)),(60,vi 260),(61,.tup ([.v (.slice none 0 0),vi 201])),(62,.ptr 7660 0),(63,.agg ([vi 1,vi 2,vi 8,vb false])),(64,.tup ([.v (.slice none 0 0),vi 201])),(65,.v (.slice none 0 0)),(66,vi 201),(67,.tup ([.v (.slice none 0 0),vi 260])),(68,.ptr 7660 0),(69,.agg ([vi 4097,vi 2,vi 8,vb false])),(70,.tup ([.v (.slice none 0 0),vi 260])),(71,.v (.slice none 0 0)),(72,vi 260),(73,.tup ([.agg ([vi 5,vi 5]),vi 0])),(74,.ptr 7660 0),(75,.tup ([.agg ([vi 5,vi 5]),vi 0])),(76,.agg ([vi 5,vi 5])),(77,vi 0),(78,.tup ([.agg ([vi 0,vi 0]),vi 201])),(79,.ptr 7660 0),(80,.tup ([.agg ([vi 0,vi 0]),vi 201])),(81,.agg ([vi 0,vi 0])),(82,vi 201),(83,.tup ([.agg ([vi 0,vi 0]),vi 201])),(84,.ptr 7660 0),(85,.tup ([.agg ([vi 0,vi 0]),vi 201])),(86,.agg ([vi 0,vi 0])),(87,vi 201),(88,.tup ([.v (.slice none 0 0),vi 1])),(89,.v (.pointer none)),(90,.agg ([vi 0,vi 2,vi 8,vb false])),(91,.tup ([.v (.slice none 0 0),vi 1])),(92,.v (.slice none 0 0)),(93,vi 1),(94,.tup ([.agg ([vi 0,vi 0]),vi 1])),(95,.v (.pointer none)),(96,.tup ([.agg ([vi 0,vi 0]),vi 1])),(97,.agg ([vi 0,vi 0])),(98,vi 1),(99,.agg ([vi 1,vi 1,vi 1,vb false])),(100,vi 260),(101,vb true),(102,vb true),(103,.agg ([vi 1,vi 2,vi 0,vb false])),(104,vi 260),(105,vb true),(106,vb true),(107,vb true),(108,.agg ([vi 1,vi 2,vi 1,vb false])),(109,vi 0),(110,vb true),(111,vb true),(112,vb true)]),(rg 4 [1,1,1,1,1,1,1,1,1,1,1,1,1,1,0] 1),[.code .ret],[],false,none,0⟩] (drN 1 st30.cs)),
 addL (patL (kilL st30.H [(18,3),(6023,1),(7639,2),(7642,1),(7654,2),(7660,1),(7704,1),(7939,1),(8439,1),(8899,1),(9218,2),(9288,1),(9546,1),(9596,1),(9681,1),(9940,1),(9990,1),(10040,1),(10283,1),(10333,1),(10550,2),(10825,2),(11089,2),(11350,2),(11450,1),(11742,1),(11792,1),(12022,2),(12137,1),(12139,2),(12456,1),(12478,1),(12482,1),(12486,1),(12556,1),(12811,1),(12815,1),(12861,1),(12863,1),(12865,1),(13167,2),(13429,1)]) []) 13430 (catL [deadL 80,[mn 24 (([vi 5,vi 5]))],deadL 32,[mn 3 (([vi 5])),
 .dead,
 ms 2 1 ((uN .i64 5 21491745027))],deadL 6,[ms 2 1 (([vi 98,vi 97])),
 mn 3 (([vi 2])),
 .dead,
 mn 3 (([vi 0])),
 mn 36 (([vi 1,.sl 13543 0 1 1,.su 13545 0 5 0 5,vi 2,.sl 13553 0 1 1,.su 13552 0 2 0 2,vi 1,.sl 13555 0 1 1,.v (.slice none 0 0)])),
 mn 64 (([vi 8,vi 1,vi 2,vb false,vi 400,vi 1200])),
 .mem 349 none (rz 153600),
 .map [] 0,
 mn 179 (([.sl 13558 0 1200 1200,.mp 13559,vi 0,.v (.slice none 0 0),vi 0,vi 0,vi 0,vb false])),
 mn 182 (([.su 14734 0 235 0 235,.su 14731 0 234 0 234,vi 0,.v (.slice none 0 0),vi 0,vi 0,vi 0,vb false]))],repL [.mem 5 none (rz 128),.dead,.dead,.dead,.dead] 233,[.mem 5 none (rz 128),
 .dead,
 .dead,
 .dead,
 .mem 183 (some 1) (.node 128 (.node 64 (.node 32 (.node 16 (.leaf (zN (.v (.slice none 0 0)) 16)) (.leaf (zN (.v (.slice none 0 0)) 16))) (.node 16 (.leaf (zN (.v (.slice none 0 0)) 16)) (.leaf (zN (.v (.slice none 0 0)) 16)))) (.node 32 (.node 16 (.leaf (zN (.v (.slice none 0 0)) 16)) (.leaf (zN (.v (.slice none 0 0)) 16))) (.node 16 (.leaf (zN (.v (.slice none 0 0)) 16)) (.leaf (zN (.v (.slice none 0 0)) 16))))) (.node 64 (.node 32 (.node 16 (.leaf (zN (.v (.slice none 0 0)) 16)) (.leaf (zN (.v (.slice none 0 0)) 16))) (.node 16 (.leaf (zN (.v (.slice none 0 0)) 16)) (.leaf (zN (.v (.slice none 0 0)) 16)))) (.node 32 (.node 16 (.leaf (zN (.v (.slice none 0 0)) 16)) (.leaf (zN (.v (.slice none 0 0)) 16))) (.leaf (zN (.v (.slice none 0 0)) 10))))),
 .mem 5 none (rz 128),
 .dead,
 .mem 183 (some 1) (.node 128 (.node 64 (.node 32 (.node 16 (.leaf (slP 5 0 128 128 16 13562)) (.leaf (slP 5 0 128 128 16 13642))) (.node 16 (.leaf (slP 5 0 128 128 16 13722)) (.leaf (slP 5 0 128 128 16 13802)))) (.node 32 (.node 16 (.leaf (slP 5 0 128 128 16 13882)) (.leaf (slP 5 0 128 128 16 13962))) (.node 16 (.leaf (slP 5 0 128 128 16 14042)) (.leaf (slP 5 0 128 128 16 14122))))) (.node 64 (.node 32 (.node 16 (.leaf (slP 5 0 128 128 16 14202)) (.leaf (slP 5 0 128 128 16 14282))) (.node 16 (.leaf (slP 5 0 128 128 16 14362)) (.leaf (slP 5 0 128 128 16 14442)))) (.node 32 (.node 16 (.leaf (slP 5 0 128 128 16 14522)) (.leaf (slP 5 0 128 128 16 14602))) (.leaf (slP 5 0 128 128 11 14682)))))]]),14735⟩
end Go.Proofs.YtlmpjdionndncaaGreatDoor.RRunsNames
namespace Go.Proofs.YtlmpjdionndncaaGreatDoor.RRunsNames
open Go Go.RowKit Ev
set_option maxRecDepth 1000000 in
theorem part30 : Ev.Reach Tryz.prog st30 st31 :=
 Ev.Reach.segD (Ev.tabF_ok Ev.tab) Ev.runsHook_ok Tryz.checked.mixed (HK := Ev.runsHook) (FT := tabF Tryz.prog) (k := 4545) (bitsT 13430 14735 []) (by kernel_rfl)
end Go.Proofs.YtlmpjdionndncaaGreatDoor.RRunsNames
/-
 RunsNames: a state of its run (32).
-/
namespace Go.Proofs.YtlmpjdionndncaaGreatDoor.RRunsNames
open Go Go.RowKit Ev
set_option maxRecDepth 100000
noncomputable def st32 : ASt := ⟨⟨60,39,(patS st31.fr.T [(5,vi 584),(14,vi 584),(17,vi 583),(18,vi 584),(23,.su 16479 0 584 0 584),(24,.sl 16482 0 128 128),(25,.sl 16483 0 1 1),(26,.su 16484 0 585 0 585),(33,.su 16476 0 583 0 583),(34,.sl 16480 0 1 1),(35,.su 16481 0 584 0 584)]),.no,[cd 60 [1,1,1,0,1,0,0,1,0,0,1],.inBlock 1,cd 60 [1,1,1,0,1,0,0,1,1],il 60 [1,1,1,0,1,0,0],.inBlock 0,cd 60 [1,1,1,1]],[],false,none,13561⟩,(cat2 [] (drN 0 st31.cs)),
 addL (patL (kilL st31.H [(14731,1),(14734,1)]) [(13561,mn 182 (([.su 16484 0 585 0 585,.su 16481 0 584 0 584,vi 0,.v (.slice none 0 0),vi 0,vi 0,vi 0,vb false])))]) 14735 (catL [repL [.dead,.dead,.mem 5 none (rz 128),.dead,.dead] 349,[.dead,
 .mem 183 (some 1) (.node 512 (.node 256 (.node 128 (.node 64 (.node 32 (.node 16 (.leaf (zN (.v (.slice none 0 0)) 16)) (.leaf (zN (.v (.slice none 0 0)) 16))) (.node 16 (.leaf (zN (.v (.slice none 0 0)) 16)) (.leaf (zN (.v (.slice none 0 0)) 16)))) (.node 32 (.node 16 (.leaf (zN (.v (.slice none 0 0)) 16)) (.leaf (zN (.v (.slice none 0 0)) 16))) (.node 16 (.leaf (zN (.v (.slice none 0 0)) 16)) (.leaf (zN (.v (.slice none 0 0)) 16))))) (.node 64 (.node 32 (.node 16 (.leaf (zN (.v (.slice none 0 0)) 16)) (.leaf (zN (.v (.slice none 0 0)) 16))) (.node 16 (.leaf (zN (.v (.slice none 0 0)) 16)) (.leaf (zN (.v (.slice none 0 0)) 16)))) (.node 32 (.node 16 (.leaf (zN (.v (.slice none 0 0)) 16)) (.leaf (zN (.v (.slice none 0 0)) 16))) (.node 16 (.leaf (zN (.v (.slice none 0 0)) 16)) (.leaf (zN (.v (.slice none 0 0)) 16)))))) (.node 128 (.node 64 (.node 32 (.node 16 (.leaf (zN (.v (.slice none 0 0)) 16)) (.leaf (zN (.v (.slice none 0 0)) 16))) (.node 16 (.leaf (zN (.v (.slice none 0 0)) 16)) (.leaf (zN (.v (.slice none 0 0)) 16)))) (.node 32 (.node 16 (.leaf (zN (.v (.slice none 0 0)) 16)) (.leaf (zN (.v (.slice none 0 0)) 16))) (.node 16 (.leaf (zN (.v (.slice none 0 0)) 16)) (.leaf (zN (.v (.slice none 0 0)) 16))))) (.node 64 (.node 32 (.node 16 (.leaf (zN (.v (.slice none 0 0)) 16)) (.leaf (zN (.v (.slice none 0 0)) 16))) (.node 16 (.leaf (zN (.v (.slice none 0 0)) 16)) (.leaf (zN (.v (.slice none 0 0)) 16)))) (.node 32 (.node 16 (.leaf (zN (.v (.slice none 0 0)) 16)) (.leaf (zN (.v (.slice none 0 0)) 16))) (.node 16 (.leaf (zN (.v (.slice none 0 0)) 16)) (.leaf (zN (.v (.slice none 0 0)) 16))))))) (.node 64 (.node 32 (.node 16 (.leaf (zN (.v (.slice none 0 0)) 16)) (.leaf (zN (.v (.slice none 0 0)) 16))) (.node 16 (.leaf (zN (.v (.slice none 0 0)) 16)) (.leaf (zN (.v (.slice none 0 0)) 16)))) (.leaf (zN (.v (.slice none 0 0)) 8)))),
 .mem 5 none (rz 128),
 .dead,
 .mem 183 (some 1) (.node 512 (.node 256 (.node 128 (.node 64 (.node 32 (.node 16 (.leaf (slP 5 0 128 128 16 13562)) (.leaf (slP 5 0 128 128 16 13642))) (.node 16 (.leaf (slP 5 0 128 128 16 13722)) (.leaf (slP 5 0 128 128 16 13802)))) (.node 32 (.node 16 (.leaf (slP 5 0 128 128 16 13882)) (.leaf (slP 5 0 128 128 16 13962))) (.node 16 (.leaf (slP 5 0 128 128 16 14042)) (.leaf (slP 5 0 128 128 16 14122))))) (.node 64 (.node 32 (.node 16 (.leaf (slP 5 0 128 128 16 14202)) (.leaf (slP 5 0 128 128 16 14282))) (.node 16 (.leaf (slP 5 0 128 128 16 14362)) (.leaf (slP 5 0 128 128 16 14442)))) (.node 32 (.node 16 (.leaf (slP 5 0 128 128 16 14522)) (.leaf (slP 5 0 128 128 16 14602))) (.node 16 (.leaf (slP 5 0 128 128 16 14682)) (.leaf (slP 5 0 128 128 16 14762)))))) (.node 128 (.node 64 (.node 32 (.node 16 (.leaf (slP 5 0 128 128 16 14842)) (.leaf (slP 5 0 128 128 16 14922))) (.node 16 (.leaf (slP 5 0 128 128 16 15002)) (.leaf (slP 5 0 128 128 16 15082)))) (.node 32 (.node 16 (.leaf (slP 5 0 128 128 16 15162)) (.leaf (slP 5 0 128 128 16 15242))) (.node 16 (.leaf (slP 5 0 128 128 16 15322)) (.leaf (slP 5 0 128 128 16 15402))))) (.node 64 (.node 32 (.node 16 (.leaf (slP 5 0 128 128 16 15482)) (.leaf (slP 5 0 128 128 16 15562))) (.node 16 (.leaf (slP 5 0 128 128 16 15642)) (.leaf (slP 5 0 128 128 16 15722)))) (.node 32 (.node 16 (.leaf (slP 5 0 128 128 16 15802)) (.leaf (slP 5 0 128 128 16 15882))) (.node 16 (.leaf (slP 5 0 128 128 16 15962)) (.leaf (slP 5 0 128 128 16 16042))))))) (.node 64 (.node 32 (.node 16 (.leaf (slP 5 0 128 128 16 16122)) (.leaf (slP 5 0 128 128 16 16202))) (.node 16 (.leaf (slP 5 0 128 128 16 16282)) (.leaf (slP 5 0 128 128 16 16362)))) (.leaf (slP 5 0 128 128 9 16442))))]]),16485⟩
end Go.Proofs.YtlmpjdionndncaaGreatDoor.RRunsNames
namespace Go.Proofs.YtlmpjdionndncaaGreatDoor.RRunsNames
open Go Go.RowKit Ev
set_option maxRecDepth 1000000 in
theorem part31 : Ev.Reach Tryz.prog st31 st32 :=
 Ev.Reach.segD (Ev.tabF_ok Ev.tab) Ev.runsHook_ok Tryz.checked.mixed (HK := Ev.runsHook) (FT := tabF Tryz.prog) (k := 4550) (bitsT 14735 16485 [13561]) (by kernel_rfl)
end Go.Proofs.YtlmpjdionndncaaGreatDoor.RRunsNames
