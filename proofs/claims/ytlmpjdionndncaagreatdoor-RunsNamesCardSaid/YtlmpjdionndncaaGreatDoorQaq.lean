/-
  Texts of this claim, laid together: Rzs27, Rzp26, Rzs28, Rzp27.
-/
import Derived.Test.YtlmpjdionndncaaGreatDoorQac
import Derived.Test.YtlmpjdionndncaaGreatDoorProg
import Derived.Test.YtlmpjdionndncaaGreatDoorQap

/-
 RunsNames: a state of its run (27).
-/
namespace Go.Proofs.YtlmpjdionndncaaGreatDoor.RRunsNames
open Go Go.RowKit Ev
set_option maxRecDepth 100000
noncomputable def st27 : ASt := ⟨⟨41,60,(patS .e [(0,.ptr 7660 0),(1,vi 1),(2,vi 0),(3,vi 5),(4,vb true),(10,.v (.slice none 0 0)),(11,vi 0),(12,.su 12298 0 3 0 3),(13,vi 3),(14,.ptr 12296 0),(15,vi 0),(20,vi 0),(21,vi 3),(22,vi 5),(23,vb true),(24,vi 2),(25,vi 3),(26,.tup ([.agg ([vi 2,vi 3]),vi 0])),(27,.ptr 7660 0),(28,vi 1),(29,vi 3),(30,vi 4),(31,.tup ([.agg ([vi 1,vi 4]),vi 0])),(32,.agg ([vi 2,vi 3])),(33,vi 0),(34,vi 0),(35,vb false),(37,.su 12250 0 2 0 2),(38,.agg ([vi 2,vi 3])),(39,.sl 12297 0 1 1),(40,.su 12298 0 3 0 3)]),(rg 41 [1,1,0,1,0,0,1,0,0,0] 5),[cd 41 [1,1,0,1,0,0,1,0,0,1],.inBlock 1,cd 41 [1,1,0,1,0,0,1,1],il 41 [1,1,0,1,0,0],.inBlock 0,cd 41 [1,1,1]],[],false,none,12160⟩,(cat2 [⟨13,90,(patS .e [(0,.ptr 7660 0),(1,vi 1),(2,.agg ([vi 9,vi 2,vi 8,vb true])),(3,.ptr 12142 0),(4,.ptr 12143 0),(5,.ptr 12144 0),(6,.v (.slice none 0 0)),(7,vi 0),(8,vi 0),(9,.ptr 12146 0),(10,vb true),(11,vi 5),(13,vi 5),(14,.ptr 12154 0),(15,.ptr 12155 0),(16,vi 0),(17,vi 5),(21,.ptr 7660 0),(22,vb false),(23,vb false),(24,.ptr 7660 0),(25,.ptr 7639 0),(26,vb false),(27,vb false),(28,.agg ([vi 9,vi 2,vi 8,vb true])),(29,vi 0),(30,vi 0),(31,vb false),(33,.tup ([.agg ([.v (.string ⟨#[]⟩),vi 1,vi 1,.su 12153 0 1 0 1,vi 450,vi 1]),vb true])),(34,.ptr 7660 0),(35,.ptr 7639 0),(36,vi 1),(37,.tup ([.agg ([.v (.string ⟨#[]⟩),vi 1,vi 1,.su 12153 0 1 0 1,vi 450,vi 1]),vb true])),(38,.agg ([.v (.string ⟨#[]⟩),vi 1,vi 1,.su 12153 0 1 0 1,vi 450,vi 1])),(39,vb true),(40,vb true),(41,vb false),(42,.ptr 12146 3),(43,.su 12153 0 1 0 1),(44,vi 1),(45,vi 1),(46,vb false),(47,.ptr 12153 0),(48,vi 5),(49,vi 1),(50,vi 5),(51,vi 5),(52,vi 1),(53,vi 5),(54,.ptr 12144 0),(55,vi 9),(56,.fn (.func 74) ([]) ([.ptr 12156 0,.ptr 12157 0])),(57,vi 0),(58,vi 5),(60,.ptr 7660 0),(61,vi 1),(62,vi 0),(63,vi 5),(64,.ptr 12144 3),(65,vb true)]),(rg 13 [1,0,1,1,1,1,1,1,1,1,1,0,1,0,1,0,0] 6),[cd 13 [1,0,1,1,1,1,1,1,1,1,1,0,1,0,1,0,1],.inBlock 3],[],false,(some 12159),12160⟩,
 ⟨74,20,(patS .e [(0,.yl 12159),(1,.ptr 12156 0),(2,.ptr 12157 0),(4,vi 0),(5,vi 0),(6,vi 5),(7,vb true),(11,.yl 12159),(12,vi 0),(13,vi 5),(14,vi 0),(15,vi 9),(16,vi 9),(17,vi 5)]),(rg 74 [1,0,0,1,0,0,0] 7),[cd 74 [1,0,0,1,0,0,1],.inBlock 1,cd 74 [1,0,0,1,1],il 74 [1,0,0],.inBlock 0],[],false,none,12160⟩,
 ⟨13,90,(patS .e [(0,.ptr 7660 0),(1,vi 1),(2,.agg ([vi 9,vi 2,vi 8,vb true])),(3,.ptr 12142 0),(4,.ptr 12143 0),(5,.ptr 12144 0),(6,.v (.slice none 0 0)),(7,vi 0),(8,vi 0),(9,.ptr 12146 0),(10,vb true),(11,vi 5),(13,vi 5),(14,.ptr 12154 0),(15,.ptr 12155 0),(21,.ptr 7660 0),(22,vb false),(23,vb false),(24,.ptr 7660 0),(25,.ptr 7639 0),(26,vb false),(27,vb false),(28,.agg ([vi 9,vi 2,vi 8,vb true])),(29,vi 0),(30,vi 0),(31,vb false),(33,.tup ([.agg ([.v (.string ⟨#[]⟩),vi 1,vi 1,.su 12153 0 1 0 1,vi 450,vi 1]),vb true])),(34,.ptr 7660 0),(35,.ptr 7639 0),(36,vi 1),(37,.tup ([.agg ([.v (.string ⟨#[]⟩),vi 1,vi 1,.su 12153 0 1 0 1,vi 450,vi 1]),vb true])),(38,.agg ([.v (.string ⟨#[]⟩),vi 1,vi 1,.su 12153 0 1 0 1,vi 450,vi 1])),(39,vb true),(40,vb true),(41,vb false),(42,.ptr 12146 3),(43,.su 12153 0 1 0 1),(44,vi 1),(45,vi 1),(46,vb false),(47,.ptr 12153 0),(48,vi 5),(49,vi 1),(50,vi 5),(51,vi 5),(52,vi 1),(53,vi 5),(54,.ptr 12144 0),(55,vi 9),(56,.fn (.func 74) ([]) ([.ptr 12156 0,.ptr 12157 0]))]),.no,[.inRF 12159,.inBlock 2,cd 13 [1,0,1,1,1,1,1,1,1,1,1,1],.inScope (subC (bodyF Tryz.prog 13) [1,0])],[12158],false,none,12142⟩,
 ⟨10,76,(patS .e [(0,.ptr 7660 0),(1,vi 1),(2,.agg ([vi 9,vi 2,vi 8,vb true])),(3,.sl 12140 0 1 1),(6,.ptr 12141 0),(8,vb false),(15,.ptr 7660 0),(16,vi 1),(17,.agg ([vi 9,vi 2,vi 8,vb true]))]),(rg 10 [1,0] 3),[cd 10 [1,1]],[],false,none,12141⟩,
 ⟨4,158,(patS (frC st26 0).T [(40,vb true),(41,vb true),(42,vb true),(43,.ptr 7660 0),(44,.agg ([vi 1,vi 2,vi 8,vb false])),(45,vb true),(46,vb true),(47,vb true),(48,.ptr 7660 0),(49,.agg ([vi 9,vi 2,vi 8,vb true])),(50,.sl 12135 0 5 5),(51,.agg ([vi 1,.sl 12137 0 1 1,.su 12139 0 5 0 5])),(52,.sl 12140 0 1 1)]),(rg 4 [1,1,1,0] 29),[cd 4 [1,1,1,1]],[],false,none,0⟩] (drN 1 st26.cs)),
 addL (patL (kilL st26.H [(11125,1),(11127,2),(11480,1),(11796,1),(12105,1)]) [(11541,ms 240 1 (([.ptr 10551 0,.ptr 10826 0,.ptr 11090 0,.ptr 11351 0,.ptr 12023 0,.ptr 9219 0])))]) 12106 (catL [deadL 31,[mn 3 (([vi 5])),
 .dead,
 ms 2 1 ((uN .i64 5 17213620485)),
 mn 36 (([vi 1,.sl 12137 0 1 1,.su 12139 0 5 0 5])),
 .dead,
 mn 27 (([.ptr 7660 0])),
 mn 2 (([vi 1])),
 mn 31 (([vi 9,vi 2,vi 8,vb true])),
 .dead,
 mn 46 (([.v (.string ⟨#[]⟩),vi 1,vi 1,.su 12153 0 1 0 1,vi 450,vi 1]))],deadL 6,[ms 3 1 (([vi 5])),
 mn 38 (([.v (.slice none 0 0)])),
 mn 39 (([vi 0])),
 mn 3 (([vi 5])),
 mn 3 (([vi 9])),
 .dfd true,
 .loop .busy none 13 90 (patS .e [(0,.ptr 7660 0),(1,vi 1),(2,.agg ([vi 9,vi 2,vi 8,vb true])),(3,.ptr 12142 0),(4,.ptr 12143 0),(5,.ptr 12144 0),(6,.v (.slice none 0 0)),(7,vi 0),(8,vi 0),(9,.ptr 12146 0),(10,vb true),(11,vi 5),(13,vi 5),(14,.ptr 12154 0),(15,.ptr 12155 0),(21,.ptr 7660 0),(22,vb false),(23,vb false),(24,.ptr 7660 0),(25,.ptr 7639 0),(26,vb false),(27,vb false),(28,.agg ([vi 9,vi 2,vi 8,vb true])),(29,vi 0),(30,vi 0),(31,vb false),(33,.tup ([.agg ([.v (.string ⟨#[]⟩),vi 1,vi 1,.su 12153 0 1 0 1,vi 450,vi 1]),vb true])),(34,.ptr 7660 0),(35,.ptr 7639 0),(36,vi 1),(37,.tup ([.agg ([.v (.string ⟨#[]⟩),vi 1,vi 1,.su 12153 0 1 0 1,vi 450,vi 1]),vb true])),(38,.agg ([.v (.string ⟨#[]⟩),vi 1,vi 1,.su 12153 0 1 0 1,vi 450,vi 1])),(39,vb true),(40,vb true),(41,vb false),(42,.ptr 12146 3),(43,.su 12153 0 1 0 1),(44,vi 1),(45,vi 1),(46,vb false),(47,.ptr 12153 0),(48,vi 5),(49,vi 1),(50,vi 5),(51,vi 5),(52,vi 1),(53,vi 5),(54,.ptr 12144 0),(55,vi 9),(56,.fn (.func 74) ([]) ([.ptr 12156 0,.ptr 12157 0]))]) [57,58] (subC (bodyF Tryz.prog 13) [1,0,1,1,1,1,1,1,1,1,1,0,1,0,0]) (subC (bodyF Tryz.prog 13) [1,0,1,1,1,1,1,1,1,1,1,0,1,0,1]) 12158],deadL 138,[ms 24 2 ((uN .i64 6 3307158438147))],deadL 45]),12344⟩
end Go.Proofs.YtlmpjdionndncaaGreatDoor.RRunsNames
namespace Go.Proofs.YtlmpjdionndncaaGreatDoor.RRunsNames
open Go Go.RowKit Ev
set_option maxRecDepth 1000000 in
theorem part26 : Ev.Reach Tryz.prog st26 st27 :=
 Ev.Reach.segD (Ev.tabF_ok Ev.tab) Ev.runsHook_ok Tryz.checked.mixed (HK := Ev.runsHook) (FT := tabF Tryz.prog) (k := 3735) (bitsT 12106 12344 [11541]) (by kernel_rfl)
end Go.Proofs.YtlmpjdionndncaaGreatDoor.RRunsNames
/-
 RunsNames: a state of its run (28).
-/
namespace Go.Proofs.YtlmpjdionndncaaGreatDoor.RRunsNames
open Go Go.RowKit Ev
set_option maxRecDepth 100000
noncomputable def st28 : ASt := ⟨⟨87,89,(patS .e [(0,.ptr 7660 0),(1,.agg ([.v (.string ⟨#[]⟩),vi 8,vi 1,.su 12486 0 1 0 1,vi 456,vi 1])),(2,vi 4),(3,vi 0),(4,.agg ([vi 0,vi 5])),(5,.fn (.func 76) ([]) ([.ptr 12446 0])),(7,.ptr 12494 0),(10,.ptr 12495 0),(12,vi 0),(13,.su 12503 0 4 0 4),(14,vi 4),(15,vi 2),(16,vi 0),(20,.ptr 12495 0),(21,vi 0),(22,vi 4),(23,.ptr 12495 1),(24,vi 5),(25,vb true),(26,vi 3),(27,vi 4),(28,.tup ([vi 2,vi 0])),(29,.fn (.func 76) ([]) ([.ptr 12446 0])),(30,vi 4),(31,.tup ([vi 4,vi 0])),(32,vi 2),(33,vi 0),(34,vi 0),(35,vb false),(37,.su 12501 0 3 0 3),(38,vi 2),(39,.sl 12502 0 1 1),(40,.su 12503 0 4 0 4)]),(rg 87 [1,1,0,1,0,0,1,0,0,0] 3),[cd 87 [1,1,0,1,0,0,1,0,0,1],.inBlock 1,cd 87 [1,1,0,1,0,0,1,1],il 87 [1,1,0,1,0,0],.inBlock 0,cd 87 [1,1,1]],[],false,none,12494⟩,(cat2 [⟨45,97,(patS .e [(0,.ptr 7660 0),(1,vi 1),(2,.sl 12447 0 1 1),(3,.fn (.func 76) ([]) ([.ptr 12446 0])),(4,.ptr 12448 0),(7,.ptr 12449 0),(8,.ptr 12450 0),(9,.ptr 12451 0),(10,.ptr 12452 0),(11,.ptr 12487 0),(12,vi 0),(13,vi 0),(14,.ptr 12492 0),(15,vi 0),(16,vb false),(18,.ptr 7660 0),(19,vb false),(21,.ptr 7660 0),(22,.ptr 7660 0),(23,.ptr 7660 3),(24,vi 4),(25,.ptr 7660 0),(26,.ptr 7660 0),(27,.ptr 7660 3),(28,vi 4),(29,vi 5),(30,.ptr 7660 0),(31,.ptr 7660 3),(32,.tup ([.agg ([.v (.string ⟨#[]⟩),vi 8,vi 1,.su 12486 0 1 0 1,vi 456,vi 1]),vi 0])),(33,.ptr 7660 0),(34,.ptr 7660 0),(35,.ptr 7660 0),(36,.ptr 7639 0),(37,vi 1),(38,.sl 12447 0 1 1),(39,.tup ([.agg ([.v (.string ⟨#[]⟩),vi 8,vi 1,.su 12486 0 1 0 1,vi 456,vi 1]),vi 0])),(40,.agg ([.v (.string ⟨#[]⟩),vi 8,vi 1,.su 12486 0 1 0 1,vi 456,vi 1])),(41,vi 0),(42,vi 0),(43,vb false),(46,.ptr 7660 0),(47,.agg ([.v (.string ⟨#[]⟩),vi 8,vi 1,.su 12486 0 1 0 1,vi 456,vi 1])),(48,.fn (.func 139) ([]) ([.ptr 12489 0,.ptr 12488 0])),(49,vi 0),(50,.agg ([vi 0,vi 5])),(51,.tup ([vi 0,vb false])),(52,.ptr 7660 0),(53,.ptr 7660 0),(54,.ptr 7660 2),(55,.ptr 7655 0),(56,vi 4),(57,vi 0),(58,.tup ([vi 0,vb false])),(59,vi 0),(60,vb false),(61,vb false),(62,vb false),(63,.v (.tuple #[])),(64,.v (.tuple #[])),(65,.v (.tuple #[])),(66,.v (.tuple #[])),(67,vb false),(68,vb false),(69,.v (.tuple #[])),(70,.v (.tuple #[])),(71,.v (.tuple #[])),(72,.v (.tuple #[])),(73,.v (.tuple #[])),(74,.v (.tuple #[])),(75,.v (.tuple #[])),(76,.v (.tuple #[])),(77,vb false),(85,.ptr 7660 0),(86,.agg ([.v (.string ⟨#[]⟩),vi 8,vi 1,.su 12486 0 1 0 1,vi 456,vi 1])),(87,vi 4),(88,vi 0),(89,.agg ([vi 0,vi 5])),(90,.fn (.func 76) ([]) ([.ptr 12446 0]))]),(rg 45 [1,0,1,1,1,1,1,1,0,1,0,1,0,1,0] 6),[cd 45 [1,0,1,1,1,1,1,1,0,1,0,1,0,1,1],.inBlock 1],[],false,(some 12491),12492⟩,
 ⟨139,35,(patS .e [(0,.yl 12491),(1,.ptr 12489 0),(2,.ptr 12488 0),(4,vi 5),(5,vi 13),(6,vi 0),(7,.ptr 12489 3),(8,.su 12486 0 1 0 1),(9,vi 5),(10,.ptr 7660 0),(11,.ptr 7660 0),(12,.ptr 7660 0),(13,.ptr 7639 0),(14,vi 13),(15,.ptr 12489 5),(16,vi 1),(17,vi 0),(18,vb true),(19,vi 0),(20,.yl 12491),(21,vi 0),(22,vi 0),(23,vi 13),(24,vi 0),(25,vi 0),(26,vi 1),(27,vi 13),(28,vi 13),(29,vi 5),(30,vi 5),(31,.agg ([vi 0,vi 5]))]),(rg 139 [1,1,0,0,1,1,0,0,1,0] 12),[cd 139 [1,1,0,0,1,1,0,0,1,1],.inBlock 1,cd 139 [1,1,0,0,1,1,1],il 139 [1,1,0,0],.inBlock 0],[],false,none,12492⟩,
 ⟨45,97,(patS .e [(0,.ptr 7660 0),(1,vi 1),(2,.sl 12447 0 1 1),(3,.fn (.func 76) ([]) ([.ptr 12446 0])),(4,.ptr 12448 0),(7,.ptr 12449 0),(8,.ptr 12450 0),(9,.ptr 12451 0),(10,.ptr 12452 0),(11,.ptr 12487 0),(12,vi 0),(18,.ptr 7660 0),(19,vb false),(21,.ptr 7660 0),(22,.ptr 7660 0),(23,.ptr 7660 3),(24,vi 4),(25,.ptr 7660 0),(26,.ptr 7660 0),(27,.ptr 7660 3),(28,vi 4),(29,vi 5),(30,.ptr 7660 0),(31,.ptr 7660 3),(32,.tup ([.agg ([.v (.string ⟨#[]⟩),vi 8,vi 1,.su 12486 0 1 0 1,vi 456,vi 1]),vi 0])),(33,.ptr 7660 0),(34,.ptr 7660 0),(35,.ptr 7660 0),(36,.ptr 7639 0),(37,vi 1),(38,.sl 12447 0 1 1),(39,.tup ([.agg ([.v (.string ⟨#[]⟩),vi 8,vi 1,.su 12486 0 1 0 1,vi 456,vi 1]),vi 0])),(40,.agg ([.v (.string ⟨#[]⟩),vi 8,vi 1,.su 12486 0 1 0 1,vi 456,vi 1])),(41,vi 0),(42,vi 0),(43,vb false),(46,.ptr 7660 0),(47,.agg ([.v (.string ⟨#[]⟩),vi 8,vi 1,.su 12486 0 1 0 1,vi 456,vi 1])),(48,.fn (.func 139) ([]) ([.ptr 12489 0,.ptr 12488 0]))]),.no,[.inRF 12491,.inBlock 0,cd 45 [1,0,1,1,1,1,1,1,1],.inScope (subC (bodyF Tryz.prog 45) [1,0])],[12490],false,none,12448⟩,
 ⟨42,70,(patS .e [(0,.ptr 7660 0),(1,vi 0),(2,vi 1),(3,.su 12441 0 5 0 5),(8,.ptr 12443 0),(9,vi 0),(10,.ptr 12446 0),(11,.fn (.func 76) ([]) ([.ptr 12446 0])),(18,.su 12441 0 5 0 5),(19,.su 12445 0 5 0 5),(20,.fn (.func 76) ([]) ([.ptr 12446 0])),(22,.ptr 7660 0),(23,vi 1),(24,.su 12445 0 5 0 5),(25,vi 5),(26,.sl 12447 0 1 1),(27,.fn (.func 76) ([]) ([.ptr 12446 0]))]),(rg 42 [1,1,1,0] 6),[cd 42 [1,1,1,1]],[],false,none,12443⟩,
 ⟨13,90,(patS (frC st27 0).T [(18,.su 12441 0 5 0 5),(19,vi 0),(20,.ptr 12442 0),(59,.tup ([.su 12441 0 5 0 5,vi 0])),(66,.tup ([.su 12441 0 5 0 5,vi 0])),(67,.su 12441 0 5 0 5),(68,vi 0),(69,vi 0),(70,vb true),(72,.ptr 7660 0),(73,.v (.slice none 0 0)),(74,vi 0),(75,.su 12441 0 5 0 5)]),(rg 13 [1,0,1,1,1,1,1,1,1,1,1,0,1,0,1,0,1,1,0,1,0] 4),[cd 13 [1,0,1,1,1,1,1,1,1,1,1,0,1,0,1,0,1,1,1],.inBlock 3],[],false,(some 12159),12160⟩] (drN 1 st27.cs)),
 addL (patL (kilL st27.H [(11472,1),(11476,1),(12298,1)]) [(7639,mn 137 (([.ptr 20 0,vi 8,vi 1,vi 2,vb false,vi 400,vi 1200,.ptr 7642 0,.su 12482 0 8 0 8,vi 9,.ptr 7640 0,vi 0,.fn (.func 104) ([]) ([])]))),
 (7642,mn 354 (([vb true,vi 450,vi 1200,.su 12478 0 1 0 1]))),
 (7660,mn 91 (([.ptr 7639 0,.ptr 6023 0,.ptr 7655 0,vi 5,.su 11746 0 4 0 4,vi 0])))]) 12344 (catL [deadL 97,[ms 2 1 ((uN .i64 5 17213620485)),
 mn 46 (([.v (.string ⟨#[]⟩),vi 0,vi 0,.v (.slice none 0 0),vi 0,vi 0])),
 mn 46 (([.v (.string ⟨#[]⟩),vi 0,vi 0,.v (.slice none 0 0),vi 0,vi 0])),
 .dead,
 ms 2 1 ((uN .i64 5 17213620485)),
 mn 34 (([.su 12445 0 5 0 5])),
 mn 3 (([vi 5])),
 mn 27 (([.ptr 7660 0])),
 mn 93 (([.fn (.func 76) ([]) ([.ptr 12446 0])])),
 mn 46 (([.v (.string ⟨#[]⟩),vi 0,vi 0,.v (.slice none 0 0),vi 0,vi 0])),
 mn 39 (([vi 0])),
 mn 3 (([vi 4])),
 .dead,
 .dead,
 .dead,
 ms 3 1 (([vi 5]))],deadL 21,[ms 255 2 (([vi 450,vi 7])),
 .dead,
 .dead,
 .dead,
 .mem 46 (some 6) (.node 36 (.node 18 (.leaf ([.v (.string ⟨#[]⟩),vi 1,vi 1,.su 7939 0 1 0 1,vi 450,vi 1,.v (.string ⟨#[]⟩),vi 2,vi 2,.su 8439 0 1 0 1,vi 451,vi 1,.v (.string ⟨#[]⟩),vi 3,vi 1,.su 8899 0 1 0 1,vi 0,vi 0])) (.leaf ([.v (.string ⟨#[]⟩),vi 4,vi 1,.su 9288 0 1 0 1,vi 452,vi 1,.v (.string ⟨#[]⟩),vi 5,vi 1,.su 9681 0 1 0 1,vi 453,vi 1,.v (.string ⟨#[]⟩),vi 6,vi 1,.su 10040 0 1 0 1,vi 454,vi 1]))) (.leaf ([.v (.string ⟨#[]⟩),vi 7,vi 1,.su 11450 0 1 0 1,vi 455,vi 1,.v (.string ⟨#[]⟩),vi 8,vi 1,.su 12456 0 1 0 1,vi 456,vi 1]))),
 .dead,
 .dead,
 .dead,
 ms 3 1 (([vi 5])),
 mn 46 (([.v (.string ⟨#[]⟩),vi 8,vi 1,.su 12486 0 1 0 1,vi 456,vi 1])),
 mn 27 (([.ptr 7660 0])),
 mn 46 (([.v (.string ⟨#[]⟩),vi 8,vi 1,.su 12486 0 1 0 1,vi 456,vi 1])),
 .dfd true,
 .loop .busy none 45 97 (patS .e [(0,.ptr 7660 0),(1,vi 1),(2,.sl 12447 0 1 1),(3,.fn (.func 76) ([]) ([.ptr 12446 0])),(4,.ptr 12448 0),(7,.ptr 12449 0),(8,.ptr 12450 0),(9,.ptr 12451 0),(10,.ptr 12452 0),(11,.ptr 12487 0),(12,vi 0),(18,.ptr 7660 0),(19,vb false),(21,.ptr 7660 0),(22,.ptr 7660 0),(23,.ptr 7660 3),(24,vi 4),(25,.ptr 7660 0),(26,.ptr 7660 0),(27,.ptr 7660 3),(28,vi 4),(29,vi 5),(30,.ptr 7660 0),(31,.ptr 7660 3),(32,.tup ([.agg ([.v (.string ⟨#[]⟩),vi 8,vi 1,.su 12486 0 1 0 1,vi 456,vi 1]),vi 0])),(33,.ptr 7660 0),(34,.ptr 7660 0),(35,.ptr 7660 0),(36,.ptr 7639 0),(37,vi 1),(38,.sl 12447 0 1 1),(39,.tup ([.agg ([.v (.string ⟨#[]⟩),vi 8,vi 1,.su 12486 0 1 0 1,vi 456,vi 1]),vi 0])),(40,.agg ([.v (.string ⟨#[]⟩),vi 8,vi 1,.su 12486 0 1 0 1,vi 456,vi 1])),(41,vi 0),(42,vi 0),(43,vb false),(46,.ptr 7660 0),(47,.agg ([.v (.string ⟨#[]⟩),vi 8,vi 1,.su 12486 0 1 0 1,vi 456,vi 1])),(48,.fn (.func 139) ([]) ([.ptr 12489 0,.ptr 12488 0]))]) [49,50] (subC (bodyF Tryz.prog 45) [1,0,1,1,1,1,1,1,0,1,0,0]) (subC (bodyF Tryz.prog 45) [1,0,1,1,1,1,1,1,0,1,0,1]) 12490,
 .dead,
 .dead,
 mn 46 (([.v (.string ⟨#[]⟩),vi 8,vi 1,.su 12486 0 1 0 1,vi 456,vi 1])),
 mn 156 (([vi 0,vi 5]))],deadL 7,[ms 2 1 ((uN .i64 4 33751301))]]),12504⟩
end Go.Proofs.YtlmpjdionndncaaGreatDoor.RRunsNames
namespace Go.Proofs.YtlmpjdionndncaaGreatDoor.RRunsNames
open Go Go.RowKit Ev
set_option maxRecDepth 1000000 in
theorem part27 : Ev.Reach Tryz.prog st27 st28 :=
 Ev.Reach.segD (Ev.tabF_ok Ev.tab) Ev.runsHook_ok Tryz.checked.mixed (HK := Ev.runsHook) (FT := tabF Tryz.prog) (k := 1741) (bitsT 12344 12504 [7639,7642,7660]) (by kernel_rfl)
end Go.Proofs.YtlmpjdionndncaaGreatDoor.RRunsNames
