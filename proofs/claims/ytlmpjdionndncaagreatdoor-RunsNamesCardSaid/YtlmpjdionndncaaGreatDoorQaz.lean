/-
  Texts of this claim, laid together: Rzs45, Rzp44, Rzs46, Rzp45.
-/
import Derived.Test.YtlmpjdionndncaaGreatDoorQac
import Derived.Test.YtlmpjdionndncaaGreatDoorProg
import Derived.Test.YtlmpjdionndncaaGreatDoorQay

/-
 RunsNames: a state of its run (45).
-/
namespace Go.Proofs.YtlmpjdionndncaaGreatDoor.RRunsNames
open Go Go.RowKit Ev
set_option maxRecDepth 100000
noncomputable def st45 : ASt := ⟨⟨7,17,(patS (frC st44 2).T [(2,.ptr 21200 0)]),(rg 7 [1,0] 1),[cd 7 [1,1]],[],false,none,13540⟩,(cat2 [] (drN 3 st44.cs)),
 addL (patL (kilS (kilL st44.H [(13543,1),(13545,1),(13552,2),(13555,2),(13561,2),(19559,1),(19561,1),(20771,1),(21189,1),(21191,2),(21247,1),(21469,2),(21472,2),(21475,1),(21496,1),(21498,1),(21502,2),(21506,1),(21512,1),(21974,1)]) [(13567,5,49,1),(13817,5,1149,1)]) [(13558,.mem 349 none (.node 76800 (.node 38400 (.node 19200 (.node 9600 (.node 4800 (rz 4800) (.node 2400 (.node 1200 (rz 1200) (.node 600 (.node 300 (rz 300) (.node 150 (.node 75 (rz 75) (.node 37 (.node 18 (rz 18) (lu 19 22300745198530623162093550468306498700181504)) (.node 19 (lu 19 18518801667747479552) (lz 19)))) (.node 75 (.node 37 (.node 18 (lz 18) (lz 19)) (.node 19 (lz 19) (lu 19 20282409603651670532316941189120))) (.node 37 (.node 18 (lc ([u8 3 65536,z8 15])) (rz 19)) (rz 38))))) (rz 600))) (rz 2400))) (rz 9600)) (rz 19200)) (.node 19200 (rz 19200) (.node 9600 (.node 4800 (.node 2400 (.node 1200 (.node 600 (.node 300 (.node 150 (.node 75 (.node 37 (.node 18 (lu 18 309485009821345068741645393) (lu 19 87112285931760246660790998951141597775104)) (.node 19 (lu 19 5192296858534827629093446282641408) (lc ([u8 4 83886080,z8 15])))) (.node 37 (.node 18 (lz 18) (lz 19)) (.node 19 (lc ([z8 12,u8 7 374183262639823])) (lu 19 680564733841876926963642703010955526146)))) (.node 75 (.node 37 (.node 18 (lu 18 1967393731554212031230635514265600) (lz 19)) (.node 19 (lz 19) (lz 19))) (.node 37 (.node 18 (lz 18) (lu 19 12886330822646266795634431361024)) (rz 38)))) (rz 300)) (rz 600)) (rz 1200)) (rz 2400)) (rz 4800)) (rz 9600)))) (rz 76800))),
 (13559,.map [] 3),
 (13560,mn 179 (([.sl 13558 0 1200 1200,.mp 13559,vi 0,.v (.slice none 0 0),vi 0,vi 0,vi 3,vb false]))),
 (21179,mn 137 (([.ptr 13560 0,vi 8,vi 1,vi 2,vb false,vi 400,vi 1200,.ptr 21182 0,.su 22441 0 3 0 3,vi 4,.ptr 21180 0,vi 0,.fn (.func 104) ([]) ([])]))),
 (21182,mn 354 (([vb true,vi 450,vi 1200,.su 22001 0 1 0 1])))]) 21975 (catL [deadL 4,[ms 3 1 (([vi 2]))],deadL 21,[ms 255 2 (([vi 450,vi 2]))],deadL 437,[ms 3 1 (([vi 0])),
 .dead,
 ms 46 6 (([.v (.string ⟨#[]⟩),vi 1,vi 1,.su 21479 0 1 0 1,vi 450,vi 1,.v (.string ⟨#[]⟩),vi 2,vi 2,.su 21979 0 1 0 1,vi 451,vi 1,.v (.string ⟨#[]⟩),vi 3,vi 1,.su 22439 0 1 0 1,vi 0,vi 0]))],deadL 13]),22455⟩
end Go.Proofs.YtlmpjdionndncaaGreatDoor.RRunsNames
namespace Go.Proofs.YtlmpjdionndncaaGreatDoor.RRunsNames
open Go Go.RowKit Ev
set_option maxRecDepth 1000000 in
theorem part44 : Ev.Reach Tryz.prog st44 st45 :=
 Ev.Reach.segD (Ev.tabF_ok Ev.tab) Ev.runsHook_ok Tryz.checked.mixed (HK := Ev.runsHook) (FT := tabF Tryz.prog) (k := 2924) (bitsT 21975 22455 [13558,13559,13560,21179,21182]) (by kernel_rfl)
end Go.Proofs.YtlmpjdionndncaaGreatDoor.RRunsNames
/-
 RunsNames: a state of its run (46).
-/
namespace Go.Proofs.YtlmpjdionndncaaGreatDoor.RRunsNames
open Go Go.RowKit Ev
set_option maxRecDepth 100000
noncomputable def st46 : ASt := ⟨⟨41,60,(patS .e [(0,.ptr 21200 0),(1,vi 1),(2,vi 0),(3,vi 2),(4,vb false),(10,.v (.slice none 0 0)),(11,vi 0),(12,.v (.slice none 0 0)),(13,vi 0),(20,vi 0),(21,vi 0),(22,vi 2),(23,vb true),(27,.ptr 21200 0),(28,vi 1),(29,vi 0),(30,vi 1),(31,.tup ([.agg ([vi 3,vi 1]),vi 0]))]),(rg 41 [1,1,0,1,0,0,1,0,0,0] 5),[cd 41 [1,1,0,1,0,0,1,0,0,1],.inBlock 1,cd 41 [1,1,0,1,0,0,1,1],il 41 [1,1,0,1,0,0],.inBlock 0,cd 41 [1,1,1]],[],false,none,22491⟩,(cat2 [⟨13,90,(patS .e [(0,.ptr 21200 0),(1,vi 1),(2,.agg ([vi 2,vi 2,vi 8,vb false])),(3,.ptr 22473 0),(4,.ptr 22474 0),(5,.ptr 22475 0),(6,.v (.slice none 0 0)),(7,vi 0),(8,vi 0),(9,.ptr 22477 0),(10,vb true),(11,vi 5),(13,vi 5),(14,.ptr 22485 0),(15,.ptr 22486 0),(16,vi 0),(17,vi 2),(21,.ptr 21200 0),(22,vb false),(23,vb false),(24,.ptr 21200 0),(25,.ptr 21179 0),(26,vb false),(27,vb false),(28,.agg ([vi 2,vi 2,vi 8,vb false])),(29,vi 0),(30,vi 0),(31,vb false),(33,.tup ([.agg ([.v (.string ⟨#[]⟩),vi 1,vi 1,.su 22484 0 1 0 1,vi 450,vi 1]),vb true])),(34,.ptr 21200 0),(35,.ptr 21179 0),(36,vi 1),(37,.tup ([.agg ([.v (.string ⟨#[]⟩),vi 1,vi 1,.su 22484 0 1 0 1,vi 450,vi 1]),vb true])),(38,.agg ([.v (.string ⟨#[]⟩),vi 1,vi 1,.su 22484 0 1 0 1,vi 450,vi 1])),(39,vb true),(40,vb true),(41,vb false),(42,.ptr 22477 3),(43,.su 22484 0 1 0 1),(44,vi 1),(45,vi 1),(46,vb false),(47,.ptr 22484 0),(48,vi 5),(49,vi 1),(50,vi 5),(51,vi 5),(52,vi 1),(53,vi 5),(54,.ptr 22475 0),(55,vi 2),(56,.fn (.func 74) ([]) ([.ptr 22487 0,.ptr 22488 0])),(57,vi 0),(58,vi 2),(60,.ptr 21200 0),(61,vi 1),(62,vi 0),(63,vi 2),(64,.ptr 22475 3),(65,vb false)]),(rg 13 [1,0,1,1,1,1,1,1,1,1,1,0,1,0,1,0,0] 6),[cd 13 [1,0,1,1,1,1,1,1,1,1,1,0,1,0,1,0,1],.inBlock 3],[],false,(some 22490),22491⟩,
 ⟨74,20,(patS .e [(0,.yl 22490),(1,.ptr 22487 0),(2,.ptr 22488 0),(4,vi 0),(5,vi 0),(6,vi 5),(7,vb true),(11,.yl 22490),(12,vi 0),(13,vi 5),(14,vi 0),(15,vi 2),(16,vi 2),(17,vi 2)]),(rg 74 [1,0,0,1,0,0,0] 7),[cd 74 [1,0,0,1,0,0,1],.inBlock 1,cd 74 [1,0,0,1,1],il 74 [1,0,0],.inBlock 0],[],false,none,22491⟩,
 ⟨13,90,(patS .e [(0,.ptr 21200 0),(1,vi 1),(2,.agg ([vi 2,vi 2,vi 8,vb false])),(3,.ptr 22473 0),(4,.ptr 22474 0),(5,.ptr 22475 0),(6,.v (.slice none 0 0)),(7,vi 0),(8,vi 0),(9,.ptr 22477 0),(10,vb true),(11,vi 5),(13,vi 5),(14,.ptr 22485 0),(15,.ptr 22486 0),(21,.ptr 21200 0),(22,vb false),(23,vb false),(24,.ptr 21200 0),(25,.ptr 21179 0),(26,vb false),(27,vb false),(28,.agg ([vi 2,vi 2,vi 8,vb false])),(29,vi 0),(30,vi 0),(31,vb false),(33,.tup ([.agg ([.v (.string ⟨#[]⟩),vi 1,vi 1,.su 22484 0 1 0 1,vi 450,vi 1]),vb true])),(34,.ptr 21200 0),(35,.ptr 21179 0),(36,vi 1),(37,.tup ([.agg ([.v (.string ⟨#[]⟩),vi 1,vi 1,.su 22484 0 1 0 1,vi 450,vi 1]),vb true])),(38,.agg ([.v (.string ⟨#[]⟩),vi 1,vi 1,.su 22484 0 1 0 1,vi 450,vi 1])),(39,vb true),(40,vb true),(41,vb false),(42,.ptr 22477 3),(43,.su 22484 0 1 0 1),(44,vi 1),(45,vi 1),(46,vb false),(47,.ptr 22484 0),(48,vi 5),(49,vi 1),(50,vi 5),(51,vi 5),(52,vi 1),(53,vi 5),(54,.ptr 22475 0),(55,vi 2),(56,.fn (.func 74) ([]) ([.ptr 22487 0,.ptr 22488 0]))]),.no,[.inRF 22490,.inBlock 2,cd 13 [1,0,1,1,1,1,1,1,1,1,1,1],.inScope (subC (bodyF Tryz.prog 13) [1,0])],[22489],false,none,22473⟩,
 ⟨10,76,(patS .e [(0,.ptr 21200 0),(1,vi 1),(2,.agg ([vi 2,vi 2,vi 8,vb false])),(3,.sl 22471 0 3 3),(6,.ptr 22472 0),(8,vb false),(15,.ptr 21200 0),(16,vi 1),(17,.agg ([vi 2,vi 2,vi 8,vb false]))]),(rg 10 [1,0] 3),[cd 10 [1,1]],[],false,none,22472⟩,
 ⟨7,17,(patS .e [(0,vb false),(1,.ptr 21200 0),(2,.ptr 21200 0),(3,.ptr 21200 0),(4,vb true),(5,vb true),(6,.ptr 21200 0),(7,.agg ([vi 2,vi 2,vi 8,vb false])),(8,.sl 22456 0 2 2),(9,.agg ([vi 1,.sl 22458 0 1 1,.su 22460 0 2 0 2])),(10,.sl 22461 0 2 2),(11,.agg ([vi 1,.sl 22463 0 1 1,.su 22465 0 2 0 2])),(12,.sl 22466 0 1 1),(13,.agg ([vi 1,.sl 22468 0 1 1,.su 22470 0 1 0 1])),(14,.sl 22471 0 3 3)]),(rg 7 [1,1,0] 12),[.code .ret],[],false,none,13540⟩] (drN 0 st45.cs)),
 addL (patL (kilL st45.H []) [(21180,mn 247 (([vi 8,.ifc 202 (.agg ([.ptr 21179 0])),.su 21546 0 1 0 1]))),
 (21546,ms 240 1 (([.ptr 22759 0])))]) 22455 (catL [[.dead,
 .dead,
 .dead,
 mn 3 (([vi 2])),
 .dead,
 ms 2 1 (([vi 2,vi 1])),
 .dead,
 .dead,
 mn 3 (([vi 2])),
 .dead,
 ms 2 1 (([vi 4,vi 3])),
 .dead,
 .dead,
 mn 3 (([vi 1])),
 .dead,
 ms 2 1 (([vi 5])),
 mn 36 (([vi 1,.sl 22458 0 1 1,.su 22460 0 2 0 2,vi 1,.sl 22463 0 1 1,.su 22465 0 2 0 2,vi 1,.sl 22468 0 1 1,.su 22470 0 1 0 1])),
 .dead,
 mn 27 (([.ptr 21200 0])),
 mn 2 (([vi 1])),
 mn 31 (([vi 2,vi 2,vi 8,vb false])),
 .dead,
 mn 46 (([.v (.string ⟨#[]⟩),vi 1,vi 1,.su 22484 0 1 0 1,vi 450,vi 1]))],deadL 6,[ms 3 1 (([vi 5])),
 mn 38 (([.v (.slice none 0 0)])),
 mn 39 (([vi 0])),
 mn 3 (([vi 5])),
 mn 3 (([vi 2])),
 .dfd true,
 .loop .busy none 13 90 (patS .e [(0,.ptr 21200 0),(1,vi 1),(2,.agg ([vi 2,vi 2,vi 8,vb false])),(3,.ptr 22473 0),(4,.ptr 22474 0),(5,.ptr 22475 0),(6,.v (.slice none 0 0)),(7,vi 0),(8,vi 0),(9,.ptr 22477 0),(10,vb true),(11,vi 5),(13,vi 5),(14,.ptr 22485 0),(15,.ptr 22486 0),(21,.ptr 21200 0),(22,vb false),(23,vb false),(24,.ptr 21200 0),(25,.ptr 21179 0),(26,vb false),(27,vb false),(28,.agg ([vi 2,vi 2,vi 8,vb false])),(29,vi 0),(30,vi 0),(31,vb false),(33,.tup ([.agg ([.v (.string ⟨#[]⟩),vi 1,vi 1,.su 22484 0 1 0 1,vi 450,vi 1]),vb true])),(34,.ptr 21200 0),(35,.ptr 21179 0),(36,vi 1),(37,.tup ([.agg ([.v (.string ⟨#[]⟩),vi 1,vi 1,.su 22484 0 1 0 1,vi 450,vi 1]),vb true])),(38,.agg ([.v (.string ⟨#[]⟩),vi 1,vi 1,.su 22484 0 1 0 1,vi 450,vi 1])),(39,vb true),(40,vb true),(41,vb false),(42,.ptr 22477 3),(43,.su 22484 0 1 0 1),(44,vi 1),(45,vi 1),(46,vb false),(47,.ptr 22484 0),(48,vi 5),(49,vi 1),(50,vi 5),(51,vi 5),(52,vi 1),(53,vi 5),(54,.ptr 22475 0),(55,vi 2),(56,.fn (.func 74) ([]) ([.ptr 22487 0,.ptr 22488 0]))]) [57,58] (subC (bodyF Tryz.prog 13) [1,0,1,1,1,1,1,1,1,1,1,0,1,0,0]) (subC (bodyF Tryz.prog 13) [1,0,1,1,1,1,1,1,1,1,1,0,1,0,1]) 22489],deadL 267,[ms 2 1 ((uN .i64 5 21491745027)),
 mn 239 (([vi 1,vi 0,vi 1,.su 22758 0 5 0 5,vi 0,vb false,vi 0]))],deadL 13]),22773⟩
end Go.Proofs.YtlmpjdionndncaaGreatDoor.RRunsNames
namespace Go.Proofs.YtlmpjdionndncaaGreatDoor.RRunsNames
open Go Go.RowKit Ev
set_option maxRecDepth 1000000 in
theorem part45 : Ev.Reach Tryz.prog st45 st46 :=
 Ev.Reach.segD (Ev.tabF_ok Ev.tab) Ev.runsHook_ok Tryz.checked.mixed (HK := Ev.runsHook) (FT := tabF Tryz.prog) (k := 4258) (bitsT 22455 22773 [21180,21546]) (by kernel_rfl)
end Go.Proofs.YtlmpjdionndncaaGreatDoor.RRunsNames
