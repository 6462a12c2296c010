/-
  Texts of this claim, laid together: Rzs49, Rzp48, Rzs50, Rzp49.
-/
import Derived.Test.YtlmpjdionndncaaGreatDoorQac
import Derived.Test.YtlmpjdionndncaaGreatDoorProg
import Derived.Test.YtlmpjdionndncaaGreatDoorQba

/-
 RunsNames: a state of its run (49).
-/
namespace Go.Proofs.YtlmpjdionndncaaGreatDoor.RRunsNames
open Go Go.RowKit Ev
set_option maxRecDepth 100000
noncomputable def st49 : ASt := ⟨⟨10,76,(patS .e [(0,.ptr 21200 0),(1,vi 1),(2,.agg ([vi 2,vi 2,vi 8,vb false])),(3,.sl 22471 0 3 3),(6,.ptr 22472 0),(8,vb false),(15,.ptr 21200 0),(16,vi 1),(17,.agg ([vi 2,vi 2,vi 8,vb false])),(18,.tup ([.su 23877 0 3 0 3,vi 0]))]),(rg 10 [1,0] 4),[cd 10 [1,1]],[],false,none,22472⟩,[⟨7,17,(patS .e [(0,vb false),(1,.ptr 21200 0),(2,.ptr 21200 0),(3,.ptr 21200 0),(4,vb true),(5,vb true),(6,.ptr 21200 0),(7,.agg ([vi 2,vi 2,vi 8,vb false])),(8,.sl 22456 0 2 2),(9,.agg ([vi 1,.sl 22458 0 1 1,.su 22460 0 2 0 2])),(10,.sl 22461 0 2 2),(11,.agg ([vi 1,.sl 22463 0 1 1,.su 22465 0 2 0 2])),(12,.sl 22466 0 1 1),(13,.agg ([vi 1,.sl 22468 0 1 1,.su 22470 0 1 0 1])),(14,.sl 22471 0 3 3)]),(rg 7 [1,1,0] 12),[.code .ret],[],false,none,13540⟩,
 ⟨4,158,(patS .e [(0,vb false),(1,.ptr 7660 0),(2,vb true),(3,.v (.slice none 0 0)),(4,vi 260),(5,.v (.slice none 0 0)),(6,vi 201),(7,.v (.slice none 0 0)),(8,vi 260),(9,.ptr 13510 0),(10,vi 0),(11,.ptr 13520 0),(12,vi 201),(13,.ptr 13530 0),(14,vi 201),(15,.v (.pointer none)),(16,.v (.slice none 0 0)),(17,vi 1),(18,.ptr 13536 0),(19,vi 1),(20,vb true),(21,.ptr 7660 0),(22,.ptr 7660 0),(23,vb false),(24,.ptr 7660 0),(25,.agg ([vi 2,vi 2,vi 8,vb true])),(26,.sl 8916 0 2 2),(27,.agg ([vi 1,.sl 8918 0 1 1,.su 8920 0 2 0 2])),(28,.sl 8921 0 2 2),(29,.agg ([vi 1,.sl 8923 0 1 1,.su 8925 0 2 0 2])),(30,.sl 8926 0 1 1),(31,.agg ([vi 1,.sl 8928 0 1 1,.su 8930 0 1 0 1])),(32,.sl 8931 0 3 3),(33,vb true),(34,vb true),(35,.ptr 7660 0),(36,.agg ([vi 4096,vi 2,vi 8,vb false])),(37,.sl 11123 0 2 2),(38,.agg ([vi 1,.sl 11125 0 1 1,.su 11127 0 2 0 2])),(39,.sl 11128 0 1 1),(40,vb true),(41,vb true),(42,vb true),(43,.ptr 7660 0),(44,.agg ([vi 1,vi 2,vi 8,vb false])),(45,vb true),(46,vb true),(47,vb true),(48,.ptr 7660 0),(49,.agg ([vi 9,vi 2,vi 8,vb true])),(50,.sl 12135 0 5 5),(51,.agg ([vi 1,.sl 12137 0 1 1,.su 12139 0 5 0 5])),(52,.sl 12140 0 1 1),(53,vb true),(54,vb true),(55,.tup ([.v (.slice none 0 0),vi 260])),(56,.ptr 7660 0),(57,.agg ([vi 0,vi 2,vi 8,vb false])),(58,.tup ([.v (.slice none 0 0),vi 260])),(59,.v (.slice none 0 0)),(60,vi 260),(61,.tup ([.v (.slice none 0 0),vi 201])),(62,.ptr 7660 0),(63,.agg ([vi 1,vi 2,vi 8,vb false])),(64,.tup ([.v (.slice none 0 0),vi 201])),(65,.v (.slice none 0 0)),(66,vi 201),(67,.tup ([.v (.slice none 0 0),vi 260])),(68,.ptr 7660 0),(69,.agg ([vi 4097,vi 2,vi 8,vb false])),(70,.tup ([.v (.slice none 0 0),vi 260])),(71,.v (.slice none 0 0)),(72,vi 260),(73,.tup ([.agg ([vi 5,vi 5]),vi 0])),(74,.ptr 7660 0),(75,.tup ([.agg ([vi 5,vi 5]),vi 0])),(76,.agg ([vi 5,vi 5])),(77,vi 0),(78,.tup ([.agg ([vi 0,vi 0]),vi 201])),(79,.ptr 7660 0),(80,.tup ([.agg ([vi 0,vi 0]),vi 201])),(81,.agg ([vi 0,vi 0])),(82,vi 201),(83,.tup ([.agg ([vi 0,vi 0]),vi 201])),(84,.ptr 7660 0),(85,.tup ([.agg ([vi 0,vi 0]),vi 201])),(86,.agg ([vi 0,vi 0])),(87,vi 201),(88,.tup ([.v (.slice none 0 0),vi 1])),(89,.v (.pointer none)),(90,.agg ([vi 0,vi 2,vi 8,vb false])),(91,.tup ([.v (.slice none 0 0),vi 1])),(92,.v (.slice none 0 0)),(93,vi 1),(94,.tup ([.agg ([vi 0,vi 0]),vi 1])),(95,.v (.pointer none)),(96,.tup ([.agg ([vi 0,vi 0]),vi 1])),(97,.agg ([vi 0,vi 0])),(98,vi 1),(99,.agg ([vi 1,vi 1,vi 1,vb false])),(100,vi 260),(101,vb true),(102,vb true),(103,.agg ([vi 1,vi 2,vi 0,vb false])),(104,vi 260),(105,vb true),(106,vb true),(107,vb true),(108,.agg ([vi 1,vi 2,vi 1,vb false])),(109,vi 0),(110,vb true),(111,vb true),(112,vb true)]),(rg 4 [1,1,1,1,1,1,1,1,1,1,1,1,1,1,0] 1),[.code .ret],[],false,none,0⟩],
 ofB (catL [deadL 13510,[mn 24 (([vi 5,vi 5]))],deadL 47,[.mem 349 none (.node 76800 (.node 38400 (.node 19200 (.node 9600 (.node 4800 (rz 4800) (.node 2400 (.node 1200 (rz 1200) (.node 600 (.node 300 (rz 300) (.node 150 (.node 75 (rz 75) (.node 37 (.node 18 (rz 18) (lu 19 22300745198530623162093550468306498700181504)) (.node 19 (lu 19 18518801667747479552) (lz 19)))) (.node 75 (.node 37 (.node 18 (lz 18) (lz 19)) (.node 19 (lz 19) (lu 19 20282409603651670532316941189120))) (.node 37 (.node 18 (lu 18 5192296858534827633316989631528960) (lc ([u8 6 2207613190144,z8 13]))) (.node 19 (lc ([u8 3 262144,z8 16])) (lz 19)))))) (.node 300 (.node 150 (.node 75 (.node 37 (.node 18 (lz 18) (lc ([z8 18,u8 1 94]))) (.node 19 (lu 19 44601490397061246284280362364911352191034749) (lu 19 309485009821345069010078289))) (.node 37 (.node 18 (lc ([u8 2 771,z8 15,u8 1 4])) (lz 19)) (.node 19 (lz 19) (lz 19)))) (.node 75 (.node 37 (.node 18 (lc ([z8 14,u8 4 3548415085])) (lu 19 28774621216885464763674038962516526607892480)) (.node 19 (lu 19 175585701331204247147119744178866106662929) (lu 19 25961484292674138142652481646166016))) (.node 37 (.node 18 (lz 18) (lz 19)) (.node 19 (lz 19) (lu 19 541247284133244739209780907980357632))))) (.node 150 (.node 75 (.node 37 (.node 18 (lu 18 22603575542231878585301347969666121728) (lu 19 22300745214208925765158459510360686261698560)) (.node 19 (lu 19 1547425049106725343640682496) (lz 19))) (.node 37 (.node 18 (lz 18) (lz 19)) (.node 19 (lu 19 73193596889846651376220766208) (lu 19 1347278090866885399527710261249)))) (.node 75 (.node 37 (.node 18 (lu 18 10384593719515841095187468879134976) (lu 19 110680464442257309696)) (.node 19 (lz 19) (lz 19))) (.node 37 (.node 18 (lz 18) (lu 19 340282366920938467391782694950270926848)) (.node 19 (lu 19 87112285931760246726927931523419330314240) (lu 19 2658455992188801765668447364961009664)))))))) (.node 1200 (.node 600 (.node 300 (.node 150 (.node 75 (.node 37 (.node 18 (lc ([u8 5 25769803776,z8 13])) (lz 19)) (.node 19 (lz 19) (lz 19))) (.node 37 (.node 18 (lu 18 79228162514264338074046246144) (lc ([u8 3 458752,z8 16]))) (rz 38))) (rz 150)) (rz 300)) (rz 600)) (rz 1200)))) (rz 9600)) (rz 19200)) (.node 19200 (rz 19200) (.node 9600 (.node 4800 (.node 2400 (.node 1200 (.node 600 (.node 300 (.node 150 (.node 75 (.node 37 (.node 18 (lu 18 309485009821345068741645393) (lu 19 87112285931760246660790998951141597775104)) (.node 19 (lu 19 5192296858534827629093446282641408) (lc ([u8 4 83886080,z8 15])))) (.node 37 (.node 18 (lz 18) (lz 19)) (.node 19 (lc ([z8 12,u8 7 374183262639823])) (lu 19 680564733841876926963642703010955526146)))) (.node 75 (.node 37 (.node 18 (lu 18 1967393731554212031230635514265600) (lz 19)) (.node 19 (lz 19) (lz 19))) (.node 37 (.node 18 (lz 18) (lu 19 342049403614349023288646111545488572416)) (.node 19 (lu 19 40564819207303340852292549083136) (lu 19 1208925819614629174837248))))) (.node 150 (.node 75 (.node 37 (.node 18 (lz 18) (lz 19)) (.node 19 (lz 19) (lz 19))) (.node 37 (.node 18 (lu 18 79639580736066706553993953280) (lu 19 89202980794122492568560724729822704373661696)) (.node 19 (lu 19 216172782113783808) (lz 19)))) (.node 75 (.node 37 (.node 18 (lz 18) (lz 19)) (.node 19 (lz 19) (lu 19 522673715590561479884490285889031733903360))) (.node 37 (.node 18 (lu 18 25961484292674138142933956622811136) (lz 19)) (.node 19 (lz 19) (lz 19)))))) (.node 300 (.node 150 (.node 75 (.node 37 (.node 18 (lz 18) (lc ([z8 18,u8 1 246]))) (.node 19 (lc ([u8 3 10069058,z8 16])) (rz 19))) (rz 75)) (rz 150)) (rz 300))) (rz 1200)) (rz 2400)) (rz 4800)) (rz 9600)))) (rz 76800)),
 .map [] 12,
 mn 179 (([.sl 13558 0 1200 1200,.mp 13559,vi 0,.v (.slice none 0 0),vi 0,vi 0,vi 12,vb false]))],deadL 6002,[mn 185 (([.ptr 13560 0,vi 50,vi 400,.v (.int .u64 1),.su 23875 0 7 0 7]))],deadL 1615,[mn 137 (([.ptr 13560 0,vi 8,vi 1,vi 2,vb false,vi 400,vi 1200,.ptr 21182 0,.su 23606 0 6 0 6,vi 7,.ptr 21180 0,vi 0,.fn (.func 104) ([]) ([])])),
 mn 247 (([vi 8,.ifc 202 (.agg ([.ptr 21179 0])),.su 22908 0 1 0 2])),
 .dead,
 mn 354 (([vb true,vi 450,vi 1200,.su 23602 0 1 0 1]))],deadL 11,[.map [] 0,
 mn 295 (([vb false,.v (.slice none 0 0),.mp 21194]))],deadL 4,[mn 91 (([.ptr 21179 0,.ptr 19563 0,.ptr 21195 0,vi 3,.su 23827 0 3 0 3,vi 0]))],deadL 43,[.mem 5 (some 1) (lc ([u8 1 1,z8 16]))],deadL 234,[ms 3 1 (([vi 5]))],deadL 499,[ms 3 1 (([vi 2]))],deadL 459,[ms 3 1 (([vi 0]))],deadL 18,[mn 3 (([vi 2])),
 .dead,
 ms 2 1 (([vi 2,vi 1])),
 .dead,
 .dead,
 mn 3 (([vi 2])),
 .dead,
 ms 2 1 (([vi 4,vi 3])),
 .dead,
 .dead,
 mn 3 (([vi 1])),
 .dead,
 ms 2 1 (([vi 5])),
 mn 36 (([vi 1,.sl 22458 0 1 1,.su 22460 0 2 0 2,vi 1,.sl 22463 0 1 1,.su 22465 0 2 0 2,vi 1,.sl 22468 0 1 1,.su 22470 0 1 0 1]))],deadL 286,[ms 2 1 ((uN .i64 5 21491745027)),
 mn 239 (([vi 1,vi 0,vi 1,.su 22758 0 5 0 5,vi 0,vb false,vi 0]))],deadL 68,[ms 3 1 (([vi 2]))],deadL 29,[ms 3 1 (([vi 2]))],deadL 49,[ms 240 1 (([.ptr 22759 0,.v (.pointer none)]))],deadL 177,[.mem 5 (some 1) (lc ([u8 1 2,z8 15,u8 1 4]))],deadL 49,[.mem 5 (some 1) (lc ([u8 1 3,z8 15,u8 1 4]))],deadL 84,[ms 3 1 (([vi 2]))],deadL 29,[ms 3 1 (([vi 2]))],deadL 228,[.mem 5 (some 1) (lu 17 1701411834604692317316873037163136024578)],deadL 49,[.mem 5 (some 1) (lu 17 1701411834604692317335319781236845576195)],deadL 49,[ms 3 1 (([vi 1]))],deadL 21,[ms 255 2 (([vi 450,vi 5])),
 .dead,
 .dead,
 .dead,
 .mem 46 (some 6) (.node 18 (.leaf ([.v (.string ⟨#[]⟩),vi 1,vi 1,.su 21479 0 1 0 1,vi 450,vi 1,.v (.string ⟨#[]⟩),vi 2,vi 2,.su 21979 0 1 0 1,vi 451,vi 1,.v (.string ⟨#[]⟩),vi 3,vi 1,.su 22439 0 1 0 1,vi 0,vi 0])) (.leaf ([.v (.string ⟨#[]⟩),vi 4,vi 1,.su 22828 0 1 0 1,vi 452,vi 1,.v (.string ⟨#[]⟩),vi 5,vi 1,.su 23221 0 1 0 1,vi 453,vi 1,.v (.string ⟨#[]⟩),vi 6,vi 1,.su 23580 0 1 0 1,vi 454,vi 1]))),
 .dead,
 .dead,
 .dead,
 ms 3 1 (([vi 1]))],deadL 212,[.mem 5 (some 1) (lu 17 2041694201525630780780247644599199203330),
 .dead,
 .dead,
 .dead,
 ms 149 2 ((uN .i64 6 25770131460))],deadL 45,[.mem 5 (some 1) (lu 17 2041694201525630780817141132746618306563),
 .dead,
 ms 183 1 (([.su 21244 0 17 0 17,.su 23086 0 17 0 17,.su 23136 0 17 0 17,.su 23480 0 17 0 17,.su 23530 0 17 0 17,.su 23823 0 17 0 17,.su 23873 0 17 0 17])),
 .dead,
 ms 46 6 (([.v (.string ⟨#[]⟩),vi 4,vi 1,.su 22858 0 1 0 1,vi 452,vi 1,.v (.string ⟨#[]⟩),vi 5,vi 1,.su 23251 0 1 0 1,vi 453,vi 1,.v (.string ⟨#[]⟩),vi 6,vi 1,.su 23610 0 1 0 1,vi 454,vi 1]))]]),23878⟩
end Go.Proofs.YtlmpjdionndncaaGreatDoor.RRunsNames
namespace Go.Proofs.YtlmpjdionndncaaGreatDoor.RRunsNames
open Go Go.RowKit Ev
set_option maxRecDepth 1000000 in
theorem part48 : Ev.Reach Tryz.prog st48 st49 :=
 Ev.Reach.segD (Ev.tabF_ok Ev.tab) Ev.runsHook_ok Tryz.checked.mixed (HK := Ev.runsHook) (FT := tabF Tryz.prog) (k := 3679) (bitsT 0 23878 []) (by kernel_rfl)
end Go.Proofs.YtlmpjdionndncaaGreatDoor.RRunsNames
/-
 RunsNames: a state of its run (50).
-/
namespace Go.Proofs.YtlmpjdionndncaaGreatDoor.RRunsNames
open Go Go.RowKit Ev
set_option maxRecDepth 100000
noncomputable def st50 : ASt := ⟨⟨10,76,(patS st49.fr.T [(9,.su 23877 0 3 0 3),(10,vi 0),(11,vi 0),(12,.su 24142 0 2 0 2),(13,vi 0),(14,.tup ([.su 23877 0 3 0 3,vi 0])),(19,.su 23877 0 3 0 3),(20,vi 0),(21,vi 0),(22,vb false),(23,vb false),(24,.su 23877 0 3 0 3),(25,vi 3),(26,.sl 22471 0 3 3),(27,vi 3),(28,vb false),(29,vb false),(30,.su 23877 0 3 0 3),(31,vi 3),(32,vi 0),(33,vb true),(34,vi 0),(35,.tup ([.su 24142 0 2 0 2,vi 0])),(36,.ptr 21200 0),(37,.ptr 21179 0),(38,.su 23877 0 3 0 3),(39,vi 0),(40,.ptr 23877 0),(41,.ptr 23877 1),(42,vi 4),(43,.tup ([.su 24142 0 2 0 2,vi 0])),(44,.su 24142 0 2 0 2),(45,vi 0)]),.no,[cd 10 [1,1,1,0,1,0,0,1,1,0,0,1,1],.inBlock 1,cd 10 [1,1,1,0,1,0,0,1,1,1],il 10 [1,1,1,0,1,0,0],.inBlock 0,cd 10 [1,1,1,1]],[],false,none,22472⟩,(cat2 [] (drN 0 st49.cs)),
 addL (patL (kilL st49.H []) [(21180,mn 247 (([vi 8,.ifc 202 (.agg ([.ptr 21179 0])),.su 22908 0 2 0 2]))),
 (22908,ms 240 1 (([.ptr 22759 0,.ptr 24091 0])))]) 23878 (catL [deadL 212,[ms 2 1 (([vi 2,vi 1])),
 mn 239 (([vi 4,vi 0,vi 1,.su 24090 0 2 0 2,vi 0,vb false,vi 0]))],deadL 50,[ms 2 1 (([vi 2,vi 1]))]]),24143⟩
end Go.Proofs.YtlmpjdionndncaaGreatDoor.RRunsNames
namespace Go.Proofs.YtlmpjdionndncaaGreatDoor.RRunsNames
open Go Go.RowKit Ev
set_option maxRecDepth 1000000 in
theorem part49 : Ev.Reach Tryz.prog st49 st50 :=
 Ev.Reach.segD (Ev.tabF_ok Ev.tab) Ev.runsHook_ok Tryz.checked.mixed (HK := Ev.runsHook) (FT := tabF Tryz.prog) (k := 4087) (bitsT 23878 24143 [21180,22908]) (by kernel_rfl)
end Go.Proofs.YtlmpjdionndncaaGreatDoor.RRunsNames
