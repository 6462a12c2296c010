/-
  Texts of this claim, laid together: Rzs23, Rzp22, Rzs24, Rzp23.
-/
import Derived.Test.YtlmpjdionndncaaGreatDoorQac
import Derived.Test.YtlmpjdionndncaaGreatDoorProg
import Derived.Test.YtlmpjdionndncaaGreatDoorQan

/-
 RunsNames: a state of its run (23).
-/
namespace Go.Proofs.YtlmpjdionndncaaGreatDoor.RRunsNames
open Go Go.RowKit Ev
set_option maxRecDepth 100000
noncomputable def st23 : ASt := ⟨⟨41,60,(patS .e [(0,.ptr 7660 0),(1,vi 2),(2,vi 0),(3,vi 2),(4,vb false),(10,.v (.slice none 0 0)),(11,vi 0),(12,.v (.slice none 0 0)),(13,vi 0),(20,vi 0),(21,vi 0),(22,vi 2),(23,vb true),(27,.ptr 7660 0),(28,vi 2),(29,vi 0),(30,vi 1),(31,.tup ([.agg ([vi 98,vi 1]),vi 0]))]),(rg 41 [1,1,0,1,0,0,1,0,0,0] 5),[cd 41 [1,1,0,1,0,0,1,0,0,1],.inBlock 1,cd 41 [1,1,0,1,0,0,1,1],il 41 [1,1,0,1,0,0],.inBlock 0,cd 41 [1,1,1]],[],false,none,11149⟩,(cat2 [⟨13,90,(patS .e [(0,.ptr 7660 0),(1,vi 2),(2,.agg ([vi 4096,vi 2,vi 8,vb false])),(3,.ptr 11130 0),(4,.ptr 11131 0),(5,.ptr 11132 0),(6,.v (.slice none 0 0)),(7,vi 0),(8,vi 0),(9,.ptr 11134 0),(10,vb true),(11,vi 2),(13,vi 2),(14,.ptr 11143 0),(15,.ptr 11144 0),(16,vi 0),(17,vi 2),(21,.ptr 7660 0),(22,vb false),(23,vb false),(24,.ptr 7660 0),(25,.ptr 7639 0),(26,vb false),(27,vb false),(28,.agg ([vi 4096,vi 2,vi 8,vb false])),(29,vi 0),(30,vi 0),(31,vb false),(33,.tup ([.agg ([.v (.string ⟨#[]⟩),vi 2,vi 2,.su 11142 0 1 0 1,vi 451,vi 1]),vb true])),(34,.ptr 7660 0),(35,.ptr 7639 0),(36,vi 2),(37,.tup ([.agg ([.v (.string ⟨#[]⟩),vi 2,vi 2,.su 11142 0 1 0 1,vi 451,vi 1]),vb true])),(38,.agg ([.v (.string ⟨#[]⟩),vi 2,vi 2,.su 11142 0 1 0 1,vi 451,vi 1])),(39,vb true),(40,vb true),(41,vb false),(42,.ptr 11134 3),(43,.su 11142 0 1 0 1),(44,vi 1),(45,vi 1),(46,vb false),(47,.ptr 11142 0),(48,vi 2),(49,vi 1),(50,vi 2),(51,vi 2),(52,vi 1),(53,vi 2),(54,.ptr 11132 0),(55,vi 4096),(56,.fn (.func 74) ([]) ([.ptr 11145 0,.ptr 11146 0])),(57,vi 0),(58,vi 2),(60,.ptr 7660 0),(61,vi 2),(62,vi 0),(63,vi 2),(64,.ptr 11132 3),(65,vb false)]),(rg 13 [1,0,1,1,1,1,1,1,1,1,1,0,1,0,1,0,0] 6),[cd 13 [1,0,1,1,1,1,1,1,1,1,1,0,1,0,1,0,1],.inBlock 3],[],false,(some 11148),11149⟩,
 ⟨74,20,(patS .e [(0,.yl 11148),(1,.ptr 11145 0),(2,.ptr 11146 0),(4,vi 0),(5,vi 0),(6,vi 2),(7,vb true),(11,.yl 11148),(12,vi 0),(13,vi 2),(14,vi 0),(15,vi 4096),(16,vi 4096),(17,vi 2)]),(rg 74 [1,0,0,1,0,0,0] 7),[cd 74 [1,0,0,1,0,0,1],.inBlock 1,cd 74 [1,0,0,1,1],il 74 [1,0,0],.inBlock 0],[],false,none,11149⟩,
 ⟨13,90,(patS .e [(0,.ptr 7660 0),(1,vi 2),(2,.agg ([vi 4096,vi 2,vi 8,vb false])),(3,.ptr 11130 0),(4,.ptr 11131 0),(5,.ptr 11132 0),(6,.v (.slice none 0 0)),(7,vi 0),(8,vi 0),(9,.ptr 11134 0),(10,vb true),(11,vi 2),(13,vi 2),(14,.ptr 11143 0),(15,.ptr 11144 0),(21,.ptr 7660 0),(22,vb false),(23,vb false),(24,.ptr 7660 0),(25,.ptr 7639 0),(26,vb false),(27,vb false),(28,.agg ([vi 4096,vi 2,vi 8,vb false])),(29,vi 0),(30,vi 0),(31,vb false),(33,.tup ([.agg ([.v (.string ⟨#[]⟩),vi 2,vi 2,.su 11142 0 1 0 1,vi 451,vi 1]),vb true])),(34,.ptr 7660 0),(35,.ptr 7639 0),(36,vi 2),(37,.tup ([.agg ([.v (.string ⟨#[]⟩),vi 2,vi 2,.su 11142 0 1 0 1,vi 451,vi 1]),vb true])),(38,.agg ([.v (.string ⟨#[]⟩),vi 2,vi 2,.su 11142 0 1 0 1,vi 451,vi 1])),(39,vb true),(40,vb true),(41,vb false),(42,.ptr 11134 3),(43,.su 11142 0 1 0 1),(44,vi 1),(45,vi 1),(46,vb false),(47,.ptr 11142 0),(48,vi 2),(49,vi 1),(50,vi 2),(51,vi 2),(52,vi 1),(53,vi 2),(54,.ptr 11132 0),(55,vi 4096),(56,.fn (.func 74) ([]) ([.ptr 11145 0,.ptr 11146 0]))]),.no,[.inRF 11148,.inBlock 2,cd 13 [1,0,1,1,1,1,1,1,1,1,1,1],.inScope (subC (bodyF Tryz.prog 13) [1,0])],[11147],false,none,11130⟩,
 ⟨10,76,(patS .e [(0,.ptr 7660 0),(1,vi 2),(2,.agg ([vi 4096,vi 2,vi 8,vb false])),(3,.sl 11128 0 1 1),(6,.ptr 11129 0),(8,vb false),(15,.ptr 7660 0),(16,vi 2),(17,.agg ([vi 4096,vi 2,vi 8,vb false]))]),(rg 10 [1,0] 3),[cd 10 [1,1]],[],false,none,11129⟩,
 ⟨4,158,(patS st22.fr.T [(34,vb true),(35,.ptr 7660 0),(36,.agg ([vi 4096,vi 2,vi 8,vb false])),(37,.sl 11123 0 2 2),(38,.agg ([vi 1,.sl 11125 0 1 1,.su 11127 0 2 0 2])),(39,.sl 11128 0 1 1)]),(rg 4 [1,1,1,0] 16),[cd 4 [1,1,1,1]],[],false,none,0⟩] (drN 0 st22.cs)),
 addL (patL (kilL st22.H [(11093,1)]) [(7640,mn 247 (([vi 8,.ifc 202 (.agg ([.ptr 7639 0])),.su 11354 0 5 0 5])))]) 11122 (catL [[.dead,
 .dead,
 .dead,
 mn 3 (([vi 2])),
 .dead,
 ms 2 1 (([vi 2,vi 1])),
 mn 36 (([vi 1,.sl 11125 0 1 1,.su 11127 0 2 0 2])),
 .dead,
 mn 27 (([.ptr 7660 0])),
 mn 2 (([vi 2])),
 mn 31 (([vi 4096,vi 2,vi 8,vb false])),
 .dead,
 mn 46 (([.v (.string ⟨#[]⟩),vi 2,vi 2,.su 11142 0 1 0 1,vi 451,vi 1]))],deadL 7,[ms 3 1 (([vi 2])),
 mn 38 (([.v (.slice none 0 0)])),
 mn 39 (([vi 0])),
 mn 3 (([vi 2])),
 mn 3 (([vi 4096])),
 .dfd true,
 .loop .busy none 13 90 (patS .e [(0,.ptr 7660 0),(1,vi 2),(2,.agg ([vi 4096,vi 2,vi 8,vb false])),(3,.ptr 11130 0),(4,.ptr 11131 0),(5,.ptr 11132 0),(6,.v (.slice none 0 0)),(7,vi 0),(8,vi 0),(9,.ptr 11134 0),(10,vb true),(11,vi 2),(13,vi 2),(14,.ptr 11143 0),(15,.ptr 11144 0),(21,.ptr 7660 0),(22,vb false),(23,vb false),(24,.ptr 7660 0),(25,.ptr 7639 0),(26,vb false),(27,vb false),(28,.agg ([vi 4096,vi 2,vi 8,vb false])),(29,vi 0),(30,vi 0),(31,vb false),(33,.tup ([.agg ([.v (.string ⟨#[]⟩),vi 2,vi 2,.su 11142 0 1 0 1,vi 451,vi 1]),vb true])),(34,.ptr 7660 0),(35,.ptr 7639 0),(36,vi 2),(37,.tup ([.agg ([.v (.string ⟨#[]⟩),vi 2,vi 2,.su 11142 0 1 0 1,vi 451,vi 1]),vb true])),(38,.agg ([.v (.string ⟨#[]⟩),vi 2,vi 2,.su 11142 0 1 0 1,vi 451,vi 1])),(39,vb true),(40,vb true),(41,vb false),(42,.ptr 11134 3),(43,.su 11142 0 1 0 1),(44,vi 1),(45,vi 1),(46,vb false),(47,.ptr 11142 0),(48,vi 2),(49,vi 1),(50,vi 2),(51,vi 2),(52,vi 1),(53,vi 2),(54,.ptr 11132 0),(55,vi 4096),(56,.fn (.func 74) ([]) ([.ptr 11145 0,.ptr 11146 0]))]) [57,58] (subC (bodyF Tryz.prog 13) [1,0,1,1,1,1,1,1,1,1,1,0,1,0,0]) (subC (bodyF Tryz.prog 13) [1,0,1,1,1,1,1,1,1,1,1,0,1,0,1]) 11147],deadL 201,[ms 2 1 (([vi 98,vi 97])),
 mn 239 (([vi 2,vi 0,vi 2,.su 11350 0 2 0 2,vi 0,vb false,vi 0])),
 .dead,
 .dead,
 ms 240 1 (([.ptr 9219 0,.ptr 10551 0,.ptr 10826 0,.ptr 11090 0,.ptr 11351 0]))],deadL 23]),11378⟩
end Go.Proofs.YtlmpjdionndncaaGreatDoor.RRunsNames
namespace Go.Proofs.YtlmpjdionndncaaGreatDoor.RRunsNames
open Go Go.RowKit Ev
set_option maxRecDepth 1000000 in
theorem part22 : Ev.Reach Tryz.prog st22 st23 :=
 Ev.Reach.segD (Ev.tabF_ok Ev.tab) Ev.runsHook_ok Tryz.checked.mixed (HK := Ev.runsHook) (FT := tabF Tryz.prog) (k := 3979) (bitsT 11122 11378 [7640]) (by kernel_rfl)
end Go.Proofs.YtlmpjdionndncaaGreatDoor.RRunsNames
/-
 RunsNames: a state of its run (24).
-/
namespace Go.Proofs.YtlmpjdionndncaaGreatDoor.RRunsNames
open Go Go.RowKit Ev
set_option maxRecDepth 100000
noncomputable def st24 : ASt := ⟨⟨42,70,(patS .e [(0,.ptr 7660 0),(1,vi 0),(2,vi 1),(3,.su 11435 0 2 0 2),(8,.ptr 11437 0),(9,vi 0),(10,.ptr 11440 0),(11,.fn (.func 76) ([]) ([.ptr 11440 0])),(18,.su 11435 0 2 0 2),(19,.su 11439 0 2 0 2),(20,.fn (.func 76) ([]) ([.ptr 11440 0])),(22,.ptr 7660 0),(23,vi 1),(24,.su 11439 0 2 0 2),(25,vi 2),(26,.sl 11441 0 1 1),(27,.fn (.func 76) ([]) ([.ptr 11440 0])),(28,.tup ([.agg ([.v (.string ⟨#[]⟩),vi 7,vi 1,.su 11480 0 1 0 1,vi 455,vi 1]),vi 0]))]),(rg 42 [1,1,1,0] 7),[cd 42 [1,1,1,1]],[],false,none,11437⟩,(cat2 [⟨13,90,(patS (frC st23 0).T [(18,.su 11435 0 2 0 2),(19,vi 0),(20,.ptr 11436 0),(59,.tup ([.su 11435 0 2 0 2,vi 0])),(66,.tup ([.su 11435 0 2 0 2,vi 0])),(67,.su 11435 0 2 0 2),(68,vi 0),(69,vi 0),(70,vb true),(72,.ptr 7660 0),(73,.v (.slice none 0 0)),(74,vi 0),(75,.su 11435 0 2 0 2)]),(rg 13 [1,0,1,1,1,1,1,1,1,1,1,0,1,0,1,0,1,1,0,1,0] 4),[cd 13 [1,0,1,1,1,1,1,1,1,1,1,0,1,0,1,0,1,1,1],.inBlock 3],[],false,(some 11148),11149⟩] (drN 1 st23.cs)),
 addL (patL (kilL st23.H [(10062,1),(10066,1),(10287,1),(10335,1),(11354,1)]) [(18,.mem 349 none (.node 76800 (.node 38400 (.node 19200 (.node 9600 (.node 4800 (rz 4800) (.node 2400 (.node 1200 (rz 1200) (.node 600 (.node 300 (rz 300) (.node 150 (.node 75 (rz 75) (.node 37 (.node 18 (rz 18) (lu 19 22300745198530623162093550468306498700181504)) (.node 19 (lu 19 18518801667747479552) (lz 19)))) (.node 75 (.node 37 (.node 18 (lz 18) (lz 19)) (.node 19 (lz 19) (lu 19 20282409603651670532316941189120))) (.node 37 (.node 18 (lu 18 5192296858534827633316989631528960) (lc ([u8 6 2207613190144,z8 13]))) (.node 19 (lc ([u8 3 262144,z8 16])) (lz 19)))))) (.node 300 (.node 150 (.node 75 (.node 37 (.node 18 (lz 18) (lc ([z8 18,u8 1 94]))) (.node 19 (lu 19 44601490397061246284280362364911352191034749) (lu 19 309485009821345069010078289))) (.node 37 (.node 18 (lc ([u8 2 771,z8 15,u8 1 4])) (lz 19)) (.node 19 (lz 19) (lz 19)))) (.node 75 (.node 37 (.node 18 (lc ([z8 14,u8 4 3548415085])) (lu 19 28774621216885464763674038962516526607892480)) (.node 19 (lu 19 175585701331204247147119744178866106662929) (lu 19 25961484292674138142652481646166016))) (.node 37 (.node 18 (lz 18) (lz 19)) (.node 19 (lz 19) (lu 19 541247284133244739209780907980357632))))) (.node 150 (.node 75 (.node 37 (.node 18 (lu 18 22603575542231878585301347969666121728) (lu 19 22300745214208925765158459510360686261698560)) (.node 19 (lu 19 1547425049106725343640682496) (lz 19))) (.node 37 (.node 18 (lz 18) (lz 19)) (.node 19 (lu 19 73193596889846651376220766208) (lu 19 1347278090866885399527710261249)))) (.node 75 (.node 37 (.node 18 (lu 18 10384593719515841095187468879134976) (lu 19 110680464442257309696)) (.node 19 (lz 19) (lz 19))) (.node 37 (.node 18 (lz 18) (lu 19 340282366920938467391782694950270926848)) (.node 19 (lu 19 87112285931760246726927931523419330314240) (lu 19 2658455992188801765668447364961009664)))))))) (.node 1200 (.node 600 (.node 300 (.node 150 (.node 75 (.node 37 (.node 18 (lc ([u8 5 25769803776,z8 13])) (lz 19)) (.node 19 (lz 19) (lz 19))) (.node 37 (.node 18 (lu 18 79228162514264338074046246144) (lu 19 5192296858534827633316989631922176)) (.node 19 (lu 19 55340232229852807168) (lc ([u8 2 1792,z8 17]))))) (.node 75 (.node 37 (.node 18 (lz 18) (lz 19)) (.node 19 (lc ([z8 17,u8 2 27846])) (lu 19 696898287454081973177713562503130942290957))) (rz 75))) (rz 300)) (rz 600)) (rz 1200)))) (rz 9600)) (rz 19200)) (.node 19200 (rz 19200) (.node 9600 (.node 4800 (.node 2400 (.node 1200 (.node 600 (.node 300 (.node 150 (.node 75 (.node 37 (.node 18 (lu 18 309485009821345068741645393) (lu 19 87112285931760246660790998951141597775104)) (.node 19 (lu 19 5192296858534827629093446282641408) (lc ([u8 4 83886080,z8 15])))) (.node 37 (.node 18 (lz 18) (lz 19)) (.node 19 (lc ([z8 12,u8 7 374183262639823])) (lu 19 680564733841876926963642703010955526146)))) (.node 75 (.node 37 (.node 18 (lu 18 1967393731554212031230635514265600) (lz 19)) (.node 19 (lz 19) (lz 19))) (.node 37 (.node 18 (lz 18) (lu 19 342049403614349023288646111545488572416)) (.node 19 (lu 19 40564819207303340852292549083136) (lu 19 2417851639229258349477888))))) (.node 150 (.node 75 (.node 37 (.node 18 (lz 18) (lz 19)) (.node 19 (lz 19) (lz 19))) (.node 37 (.node 18 (lu 18 79639582629846725989471617024) (lu 19 66902235595591869427025006457174342867681280)) (.node 19 (lu 19 288230376151711744) (lz 19)))) (.node 75 (.node 37 (.node 18 (lz 18) (lz 19)) (.node 19 (lz 19) (lu 19 522673715590561479884490286099221482438656))) (.node 37 (.node 18 (lu 18 25961484292674138142933956622811136) (lz 19)) (.node 19 (lz 19) (lz 19)))))) (.node 300 (.node 150 (.node 75 (.node 37 (.node 18 (lz 18) (lc ([z8 18,u8 1 246]))) (.node 19 (lu 19 36346078009743793399996410939155522) (lu 19 618970019642690137483116544))) (.node 37 (.node 18 (lc ([u8 1 1,z8 17])) (lz 19)) (.node 19 (lz 19) (lz 19)))) (.node 75 (.node 37 (.node 18 (lc ([z8 14,u8 4 1678243855])) (rz 19)) (rz 38)) (rz 75))) (rz 300))) (rz 1200)) (rz 2400)) (rz 4800)) (rz 9600)))) (rz 76800))),
 (19,.map [] 14),
 (20,mn 179 (([.sl 18 0 1200 1200,.mp 19,vi 0,.v (.slice none 0 0),vi 0,vi 0,vi 14,vb false]))),
 (6023,mn 185 (([.ptr 20 0,vi 50,vi 400,.v (.int .u64 1),.su 11744 0 8 0 8]))),
 (7639,mn 137 (([.ptr 20 0,vi 8,vi 1,vi 2,vb false,vi 400,vi 1200,.ptr 7642 0,.su 11476 0 7 0 7,vi 8,.ptr 7640 0,vi 0,.fn (.func 104) ([]) ([])]))),
 (7640,mn 247 (([vi 8,.ifc 202 (.agg ([.ptr 7639 0])),.su 11541 0 5 0 6]))),
 (7642,mn 354 (([vb true,vi 450,vi 1200,.su 11472 0 1 0 1]))),
 (7660,mn 91 (([.ptr 7639 0,.ptr 6023 0,.ptr 7655 0,vi 4,.su 11746 0 4 0 4,vi 0])))]) 11378 (catL [deadL 57,[ms 2 1 (([vi 2,vi 1])),
 mn 46 (([.v (.string ⟨#[]⟩),vi 0,vi 0,.v (.slice none 0 0),vi 0,vi 0])),
 mn 46 (([.v (.string ⟨#[]⟩),vi 0,vi 0,.v (.slice none 0 0),vi 0,vi 0]))],deadL 12,[ms 3 1 (([vi 2]))],deadL 21,[ms 255 2 (([vi 450,vi 6])),
 .dead,
 .dead,
 .dead,
 .mem 46 (some 6) (.node 36 (.node 18 (.leaf ([.v (.string ⟨#[]⟩),vi 1,vi 1,.su 7939 0 1 0 1,vi 450,vi 1,.v (.string ⟨#[]⟩),vi 2,vi 2,.su 8439 0 1 0 1,vi 451,vi 1,.v (.string ⟨#[]⟩),vi 3,vi 1,.su 8899 0 1 0 1,vi 0,vi 0])) (.leaf ([.v (.string ⟨#[]⟩),vi 4,vi 1,.su 9288 0 1 0 1,vi 452,vi 1,.v (.string ⟨#[]⟩),vi 5,vi 1,.su 9681 0 1 0 1,vi 453,vi 1,.v (.string ⟨#[]⟩),vi 6,vi 1,.su 10040 0 1 0 1,vi 454,vi 1]))) (.leaf ([.v (.string ⟨#[]⟩),vi 7,vi 1,.su 11450 0 1 0 1,vi 455,vi 1]))),
 .dead,
 .dead,
 .dead,
 ms 3 1 (([vi 2]))],deadL 60,[ms 240 1 (([.ptr 9219 0,.ptr 10551 0,.ptr 10826 0,.ptr 11090 0,.ptr 11351 0,.v (.pointer none)]))],deadL 200,[.mem 5 (some 1) (lu 17 2381976568446569244243622252035262382082),
 .dead,
 ms 183 1 (([.su 7704 0 17 0 17,.su 9546 0 17 0 17,.su 9596 0 17 0 17,.su 9940 0 17 0 17,.su 9990 0 17 0 17,.su 10283 0 17 0 17,.su 10333 0 17 0 17,.su 11742 0 17 0 17])),
 .dead,
 ms 149 2 ((uN .i64 8 1970350607106052))]]),11747⟩
end Go.Proofs.YtlmpjdionndncaaGreatDoor.RRunsNames
namespace Go.Proofs.YtlmpjdionndncaaGreatDoor.RRunsNames
open Go Go.RowKit Ev
set_option maxRecDepth 1000000 in
theorem part23 : Ev.Reach Tryz.prog st23 st24 :=
 Ev.Reach.segD (Ev.tabF_ok Ev.tab) Ev.runsHook_ok Tryz.checked.mixed (HK := Ev.runsHook) (FT := tabF Tryz.prog) (k := 4483) (bitsT 11378 11747 [18,19,20,6023,7639,7640,7642,7660]) (by kernel_rfl)
end Go.Proofs.YtlmpjdionndncaaGreatDoor.RRunsNames
