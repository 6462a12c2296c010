/-
  Texts of this claim, laid together: Rzs25, Rzp24, Rzs26, Rzp25.
-/
import Derived.Test.YtlmpjdionndncaaGreatDoorQac
import Derived.Test.YtlmpjdionndncaaGreatDoorProg
import Derived.Test.YtlmpjdionndncaaGreatDoorQao

/-
 RunsNames: a state of its run (25).
-/
namespace Go.Proofs.YtlmpjdionndncaaGreatDoor.RRunsNames
open Go Go.RowKit Ev
set_option maxRecDepth 100000
noncomputable def st25 : ASt := ⟨⟨10,76,(patS .e [(0,.ptr 7660 0),(1,vi 2),(2,.agg ([vi 4096,vi 2,vi 8,vb false])),(3,.sl 11128 0 1 1),(6,.ptr 11129 0),(8,vb false),(9,.su 11796 0 1 0 1),(10,vi 0),(14,.tup ([.su 11796 0 1 0 1,vi 0])),(15,.ptr 7660 0),(16,vi 2),(17,.agg ([vi 4096,vi 2,vi 8,vb false])),(18,.tup ([.su 11796 0 1 0 1,vi 0])),(19,.su 11796 0 1 0 1),(20,vi 0),(21,vi 0),(22,vb false),(23,vb false),(24,.su 11796 0 1 0 1),(25,vi 1),(26,.sl 11128 0 1 1),(27,vi 1),(28,vb false)]),(rg 10 [1,1,0,0] 8),[cd 10 [1,1,0,1],cd 10 [1,1,1]],[],false,none,11129⟩,[⟨4,158,(patS .e [(0,vb false),(1,.ptr 7660 0),(21,.ptr 7660 0),(22,.ptr 7660 0),(23,vb false),(24,.ptr 7660 0),(25,.agg ([vi 2,vi 2,vi 8,vb true])),(26,.sl 8916 0 2 2),(27,.agg ([vi 1,.sl 8918 0 1 1,.su 8920 0 2 0 2])),(28,.sl 8921 0 2 2),(29,.agg ([vi 1,.sl 8923 0 1 1,.su 8925 0 2 0 2])),(30,.sl 8926 0 1 1),(31,.agg ([vi 1,.sl 8928 0 1 1,.su 8930 0 1 0 1])),(32,.sl 8931 0 3 3),(33,vb true),(34,vb true),(35,.ptr 7660 0),(36,.agg ([vi 4096,vi 2,vi 8,vb false])),(37,.sl 11123 0 2 2),(38,.agg ([vi 1,.sl 11125 0 1 1,.su 11127 0 2 0 2])),(39,.sl 11128 0 1 1)]),(rg 4 [1,1,1,0] 16),[cd 4 [1,1,1,1]],[],false,none,0⟩],
 ofB (catL [deadL 18,[.mem 349 none (.node 76800 (.node 38400 (.node 19200 (.node 9600 (.node 4800 (rz 4800) (.node 2400 (.node 1200 (rz 1200) (.node 600 (.node 300 (rz 300) (.node 150 (.node 75 (rz 75) (.node 37 (.node 18 (rz 18) (lu 19 22300745198530623162093550468306498700181504)) (.node 19 (lu 19 18518801667747479552) (lz 19)))) (.node 75 (.node 37 (.node 18 (lz 18) (lz 19)) (.node 19 (lz 19) (lu 19 20282409603651670532316941189120))) (.node 37 (.node 18 (lu 18 5192296858534827633316989631528960) (lc ([u8 6 2207613190144,z8 13]))) (.node 19 (lc ([u8 3 262144,z8 16])) (lz 19)))))) (.node 300 (.node 150 (.node 75 (.node 37 (.node 18 (lz 18) (lc ([z8 18,u8 1 94]))) (.node 19 (lu 19 44601490397061246284280362364911352191034749) (lu 19 309485009821345069010078289))) (.node 37 (.node 18 (lc ([u8 2 771,z8 15,u8 1 4])) (lz 19)) (.node 19 (lz 19) (lz 19)))) (.node 75 (.node 37 (.node 18 (lc ([z8 14,u8 4 3548415085])) (lu 19 28774621216885464763674038962516526607892480)) (.node 19 (lu 19 175585701331204247147119744178866106662929) (lu 19 25961484292674138142652481646166016))) (.node 37 (.node 18 (lz 18) (lz 19)) (.node 19 (lz 19) (lu 19 541247284133244739209780907980357632))))) (.node 150 (.node 75 (.node 37 (.node 18 (lu 18 22603575542231878585301347969666121728) (lu 19 22300745214208925765158459510360686261698560)) (.node 19 (lu 19 1547425049106725343640682496) (lz 19))) (.node 37 (.node 18 (lz 18) (lz 19)) (.node 19 (lu 19 73193596889846651376220766208) (lu 19 1347278090866885399527710261249)))) (.node 75 (.node 37 (.node 18 (lu 18 10384593719515841095187468879134976) (lu 19 110680464442257309696)) (.node 19 (lz 19) (lz 19))) (.node 37 (.node 18 (lz 18) (lu 19 340282366920938467391782694950270926848)) (.node 19 (lu 19 87112285931760246726927931523419330314240) (lu 19 2658455992188801765668447364961009664)))))))) (.node 1200 (.node 600 (.node 300 (.node 150 (.node 75 (.node 37 (.node 18 (lc ([u8 5 25769803776,z8 13])) (lz 19)) (.node 19 (lz 19) (lz 19))) (.node 37 (.node 18 (lu 18 79228162514264338074046246144) (lu 19 5192296858534827633316989631922176)) (.node 19 (lu 19 55340232229852807168) (lc ([u8 2 1792,z8 17]))))) (.node 75 (.node 37 (.node 18 (lz 18) (lz 19)) (.node 19 (lc ([z8 17,u8 2 27846])) (lu 19 1807057259368434556437570893647020412926704653))) (.node 37 (.node 18 (lu 18 1208925819614629175820618) (lu 19 609786001522321726526367296521027169813257)) (.node 19 (lz 19) (lz 19))))) (.node 150 (.node 75 (.node 37 (.node 18 (lz 18) (lc ([z8 14,u8 5 2905118197]))) (.node 19 (lu 19 46730671726813448657055941939691520) (rz 19))) (rz 75)) (rz 150))) (rz 600)) (rz 1200)))) (rz 9600)) (rz 19200)) (.node 19200 (rz 19200) (.node 9600 (.node 4800 (.node 2400 (.node 1200 (.node 600 (.node 300 (.node 150 (.node 75 (.node 37 (.node 18 (lu 18 309485009821345068741645393) (lu 19 87112285931760246660790998951141597775104)) (.node 19 (lu 19 5192296858534827629093446282641408) (lc ([u8 4 83886080,z8 15])))) (.node 37 (.node 18 (lz 18) (lz 19)) (.node 19 (lc ([z8 12,u8 7 374183262639823])) (lu 19 680564733841876926963642703010955526146)))) (.node 75 (.node 37 (.node 18 (lu 18 1967393731554212031230635514265600) (lz 19)) (.node 19 (lz 19) (lz 19))) (.node 37 (.node 18 (lz 18) (lu 19 342049403614349023288646111545488572416)) (.node 19 (lu 19 40564819207303340852292549083136) (lu 19 2417851639229258349477888))))) (.node 150 (.node 75 (.node 37 (.node 18 (lz 18) (lz 19)) (.node 19 (lz 19) (lz 19))) (.node 37 (.node 18 (lu 18 79639582629846725989471617024) (lu 19 66902235595591869427025006457174342867681280)) (.node 19 (lu 19 288230376151711744) (lz 19)))) (.node 75 (.node 37 (.node 18 (lz 18) (lz 19)) (.node 19 (lz 19) (lu 19 522673715590561479884490286099221482438656))) (.node 37 (.node 18 (lu 18 25961484292674138142933956622811136) (lz 19)) (.node 19 (lz 19) (lz 19)))))) (.node 300 (.node 150 (.node 75 (.node 37 (.node 18 (lz 18) (lc ([z8 18,u8 1 246]))) (.node 19 (lu 19 36346078009743793399996410939155522) (lu 19 618970019642690137483116544))) (.node 37 (.node 18 (lc ([u8 1 1,z8 17])) (lz 19)) (.node 19 (lz 19) (lz 19)))) (.node 75 (.node 37 (.node 18 (lc ([z8 14,u8 4 1678243855])) (rz 19)) (rz 38)) (rz 75))) (rz 300))) (rz 1200)) (rz 2400)) (rz 4800)) (rz 9600)))) (rz 76800)),
 .map [] 15,
 mn 179 (([.sl 18 0 1200 1200,.mp 19,vi 0,.v (.slice none 0 0),vi 0,vi 0,vi 15,vb false]))],deadL 6002,[mn 185 (([.ptr 20 0,vi 50,vi 400,.v (.int .u64 1),.su 11794 0 9 0 9]))],deadL 1615,[mn 137 (([.ptr 20 0,vi 8,vi 1,vi 2,vb false,vi 400,vi 1200,.ptr 7642 0,.su 11476 0 7 0 7,vi 8,.ptr 7640 0,vi 0,.fn (.func 104) ([]) ([])])),
 mn 247 (([vi 8,.ifc 202 (.agg ([.ptr 7639 0])),.su 11541 0 5 0 6])),
 .dead,
 mn 354 (([vb true,vi 450,vi 1200,.su 11472 0 1 0 1]))],deadL 11,[.map [] 0,
 mn 295 (([vb false,.v (.slice none 0 0),.mp 7654]))],deadL 4,[mn 91 (([.ptr 7639 0,.ptr 6023 0,.ptr 7655 0,vi 4,.su 11746 0 4 0 4,vi 0]))],deadL 43,[.mem 5 (some 1) (lc ([u8 1 1,z8 16]))],deadL 234,[ms 3 1 (([vi 5]))],deadL 499,[ms 3 1 (([vi 2]))],deadL 459,[ms 3 1 (([vi 0]))],deadL 318,[ms 2 1 ((uN .i64 5 21491745027)),
 mn 239 (([vi 1,vi 0,vi 1,.su 9218 0 5 0 5,vi 0,vb false,vi 0]))],deadL 68,[ms 3 1 (([vi 2]))],deadL 257,[.mem 5 (some 1) (lc ([u8 1 2,z8 15,u8 1 4]))],deadL 49,[.mem 5 (some 1) (lc ([u8 1 3,z8 15,u8 1 4]))],deadL 84,[ms 3 1 (([vi 2]))],deadL 258,[.mem 5 (some 1) (lu 17 1701411834604692317316873037163136024578)],deadL 49,[.mem 5 (some 1) (lu 17 1701411834604692317335319781236845576195)],deadL 49,[ms 3 1 (([vi 1]))],deadL 242,[.mem 5 (some 1) (lu 17 2041694201525630780780247644599199203330)],deadL 49,[.mem 5 (some 1) (lu 17 2041694201525630780817141132746618306563)],deadL 216,[ms 2 1 (([vi 1,vi 2])),
 mn 239 (([vi 4,vi 0,vi 1,.su 10550 0 2 0 2,vi 0,vb false,vi 0]))],deadL 273,[ms 2 1 (([vi 3,vi 4])),
 mn 239 (([vi 5,vi 0,vi 1,.su 10825 0 2 0 2,vi 0,vb false,vi 0]))],deadL 262,[ms 2 1 (([vi 5])),
 mn 239 (([vi 6,vi 0,vi 1,.su 11089 0 1 0 1,vi 0,vb false,vi 0]))],deadL 34,[mn 3 (([vi 2])),
 .dead,
 ms 2 1 (([vi 2,vi 1])),
 mn 36 (([vi 1,.sl 11125 0 1 1,.su 11127 0 2 0 2]))],deadL 221,[ms 2 1 (([vi 98,vi 97])),
 mn 239 (([vi 2,vi 0,vi 2,.su 11350 0 2 0 2,vi 0,vb false,vi 0]))],deadL 98,[ms 3 1 (([vi 2]))],deadL 21,[ms 255 2 (([vi 450,vi 6])),
 .dead,
 .dead,
 .dead,
 .mem 46 (some 6) (.node 36 (.node 18 (.leaf ([.v (.string ⟨#[]⟩),vi 1,vi 1,.su 7939 0 1 0 1,vi 450,vi 1,.v (.string ⟨#[]⟩),vi 2,vi 2,.su 8439 0 1 0 1,vi 451,vi 1,.v (.string ⟨#[]⟩),vi 3,vi 1,.su 8899 0 1 0 1,vi 0,vi 0])) (.leaf ([.v (.string ⟨#[]⟩),vi 4,vi 1,.su 9288 0 1 0 1,vi 452,vi 1,.v (.string ⟨#[]⟩),vi 5,vi 1,.su 9681 0 1 0 1,vi 453,vi 1,.v (.string ⟨#[]⟩),vi 6,vi 1,.su 10040 0 1 0 1,vi 454,vi 1]))) (.leaf ([.v (.string ⟨#[]⟩),vi 7,vi 1,.su 11450 0 1 0 1,vi 455,vi 1]))),
 .dead,
 .dead,
 .dead,
 ms 3 1 (([vi 2]))],deadL 60,[ms 240 1 (([.ptr 9219 0,.ptr 10551 0,.ptr 10826 0,.ptr 11090 0,.ptr 11351 0,.v (.pointer none)]))],deadL 200,[.mem 5 (some 1) (lu 17 2381976568446569244243622252035262382082),
 .dead,
 .dead,
 .dead,
 ms 149 2 ((uN .i64 8 1970350607106052))],deadL 45,[.mem 5 (some 1) (lu 17 2381976568446569244243622252035262382083),
 .dead,
 ms 183 1 (([.su 7704 0 17 0 17,.su 9546 0 17 0 17,.su 9596 0 17 0 17,.su 9940 0 17 0 17,.su 9990 0 17 0 17,.su 10283 0 17 0 17,.su 10333 0 17 0 17,.su 11742 0 17 0 17,.su 11792 0 17 0 17])),
 .dead,
 ms 46 6 (([.v (.string ⟨#[]⟩),vi 7,vi 1,.su 11480 0 1 0 1,vi 455,vi 1]))]]),11797⟩
end Go.Proofs.YtlmpjdionndncaaGreatDoor.RRunsNames
namespace Go.Proofs.YtlmpjdionndncaaGreatDoor.RRunsNames
open Go Go.RowKit Ev
set_option maxRecDepth 1000000 in
theorem part24 : Ev.Reach Tryz.prog st24 st25 :=
 Ev.Reach.segD (Ev.tabF_ok Ev.tab) Ev.runsHook_ok Tryz.checked.mixed (HK := Ev.runsHook) (FT := tabF Tryz.prog) (k := 591) (bitsT 0 11797 []) (by kernel_rfl)
end Go.Proofs.YtlmpjdionndncaaGreatDoor.RRunsNames
/-
 RunsNames: a state of its run (26).
-/
namespace Go.Proofs.YtlmpjdionndncaaGreatDoor.RRunsNames
open Go Go.RowKit Ev
set_option maxRecDepth 100000
noncomputable def st26 : ASt := ⟨⟨10,76,(patS st25.fr.T [(11,vi 0),(12,.su 12105 0 2 0 2),(13,vi 0),(29,vb false),(30,.su 11796 0 1 0 1),(31,vi 1),(32,vi 0),(33,vb true),(34,vi 0),(35,.tup ([.su 12105 0 2 0 2,vi 0])),(36,.ptr 7660 0),(37,.ptr 7639 0),(38,.su 11796 0 1 0 1),(39,vi 0),(40,.ptr 11796 0),(41,.ptr 11796 1),(42,vi 7),(43,.tup ([.su 12105 0 2 0 2,vi 0])),(44,.su 12105 0 2 0 2),(45,vi 0)]),.no,[cd 10 [1,1,1,0,1,0,0,1,1,0,0,1,1],.inBlock 1,cd 10 [1,1,1,0,1,0,0,1,1,1],il 10 [1,1,1,0,1,0,0],.inBlock 0,cd 10 [1,1,1,1]],[],false,none,11129⟩,(cat2 [] (drN 0 st25.cs)),
 addL (patL (kilL st25.H []) [(7640,mn 247 (([vi 8,.ifc 202 (.agg ([.ptr 7639 0])),.su 11541 0 6 0 6]))),
 (11541,ms 240 1 (([.ptr 9219 0,.ptr 10551 0,.ptr 10826 0,.ptr 11090 0,.ptr 11351 0,.ptr 12023 0])))]) 11797 (catL [deadL 225,[ms 2 1 (([vi 2,vi 1])),
 mn 239 (([vi 7,vi 0,vi 1,.su 12022 0 2 0 2,vi 0,vb false,vi 0]))],deadL 81,[ms 2 1 (([vi 2,vi 1]))]]),12106⟩
end Go.Proofs.YtlmpjdionndncaaGreatDoor.RRunsNames
namespace Go.Proofs.YtlmpjdionndncaaGreatDoor.RRunsNames
open Go Go.RowKit Ev
set_option maxRecDepth 1000000 in
theorem part25 : Ev.Reach Tryz.prog st25 st26 :=
 Ev.Reach.segD (Ev.tabF_ok Ev.tab) Ev.runsHook_ok Tryz.checked.mixed (HK := Ev.runsHook) (FT := tabF Tryz.prog) (k := 4950) (bitsT 11797 12106 [7640,11541]) (by kernel_rfl)
end Go.Proofs.YtlmpjdionndncaaGreatDoor.RRunsNames
