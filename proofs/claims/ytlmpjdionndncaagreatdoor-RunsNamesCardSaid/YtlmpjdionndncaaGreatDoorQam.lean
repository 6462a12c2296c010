/-
  Texts of this claim, laid together: Rzs19, Rzp18, Rzs20, Rzp19.
-/
import Derived.Test.YtlmpjdionndncaaGreatDoorQac
import Derived.Test.YtlmpjdionndncaaGreatDoorProg
import Derived.Test.YtlmpjdionndncaaGreatDoorQal

/-
 RunsNames: a state of its run (19).
-/
namespace Go.Proofs.YtlmpjdionndncaaGreatDoor.RRunsNames
open Go Go.RowKit Ev
set_option maxRecDepth 100000
noncomputable def st19 : ASt := ⟨⟨10,76,(patS (frC st18 1).T [(18,.tup ([.su 10337 0 3 0 3,vi 0]))]),(rg 10 [1,0] 4),[cd 10 [1,1]],[],false,none,8932⟩,(cat2 [] (drN 2 st18.cs)),
 addL (patL (kilL st18.H [(8933,3),(8937,1),(8944,7),(9703,1),(9707,1),(9944,1),(9992,1),(9994,1)]) [(18,.mem 349 none (.node 76800 (.node 38400 (.node 19200 (.node 9600 (.node 4800 (rz 4800) (.node 2400 (.node 1200 (rz 1200) (.node 600 (.node 300 (rz 300) (.node 150 (.node 75 (rz 75) (.node 37 (.node 18 (rz 18) (lu 19 22300745198530623162093550468306498700181504)) (.node 19 (lu 19 18518801667747479552) (lz 19)))) (.node 75 (.node 37 (.node 18 (lz 18) (lz 19)) (.node 19 (lz 19) (lu 19 20282409603651670532316941189120))) (.node 37 (.node 18 (lu 18 5192296858534827633316989631528960) (lc ([u8 6 2207613190144,z8 13]))) (.node 19 (lc ([u8 3 262144,z8 16])) (lz 19)))))) (.node 300 (.node 150 (.node 75 (.node 37 (.node 18 (lz 18) (lc ([z8 18,u8 1 94]))) (.node 19 (lu 19 44601490397061246284280362364911352191034749) (lu 19 309485009821345069010078289))) (.node 37 (.node 18 (lc ([u8 2 771,z8 15,u8 1 4])) (lz 19)) (.node 19 (lz 19) (lz 19)))) (.node 75 (.node 37 (.node 18 (lc ([z8 14,u8 4 3548415085])) (lu 19 28774621216885464763674038962516526607892480)) (.node 19 (lu 19 175585701331204247147119744178866106662929) (lu 19 25961484292674138142652481646166016))) (.node 37 (.node 18 (lz 18) (lz 19)) (.node 19 (lz 19) (lu 19 541247284133244739209780907980357632))))) (.node 150 (.node 75 (.node 37 (.node 18 (lu 18 22603575542231878585301347969666121728) (lu 19 22300745214208925765158459510360686261698560)) (.node 19 (lu 19 1547425049106725343640682496) (lz 19))) (.node 37 (.node 18 (lz 18) (lz 19)) (.node 19 (lu 19 73193596889846651376220766208) (lu 19 1347278090866885399527710261249)))) (.node 75 (.node 37 (.node 18 (lu 18 10384593719515841095187468879134976) (lu 19 110680464442257309696)) (.node 19 (lz 19) (lz 19))) (.node 37 (.node 18 (lz 18) (lu 19 340282366920938467391782694950270926848)) (.node 19 (lu 19 87112285931760246726927931523419330314240) (lu 19 2658455992188801765668447364961009664)))))))) (.node 1200 (.node 600 (.node 300 (.node 150 (.node 75 (.node 37 (.node 18 (lc ([u8 5 25769803776,z8 13])) (lz 19)) (.node 19 (lz 19) (lz 19))) (.node 37 (.node 18 (lu 18 79228162514264338074046246144) (lc ([u8 3 458752,z8 16]))) (rz 38))) (rz 150)) (rz 300)) (rz 600)) (rz 1200)))) (rz 9600)) (rz 19200)) (.node 19200 (rz 19200) (.node 9600 (.node 4800 (.node 2400 (.node 1200 (.node 600 (.node 300 (.node 150 (.node 75 (.node 37 (.node 18 (lu 18 309485009821345068741645393) (lu 19 87112285931760246660790998951141597775104)) (.node 19 (lu 19 5192296858534827629093446282641408) (lc ([u8 4 83886080,z8 15])))) (.node 37 (.node 18 (lz 18) (lz 19)) (.node 19 (lc ([z8 12,u8 7 374183262639823])) (lu 19 680564733841876926963642703010955526146)))) (.node 75 (.node 37 (.node 18 (lu 18 1967393731554212031230635514265600) (lz 19)) (.node 19 (lz 19) (lz 19))) (.node 37 (.node 18 (lz 18) (lu 19 342049403614349023288646111545488572416)) (.node 19 (lu 19 40564819207303340852292549083136) (lu 19 2417851639229258349477888))))) (.node 150 (.node 75 (.node 37 (.node 18 (lz 18) (lz 19)) (.node 19 (lz 19) (lz 19))) (.node 37 (.node 18 (lu 18 79639582629846725989471617024) (lu 19 66902235595591869427025006457174342867681280)) (.node 19 (lu 19 288230376151711744) (lz 19)))) (.node 75 (.node 37 (.node 18 (lz 18) (lz 19)) (.node 19 (lz 19) (lu 19 522673715590561479884490286099221482438656))) (.node 37 (.node 18 (lu 18 25961484292674138142933956622811136) (lz 19)) (.node 19 (lz 19) (lz 19)))))) (.node 300 (.node 150 (.node 75 (.node 37 (.node 18 (lz 18) (lc ([z8 18,u8 1 246]))) (.node 19 (lc ([u8 3 10069058,z8 16])) (rz 19))) (rz 75)) (rz 150)) (rz 300))) (rz 1200)) (rz 2400)) (rz 4800)) (rz 9600)))) (rz 76800))),
 (19,.map [] 12),
 (20,mn 179 (([.sl 18 0 1200 1200,.mp 19,vi 0,.v (.slice none 0 0),vi 0,vi 0,vi 12,vb false]))),
 (6023,mn 185 (([.ptr 20 0,vi 50,vi 400,.v (.int .u64 1),.su 10335 0 7 0 7]))),
 (7639,mn 137 (([.ptr 20 0,vi 8,vi 1,vi 2,vb false,vi 400,vi 1200,.ptr 7642 0,.su 10066 0 6 0 6,vi 7,.ptr 7640 0,vi 0,.fn (.func 104) ([]) ([])]))),
 (7642,mn 354 (([vb true,vi 450,vi 1200,.su 10062 0 1 0 1]))),
 (7660,mn 91 (([.ptr 7639 0,.ptr 6023 0,.ptr 7655 0,vi 3,.su 10287 0 3 0 3,vi 0])))]) 9995 (catL [deadL 45,[ms 3 1 (([vi 1]))],deadL 21,[ms 255 2 (([vi 450,vi 5])),
 .dead,
 .dead,
 .dead,
 .mem 46 (some 6) (.node 18 (.leaf ([.v (.string ⟨#[]⟩),vi 1,vi 1,.su 7939 0 1 0 1,vi 450,vi 1,.v (.string ⟨#[]⟩),vi 2,vi 2,.su 8439 0 1 0 1,vi 451,vi 1,.v (.string ⟨#[]⟩),vi 3,vi 1,.su 8899 0 1 0 1,vi 0,vi 0])) (.leaf ([.v (.string ⟨#[]⟩),vi 4,vi 1,.su 9288 0 1 0 1,vi 452,vi 1,.v (.string ⟨#[]⟩),vi 5,vi 1,.su 9681 0 1 0 1,vi 453,vi 1,.v (.string ⟨#[]⟩),vi 6,vi 1,.su 10040 0 1 0 1,vi 454,vi 1]))),
 .dead,
 .dead,
 .dead,
 ms 3 1 (([vi 1]))],deadL 212,[.mem 5 (some 1) (lu 17 2041694201525630780780247644599199203330),
 .dead,
 .dead,
 .dead,
 ms 149 2 ((uN .i64 6 25770131460))],deadL 45,[.mem 5 (some 1) (lu 17 2041694201525630780817141132746618306563),
 .dead,
 ms 183 1 (([.su 7704 0 17 0 17,.su 9546 0 17 0 17,.su 9596 0 17 0 17,.su 9940 0 17 0 17,.su 9990 0 17 0 17,.su 10283 0 17 0 17,.su 10333 0 17 0 17])),
 .dead,
 ms 46 6 (([.v (.string ⟨#[]⟩),vi 4,vi 1,.su 9318 0 1 0 1,vi 452,vi 1,.v (.string ⟨#[]⟩),vi 5,vi 1,.su 9711 0 1 0 1,vi 453,vi 1,.v (.string ⟨#[]⟩),vi 6,vi 1,.su 10070 0 1 0 1,vi 454,vi 1]))]]),10338⟩
end Go.Proofs.YtlmpjdionndncaaGreatDoor.RRunsNames
namespace Go.Proofs.YtlmpjdionndncaaGreatDoor.RRunsNames
open Go Go.RowKit Ev
set_option maxRecDepth 1000000 in
theorem part18 : Ev.Reach Tryz.prog st18 st19 :=
 Ev.Reach.segD (Ev.tabF_ok Ev.tab) Ev.runsHook_ok Tryz.checked.mixed (HK := Ev.runsHook) (FT := tabF Tryz.prog) (k := 3679) (bitsT 9995 10338 [18,19,20,6023,7639,7642,7660]) (by kernel_rfl)
end Go.Proofs.YtlmpjdionndncaaGreatDoor.RRunsNames
/-
 RunsNames: a state of its run (20).
-/
namespace Go.Proofs.YtlmpjdionndncaaGreatDoor.RRunsNames
open Go Go.RowKit Ev
set_option maxRecDepth 100000
noncomputable def st20 : ASt := ⟨⟨10,76,(patS st19.fr.T [(9,.su 10337 0 3 0 3),(10,vi 0),(11,vi 0),(12,.su 10602 0 2 0 2),(13,vi 0),(14,.tup ([.su 10337 0 3 0 3,vi 0])),(19,.su 10337 0 3 0 3),(20,vi 0),(21,vi 0),(22,vb false),(23,vb false),(24,.su 10337 0 3 0 3),(25,vi 3),(26,.sl 8931 0 3 3),(27,vi 3),(28,vb false),(29,vb false),(30,.su 10337 0 3 0 3),(31,vi 3),(32,vi 0),(33,vb true),(34,vi 0),(35,.tup ([.su 10602 0 2 0 2,vi 0])),(36,.ptr 7660 0),(37,.ptr 7639 0),(38,.su 10337 0 3 0 3),(39,vi 0),(40,.ptr 10337 0),(41,.ptr 10337 1),(42,vi 4),(43,.tup ([.su 10602 0 2 0 2,vi 0])),(44,.su 10602 0 2 0 2),(45,vi 0)]),.no,[cd 10 [1,1,1,0,1,0,0,1,1,0,0,1,1],.inBlock 1,cd 10 [1,1,1,0,1,0,0,1,1,1],il 10 [1,1,1,0,1,0,0],.inBlock 0,cd 10 [1,1,1,1]],[],false,none,8932⟩,(cat2 [] (drN 0 st19.cs)),
 addL (patL (kilL st19.H []) [(7640,mn 247 (([vi 8,.ifc 202 (.agg ([.ptr 7639 0])),.su 9368 0 2 0 2]))),
 (9368,ms 240 1 (([.ptr 9219 0,.ptr 10551 0])))]) 10338 (catL [deadL 212,[ms 2 1 (([vi 1,vi 2])),
 mn 239 (([vi 4,vi 0,vi 1,.su 10550 0 2 0 2,vi 0,vb false,vi 0]))],deadL 50,[ms 2 1 (([vi 1,vi 2]))]]),10603⟩
end Go.Proofs.YtlmpjdionndncaaGreatDoor.RRunsNames
namespace Go.Proofs.YtlmpjdionndncaaGreatDoor.RRunsNames
open Go Go.RowKit Ev
set_option maxRecDepth 1000000 in
theorem part19 : Ev.Reach Tryz.prog st19 st20 :=
 Ev.Reach.segD (Ev.tabF_ok Ev.tab) Ev.runsHook_ok Tryz.checked.mixed (HK := Ev.runsHook) (FT := tabF Tryz.prog) (k := 4087) (bitsT 10338 10603 [7640,9368]) (by kernel_rfl)
end Go.Proofs.YtlmpjdionndncaaGreatDoor.RRunsNames
