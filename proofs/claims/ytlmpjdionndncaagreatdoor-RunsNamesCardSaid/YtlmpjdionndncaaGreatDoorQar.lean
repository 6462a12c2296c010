/-
  Texts of this claim, laid together: Rzs29, Rzp28, Rzs30, Rzp29.
-/
import Derived.Test.YtlmpjdionndncaaGreatDoorQac
import Derived.Test.YtlmpjdionndncaaGreatDoorProg
import Derived.Test.YtlmpjdionndncaaGreatDoorQaq

/-
 RunsNames: a state of its run (29).
-/
namespace Go.Proofs.YtlmpjdionndncaaGreatDoor.RRunsNames
open Go Go.RowKit Ev
set_option maxRecDepth 100000
noncomputable def st29 : ASt := ⟨⟨10,76,(patS (frC st28 7).T [(18,.tup ([.su 12865 0 1 0 1,vi 0]))]),(rg 10 [1,0] 4),[cd 10 [1,1]],[],false,none,12141⟩,(cat2 [] (drN 8 st28.cs)),
 addL (patL (kilL st28.H [(11541,1),(11746,1),(11794,1),(12142,3),(12146,1),(12153,7),(12441,3),(12445,8),(12487,5),(12494,2),(12503,1)]) [(18,.mem 349 none (.node 76800 (.node 38400 (.node 19200 (.node 9600 (.node 4800 (rz 4800) (.node 2400 (.node 1200 (rz 1200) (.node 600 (.node 300 (rz 300) (.node 150 (.node 75 (rz 75) (.node 37 (.node 18 (rz 18) (lu 19 22300745198530623162093550468306498700181504)) (.node 19 (lu 19 18518801667747479552) (lz 19)))) (.node 75 (.node 37 (.node 18 (lz 18) (lz 19)) (.node 19 (lz 19) (lu 19 20282409603651670532316941189120))) (.node 37 (.node 18 (lu 18 5192296858534827633316989631528960) (lc ([u8 6 2207613190144,z8 13]))) (.node 19 (lc ([u8 3 262144,z8 16])) (lz 19)))))) (.node 300 (.node 150 (.node 75 (.node 37 (.node 18 (lz 18) (lc ([z8 18,u8 1 94]))) (.node 19 (lu 19 44601490397061246284280362364911352191034749) (lu 19 309485009821345069010078289))) (.node 37 (.node 18 (lc ([u8 2 771,z8 15,u8 1 4])) (lz 19)) (.node 19 (lz 19) (lz 19)))) (.node 75 (.node 37 (.node 18 (lc ([z8 14,u8 4 3548415085])) (lu 19 28774621216885464763674038962516526607892480)) (.node 19 (lu 19 175585701331204247147119744178866106662929) (lu 19 25961484292674138142652481646166016))) (.node 37 (.node 18 (lz 18) (lz 19)) (.node 19 (lz 19) (lu 19 541247284133244739209780907980357632))))) (.node 150 (.node 75 (.node 37 (.node 18 (lu 18 22603575542231878585301347969666121728) (lu 19 22300745214208925765158459510360686261698560)) (.node 19 (lu 19 1547425049106725343640682496) (lz 19))) (.node 37 (.node 18 (lz 18) (lz 19)) (.node 19 (lu 19 73193596889846651376220766208) (lu 19 1347278090866885399527710261249)))) (.node 75 (.node 37 (.node 18 (lu 18 10384593719515841095187468879134976) (lu 19 110680464442257309696)) (.node 19 (lz 19) (lz 19))) (.node 37 (.node 18 (lz 18) (lu 19 340282366920938467391782694950270926848)) (.node 19 (lu 19 87112285931760246726927931523419330314240) (lu 19 2658455992188801765668447364961009664)))))))) (.node 1200 (.node 600 (.node 300 (.node 150 (.node 75 (.node 37 (.node 18 (lc ([u8 5 25769803776,z8 13])) (lz 19)) (.node 19 (lz 19) (lz 19))) (.node 37 (.node 18 (lu 18 79228162514264338074046246144) (lu 19 5192296858534827633316989631922176)) (.node 19 (lu 19 55340232229852807168) (lc ([u8 2 1792,z8 17]))))) (.node 75 (.node 37 (.node 18 (lz 18) (lz 19)) (.node 19 (lc ([z8 17,u8 2 27846])) (lu 19 1807057259368434556437570893647020412926704653))) (.node 37 (.node 18 (lu 18 1208925819614629175820618) (lu 19 609786001522321726526367296521027169813257)) (.node 19 (lz 19) (lz 19))))) (.node 150 (.node 75 (.node 37 (.node 18 (lz 18) (lc ([z8 14,u8 5 2905118197]))) (.node 19 (lu 19 379225069270302833404049278120902453759049728) (lu 19 693857013799726085655859343060377796608))) (.node 37 (.node 18 (lu 18 162259276829213363391578010289152) (lz 19)) (.node 19 (lz 19) (lz 19)))) (.node 75 (.node 37 (.node 18 (lu 18 193609139974534107535429391613952) (lu 19 22603575544088788644229418382014808064)) (.node 19 (lu 19 348449143788759725185107516995505680809984) (lu 19 9671406556917033397649408))) (.node 37 (.node 18 (lz 18) (lz 19)) (.node 19 (lz 19) (lu 19 22300745198530623326115498240000888076763136)))))) (.node 300 (.node 150 (.node 75 (.node 37 (.node 18 (lu 18 792633534417207296) (rz 19)) (rz 38)) (rz 75)) (rz 150)) (rz 300))) (rz 1200)))) (rz 9600)) (rz 19200)) (.node 19200 (rz 19200) (.node 9600 (.node 4800 (.node 2400 (.node 1200 (.node 600 (.node 300 (.node 150 (.node 75 (.node 37 (.node 18 (lu 18 309485009821345068741645393) (lu 19 87112285931760246660790998951141597775104)) (.node 19 (lu 19 5192296858534827629093446282641408) (lc ([u8 4 83886080,z8 15])))) (.node 37 (.node 18 (lz 18) (lz 19)) (.node 19 (lc ([z8 12,u8 7 374183262639823])) (lu 19 680564733841876926963642703010955526146)))) (.node 75 (.node 37 (.node 18 (lu 18 1967393731554212031230635514265600) (lz 19)) (.node 19 (lz 19) (lz 19))) (.node 37 (.node 18 (lz 18) (lu 19 342049403614349023288646111545488572416)) (.node 19 (lu 19 40564819207303340852292549083136) (lu 19 2417851639229258349477888))))) (.node 150 (.node 75 (.node 37 (.node 18 (lz 18) (lz 19)) (.node 19 (lz 19) (lz 19))) (.node 37 (.node 18 (lu 18 79639582629846725989471617024) (lu 19 66902235595591869427025006457174342867681280)) (.node 19 (lu 19 288230376151711744) (lz 19)))) (.node 75 (.node 37 (.node 18 (lz 18) (lz 19)) (.node 19 (lz 19) (lu 19 522673715590561479884490286099221482438656))) (.node 37 (.node 18 (lu 18 25961484292674138142933956622811136) (lz 19)) (.node 19 (lz 19) (lz 19)))))) (.node 300 (.node 150 (.node 75 (.node 37 (.node 18 (lz 18) (lc ([z8 18,u8 1 246]))) (.node 19 (lu 19 36346078009743793399996410939155522) (lu 19 618970019642690137483116544))) (.node 37 (.node 18 (lc ([u8 1 1,z8 17])) (lz 19)) (.node 19 (lz 19) (lz 19)))) (.node 75 (.node 37 (.node 18 (lc ([z8 14,u8 4 1678243855])) (lu 19 2475880078570760549815112785)) (.node 19 (lu 19 340282366920938463555608327800315969541) (lu 19 40564819207303340851193037455360))) (.node 37 (.node 18 (lc ([u8 3 262144,z8 15])) (lz 19)) (.node 19 (lz 19) (lu 19 123117554805446268039573950326374400))))) (rz 300))) (rz 1200)) (rz 2400)) (rz 4800)) (rz 9600)))) (rz 76800))),
 (19,.map [] 18),
 (20,mn 179 (([.sl 18 0 1200 1200,.mp 19,vi 0,.v (.slice none 0 0),vi 0,vi 0,vi 18,vb false]))),
 (6023,mn 185 (([.ptr 20 0,vi 50,vi 400,.v (.int .u64 1),.su 12863 0 11 0 11]))),
 (7640,mn 247 (([vi 8,.ifc 202 (.agg ([.ptr 7639 0])),.su 12556 0 6 0 7]))),
 (7660,mn 91 (([.ptr 7639 0,.ptr 6023 0,.ptr 7655 0,vi 5,.su 12815 0 5 0 5,vi 0])))]) 12504 (catL [deadL 52,[ms 240 1 (([.ptr 10551 0,.ptr 10826 0,.ptr 11090 0,.ptr 11351 0,.ptr 12023 0,.ptr 9219 0,.v (.pointer none)]))],deadL 254,[.mem 5 (some 1) (lu 17 2722258935367507707706996859471325560834),
 .dead,
 .dead,
 .dead,
 ms 149 2 ((uN .i64 10 147575922940283518980))],deadL 45,[.mem 5 (some 1) (lu 17 2722258935367507707706996859471325560835),
 .dead,
 ms 183 1 (([.su 7704 0 17 0 17,.su 9546 0 17 0 17,.su 9596 0 17 0 17,.su 9940 0 17 0 17,.su 9990 0 17 0 17,.su 10283 0 17 0 17,.su 10333 0 17 0 17,.su 11742 0 17 0 17,.su 11792 0 17 0 17,.su 12811 0 17 0 17,.su 12861 0 17 0 17])),
 .dead,
 ms 46 6 (([.v (.string ⟨#[]⟩),vi 8,vi 1,.su 12486 0 1 0 1,vi 456,vi 1]))]]),12866⟩
end Go.Proofs.YtlmpjdionndncaaGreatDoor.RRunsNames
namespace Go.Proofs.YtlmpjdionndncaaGreatDoor.RRunsNames
open Go Go.RowKit Ev
set_option maxRecDepth 1000000 in
theorem part28 : Ev.Reach Tryz.prog st28 st29 :=
 Ev.Reach.segD (Ev.tabF_ok Ev.tab) Ev.runsHook_ok Tryz.checked.mixed (HK := Ev.runsHook) (FT := tabF Tryz.prog) (k := 4468) (bitsT 12504 12866 [18,19,20,6023,7640,7660]) (by kernel_rfl)
end Go.Proofs.YtlmpjdionndncaaGreatDoor.RRunsNames
/-
 RunsNames: a state of its run (30).
-/
namespace Go.Proofs.YtlmpjdionndncaaGreatDoor.RRunsNames
open Go Go.RowKit Ev
set_option maxRecDepth 100000
noncomputable def st30 : ASt := ⟨⟨10,76,(patS st29.fr.T [(9,.su 12865 0 1 0 1),(10,vi 0),(11,vi 0),(12,.su 13429 0 5 0 5),(13,vi 0),(14,.tup ([.su 12865 0 1 0 1,vi 0])),(19,.su 12865 0 1 0 1),(20,vi 0),(21,vi 0),(22,vb false),(23,vb false),(24,.su 12865 0 1 0 1),(25,vi 1),(26,.sl 12140 0 1 1),(27,vi 1),(28,vb false),(29,vb false),(30,.su 12865 0 1 0 1),(31,vi 1),(32,vi 0),(33,vb true),(34,vi 0),(35,.tup ([.su 13429 0 5 0 5,vi 0])),(36,.ptr 7660 0),(37,.ptr 7639 0),(38,.su 12865 0 1 0 1),(39,vi 0),(40,.ptr 12865 0),(41,.ptr 12865 1),(42,vi 8),(43,.tup ([.su 13429 0 5 0 5,vi 0])),(44,.su 13429 0 5 0 5),(45,vi 0)]),.no,[cd 10 [1,1,1,0,1,0,0,1,1,0,0,1,1],.inBlock 1,cd 10 [1,1,1,0,1,0,0,1,1,1],il 10 [1,1,1,0,1,0,0],.inBlock 0,cd 10 [1,1,1,1]],[],false,none,12141⟩,(cat2 [] (drN 0 st29.cs)),
 addL (patL (kilL st29.H []) [(7640,mn 247 (([vi 8,.ifc 202 (.agg ([.ptr 7639 0])),.su 12556 0 7 0 7]))),
 (12556,ms 240 1 (([.ptr 10551 0,.ptr 10826 0,.ptr 11090 0,.ptr 11351 0,.ptr 12023 0,.ptr 9219 0,.ptr 13168 0])))]) 12866 (catL [deadL 301,[ms 2 1 ((uN .i64 5 17213620485)),
 mn 239 (([vi 8,vi 0,vi 1,.su 13167 0 5 0 5,vi 0,vb false,vi 0]))],deadL 260,[ms 2 1 ((uN .i64 5 17213620485))]]),13430⟩
end Go.Proofs.YtlmpjdionndncaaGreatDoor.RRunsNames
namespace Go.Proofs.YtlmpjdionndncaaGreatDoor.RRunsNames
open Go Go.RowKit Ev
set_option maxRecDepth 1000000 in
theorem part29 : Ev.Reach Tryz.prog st29 st30 :=
 Ev.Reach.segD (Ev.tabF_ok Ev.tab) Ev.runsHook_ok Tryz.checked.mixed (HK := Ev.runsHook) (FT := tabF Tryz.prog) (k := 8868) (bitsT 12866 13430 [7640,12556]) (by kernel_rfl)
end Go.Proofs.YtlmpjdionndncaaGreatDoor.RRunsNames
