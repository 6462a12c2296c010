/-
  Texts of this claim, laid together: Rzs47, Rzp46, Rzs48, Rzp47.
-/
import Derived.Test.YtlmpjdionndncaaGreatDoorQac
import Derived.Test.YtlmpjdionndncaaGreatDoorProg
import Derived.Test.YtlmpjdionndncaaGreatDoorQaz

/-
 RunsNames: a state of its run (47).
-/
namespace Go.Proofs.YtlmpjdionndncaaGreatDoor.RRunsNames
open Go Go.RowKit Ev
set_option maxRecDepth 100000
noncomputable def st47 : ASt := ⟨⟨74,20,(patS (frC st46 1).T [(18,vb true)]),(rg 74 [1,0,0,1,0,0,0] 8),[cd 74 [1,0,0,1,0,0,1],.inBlock 1,cd 74 [1,0,0,1,1],il 74 [1,0,0],.inBlock 0],[],false,none,22491⟩,(cat2 [] (drN 2 st46.cs)),
 addL (patL (kilL st46.H [(21246,1),(21546,1),(22001,1),(22441,1)]) [(13558,.mem 349 none (.node 76800 (.node 38400 (.node 19200 (.node 9600 (.node 4800 (rz 4800) (.node 2400 (.node 1200 (rz 1200) (.node 600 (.node 300 (rz 300) (.node 150 (.node 75 (rz 75) (.node 37 (.node 18 (rz 18) (lu 19 22300745198530623162093550468306498700181504)) (.node 19 (lu 19 18518801667747479552) (lz 19)))) (.node 75 (.node 37 (.node 18 (lz 18) (lz 19)) (.node 19 (lz 19) (lu 19 20282409603651670532316941189120))) (.node 37 (.node 18 (lu 18 5192296858534827633316989631528960) (lc ([u8 6 2207613190144,z8 13]))) (.node 19 (lc ([u8 3 262144,z8 16])) (lz 19)))))) (.node 300 (.node 150 (.node 75 (.node 37 (.node 18 (lz 18) (lc ([z8 18,u8 1 94]))) (.node 19 (lu 19 44601490397061246284280362364911352191034749) (lu 19 309485009821345069010078289))) (.node 37 (.node 18 (lc ([u8 2 771,z8 15,u8 1 4])) (lz 19)) (.node 19 (lz 19) (lz 19)))) (.node 75 (.node 37 (.node 18 (lc ([z8 14,u8 4 3548415085])) (lu 19 3987683987354747618783478774878961664)) (rz 38)) (rz 75))) (rz 300)))) (rz 2400))) (rz 9600)) (rz 19200)) (.node 19200 (rz 19200) (.node 9600 (.node 4800 (.node 2400 (.node 1200 (.node 600 (.node 300 (.node 150 (.node 75 (.node 37 (.node 18 (lu 18 309485009821345068741645393) (lu 19 87112285931760246660790998951141597775104)) (.node 19 (lu 19 5192296858534827629093446282641408) (lc ([u8 4 83886080,z8 15])))) (.node 37 (.node 18 (lz 18) (lz 19)) (.node 19 (lc ([z8 12,u8 7 374183262639823])) (lu 19 680564733841876926963642703010955526146)))) (.node 75 (.node 37 (.node 18 (lu 18 1967393731554212031230635514265600) (lz 19)) (.node 19 (lz 19) (lz 19))) (.node 37 (.node 18 (lz 18) (lu 19 342049403614349023288646111545488572416)) (.node 19 (lu 19 40564819207303340852292549083136) (lu 19 1208925819614629174837248))))) (.node 150 (.node 75 (.node 37 (.node 18 (lz 18) (lz 19)) (.node 19 (lz 19) (lz 19))) (.node 37 (.node 18 (lu 18 931448282599787593728) (rz 19)) (rz 38))) (rz 150))) (rz 600)) (rz 1200)) (rz 2400)) (rz 4800)) (rz 9600)))) (rz 76800))),
 (13559,.map [] 6),
 (13560,mn 179 (([.sl 13558 0 1200 1200,.mp 13559,vi 0,.v (.slice none 0 0),vi 0,vi 0,vi 6,vb false]))),
 (19563,mn 185 (([.ptr 13560 0,vi 50,vi 400,.v (.int .u64 1),.su 23138 0 3 0 3]))),
 (21179,mn 137 (([.ptr 13560 0,vi 8,vi 1,vi 2,vb false,vi 400,vi 1200,.ptr 21182 0,.su 22854 0 4 0 4,vi 5,.ptr 21180 0,vi 0,.fn (.func 104) ([]) ([])]))),
 (21180,mn 247 (([vi 8,.ifc 202 (.agg ([.ptr 21179 0])),.su 22908 0 1 0 2]))),
 (21182,mn 354 (([vb true,vi 450,vi 1200,.su 22850 0 1 0 1]))),
 (21200,mn 91 (([.ptr 21179 0,.ptr 19563 0,.ptr 21195 0,vi 1,.su 23090 0 1 0 1,vi 0]))),
 (22485,mn 38 (([.su 23140 0 1 0 1]))),
 (22490,.loop .ready none 13 90 (patS .e [(0,.ptr 21200 0),(1,vi 1),(2,.agg ([vi 2,vi 2,vi 8,vb false])),(3,.ptr 22473 0),(4,.ptr 22474 0),(5,.ptr 22475 0),(6,.v (.slice none 0 0)),(7,vi 0),(8,vi 0),(9,.ptr 22477 0),(10,vb true),(11,vi 5),(13,vi 5),(14,.ptr 22485 0),(15,.ptr 22486 0),(21,.ptr 21200 0),(22,vb false),(23,vb false),(24,.ptr 21200 0),(25,.ptr 21179 0),(26,vb false),(27,vb false),(28,.agg ([vi 2,vi 2,vi 8,vb false])),(29,vi 0),(30,vi 0),(31,vb false),(33,.tup ([.agg ([.v (.string ⟨#[]⟩),vi 1,vi 1,.su 22484 0 1 0 1,vi 450,vi 1]),vb true])),(34,.ptr 21200 0),(35,.ptr 21179 0),(36,vi 1),(37,.tup ([.agg ([.v (.string ⟨#[]⟩),vi 1,vi 1,.su 22484 0 1 0 1,vi 450,vi 1]),vb true])),(38,.agg ([.v (.string ⟨#[]⟩),vi 1,vi 1,.su 22484 0 1 0 1,vi 450,vi 1])),(39,vb true),(40,vb true),(41,vb false),(42,.ptr 22477 3),(43,.su 22484 0 1 0 1),(44,vi 1),(45,vi 1),(46,vb false),(47,.ptr 22484 0),(48,vi 5),(49,vi 1),(50,vi 5),(51,vi 5),(52,vi 1),(53,vi 5),(54,.ptr 22475 0),(55,vi 2),(56,.fn (.func 74) ([]) ([.ptr 22487 0,.ptr 22488 0]))]) [57,58] (subC (bodyF Tryz.prog 13) [1,0,1,1,1,1,1,1,1,1,1,0,1,0,0]) (subC (bodyF Tryz.prog 13) [1,0,1,1,1,1,1,1,1,1,1,0,1,0,1]) 22489)]) 22773 (catL [deadL 55,[ms 3 1 (([vi 2]))],deadL 21,[ms 255 2 (([vi 450,vi 3])),
 .dead,
 .dead,
 .dead,
 .mem 46 (some 6) (.node 18 (.leaf ([.v (.string ⟨#[]⟩),vi 1,vi 1,.su 21479 0 1 0 1,vi 450,vi 1,.v (.string ⟨#[]⟩),vi 2,vi 2,.su 21979 0 1 0 1,vi 451,vi 1,.v (.string ⟨#[]⟩),vi 3,vi 1,.su 22439 0 1 0 1,vi 0,vi 0])) (.leaf ([.v (.string ⟨#[]⟩),vi 4,vi 1,.su 22828 0 1 0 1,vi 452,vi 1]))),
 .dead,
 .dead,
 .dead,
 ms 3 1 (([vi 2]))],deadL 49,[ms 240 1 (([.ptr 22759 0,.v (.pointer none)]))],deadL 177,[.mem 5 (some 1) (lc ([u8 1 2,z8 15,u8 1 4])),
 .dead,
 .dead,
 .dead,
 ms 149 2 (([vi 4,vi 0]))],deadL 45,[.mem 5 (some 1) (lc ([u8 1 3,z8 15,u8 1 4])),
 .dead,
 ms 183 1 (([.su 21244 0 17 0 17,.su 23086 0 17 0 17,.su 23136 0 17 0 17])),
 .dead,
 ms 46 6 (([.v (.string ⟨#[]⟩),vi 4,vi 1,.su 22858 0 1 0 1,vi 452,vi 1]))]]),23141⟩
end Go.Proofs.YtlmpjdionndncaaGreatDoor.RRunsNames
namespace Go.Proofs.YtlmpjdionndncaaGreatDoor.RRunsNames
open Go Go.RowKit Ev
set_option maxRecDepth 1000000 in
theorem part46 : Ev.Reach Tryz.prog st46 st47 :=
 Ev.Reach.segD (Ev.tabF_ok Ev.tab) Ev.runsHook_ok Tryz.checked.mixed (HK := Ev.runsHook) (FT := tabF Tryz.prog) (k := 3898) (bitsT 22773 23141 [13558,13559,13560,19563,21179,21180,21182,21200,22485,22490]) (by kernel_rfl)
end Go.Proofs.YtlmpjdionndncaaGreatDoor.RRunsNames
/-
 RunsNames: a state of its run (48).
-/
namespace Go.Proofs.YtlmpjdionndncaaGreatDoor.RRunsNames
open Go Go.RowKit Ev
set_option maxRecDepth 100000
noncomputable def st48 : ASt := ⟨⟨74,20,(patS st47.fr.T [(4,vi 2),(5,vi 2),(8,vi 0),(9,vi 2),(10,vi 2),(12,vi 2),(14,vi 2),(16,vi 4),(17,vi 4),(19,vb false)]),(rg 74 [1,0,0,1,0,0,0] 8),[cd 74 [1,0,0,1,0,0,1],.inBlock 1,cd 74 [1,0,0,1,1],il 74 [1,0,0],.inBlock 0],[],false,none,22491⟩,(cat2 [] (drN 0 st47.cs)),
 addL (patL (kilL st47.H [(22850,1),(22854,1),(23090,1),(23138,1),(23140,1)]) [(13558,.mem 349 none (.node 76800 (.node 38400 (.node 19200 (.node 9600 (.node 4800 (rz 4800) (.node 2400 (.node 1200 (rz 1200) (.node 600 (.node 300 (rz 300) (.node 150 (.node 75 (rz 75) (.node 37 (.node 18 (rz 18) (lu 19 22300745198530623162093550468306498700181504)) (.node 19 (lu 19 18518801667747479552) (lz 19)))) (.node 75 (.node 37 (.node 18 (lz 18) (lz 19)) (.node 19 (lz 19) (lu 19 20282409603651670532316941189120))) (.node 37 (.node 18 (lu 18 5192296858534827633316989631528960) (lc ([u8 6 2207613190144,z8 13]))) (.node 19 (lc ([u8 3 262144,z8 16])) (lz 19)))))) (.node 300 (.node 150 (.node 75 (.node 37 (.node 18 (lz 18) (lc ([z8 18,u8 1 94]))) (.node 19 (lu 19 44601490397061246284280362364911352191034749) (lu 19 309485009821345069010078289))) (.node 37 (.node 18 (lc ([u8 2 771,z8 15,u8 1 4])) (lz 19)) (.node 19 (lz 19) (lz 19)))) (.node 75 (.node 37 (.node 18 (lc ([z8 14,u8 4 3548415085])) (lu 19 28774621216885464763674038962516526607892480)) (.node 19 (lu 19 175585701331204247147119744178866106662929) (lu 19 25961484292674138142652481646166016))) (.node 37 (.node 18 (lz 18) (lz 19)) (.node 19 (lz 19) (lu 19 541247284133244739209780907980357632))))) (.node 150 (.node 75 (.node 37 (.node 18 (lu 18 22603575542231878585301347969666121728) (lu 19 22300745214208925765158459510360686261698560)) (.node 19 (lu 19 1547425049106725343640682496) (lz 19))) (.node 37 (.node 18 (lz 18) (lz 19)) (.node 19 (lu 19 73193596889846651376220766208) (lu 19 92233720368547758081)))) (rz 150))))) (rz 2400))) (rz 9600)) (rz 19200)) (.node 19200 (rz 19200) (.node 9600 (.node 4800 (.node 2400 (.node 1200 (.node 600 (.node 300 (.node 150 (.node 75 (.node 37 (.node 18 (lu 18 309485009821345068741645393) (lu 19 87112285931760246660790998951141597775104)) (.node 19 (lu 19 5192296858534827629093446282641408) (lc ([u8 4 83886080,z8 15])))) (.node 37 (.node 18 (lz 18) (lz 19)) (.node 19 (lc ([z8 12,u8 7 374183262639823])) (lu 19 680564733841876926963642703010955526146)))) (.node 75 (.node 37 (.node 18 (lu 18 1967393731554212031230635514265600) (lz 19)) (.node 19 (lz 19) (lz 19))) (.node 37 (.node 18 (lz 18) (lu 19 342049403614349023288646111545488572416)) (.node 19 (lu 19 40564819207303340852292549083136) (lu 19 1208925819614629174837248))))) (.node 150 (.node 75 (.node 37 (.node 18 (lz 18) (lz 19)) (.node 19 (lz 19) (lz 19))) (.node 37 (.node 18 (lu 18 79639580736066706553993953280) (lu 19 89202980794122492568560724729822704373661696)) (.node 19 (lu 19 216172782113783808) (lz 19)))) (.node 75 (.node 37 (.node 18 (lz 18) (lz 19)) (.node 19 (lz 19) (lc ([u8 6 9520106831872,z8 13])))) (rz 75)))) (rz 600)) (rz 1200)) (rz 2400)) (rz 4800)) (rz 9600)))) (rz 76800))),
 (13559,.map [] 9),
 (13560,mn 179 (([.sl 13558 0 1200 1200,.mp 13559,vi 0,.v (.slice none 0 0),vi 0,vi 0,vi 9,vb false]))),
 (19563,mn 185 (([.ptr 13560 0,vi 50,vi 400,.v (.int .u64 1),.su 23532 0 5 0 5]))),
 (21179,mn 137 (([.ptr 13560 0,vi 8,vi 1,vi 2,vb false,vi 400,vi 1200,.ptr 21182 0,.su 23247 0 5 0 5,vi 6,.ptr 21180 0,vi 0,.fn (.func 104) ([]) ([])]))),
 (21182,mn 354 (([vb true,vi 450,vi 1200,.su 23243 0 1 0 1]))),
 (21200,mn 91 (([.ptr 21179 0,.ptr 19563 0,.ptr 21195 0,vi 2,.su 23484 0 2 0 2,vi 0]))),
 (22485,mn 38 (([.su 23534 0 2 0 2])))]) 23141 (catL [deadL 80,[ms 3 1 (([vi 2]))],deadL 21,[ms 255 2 (([vi 450,vi 4])),
 .dead,
 .dead,
 .dead,
 .mem 46 (some 6) (.node 18 (.leaf ([.v (.string ⟨#[]⟩),vi 1,vi 1,.su 21479 0 1 0 1,vi 450,vi 1,.v (.string ⟨#[]⟩),vi 2,vi 2,.su 21979 0 1 0 1,vi 451,vi 1,.v (.string ⟨#[]⟩),vi 3,vi 1,.su 22439 0 1 0 1,vi 0,vi 0])) (.leaf ([.v (.string ⟨#[]⟩),vi 4,vi 1,.su 22828 0 1 0 1,vi 452,vi 1,.v (.string ⟨#[]⟩),vi 5,vi 1,.su 23221 0 1 0 1,vi 453,vi 1]))),
 .dead,
 .dead,
 .dead,
 ms 3 1 (([vi 2]))],deadL 228,[.mem 5 (some 1) (lu 17 1701411834604692317316873037163136024578),
 .dead,
 .dead,
 .dead,
 ms 149 2 ((uN .i64 4 327684))],deadL 45,[.mem 5 (some 1) (lu 17 1701411834604692317335319781236845576195),
 .dead,
 ms 183 1 (([.su 21244 0 17 0 17,.su 23086 0 17 0 17,.su 23136 0 17 0 17,.su 23480 0 17 0 17,.su 23530 0 17 0 17])),
 .dead,
 ms 46 6 (([.v (.string ⟨#[]⟩),vi 4,vi 1,.su 22858 0 1 0 1,vi 452,vi 1,.v (.string ⟨#[]⟩),vi 5,vi 1,.su 23251 0 1 0 1,vi 453,vi 1]))]]),23535⟩
end Go.Proofs.YtlmpjdionndncaaGreatDoor.RRunsNames
namespace Go.Proofs.YtlmpjdionndncaaGreatDoor.RRunsNames
open Go Go.RowKit Ev
set_option maxRecDepth 1000000 in
theorem part47 : Ev.Reach Tryz.prog st47 st48 :=
 Ev.Reach.segD (Ev.tabF_ok Ev.tab) Ev.runsHook_ok Tryz.checked.mixed (HK := Ev.runsHook) (FT := tabF Tryz.prog) (k := 4284) (bitsT 23141 23535 [13558,13559,13560,19563,21179,21182,21200,22485]) (by kernel_rfl)
end Go.Proofs.YtlmpjdionndncaaGreatDoor.RRunsNames
