/-
  Texts of this claim, laid together: Rzs17, Rzp16, Rzs18, Rzp17.
-/
import Derived.Test.YtlmpjdionndncaaGreatDoorQac
import Derived.Test.YtlmpjdionndncaaGreatDoorProg
import Derived.Test.YtlmpjdionndncaaGreatDoorQak

/-
 RunsNames: a state of its run (17).
-/
namespace Go.Proofs.YtlmpjdionndncaaGreatDoor.RRunsNames
open Go Go.RowKit Ev
set_option maxRecDepth 100000
noncomputable def st17 : ASt := ⟨⟨74,20,(patS (frC st16 1).T [(18,vb true)]),(rg 74 [1,0,0,1,0,0,0] 8),[cd 74 [1,0,0,1,0,0,1],.inBlock 1,cd 74 [1,0,0,1,1],il 74 [1,0,0],.inBlock 0],[],false,none,8951⟩,(cat2 [] (drN 2 st16.cs)),
 addL (patL (kilL st16.H [(7706,1),(8006,1),(8461,1),(8901,1)]) [(18,.mem 349 none (.node 76800 (.node 38400 (.node 19200 (.node 9600 (.node 4800 (rz 4800) (.node 2400 (.node 1200 (rz 1200) (.node 600 (.node 300 (rz 300) (.node 150 (.node 75 (rz 75) (.node 37 (.node 18 (rz 18) (lu 19 22300745198530623162093550468306498700181504)) (.node 19 (lu 19 18518801667747479552) (lz 19)))) (.node 75 (.node 37 (.node 18 (lz 18) (lz 19)) (.node 19 (lz 19) (lu 19 20282409603651670532316941189120))) (.node 37 (.node 18 (lu 18 5192296858534827633316989631528960) (lc ([u8 6 2207613190144,z8 13]))) (.node 19 (lc ([u8 3 262144,z8 16])) (lz 19)))))) (.node 300 (.node 150 (.node 75 (.node 37 (.node 18 (lz 18) (lc ([z8 18,u8 1 94]))) (.node 19 (lu 19 44601490397061246284280362364911352191034749) (lu 19 309485009821345069010078289))) (.node 37 (.node 18 (lc ([u8 2 771,z8 15,u8 1 4])) (lz 19)) (.node 19 (lz 19) (lz 19)))) (.node 75 (.node 37 (.node 18 (lc ([z8 14,u8 4 3548415085])) (lu 19 3987683987354747618783478774878961664)) (rz 38)) (rz 75))) (rz 300)))) (rz 2400))) (rz 9600)) (rz 19200)) (.node 19200 (rz 19200) (.node 9600 (.node 4800 (.node 2400 (.node 1200 (.node 600 (.node 300 (.node 150 (.node 75 (.node 37 (.node 18 (lu 18 309485009821345068741645393) (lu 19 87112285931760246660790998951141597775104)) (.node 19 (lu 19 5192296858534827629093446282641408) (lc ([u8 4 83886080,z8 15])))) (.node 37 (.node 18 (lz 18) (lz 19)) (.node 19 (lc ([z8 12,u8 7 374183262639823])) (lu 19 680564733841876926963642703010955526146)))) (.node 75 (.node 37 (.node 18 (lu 18 1967393731554212031230635514265600) (lz 19)) (.node 19 (lz 19) (lz 19))) (.node 37 (.node 18 (lz 18) (lu 19 342049403614349023288646111545488572416)) (.node 19 (lu 19 40564819207303340852292549083136) (lu 19 2417851639229258349477888))))) (.node 150 (.node 75 (.node 37 (.node 18 (lz 18) (lz 19)) (.node 19 (lz 19) (lz 19))) (.node 37 (.node 18 (lu 18 2825228302035265257472) (rz 19)) (rz 38))) (rz 150))) (rz 600)) (rz 1200)) (rz 2400)) (rz 4800)) (rz 9600)))) (rz 76800))),
 (19,.map [] 6),
 (20,mn 179 (([.sl 18 0 1200 1200,.mp 19,vi 0,.v (.slice none 0 0),vi 0,vi 0,vi 6,vb false]))),
 (6023,mn 185 (([.ptr 20 0,vi 50,vi 400,.v (.int .u64 1),.su 9598 0 3 0 3]))),
 (7639,mn 137 (([.ptr 20 0,vi 8,vi 1,vi 2,vb false,vi 400,vi 1200,.ptr 7642 0,.su 9314 0 4 0 4,vi 5,.ptr 7640 0,vi 0,.fn (.func 104) ([]) ([])]))),
 (7640,mn 247 (([vi 8,.ifc 202 (.agg ([.ptr 7639 0])),.su 9368 0 1 0 2]))),
 (7642,mn 354 (([vb true,vi 450,vi 1200,.su 9310 0 1 0 1]))),
 (7660,mn 91 (([.ptr 7639 0,.ptr 6023 0,.ptr 7655 0,vi 1,.su 9550 0 1 0 1,vi 0]))),
 (8945,mn 38 (([.su 9600 0 1 0 1]))),
 (8950,.loop .ready none 13 90 (patS .e [(0,.ptr 7660 0),(1,vi 1),(2,.agg ([vi 2,vi 2,vi 8,vb true])),(3,.ptr 8933 0),(4,.ptr 8934 0),(5,.ptr 8935 0),(6,.v (.slice none 0 0)),(7,vi 0),(8,vi 0),(9,.ptr 8937 0),(10,vb true),(11,vi 5),(13,vi 5),(14,.ptr 8945 0),(15,.ptr 8946 0),(21,.ptr 7660 0),(22,vb false),(23,vb false),(24,.ptr 7660 0),(25,.ptr 7639 0),(26,vb false),(27,vb false),(28,.agg ([vi 2,vi 2,vi 8,vb true])),(29,vi 0),(30,vi 0),(31,vb false),(33,.tup ([.agg ([.v (.string ⟨#[]⟩),vi 1,vi 1,.su 8944 0 1 0 1,vi 450,vi 1]),vb true])),(34,.ptr 7660 0),(35,.ptr 7639 0),(36,vi 1),(37,.tup ([.agg ([.v (.string ⟨#[]⟩),vi 1,vi 1,.su 8944 0 1 0 1,vi 450,vi 1]),vb true])),(38,.agg ([.v (.string ⟨#[]⟩),vi 1,vi 1,.su 8944 0 1 0 1,vi 450,vi 1])),(39,vb true),(40,vb true),(41,vb false),(42,.ptr 8937 3),(43,.su 8944 0 1 0 1),(44,vi 1),(45,vi 1),(46,vb false),(47,.ptr 8944 0),(48,vi 5),(49,vi 1),(50,vi 5),(51,vi 5),(52,vi 1),(53,vi 5),(54,.ptr 8935 0),(55,vi 2),(56,.fn (.func 74) ([]) ([.ptr 8947 0,.ptr 8948 0]))]) [57,58] (subC (bodyF Tryz.prog 13) [1,0,1,1,1,1,1,1,1,1,1,0,1,0,0]) (subC (bodyF Tryz.prog 13) [1,0,1,1,1,1,1,1,1,1,1,0,1,0,1]) 8949)]) 9233 (catL [deadL 55,[ms 3 1 (([vi 2]))],deadL 21,[ms 255 2 (([vi 450,vi 3])),
 .dead,
 .dead,
 .dead,
 .mem 46 (some 6) (.node 18 (.leaf ([.v (.string ⟨#[]⟩),vi 1,vi 1,.su 7939 0 1 0 1,vi 450,vi 1,.v (.string ⟨#[]⟩),vi 2,vi 2,.su 8439 0 1 0 1,vi 451,vi 1,.v (.string ⟨#[]⟩),vi 3,vi 1,.su 8899 0 1 0 1,vi 0,vi 0])) (.leaf ([.v (.string ⟨#[]⟩),vi 4,vi 1,.su 9288 0 1 0 1,vi 452,vi 1]))),
 .dead,
 .dead,
 .dead,
 ms 3 1 (([vi 2]))],deadL 49,[ms 240 1 (([.ptr 9219 0,.v (.pointer none)]))],deadL 177,[.mem 5 (some 1) (lc ([u8 1 2,z8 15,u8 1 4])),
 .dead,
 .dead,
 .dead,
 ms 149 2 (([vi 4,vi 0]))],deadL 45,[.mem 5 (some 1) (lc ([u8 1 3,z8 15,u8 1 4])),
 .dead,
 ms 183 1 (([.su 7704 0 17 0 17,.su 9546 0 17 0 17,.su 9596 0 17 0 17])),
 .dead,
 ms 46 6 (([.v (.string ⟨#[]⟩),vi 4,vi 1,.su 9318 0 1 0 1,vi 452,vi 1]))]]),9601⟩
end Go.Proofs.YtlmpjdionndncaaGreatDoor.RRunsNames
namespace Go.Proofs.YtlmpjdionndncaaGreatDoor.RRunsNames
open Go Go.RowKit Ev
set_option maxRecDepth 1000000 in
theorem part16 : Ev.Reach Tryz.prog st16 st17 :=
 Ev.Reach.segD (Ev.tabF_ok Ev.tab) Ev.runsHook_ok Tryz.checked.mixed (HK := Ev.runsHook) (FT := tabF Tryz.prog) (k := 3859) (bitsT 9233 9601 [18,19,20,6023,7639,7640,7642,7660,8945,8950]) (by kernel_rfl)
end Go.Proofs.YtlmpjdionndncaaGreatDoor.RRunsNames
/-
 RunsNames: a state of its run (18).
-/
namespace Go.Proofs.YtlmpjdionndncaaGreatDoor.RRunsNames
open Go Go.RowKit Ev
set_option maxRecDepth 100000
noncomputable def st18 : ASt := ⟨⟨74,20,(patS st17.fr.T [(4,vi 2),(5,vi 2),(8,vi 0),(9,vi 2),(10,vi 2),(12,vi 2),(14,vi 2),(16,vi 4),(17,vi 4),(19,vb false)]),(rg 74 [1,0,0,1,0,0,0] 8),[cd 74 [1,0,0,1,0,0,1],.inBlock 1,cd 74 [1,0,0,1,1],il 74 [1,0,0],.inBlock 0],[],false,none,8951⟩,(cat2 [] (drN 0 st17.cs)),
 addL (patL (kilL st17.H [(9310,1),(9314,1),(9550,1),(9598,1),(9600,1)]) [(18,.mem 349 none (.node 76800 (.node 38400 (.node 19200 (.node 9600 (.node 4800 (rz 4800) (.node 2400 (.node 1200 (rz 1200) (.node 600 (.node 300 (rz 300) (.node 150 (.node 75 (rz 75) (.node 37 (.node 18 (rz 18) (lu 19 22300745198530623162093550468306498700181504)) (.node 19 (lu 19 18518801667747479552) (lz 19)))) (.node 75 (.node 37 (.node 18 (lz 18) (lz 19)) (.node 19 (lz 19) (lu 19 20282409603651670532316941189120))) (.node 37 (.node 18 (lu 18 5192296858534827633316989631528960) (lc ([u8 6 2207613190144,z8 13]))) (.node 19 (lc ([u8 3 262144,z8 16])) (lz 19)))))) (.node 300 (.node 150 (.node 75 (.node 37 (.node 18 (lz 18) (lc ([z8 18,u8 1 94]))) (.node 19 (lu 19 44601490397061246284280362364911352191034749) (lu 19 309485009821345069010078289))) (.node 37 (.node 18 (lc ([u8 2 771,z8 15,u8 1 4])) (lz 19)) (.node 19 (lz 19) (lz 19)))) (.node 75 (.node 37 (.node 18 (lc ([z8 14,u8 4 3548415085])) (lu 19 28774621216885464763674038962516526607892480)) (.node 19 (lu 19 175585701331204247147119744178866106662929) (lu 19 25961484292674138142652481646166016))) (.node 37 (.node 18 (lz 18) (lz 19)) (.node 19 (lz 19) (lu 19 541247284133244739209780907980357632))))) (.node 150 (.node 75 (.node 37 (.node 18 (lu 18 22603575542231878585301347969666121728) (lu 19 22300745214208925765158459510360686261698560)) (.node 19 (lu 19 1547425049106725343640682496) (lz 19))) (.node 37 (.node 18 (lz 18) (lz 19)) (.node 19 (lu 19 73193596889846651376220766208) (lu 19 92233720368547758081)))) (rz 150))))) (rz 2400))) (rz 9600)) (rz 19200)) (.node 19200 (rz 19200) (.node 9600 (.node 4800 (.node 2400 (.node 1200 (.node 600 (.node 300 (.node 150 (.node 75 (.node 37 (.node 18 (lu 18 309485009821345068741645393) (lu 19 87112285931760246660790998951141597775104)) (.node 19 (lu 19 5192296858534827629093446282641408) (lc ([u8 4 83886080,z8 15])))) (.node 37 (.node 18 (lz 18) (lz 19)) (.node 19 (lc ([z8 12,u8 7 374183262639823])) (lu 19 680564733841876926963642703010955526146)))) (.node 75 (.node 37 (.node 18 (lu 18 1967393731554212031230635514265600) (lz 19)) (.node 19 (lz 19) (lz 19))) (.node 37 (.node 18 (lz 18) (lu 19 342049403614349023288646111545488572416)) (.node 19 (lu 19 40564819207303340852292549083136) (lu 19 2417851639229258349477888))))) (.node 150 (.node 75 (.node 37 (.node 18 (lz 18) (lz 19)) (.node 19 (lz 19) (lz 19))) (.node 37 (.node 18 (lu 18 79639582629846725989471617024) (lu 19 66902235595591869427025006457174342867681280)) (.node 19 (lu 19 288230376151711744) (lz 19)))) (.node 75 (.node 37 (.node 18 (lz 18) (lz 19)) (.node 19 (lz 19) (lc ([u8 6 219709855367168,z8 13])))) (rz 75)))) (rz 600)) (rz 1200)) (rz 2400)) (rz 4800)) (rz 9600)))) (rz 76800))),
 (19,.map [] 9),
 (20,mn 179 (([.sl 18 0 1200 1200,.mp 19,vi 0,.v (.slice none 0 0),vi 0,vi 0,vi 9,vb false]))),
 (6023,mn 185 (([.ptr 20 0,vi 50,vi 400,.v (.int .u64 1),.su 9992 0 5 0 5]))),
 (7639,mn 137 (([.ptr 20 0,vi 8,vi 1,vi 2,vb false,vi 400,vi 1200,.ptr 7642 0,.su 9707 0 5 0 5,vi 6,.ptr 7640 0,vi 0,.fn (.func 104) ([]) ([])]))),
 (7642,mn 354 (([vb true,vi 450,vi 1200,.su 9703 0 1 0 1]))),
 (7660,mn 91 (([.ptr 7639 0,.ptr 6023 0,.ptr 7655 0,vi 2,.su 9944 0 2 0 2,vi 0]))),
 (8945,mn 38 (([.su 9994 0 2 0 2])))]) 9601 (catL [deadL 80,[ms 3 1 (([vi 2]))],deadL 21,[ms 255 2 (([vi 450,vi 4])),
 .dead,
 .dead,
 .dead,
 .mem 46 (some 6) (.node 18 (.leaf ([.v (.string ⟨#[]⟩),vi 1,vi 1,.su 7939 0 1 0 1,vi 450,vi 1,.v (.string ⟨#[]⟩),vi 2,vi 2,.su 8439 0 1 0 1,vi 451,vi 1,.v (.string ⟨#[]⟩),vi 3,vi 1,.su 8899 0 1 0 1,vi 0,vi 0])) (.leaf ([.v (.string ⟨#[]⟩),vi 4,vi 1,.su 9288 0 1 0 1,vi 452,vi 1,.v (.string ⟨#[]⟩),vi 5,vi 1,.su 9681 0 1 0 1,vi 453,vi 1]))),
 .dead,
 .dead,
 .dead,
 ms 3 1 (([vi 2]))],deadL 228,[.mem 5 (some 1) (lu 17 1701411834604692317316873037163136024578),
 .dead,
 .dead,
 .dead,
 ms 149 2 ((uN .i64 4 327684))],deadL 45,[.mem 5 (some 1) (lu 17 1701411834604692317335319781236845576195),
 .dead,
 ms 183 1 (([.su 7704 0 17 0 17,.su 9546 0 17 0 17,.su 9596 0 17 0 17,.su 9940 0 17 0 17,.su 9990 0 17 0 17])),
 .dead,
 ms 46 6 (([.v (.string ⟨#[]⟩),vi 4,vi 1,.su 9318 0 1 0 1,vi 452,vi 1,.v (.string ⟨#[]⟩),vi 5,vi 1,.su 9711 0 1 0 1,vi 453,vi 1]))]]),9995⟩
end Go.Proofs.YtlmpjdionndncaaGreatDoor.RRunsNames
namespace Go.Proofs.YtlmpjdionndncaaGreatDoor.RRunsNames
open Go Go.RowKit Ev
set_option maxRecDepth 1000000 in
theorem part17 : Ev.Reach Tryz.prog st17 st18 :=
 Ev.Reach.segD (Ev.tabF_ok Ev.tab) Ev.runsHook_ok Tryz.checked.mixed (HK := Ev.runsHook) (FT := tabF Tryz.prog) (k := 4245) (bitsT 9601 9995 [18,19,20,6023,7639,7642,7660,8945]) (by kernel_rfl)
end Go.Proofs.YtlmpjdionndncaaGreatDoor.RRunsNames
