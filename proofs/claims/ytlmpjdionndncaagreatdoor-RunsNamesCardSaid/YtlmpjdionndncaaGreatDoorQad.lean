/-
  Texts of this claim, laid together: Rzs0, Rzs1, Rzp0, Rzs2, Rzp1.
-/
import Derived.Test.YtlmpjdionndncaaGreatDoorQac
import Derived.Test.YtlmpjdionndncaaGreatDoorProg

/-
 RunsNames: a state of its run (0).
-/
namespace Go.Proofs.YtlmpjdionndncaaGreatDoor.RRunsNames
open Go Go.RowKit Ev
set_option maxRecDepth 100000
noncomputable def st0 : ASt := ⟨⟨4, 158, .e, .no, [.code (bodyC Tryz.prog 4)], [], false, none, 0⟩, [], .e, 0⟩
end Go.Proofs.YtlmpjdionndncaaGreatDoor.RRunsNames
/-
 RunsNames: a state of its run (1).
-/
namespace Go.Proofs.YtlmpjdionndncaaGreatDoor.RRunsNames
open Go Go.RowKit Ev
set_option maxRecDepth 100000
noncomputable def st1 : ASt := ⟨⟨60,39,(patS .e [(0,vi 1200),(2,.v (.pointer none)),(3,vi 0),(4,.ptr 21 0),(5,vi 346),(6,vi 1200),(7,vb false),(8,vb false),(9,vi 1200),(10,vb false),(11,vb false),(12,.agg ([.v (.slice none 0 0),.v (.slice none 0 0),vi 0,.v (.slice none 0 0),vi 0,vi 0,vi 0,vb false])),(13,.ptr 21 0),(14,vi 346),(15,vi 1200),(16,vb true),(17,vi 345),(18,vi 346),(19,.ptr 21 0),(20,.ptr 21 0),(21,.ptr 21 0),(22,.ptr 21 0),(23,.su 1749 0 346 0 346),(24,.sl 1752 0 128 128),(25,.sl 1753 0 1 1),(26,.su 1754 0 347 0 347),(27,.ptr 21 0),(28,.ptr 21 0),(29,.ptr 21 0),(30,.ptr 21 0),(31,.ptr 21 0),(32,.ptr 21 1),(33,.su 1746 0 345 0 345),(34,.sl 1750 0 1 1),(35,.su 1751 0 346 0 346),(36,.ptr 21 0),(37,.ptr 21 1)]),.no,[cd 60 [1,1,1,0,1,0,0,1,0,0,1],.inBlock 1,cd 60 [1,1,1,0,1,0,0,1,1],il 60 [1,1,1,0,1,0,0],.inBlock 0,cd 60 [1,1,1,1]],[],false,none,21⟩,[⟨32,117,(patS .e [(0,.agg ([vi 8,vi 1,vi 2,vb false,vi 400,vi 1200])),(1,.sl 16 0 3 3),(2,.ptr 17 0),(4,.v (.pointer none)),(5,.ptr 20 0),(6,vi 0),(22,.tup ([.ptr 20 0,vi 0])),(23,.ptr 17 5),(24,vi 1200),(25,.tup ([.ptr 20 0,vi 0])),(26,.ptr 20 0),(27,vi 0),(29,.ptr 17 5),(30,vi 1200)]),(rg 32 [1,1,0] 2),[cd 32 [1,1,1]],[],false,none,17⟩,
 ⟨9,15,(patS .e [(0,.v (.pointer none)),(2,.agg ([vi 8,vi 1,vi 2,vb false,vi 400,vi 1200])),(3,.sl 1 0 5 5),(4,.agg ([vi 1,.sl 3 0 1 1,.su 5 0 5 0 5])),(5,.agg ([vi 2,.sl 13 0 1 1,.su 12 0 2 0 2])),(6,.agg ([vi 1,.sl 15 0 1 1,.v (.slice none 0 0)])),(7,.sl 16 0 3 3)]),(rg 9 [1,0] 6),[cd 9 [1,1]],[],false,none,0⟩,
 ⟨4,158,(patS .e [(0,vb false)]),(rg 4 [1,0] 0),[cd 4 [1,1]],[],false,none,0⟩],
 ofB (catL [[.dead,
 .dead,
 .dead,
 mn 3 (([vi 5])),
 .dead,
 ms 2 1 ((uN .i64 5 21491745027))],deadL 6,[ms 2 1 (([vi 98,vi 97])),
 mn 3 (([vi 2])),
 .dead,
 mn 3 (([vi 0])),
 mn 36 (([vi 1,.sl 3 0 1 1,.su 5 0 5 0 5,vi 2,.sl 13 0 1 1,.su 12 0 2 0 2,vi 1,.sl 15 0 1 1,.v (.slice none 0 0)])),
 mn 64 (([vi 8,vi 1,vi 2,vb false,vi 400,vi 1200])),
 .mem 349 none (rz 153600),
 .map [] 0,
 mn 179 (([.sl 18 0 1200 1200,.mp 19,vi 0,.v (.slice none 0 0),vi 0,vi 0,vi 0,vb false])),
 mn 182 (([.su 1754 0 347 0 347,.su 1751 0 346 0 346,vi 0,.v (.slice none 0 0),vi 0,vi 0,vi 0,vb false]))],repL [.mem 5 none (rz 128),.dead,.dead,.dead,.dead] 345,[.mem 5 none (rz 128),
 .dead,
 .dead,
 .dead,
 .mem 183 (some 1) (.node 256 (.node 128 (.node 64 (.node 32 (.node 16 (.leaf (zN (.v (.slice none 0 0)) 16)) (.leaf (zN (.v (.slice none 0 0)) 16))) (.node 16 (.leaf (zN (.v (.slice none 0 0)) 16)) (.leaf (zN (.v (.slice none 0 0)) 16)))) (.node 32 (.node 16 (.leaf (zN (.v (.slice none 0 0)) 16)) (.leaf (zN (.v (.slice none 0 0)) 16))) (.node 16 (.leaf (zN (.v (.slice none 0 0)) 16)) (.leaf (zN (.v (.slice none 0 0)) 16))))) (.node 64 (.node 32 (.node 16 (.leaf (zN (.v (.slice none 0 0)) 16)) (.leaf (zN (.v (.slice none 0 0)) 16))) (.node 16 (.leaf (zN (.v (.slice none 0 0)) 16)) (.leaf (zN (.v (.slice none 0 0)) 16)))) (.node 32 (.node 16 (.leaf (zN (.v (.slice none 0 0)) 16)) (.leaf (zN (.v (.slice none 0 0)) 16))) (.node 16 (.leaf (zN (.v (.slice none 0 0)) 16)) (.leaf (zN (.v (.slice none 0 0)) 16)))))) (.node 64 (.node 32 (.node 16 (.leaf (zN (.v (.slice none 0 0)) 16)) (.leaf (zN (.v (.slice none 0 0)) 16))) (.node 16 (.leaf (zN (.v (.slice none 0 0)) 16)) (.leaf (zN (.v (.slice none 0 0)) 16)))) (.node 16 (.leaf (zN (.v (.slice none 0 0)) 16)) (.leaf (zN (.v (.slice none 0 0)) 10))))),
 .mem 5 none (rz 128),
 .dead,
 .mem 183 (some 1) (.node 256 (.node 128 (.node 64 (.node 32 (.node 16 (.leaf (slP 5 0 128 128 16 22)) (.leaf (slP 5 0 128 128 16 102))) (.node 16 (.leaf (slP 5 0 128 128 16 182)) (.leaf (slP 5 0 128 128 16 262)))) (.node 32 (.node 16 (.leaf (slP 5 0 128 128 16 342)) (.leaf (slP 5 0 128 128 16 422))) (.node 16 (.leaf (slP 5 0 128 128 16 502)) (.leaf (slP 5 0 128 128 16 582))))) (.node 64 (.node 32 (.node 16 (.leaf (slP 5 0 128 128 16 662)) (.leaf (slP 5 0 128 128 16 742))) (.node 16 (.leaf (slP 5 0 128 128 16 822)) (.leaf (slP 5 0 128 128 16 902)))) (.node 32 (.node 16 (.leaf (slP 5 0 128 128 16 982)) (.leaf (slP 5 0 128 128 16 1062))) (.node 16 (.leaf (slP 5 0 128 128 16 1142)) (.leaf (slP 5 0 128 128 16 1222)))))) (.node 64 (.node 32 (.node 16 (.leaf (slP 5 0 128 128 16 1302)) (.leaf (slP 5 0 128 128 16 1382))) (.node 16 (.leaf (slP 5 0 128 128 16 1462)) (.leaf (slP 5 0 128 128 16 1542)))) (.node 16 (.leaf (slP 5 0 128 128 16 1622)) (.leaf (slP 5 0 128 128 11 1702)))))]]),1755⟩
end Go.Proofs.YtlmpjdionndncaaGreatDoor.RRunsNames
namespace Go.Proofs.YtlmpjdionndncaaGreatDoor.RRunsNames
open Go Go.RowKit Ev
theorem start : startE (tabF Tryz.prog) 4 = some st0 := by kernel_rfl
set_option maxRecDepth 1000000 in
theorem part0 : Ev.Reach Tryz.prog st0 st1 :=
 Ev.Reach.segD (Ev.tabF_ok Ev.tab) Ev.runsHook_ok Tryz.checked.mixed (HK := Ev.runsHook) (FT := tabF Tryz.prog) (k := 4544) (bitsT 0 1755 []) (by kernel_rfl)
end Go.Proofs.YtlmpjdionndncaaGreatDoor.RRunsNames
/-
 RunsNames: a state of its run (2).
-/
namespace Go.Proofs.YtlmpjdionndncaaGreatDoor.RRunsNames
open Go Go.RowKit Ev
set_option maxRecDepth 100000
noncomputable def st2 : ASt := ⟨⟨60,39,(patS st1.fr.T [(5,vi 696),(14,vi 696),(17,vi 695),(18,vi 696),(23,.su 3499 0 696 0 696),(24,.sl 3502 0 128 128),(25,.sl 3503 0 1 1),(26,.su 3504 0 697 0 697),(33,.su 3496 0 695 0 695),(34,.sl 3500 0 1 1),(35,.su 3501 0 696 0 696)]),.no,[cd 60 [1,1,1,0,1,0,0,1,0,0,1],.inBlock 1,cd 60 [1,1,1,0,1,0,0,1,1],il 60 [1,1,1,0,1,0,0],.inBlock 0,cd 60 [1,1,1,1]],[],false,none,21⟩,(cat2 [] (drN 0 st1.cs)),
 addL (patL (kilL st1.H [(1751,1),(1754,1)]) [(21,mn 182 (([.su 3504 0 697 0 697,.su 3501 0 696 0 696,vi 0,.v (.slice none 0 0),vi 0,vi 0,vi 0,vb false])))]) 1755 (catL [repL [.dead,.dead,.mem 5 none (rz 128),.dead,.dead] 349,[.dead,
 .mem 183 (some 1) (.node 512 (.node 256 (.node 128 (.node 64 (.node 32 (.node 16 (.leaf (zN (.v (.slice none 0 0)) 16)) (.leaf (zN (.v (.slice none 0 0)) 16))) (.node 16 (.leaf (zN (.v (.slice none 0 0)) 16)) (.leaf (zN (.v (.slice none 0 0)) 16)))) (.node 32 (.node 16 (.leaf (zN (.v (.slice none 0 0)) 16)) (.leaf (zN (.v (.slice none 0 0)) 16))) (.node 16 (.leaf (zN (.v (.slice none 0 0)) 16)) (.leaf (zN (.v (.slice none 0 0)) 16))))) (.node 64 (.node 32 (.node 16 (.leaf (zN (.v (.slice none 0 0)) 16)) (.leaf (zN (.v (.slice none 0 0)) 16))) (.node 16 (.leaf (zN (.v (.slice none 0 0)) 16)) (.leaf (zN (.v (.slice none 0 0)) 16)))) (.node 32 (.node 16 (.leaf (zN (.v (.slice none 0 0)) 16)) (.leaf (zN (.v (.slice none 0 0)) 16))) (.node 16 (.leaf (zN (.v (.slice none 0 0)) 16)) (.leaf (zN (.v (.slice none 0 0)) 16)))))) (.node 128 (.node 64 (.node 32 (.node 16 (.leaf (zN (.v (.slice none 0 0)) 16)) (.leaf (zN (.v (.slice none 0 0)) 16))) (.node 16 (.leaf (zN (.v (.slice none 0 0)) 16)) (.leaf (zN (.v (.slice none 0 0)) 16)))) (.node 32 (.node 16 (.leaf (zN (.v (.slice none 0 0)) 16)) (.leaf (zN (.v (.slice none 0 0)) 16))) (.node 16 (.leaf (zN (.v (.slice none 0 0)) 16)) (.leaf (zN (.v (.slice none 0 0)) 16))))) (.node 64 (.node 32 (.node 16 (.leaf (zN (.v (.slice none 0 0)) 16)) (.leaf (zN (.v (.slice none 0 0)) 16))) (.node 16 (.leaf (zN (.v (.slice none 0 0)) 16)) (.leaf (zN (.v (.slice none 0 0)) 16)))) (.node 32 (.node 16 (.leaf (zN (.v (.slice none 0 0)) 16)) (.leaf (zN (.v (.slice none 0 0)) 16))) (.node 16 (.leaf (zN (.v (.slice none 0 0)) 16)) (.leaf (zN (.v (.slice none 0 0)) 16))))))) (.node 128 (.node 64 (.node 32 (.node 16 (.leaf (zN (.v (.slice none 0 0)) 16)) (.leaf (zN (.v (.slice none 0 0)) 16))) (.node 16 (.leaf (zN (.v (.slice none 0 0)) 16)) (.leaf (zN (.v (.slice none 0 0)) 16)))) (.node 32 (.node 16 (.leaf (zN (.v (.slice none 0 0)) 16)) (.leaf (zN (.v (.slice none 0 0)) 16))) (.node 16 (.leaf (zN (.v (.slice none 0 0)) 16)) (.leaf (zN (.v (.slice none 0 0)) 16))))) (.node 32 (.node 16 (.leaf (zN (.v (.slice none 0 0)) 16)) (.leaf (zN (.v (.slice none 0 0)) 16))) (.node 16 (.leaf (zN (.v (.slice none 0 0)) 16)) (.leaf (zN (.v (.slice none 0 0)) 8)))))),
 .mem 5 none (rz 128),
 .dead,
 .mem 183 (some 1) (.node 512 (.node 256 (.node 128 (.node 64 (.node 32 (.node 16 (.leaf (slP 5 0 128 128 16 22)) (.leaf (slP 5 0 128 128 16 102))) (.node 16 (.leaf (slP 5 0 128 128 16 182)) (.leaf (slP 5 0 128 128 16 262)))) (.node 32 (.node 16 (.leaf (slP 5 0 128 128 16 342)) (.leaf (slP 5 0 128 128 16 422))) (.node 16 (.leaf (slP 5 0 128 128 16 502)) (.leaf (slP 5 0 128 128 16 582))))) (.node 64 (.node 32 (.node 16 (.leaf (slP 5 0 128 128 16 662)) (.leaf (slP 5 0 128 128 16 742))) (.node 16 (.leaf (slP 5 0 128 128 16 822)) (.leaf (slP 5 0 128 128 16 902)))) (.node 32 (.node 16 (.leaf (slP 5 0 128 128 16 982)) (.leaf (slP 5 0 128 128 16 1062))) (.node 16 (.leaf (slP 5 0 128 128 16 1142)) (.leaf (slP 5 0 128 128 16 1222)))))) (.node 128 (.node 64 (.node 32 (.node 16 (.leaf (slP 5 0 128 128 16 1302)) (.leaf (slP 5 0 128 128 16 1382))) (.node 16 (.leaf (slP 5 0 128 128 16 1462)) (.leaf (slP 5 0 128 128 16 1542)))) (.node 32 (.node 16 (.leaf (slP 5 0 128 128 16 1622)) (.leaf (slP 5 0 128 128 16 1702))) (.node 16 (.leaf (slP 5 0 128 128 16 1782)) (.leaf (slP 5 0 128 128 16 1862))))) (.node 64 (.node 32 (.node 16 (.leaf (slP 5 0 128 128 16 1942)) (.leaf (slP 5 0 128 128 16 2022))) (.node 16 (.leaf (slP 5 0 128 128 16 2102)) (.leaf (slP 5 0 128 128 16 2182)))) (.node 32 (.node 16 (.leaf (slP 5 0 128 128 16 2262)) (.leaf (slP 5 0 128 128 16 2342))) (.node 16 (.leaf (slP 5 0 128 128 16 2422)) (.leaf (slP 5 0 128 128 16 2502))))))) (.node 128 (.node 64 (.node 32 (.node 16 (.leaf (slP 5 0 128 128 16 2582)) (.leaf (slP 5 0 128 128 16 2662))) (.node 16 (.leaf (slP 5 0 128 128 16 2742)) (.leaf (slP 5 0 128 128 16 2822)))) (.node 32 (.node 16 (.leaf (slP 5 0 128 128 16 2902)) (.leaf (slP 5 0 128 128 16 2982))) (.node 16 (.leaf (slP 5 0 128 128 16 3062)) (.leaf (slP 5 0 128 128 16 3142))))) (.node 32 (.node 16 (.leaf (slP 5 0 128 128 16 3222)) (.leaf (slP 5 0 128 128 16 3302))) (.node 16 (.leaf (slP 5 0 128 128 16 3382)) (.leaf (slP 5 0 128 128 9 3462))))))]]),3505⟩
end Go.Proofs.YtlmpjdionndncaaGreatDoor.RRunsNames
namespace Go.Proofs.YtlmpjdionndncaaGreatDoor.RRunsNames
open Go Go.RowKit Ev
set_option maxRecDepth 1000000 in
theorem part1 : Ev.Reach Tryz.prog st1 st2 :=
 Ev.Reach.segD (Ev.tabF_ok Ev.tab) Ev.runsHook_ok Tryz.checked.mixed (HK := Ev.runsHook) (FT := tabF Tryz.prog) (k := 4550) (bitsT 1755 3505 [21]) (by kernel_rfl)
end Go.Proofs.YtlmpjdionndncaaGreatDoor.RRunsNames
