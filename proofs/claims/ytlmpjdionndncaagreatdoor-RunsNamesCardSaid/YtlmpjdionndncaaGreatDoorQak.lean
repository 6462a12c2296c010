/-
  Texts of this claim, laid together: Rzs15, Rzp14, Rzs16, Rzp15.
-/
import Derived.Test.YtlmpjdionndncaaGreatDoorQac
import Derived.Test.YtlmpjdionndncaaGreatDoorProg
import Derived.Test.YtlmpjdionndncaaGreatDoorQaj

/-
 RunsNames: a state of its run (15).
-/
namespace Go.Proofs.YtlmpjdionndncaaGreatDoor.RRunsNames
open Go Go.RowKit Ev
set_option maxRecDepth 100000
noncomputable def st15 : ASt := ⟨⟨4,158,(patS (frC st14 2).T [(21,.ptr 7660 0)]),(rg 4 [1,0] 1),[cd 4 [1,1]],[],false,none,0⟩,(cat2 [] (drN 3 st14.cs)),
 addL (patL (kilS (kilL st14.H [(3,1),(5,1),(12,2),(15,2),(21,2),(6019,1),(6021,1),(7231,1),(7649,1),(7651,2),(7707,1),(7929,2),(7932,2),(7935,1),(7956,1),(7958,1),(7962,2),(7966,1),(7972,1),(8434,1)]) [(27,5,49,1),(277,5,1149,1)]) [(18,.mem 349 none (.node 76800 (.node 38400 (.node 19200 (.node 9600 (.node 4800 (rz 4800) (.node 2400 (.node 1200 (rz 1200) (.node 600 (.node 300 (rz 300) (.node 150 (.node 75 (rz 75) (.node 37 (.node 18 (rz 18) (lu 19 22300745198530623162093550468306498700181504)) (.node 19 (lu 19 18518801667747479552) (lz 19)))) (.node 75 (.node 37 (.node 18 (lz 18) (lz 19)) (.node 19 (lz 19) (lu 19 20282409603651670532316941189120))) (.node 37 (.node 18 (lc ([u8 3 65536,z8 15])) (rz 19)) (rz 38))))) (rz 600))) (rz 2400))) (rz 9600)) (rz 19200)) (.node 19200 (rz 19200) (.node 9600 (.node 4800 (.node 2400 (.node 1200 (.node 600 (.node 300 (.node 150 (.node 75 (.node 37 (.node 18 (lu 18 309485009821345068741645393) (lu 19 87112285931760246660790998951141597775104)) (.node 19 (lu 19 5192296858534827629093446282641408) (lc ([u8 4 83886080,z8 15])))) (.node 37 (.node 18 (lz 18) (lz 19)) (.node 19 (lc ([z8 12,u8 7 374183262639823])) (lu 19 680564733841876926963642703010955526146)))) (.node 75 (.node 37 (.node 18 (lu 18 1967393731554212031230635514265600) (lz 19)) (.node 19 (lz 19) (lz 19))) (.node 37 (.node 18 (lz 18) (lu 19 12886330822646266795634431361024)) (rz 38)))) (rz 300)) (rz 600)) (rz 1200)) (rz 2400)) (rz 4800)) (rz 9600)))) (rz 76800))),
 (19,.map [] 3),
 (20,mn 179 (([.sl 18 0 1200 1200,.mp 19,vi 0,.v (.slice none 0 0),vi 0,vi 0,vi 3,vb false]))),
 (7639,mn 137 (([.ptr 20 0,vi 8,vi 1,vi 2,vb false,vi 400,vi 1200,.ptr 7642 0,.su 8901 0 3 0 3,vi 4,.ptr 7640 0,vi 0,.fn (.func 104) ([]) ([])]))),
 (7642,mn 354 (([vb true,vi 450,vi 1200,.su 8461 0 1 0 1])))]) 8435 (catL [deadL 4,[ms 3 1 (([vi 2]))],deadL 21,[ms 255 2 (([vi 450,vi 2]))],deadL 437,[ms 3 1 (([vi 0])),
 .dead,
 ms 46 6 (([.v (.string ⟨#[]⟩),vi 1,vi 1,.su 7939 0 1 0 1,vi 450,vi 1,.v (.string ⟨#[]⟩),vi 2,vi 2,.su 8439 0 1 0 1,vi 451,vi 1,.v (.string ⟨#[]⟩),vi 3,vi 1,.su 8899 0 1 0 1,vi 0,vi 0]))],deadL 13]),8915⟩
end Go.Proofs.YtlmpjdionndncaaGreatDoor.RRunsNames
namespace Go.Proofs.YtlmpjdionndncaaGreatDoor.RRunsNames
open Go Go.RowKit Ev
set_option maxRecDepth 1000000 in
theorem part14 : Ev.Reach Tryz.prog st14 st15 :=
 Ev.Reach.segD (Ev.tabF_ok Ev.tab) Ev.runsHook_ok Tryz.checked.mixed (HK := Ev.runsHook) (FT := tabF Tryz.prog) (k := 2924) (bitsT 8435 8915 [18,19,20,7639,7642]) (by kernel_rfl)
end Go.Proofs.YtlmpjdionndncaaGreatDoor.RRunsNames
/-
 RunsNames: a state of its run (16).
-/
namespace Go.Proofs.YtlmpjdionndncaaGreatDoor.RRunsNames
open Go Go.RowKit Ev
set_option maxRecDepth 100000
noncomputable def st16 : ASt := ⟨⟨41,60,(patS .e [(0,.ptr 7660 0),(1,vi 1),(2,vi 0),(3,vi 2),(4,vb true),(10,.v (.slice none 0 0)),(11,vi 0),(12,.v (.slice none 0 0)),(13,vi 0),(20,vi 0),(21,vi 0),(22,vi 2),(23,vb true),(27,.ptr 7660 0),(28,vi 1),(29,vi 0),(30,vi 1),(31,.tup ([.agg ([vi 3,vi 1]),vi 0]))]),(rg 41 [1,1,0,1,0,0,1,0,0,0] 5),[cd 41 [1,1,0,1,0,0,1,0,0,1],.inBlock 1,cd 41 [1,1,0,1,0,0,1,1],il 41 [1,1,0,1,0,0],.inBlock 0,cd 41 [1,1,1]],[],false,none,8951⟩,(cat2 [⟨13,90,(patS .e [(0,.ptr 7660 0),(1,vi 1),(2,.agg ([vi 2,vi 2,vi 8,vb true])),(3,.ptr 8933 0),(4,.ptr 8934 0),(5,.ptr 8935 0),(6,.v (.slice none 0 0)),(7,vi 0),(8,vi 0),(9,.ptr 8937 0),(10,vb true),(11,vi 5),(13,vi 5),(14,.ptr 8945 0),(15,.ptr 8946 0),(16,vi 0),(17,vi 2),(21,.ptr 7660 0),(22,vb false),(23,vb false),(24,.ptr 7660 0),(25,.ptr 7639 0),(26,vb false),(27,vb false),(28,.agg ([vi 2,vi 2,vi 8,vb true])),(29,vi 0),(30,vi 0),(31,vb false),(33,.tup ([.agg ([.v (.string ⟨#[]⟩),vi 1,vi 1,.su 8944 0 1 0 1,vi 450,vi 1]),vb true])),(34,.ptr 7660 0),(35,.ptr 7639 0),(36,vi 1),(37,.tup ([.agg ([.v (.string ⟨#[]⟩),vi 1,vi 1,.su 8944 0 1 0 1,vi 450,vi 1]),vb true])),(38,.agg ([.v (.string ⟨#[]⟩),vi 1,vi 1,.su 8944 0 1 0 1,vi 450,vi 1])),(39,vb true),(40,vb true),(41,vb false),(42,.ptr 8937 3),(43,.su 8944 0 1 0 1),(44,vi 1),(45,vi 1),(46,vb false),(47,.ptr 8944 0),(48,vi 5),(49,vi 1),(50,vi 5),(51,vi 5),(52,vi 1),(53,vi 5),(54,.ptr 8935 0),(55,vi 2),(56,.fn (.func 74) ([]) ([.ptr 8947 0,.ptr 8948 0])),(57,vi 0),(58,vi 2),(60,.ptr 7660 0),(61,vi 1),(62,vi 0),(63,vi 2),(64,.ptr 8935 3),(65,vb true)]),(rg 13 [1,0,1,1,1,1,1,1,1,1,1,0,1,0,1,0,0] 6),[cd 13 [1,0,1,1,1,1,1,1,1,1,1,0,1,0,1,0,1],.inBlock 3],[],false,(some 8950),8951⟩,
 ⟨74,20,(patS .e [(0,.yl 8950),(1,.ptr 8947 0),(2,.ptr 8948 0),(4,vi 0),(5,vi 0),(6,vi 5),(7,vb true),(11,.yl 8950),(12,vi 0),(13,vi 5),(14,vi 0),(15,vi 2),(16,vi 2),(17,vi 2)]),(rg 74 [1,0,0,1,0,0,0] 7),[cd 74 [1,0,0,1,0,0,1],.inBlock 1,cd 74 [1,0,0,1,1],il 74 [1,0,0],.inBlock 0],[],false,none,8951⟩,
 ⟨13,90,(patS .e [(0,.ptr 7660 0),(1,vi 1),(2,.agg ([vi 2,vi 2,vi 8,vb true])),(3,.ptr 8933 0),(4,.ptr 8934 0),(5,.ptr 8935 0),(6,.v (.slice none 0 0)),(7,vi 0),(8,vi 0),(9,.ptr 8937 0),(10,vb true),(11,vi 5),(13,vi 5),(14,.ptr 8945 0),(15,.ptr 8946 0),(21,.ptr 7660 0),(22,vb false),(23,vb false),(24,.ptr 7660 0),(25,.ptr 7639 0),(26,vb false),(27,vb false),(28,.agg ([vi 2,vi 2,vi 8,vb true])),(29,vi 0),(30,vi 0),(31,vb false),(33,.tup ([.agg ([.v (.string ⟨#[]⟩),vi 1,vi 1,.su 8944 0 1 0 1,vi 450,vi 1]),vb true])),(34,.ptr 7660 0),(35,.ptr 7639 0),(36,vi 1),(37,.tup ([.agg ([.v (.string ⟨#[]⟩),vi 1,vi 1,.su 8944 0 1 0 1,vi 450,vi 1]),vb true])),(38,.agg ([.v (.string ⟨#[]⟩),vi 1,vi 1,.su 8944 0 1 0 1,vi 450,vi 1])),(39,vb true),(40,vb true),(41,vb false),(42,.ptr 8937 3),(43,.su 8944 0 1 0 1),(44,vi 1),(45,vi 1),(46,vb false),(47,.ptr 8944 0),(48,vi 5),(49,vi 1),(50,vi 5),(51,vi 5),(52,vi 1),(53,vi 5),(54,.ptr 8935 0),(55,vi 2),(56,.fn (.func 74) ([]) ([.ptr 8947 0,.ptr 8948 0]))]),.no,[.inRF 8950,.inBlock 2,cd 13 [1,0,1,1,1,1,1,1,1,1,1,1],.inScope (subC (bodyF Tryz.prog 13) [1,0])],[8949],false,none,8933⟩,
 ⟨10,76,(patS .e [(0,.ptr 7660 0),(1,vi 1),(2,.agg ([vi 2,vi 2,vi 8,vb true])),(3,.sl 8931 0 3 3),(6,.ptr 8932 0),(8,vb false),(15,.ptr 7660 0),(16,vi 1),(17,.agg ([vi 2,vi 2,vi 8,vb true]))]),(rg 10 [1,0] 3),[cd 10 [1,1]],[],false,none,8932⟩,
 ⟨4,158,(patS st15.fr.T [(1,.ptr 7660 0),(22,.ptr 7660 0),(23,vb false),(24,.ptr 7660 0),(25,.agg ([vi 2,vi 2,vi 8,vb true])),(26,.sl 8916 0 2 2),(27,.agg ([vi 1,.sl 8918 0 1 1,.su 8920 0 2 0 2])),(28,.sl 8921 0 2 2),(29,.agg ([vi 1,.sl 8923 0 1 1,.su 8925 0 2 0 2])),(30,.sl 8926 0 1 1),(31,.agg ([vi 1,.sl 8928 0 1 1,.su 8930 0 1 0 1])),(32,.sl 8931 0 3 3)]),(rg 4 [1,1,1,0] 9),[cd 4 [1,1,1,1]],[],false,none,0⟩] (drN 0 st15.cs)),
 addL (patL (kilL st15.H []) [(7640,mn 247 (([vi 8,.ifc 202 (.agg ([.ptr 7639 0])),.su 8006 0 1 0 1]))),
 (8006,ms 240 1 (([.ptr 9219 0])))]) 8915 (catL [[.dead,
 .dead,
 .dead,
 mn 3 (([vi 2])),
 .dead,
 ms 2 1 (([vi 1,vi 2])),
 .dead,
 .dead,
 mn 3 (([vi 2])),
 .dead,
 ms 2 1 (([vi 3,vi 4])),
 .dead,
 .dead,
 mn 3 (([vi 1])),
 .dead,
 ms 2 1 (([vi 5])),
 mn 36 (([vi 1,.sl 8918 0 1 1,.su 8920 0 2 0 2,vi 1,.sl 8923 0 1 1,.su 8925 0 2 0 2,vi 1,.sl 8928 0 1 1,.su 8930 0 1 0 1])),
 .dead,
 mn 27 (([.ptr 7660 0])),
 mn 2 (([vi 1])),
 mn 31 (([vi 2,vi 2,vi 8,vb true])),
 .dead,
 mn 46 (([.v (.string ⟨#[]⟩),vi 1,vi 1,.su 8944 0 1 0 1,vi 450,vi 1]))],deadL 6,[ms 3 1 (([vi 5])),
 mn 38 (([.v (.slice none 0 0)])),
 mn 39 (([vi 0])),
 mn 3 (([vi 5])),
 mn 3 (([vi 2])),
 .dfd true,
 .loop .busy none 13 90 (patS .e [(0,.ptr 7660 0),(1,vi 1),(2,.agg ([vi 2,vi 2,vi 8,vb true])),(3,.ptr 8933 0),(4,.ptr 8934 0),(5,.ptr 8935 0),(6,.v (.slice none 0 0)),(7,vi 0),(8,vi 0),(9,.ptr 8937 0),(10,vb true),(11,vi 5),(13,vi 5),(14,.ptr 8945 0),(15,.ptr 8946 0),(21,.ptr 7660 0),(22,vb false),(23,vb false),(24,.ptr 7660 0),(25,.ptr 7639 0),(26,vb false),(27,vb false),(28,.agg ([vi 2,vi 2,vi 8,vb true])),(29,vi 0),(30,vi 0),(31,vb false),(33,.tup ([.agg ([.v (.string ⟨#[]⟩),vi 1,vi 1,.su 8944 0 1 0 1,vi 450,vi 1]),vb true])),(34,.ptr 7660 0),(35,.ptr 7639 0),(36,vi 1),(37,.tup ([.agg ([.v (.string ⟨#[]⟩),vi 1,vi 1,.su 8944 0 1 0 1,vi 450,vi 1]),vb true])),(38,.agg ([.v (.string ⟨#[]⟩),vi 1,vi 1,.su 8944 0 1 0 1,vi 450,vi 1])),(39,vb true),(40,vb true),(41,vb false),(42,.ptr 8937 3),(43,.su 8944 0 1 0 1),(44,vi 1),(45,vi 1),(46,vb false),(47,.ptr 8944 0),(48,vi 5),(49,vi 1),(50,vi 5),(51,vi 5),(52,vi 1),(53,vi 5),(54,.ptr 8935 0),(55,vi 2),(56,.fn (.func 74) ([]) ([.ptr 8947 0,.ptr 8948 0]))]) [57,58] (subC (bodyF Tryz.prog 13) [1,0,1,1,1,1,1,1,1,1,1,0,1,0,0]) (subC (bodyF Tryz.prog 13) [1,0,1,1,1,1,1,1,1,1,1,0,1,0,1]) 8949],deadL 267,[ms 2 1 ((uN .i64 5 21491745027)),
 mn 239 (([vi 1,vi 0,vi 1,.su 9218 0 5 0 5,vi 0,vb false,vi 0]))],deadL 13]),9233⟩
end Go.Proofs.YtlmpjdionndncaaGreatDoor.RRunsNames
namespace Go.Proofs.YtlmpjdionndncaaGreatDoor.RRunsNames
open Go Go.RowKit Ev
set_option maxRecDepth 1000000 in
theorem part15 : Ev.Reach Tryz.prog st15 st16 :=
 Ev.Reach.segD (Ev.tabF_ok Ev.tab) Ev.runsHook_ok Tryz.checked.mixed (HK := Ev.runsHook) (FT := tabF Tryz.prog) (k := 4253) (bitsT 8915 9233 [7640,8006]) (by kernel_rfl)
end Go.Proofs.YtlmpjdionndncaaGreatDoor.RRunsNames
