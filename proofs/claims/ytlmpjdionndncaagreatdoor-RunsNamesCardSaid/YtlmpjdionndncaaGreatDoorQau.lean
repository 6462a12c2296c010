/-
  Texts of this claim, laid together: Rzs35, Rzp34, Rzs36, Rzp35.
-/
import Derived.Test.YtlmpjdionndncaaGreatDoorQac
import Derived.Test.YtlmpjdionndncaaGreatDoorProg
import Derived.Test.YtlmpjdionndncaaGreatDoorQat

/-
 RunsNames: a state of its run (35).
-/
namespace Go.Proofs.YtlmpjdionndncaaGreatDoor.RRunsNames
open Go Go.RowKit Ev
set_option maxRecDepth 100000
noncomputable def st35 : ASt := ⟨⟨150,37,(patS .e [(0,.yl 19570),(1,.ptr 19568 0),(3,vi 65),(4,.su 19768 0 128 0 128),(5,vi 0),(6,.ptr 19563 0),(7,.ptr 19563 0),(8,.ptr 19563 2),(9,vi 400),(10,vi 65),(11,vb true),(12,vi 65),(13,.tup ([.su 19768 0 128 0 128,vi 0])),(14,.ptr 19563 0),(15,.ptr 19563 0),(16,.ptr 19563 0),(17,.ptr 13560 0),(18,.ptr 19563 0),(19,.ptr 19563 0),(20,.ptr 19563 1),(21,vi 50),(22,vi 65),(23,vi 115),(24,.tup ([.su 19768 0 128 0 128,vi 0])),(25,.su 19768 0 128 0 128),(26,vi 0),(27,.yl 19570),(28,.su 19765 0 128 0 128),(29,vi 0),(30,vb true),(31,vb false),(32,vb false),(33,vi 0),(34,vb false),(35,vb false),(36,vi 65)]),.no,[cd 150 [1,0,0,1,1,0,0,1,1],.inBlock 1,cd 150 [1,0,0,1,1,1],il 150 [1,0,0],.inBlock 0],[],false,none,19571⟩,(cat2 [⟨61,43,(patS .e [(0,.ptr 13560 0),(1,vi 50),(2,vi 400),(3,.v (.int .u64 1)),(7,.ptr 19562 0),(8,.v (.pointer none)),(9,vi 0),(10,.ptr 19564 0),(11,.ptr 19565 0),(12,.ptr 19566 0),(13,.ptr 19567 0),(16,vi 400),(17,vb false),(18,vb false),(19,vi 50),(20,vb false),(21,vb false),(22,.ptr 13560 0),(23,vi 50),(24,vi 400),(25,.v (.int .u64 1)),(26,.agg ([.ptr 13560 0,vi 50,vi 400,.v (.int .u64 1),.v (.slice none 0 0)])),(27,.ptr 19563 0),(28,.fn (.func 97) ([]) ([.ptr 19566 0,.ptr 19562 0,.ptr 19564 0])),(29,.ptr 19563 0),(30,.fn (.func 150) ([]) ([.ptr 19568 0]))]),.no,[.inRF 19570,.inBlock 0,cd 61 [1,0,1,1,1,1,1,1],.inScope (subC (bodyF Tryz.prog 61) [1,0])],[19569],false,none,19562⟩,
 ⟨32,117,(patS st34.fr.T [(7,.ptr 13561 0),(8,vi 0),(28,.tup ([.ptr 13561 0,vi 0])),(32,.ptr 13561 0),(33,vi 0),(34,vi 0),(35,vb false),(36,vb false),(37,vi 0),(38,vb false),(39,vb false),(41,.ptr 13560 0),(42,.ptr 13557 4),(43,vi 400)]),(rg 32 [1,1,1,1,0] 3),[cd 32 [1,1,1,1,1]],[],false,none,13557⟩] (drN 0 st34.cs)),
 addL (patL (kilL st34.H []) []) 19562 (catL [[mn 113 (([.v (.int .u64 1)])),
 mn 185 (([.ptr 13560 0,vi 50,vi 400,.v (.int .u64 1),.v (.slice none 0 0)])),
 mn 87 (([.ptr 19563 0])),
 mn 39 (([vi 0])),
 mn 4 (([vb false])),
 mn 188 (([.fn (.func 97) ([]) ([.ptr 19566 0,.ptr 19562 0,.ptr 19564 0])])),
 mn 87 (([.ptr 19563 0])),
 .dfd true,
 .loop .ready none 61 43 (patS .e [(0,.ptr 13560 0),(1,vi 50),(2,vi 400),(3,.v (.int .u64 1)),(7,.ptr 19562 0),(8,.v (.pointer none)),(9,vi 0),(10,.ptr 19564 0),(11,.ptr 19565 0),(12,.ptr 19566 0),(13,.ptr 19567 0),(16,vi 400),(17,vb false),(18,vb false),(19,vi 50),(20,vb false),(21,vb false),(22,.ptr 13560 0),(23,vi 50),(24,vi 400),(25,.v (.int .u64 1)),(26,.agg ([.ptr 13560 0,vi 50,vi 400,.v (.int .u64 1),.v (.slice none 0 0)])),(27,.ptr 19563 0),(28,.fn (.func 97) ([]) ([.ptr 19566 0,.ptr 19562 0,.ptr 19564 0])),(29,.ptr 19563 0),(30,.fn (.func 150) ([]) ([.ptr 19568 0]))]) [31,32] (subC (bodyF Tryz.prog 61) [1,0,1,1,1,1,1,0,1,0,0]) (subC (bodyF Tryz.prog 61) [1,0,1,1,1,1,1,0,1,0,1]) 19569],deadL 197,[.mem 5 (some 1) (lz 128)]]),19769⟩
end Go.Proofs.YtlmpjdionndncaaGreatDoor.RRunsNames
namespace Go.Proofs.YtlmpjdionndncaaGreatDoor.RRunsNames
open Go Go.RowKit Ev
set_option maxRecDepth 1000000 in
theorem part34 : Ev.Reach Tryz.prog st34 st35 :=
 Ev.Reach.segD (Ev.tabF_ok Ev.tab) Ev.runsHook_ok Tryz.checked.mixed (HK := Ev.runsHook) (FT := tabF Tryz.prog) (k := 4540) (bitsT 19562 19769 []) (by kernel_rfl)
end Go.Proofs.YtlmpjdionndncaaGreatDoor.RRunsNames
/-
 RunsNames: a state of its run (36).
-/
namespace Go.Proofs.YtlmpjdionndncaaGreatDoor.RRunsNames
open Go Go.RowKit Ev
set_option maxRecDepth 100000
noncomputable def st36 : ASt := ⟨⟨150,37,(patS st35.fr.T [(3,vi 130),(4,.su 19963 0 128 0 128),(10,vi 130),(12,vi 130),(13,.tup ([.su 19963 0 128 0 128,vi 0])),(22,vi 130),(23,vi 180),(24,.tup ([.su 19963 0 128 0 128,vi 0])),(25,.su 19963 0 128 0 128),(28,.su 19963 0 128 0 128),(36,vi 130)]),(rg 150 [1,0,0,1,1,0,0,1,1,0] 8),[cd 150 [1,0,0,1,1,0,0,1,1,1],.inBlock 1,cd 150 [1,0,0,1,1,1],il 150 [1,0,0],.inBlock 0],[],false,none,19571⟩,(cat2 [] (drN 0 st35.cs)),
 addL (patL (kilL st35.H [(19768,1)]) []) 19769 (catL [deadL 195]),19964⟩
end Go.Proofs.YtlmpjdionndncaaGreatDoor.RRunsNames
namespace Go.Proofs.YtlmpjdionndncaaGreatDoor.RRunsNames
open Go Go.RowKit Ev
set_option maxRecDepth 1000000 in
theorem part35 : Ev.Reach Tryz.prog st35 st36 :=
 Ev.Reach.segD (Ev.tabF_ok Ev.tab) Ev.runsHook_ok Tryz.checked.mixed (HK := Ev.runsHook) (FT := tabF Tryz.prog) (k := 4508) (bitsT 19769 19964 []) (by kernel_rfl)
end Go.Proofs.YtlmpjdionndncaaGreatDoor.RRunsNames
