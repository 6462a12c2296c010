/-
  Texts of this claim, laid together: Rzs11, Rzp10, Rzs12, Rzp11.
-/
import Derived.Test.YtlmpjdionndncaaGreatDoorQac
import Derived.Test.YtlmpjdionndncaaGreatDoorProg
import Derived.Test.YtlmpjdionndncaaGreatDoorQah

/-
 RunsNames: a state of its run (11).
-/
namespace Go.Proofs.YtlmpjdionndncaaGreatDoor.RRunsNames
open Go Go.RowKit Ev
set_option maxRecDepth 100000
noncomputable def st11 : ASt := ⟨⟨62,81,(patS .e [(0,.ptr 21 0),(1,vi 50),(2,vi 400),(3,.v (.int .u64 1)),(8,.v (.pointer none)),(9,vi 0),(10,.ptr 7231 0),(11,vb true),(12,vi 181),(13,.su 7413 0 128 0 128),(14,vi 0),(15,.v (.int .u64 0)),(16,.v (.int .u64 0)),(17,.s0),(18,vi 80),(19,vi 400),(20,vb false),(21,vb false),(22,vi 50),(23,vb false),(24,vb false),(25,.ptr 21 0),(26,vi 50),(27,vi 400),(28,.v (.int .u64 1)),(29,.agg ([.ptr 21 0,vi 50,vi 400,.v (.int .u64 1),.v (.slice none 0 0)])),(30,.ptr 7231 0),(31,vi 181),(32,vi 400),(33,vb true),(34,vi 180),(35,vi 181),(36,.tup ([.su 7413 0 128 0 128,vi 0])),(37,.ptr 21 0),(38,vi 50),(39,vi 181),(40,vi 231),(41,.tup ([.su 7413 0 128 0 128,vi 0])),(42,.su 7413 0 128 0 128),(43,vi 0),(44,vi 0),(45,vb false),(47,.tup ([.v (.int .u64 0),.v (.int .u64 0),.s0,vi 80])),(48,.su 7413 0 128 0 128),(49,.tup ([.v (.int .u64 0),.v (.int .u64 0),.s0,vi 80])),(50,.v (.int .u64 0)),(51,.v (.int .u64 0)),(52,.s0),(53,vi 80),(54,vi 80),(55,vb true),(56,vb true),(57,.v (.tuple #[])),(58,.v (.tuple #[])),(59,.v (.tuple #[])),(60,vb true),(61,vb true),(62,.v (.tuple #[])),(63,.v (.tuple #[])),(64,.v (.tuple #[])),(65,.v (.tuple #[])),(66,.v (.tuple #[])),(67,vb true),(68,vb true),(69,vb false)]),(rg 62 [1,1,1,1,0,1,0,0,1,0,0,1,1,1,0,0] 10),[cd 62 [1,1,1,1,0,1,0,0,1,0,0,1,1,1,0,1],cd 62 [1,1,1,1,0,1,0,0,1,0,0,1,1,1,1],.inBlock 1,cd 62 [1,1,1,1,0,1,0,0,1,1],il 62 [1,1,1,1,0,1,0,0],.inBlock 0,cd 62 [1,1,1,1,1]],[],false,none,7231⟩,(cat2 [⟨32,117,(patS st10.fr.T [(9,.ptr 6023 0),(10,vi 0),(40,.tup ([.ptr 6023 0,vi 0])),(45,.ptr 6023 0),(46,vi 0),(48,.ptr 21 0),(49,.ptr 17 4),(50,vi 400)]),(rg 32 [1,1,1,1,1,0] 3),[cd 32 [1,1,1,1,1,1]],[],false,none,17⟩] (drN 0 st10.cs)),
 addL (patL (kilL st10.H []) []) 7231 (catL [[mn 193 (([.ptr 21 0,vi 50,vi 400,.v (.int .u64 1),.v (.slice none 0 0)]))],deadL 182]),7414⟩
end Go.Proofs.YtlmpjdionndncaaGreatDoor.RRunsNames
namespace Go.Proofs.YtlmpjdionndncaaGreatDoor.RRunsNames
open Go Go.RowKit Ev
set_option maxRecDepth 1000000 in
theorem part10 : Ev.Reach Tryz.prog st10 st11 :=
 Ev.Reach.segD (Ev.tabF_ok Ev.tab) Ev.runsHook_ok Tryz.checked.mixed (HK := Ev.runsHook) (FT := tabF Tryz.prog) (k := 4550) (bitsT 7231 7414 []) (by kernel_rfl)
end Go.Proofs.YtlmpjdionndncaaGreatDoor.RRunsNames
/-
 RunsNames: a state of its run (12).
-/
namespace Go.Proofs.YtlmpjdionndncaaGreatDoor.RRunsNames
open Go Go.RowKit Ev
set_option maxRecDepth 100000
noncomputable def st12 : ASt := ⟨⟨62,81,(patS st11.fr.T [(12,vi 363),(13,.su 7595 0 128 0 128),(31,vi 363),(34,vi 362),(35,vi 363),(36,.tup ([.su 7595 0 128 0 128,vi 0])),(39,vi 363),(40,vi 413),(41,.tup ([.su 7595 0 128 0 128,vi 0])),(42,.su 7595 0 128 0 128),(48,.su 7595 0 128 0 128)]),(rg 62 [1,1,1,1,0,1,0,0,1,0,0,1,1,1,0,0] 10),[cd 62 [1,1,1,1,0,1,0,0,1,0,0,1,1,1,0,1],cd 62 [1,1,1,1,0,1,0,0,1,0,0,1,1,1,1],.inBlock 1,cd 62 [1,1,1,1,0,1,0,0,1,1],il 62 [1,1,1,1,0,1,0,0],.inBlock 0,cd 62 [1,1,1,1,1]],[],false,none,7231⟩,(cat2 [] (drN 0 st11.cs)),
 addL (patL (kilL st11.H []) []) 7414 (catL [deadL 182]),7596⟩
end Go.Proofs.YtlmpjdionndncaaGreatDoor.RRunsNames
namespace Go.Proofs.YtlmpjdionndncaaGreatDoor.RRunsNames
open Go Go.RowKit Ev
set_option maxRecDepth 1000000 in
theorem part11 : Ev.Reach Tryz.prog st11 st12 :=
 Ev.Reach.segD (Ev.tabF_ok Ev.tab) Ev.runsHook_ok Tryz.checked.mixed (HK := Ev.runsHook) (FT := tabF Tryz.prog) (k := 4550) (bitsT 7414 7596 []) (by kernel_rfl)
end Go.Proofs.YtlmpjdionndncaaGreatDoor.RRunsNames
