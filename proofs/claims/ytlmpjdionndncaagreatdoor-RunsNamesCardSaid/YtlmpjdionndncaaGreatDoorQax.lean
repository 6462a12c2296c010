/-
  Texts of this claim, laid together: Rzs41, Rzp40, Rzs42, Rzp41.
-/
import Derived.Test.YtlmpjdionndncaaGreatDoorQac
import Derived.Test.YtlmpjdionndncaaGreatDoorProg
import Derived.Test.YtlmpjdionndncaaGreatDoorQaw

/-
 RunsNames: a state of its run (41).
-/
namespace Go.Proofs.YtlmpjdionndncaaGreatDoor.RRunsNames
open Go Go.RowKit Ev
set_option maxRecDepth 100000
noncomputable def st41 : ASt := ⟨⟨62,81,(patS .e [(0,.ptr 13561 0),(1,vi 50),(2,vi 400),(3,.v (.int .u64 1)),(8,.v (.pointer none)),(9,vi 0),(10,.ptr 20771 0),(11,vb true),(12,vi 161),(13,.su 20933 0 128 0 128),(14,vi 0),(15,.v (.int .u64 0)),(16,.v (.int .u64 0)),(17,.s0),(18,vi 80),(19,vi 400),(20,vb false),(21,vb false),(22,vi 50),(23,vb false),(24,vb false),(25,.ptr 13561 0),(26,vi 50),(27,vi 400),(28,.v (.int .u64 1)),(29,.agg ([.ptr 13561 0,vi 50,vi 400,.v (.int .u64 1),.v (.slice none 0 0)])),(30,.ptr 20771 0),(31,vi 161),(32,vi 400),(33,vb true),(34,vi 160),(35,vi 161),(36,.tup ([.su 20933 0 128 0 128,vi 0])),(37,.ptr 13561 0),(38,vi 50),(39,vi 161),(40,vi 211),(41,.tup ([.su 20933 0 128 0 128,vi 0])),(42,.su 20933 0 128 0 128),(43,vi 0),(44,vi 0),(45,vb false),(47,.tup ([.v (.int .u64 0),.v (.int .u64 0),.s0,vi 80])),(48,.su 20933 0 128 0 128),(49,.tup ([.v (.int .u64 0),.v (.int .u64 0),.s0,vi 80])),(50,.v (.int .u64 0)),(51,.v (.int .u64 0)),(52,.s0),(53,vi 80),(54,vi 80),(55,vb true),(56,vb true),(57,.v (.tuple #[])),(58,.v (.tuple #[])),(59,.v (.tuple #[])),(60,vb true),(61,vb true),(62,.v (.tuple #[])),(63,.v (.tuple #[])),(64,.v (.tuple #[])),(65,.v (.tuple #[])),(66,.v (.tuple #[])),(67,vb true),(68,vb true),(69,vb false)]),(rg 62 [1,1,1,1,0,1,0,0,1,0,0,1,1,1,0,0] 13),[cd 62 [1,1,1,1,0,1,0,0,1,0,0,1,1,1,0,1],cd 62 [1,1,1,1,0,1,0,0,1,0,0,1,1,1,1],.inBlock 1,cd 62 [1,1,1,1,0,1,0,0,1,1],il 62 [1,1,1,1,0,1,0,0],.inBlock 0,cd 62 [1,1,1,1,1]],[],false,none,20771⟩,(cat2 [⟨32,117,(patS (frC st40 1).T [(9,.ptr 19563 0),(10,vi 0),(40,.tup ([.ptr 19563 0,vi 0])),(44,.tup ([.ptr 19563 0,vi 0])),(45,.ptr 19563 0),(46,vi 0),(48,.ptr 13561 0),(49,.ptr 13557 4),(50,vi 400)]),(rg 32 [1,1,1,1,1,0] 3),[cd 32 [1,1,1,1,1,1]],[],false,none,13557⟩] (drN 2 st40.cs)),
 addL (patL (kilL st40.H [(19562,1),(19564,7)]) []) 20750 (catL [deadL 21,[mn 193 (([.ptr 13561 0,vi 50,vi 400,.v (.int .u64 1),.v (.slice none 0 0)]))],deadL 162]),20934⟩
end Go.Proofs.YtlmpjdionndncaaGreatDoor.RRunsNames
namespace Go.Proofs.YtlmpjdionndncaaGreatDoor.RRunsNames
open Go Go.RowKit Ev
set_option maxRecDepth 1000000 in
theorem part40 : Ev.Reach Tryz.prog st40 st41 :=
 Ev.Reach.segD (Ev.tabF_ok Ev.tab) Ev.runsHook_ok Tryz.checked.mixed (HK := Ev.runsHook) (FT := tabF Tryz.prog) (k := 4542) (bitsT 20750 20934 []) (by kernel_rfl)
end Go.Proofs.YtlmpjdionndncaaGreatDoor.RRunsNames
/-
 RunsNames: a state of its run (42).
-/
namespace Go.Proofs.YtlmpjdionndncaaGreatDoor.RRunsNames
open Go Go.RowKit Ev
set_option maxRecDepth 100000
noncomputable def st42 : ASt := ⟨⟨62,81,(patS st41.fr.T [(12,vi 343),(13,.su 21115 0 128 0 128),(31,vi 343),(34,vi 342),(35,vi 343),(36,.tup ([.su 21115 0 128 0 128,vi 0])),(39,vi 343),(40,vi 393),(41,.tup ([.su 21115 0 128 0 128,vi 0])),(42,.su 21115 0 128 0 128),(48,.su 21115 0 128 0 128)]),(rg 62 [1,1,1,1,0,1,0,0,1,0,0,1,1,1,0,0] 13),[cd 62 [1,1,1,1,0,1,0,0,1,0,0,1,1,1,0,1],cd 62 [1,1,1,1,0,1,0,0,1,0,0,1,1,1,1],.inBlock 1,cd 62 [1,1,1,1,0,1,0,0,1,1],il 62 [1,1,1,1,0,1,0,0],.inBlock 0,cd 62 [1,1,1,1,1]],[],false,none,20771⟩,(cat2 [] (drN 0 st41.cs)),
 addL (patL (kilL st41.H []) []) 20934 (catL [deadL 182]),21116⟩
end Go.Proofs.YtlmpjdionndncaaGreatDoor.RRunsNames
namespace Go.Proofs.YtlmpjdionndncaaGreatDoor.RRunsNames
open Go Go.RowKit Ev
set_option maxRecDepth 1000000 in
theorem part41 : Ev.Reach Tryz.prog st41 st42 :=
 Ev.Reach.segD (Ev.tabF_ok Ev.tab) Ev.runsHook_ok Tryz.checked.mixed (HK := Ev.runsHook) (FT := tabF Tryz.prog) (k := 4550) (bitsT 20934 21116 []) (by kernel_rfl)
end Go.Proofs.YtlmpjdionndncaaGreatDoor.RRunsNames
