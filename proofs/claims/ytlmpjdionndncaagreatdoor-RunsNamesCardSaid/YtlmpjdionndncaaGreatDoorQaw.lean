/-
  Texts of this claim, laid together: Rzs39, Rzp38, Rzs40, Rzp39.
-/
import Derived.Test.YtlmpjdionndncaaGreatDoorQac
import Derived.Test.YtlmpjdionndncaaGreatDoorProg
import Derived.Test.YtlmpjdionndncaaGreatDoorQav

/-
 RunsNames: a state of its run (39).
-/
namespace Go.Proofs.YtlmpjdionndncaaGreatDoor.RRunsNames
open Go Go.RowKit Ev
set_option maxRecDepth 100000
noncomputable def st39 : ASt := ⟨⟨150,37,(patS st38.fr.T [(3,vi 327),(4,.su 20554 0 128 0 128),(10,vi 327),(12,vi 327),(13,.tup ([.su 20554 0 128 0 128,vi 0])),(22,vi 327),(23,vi 377),(24,.tup ([.su 20554 0 128 0 128,vi 0])),(25,.su 20554 0 128 0 128),(28,.su 20551 0 128 0 128),(36,vi 327)]),.no,[cd 150 [1,0,0,1,1,0,0,1,1],.inBlock 1,cd 150 [1,0,0,1,1,1],il 150 [1,0,0],.inBlock 0],[],false,none,19571⟩,(cat2 [] (drN 0 st38.cs)),
 addL (patL (kilL st38.H []) []) 20357 (catL [deadL 197,[.mem 5 (some 1) (lz 128)]]),20555⟩
end Go.Proofs.YtlmpjdionndncaaGreatDoor.RRunsNames
namespace Go.Proofs.YtlmpjdionndncaaGreatDoor.RRunsNames
open Go Go.RowKit Ev
set_option maxRecDepth 1000000 in
theorem part38 : Ev.Reach Tryz.prog st38 st39 :=
 Ev.Reach.segD (Ev.tabF_ok Ev.tab) Ev.runsHook_ok Tryz.checked.mixed (HK := Ev.runsHook) (FT := tabF Tryz.prog) (k := 4531) (bitsT 20357 20555 []) (by kernel_rfl)
end Go.Proofs.YtlmpjdionndncaaGreatDoor.RRunsNames
/-
 RunsNames: a state of its run (40).
-/
namespace Go.Proofs.YtlmpjdionndncaaGreatDoor.RRunsNames
open Go Go.RowKit Ev
set_option maxRecDepth 100000
noncomputable def st40 : ASt := ⟨⟨150,37,(patS st39.fr.T [(3,vi 392),(4,.su 20749 0 128 0 128),(10,vi 392),(12,vi 392),(13,.tup ([.su 20749 0 128 0 128,vi 0])),(22,vi 392),(23,vi 442),(24,.tup ([.su 20749 0 128 0 128,vi 0])),(25,.su 20749 0 128 0 128),(28,.su 20749 0 128 0 128),(36,vi 392)]),(rg 150 [1,0,0,1,1,0,0,1,1,0] 8),[cd 150 [1,0,0,1,1,0,0,1,1,1],.inBlock 1,cd 150 [1,0,0,1,1,1],il 150 [1,0,0],.inBlock 0],[],false,none,19571⟩,(cat2 [] (drN 0 st39.cs)),
 addL (patL (kilL st39.H [(20554,1)]) []) 20555 (catL [deadL 195]),20750⟩
end Go.Proofs.YtlmpjdionndncaaGreatDoor.RRunsNames
namespace Go.Proofs.YtlmpjdionndncaaGreatDoor.RRunsNames
open Go Go.RowKit Ev
set_option maxRecDepth 1000000 in
theorem part39 : Ev.Reach Tryz.prog st39 st40 :=
 Ev.Reach.segD (Ev.tabF_ok Ev.tab) Ev.runsHook_ok Tryz.checked.mixed (HK := Ev.runsHook) (FT := tabF Tryz.prog) (k := 4508) (bitsT 20555 20750 []) (by kernel_rfl)
end Go.Proofs.YtlmpjdionndncaaGreatDoor.RRunsNames
