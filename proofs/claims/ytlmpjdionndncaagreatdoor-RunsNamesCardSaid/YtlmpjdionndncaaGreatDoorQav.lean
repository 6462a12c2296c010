/-
  Texts of this claim, laid together: Rzs37, Rzp36, Rzs38, Rzp37.
-/
import Derived.Test.YtlmpjdionndncaaGreatDoorQac
import Derived.Test.YtlmpjdionndncaaGreatDoorProg
import Derived.Test.YtlmpjdionndncaaGreatDoorQau

/-
 RunsNames: a state of its run (37).
-/
namespace Go.Proofs.YtlmpjdionndncaaGreatDoor.RRunsNames
open Go Go.RowKit Ev
set_option maxRecDepth 100000
noncomputable def st37 : ASt := ⟨⟨150,37,(patS st36.fr.T [(3,vi 196),(4,.su 20161 0 128 0 128),(10,vi 196),(12,vi 196),(13,.tup ([.su 20161 0 128 0 128,vi 0])),(22,vi 196),(23,vi 246),(24,.tup ([.su 20161 0 128 0 128,vi 0])),(25,.su 20161 0 128 0 128),(28,.su 20158 0 128 0 128),(36,vi 196)]),.no,[cd 150 [1,0,0,1,1,0,0,1,1],.inBlock 1,cd 150 [1,0,0,1,1,1],il 150 [1,0,0],.inBlock 0],[],false,none,19571⟩,(cat2 [] (drN 0 st36.cs)),
 addL (patL (kilL st36.H []) []) 19964 (catL [deadL 197,[.mem 5 (some 1) (lz 128)]]),20162⟩
end Go.Proofs.YtlmpjdionndncaaGreatDoor.RRunsNames
namespace Go.Proofs.YtlmpjdionndncaaGreatDoor.RRunsNames
open Go Go.RowKit Ev
set_option maxRecDepth 1000000 in
theorem part36 : Ev.Reach Tryz.prog st36 st37 :=
 Ev.Reach.segD (Ev.tabF_ok Ev.tab) Ev.runsHook_ok Tryz.checked.mixed (HK := Ev.runsHook) (FT := tabF Tryz.prog) (k := 4531) (bitsT 19964 20162 []) (by kernel_rfl)
end Go.Proofs.YtlmpjdionndncaaGreatDoor.RRunsNames
/-
 RunsNames: a state of its run (38).
-/
namespace Go.Proofs.YtlmpjdionndncaaGreatDoor.RRunsNames
open Go Go.RowKit Ev
set_option maxRecDepth 100000
noncomputable def st38 : ASt := ⟨⟨150,37,(patS st37.fr.T [(3,vi 261),(4,.su 20356 0 128 0 128),(10,vi 261),(12,vi 261),(13,.tup ([.su 20356 0 128 0 128,vi 0])),(22,vi 261),(23,vi 311),(24,.tup ([.su 20356 0 128 0 128,vi 0])),(25,.su 20356 0 128 0 128),(28,.su 20356 0 128 0 128),(36,vi 261)]),(rg 150 [1,0,0,1,1,0,0,1,1,0] 8),[cd 150 [1,0,0,1,1,0,0,1,1,1],.inBlock 1,cd 150 [1,0,0,1,1,1],il 150 [1,0,0],.inBlock 0],[],false,none,19571⟩,(cat2 [] (drN 0 st37.cs)),
 addL (patL (kilL st37.H [(20161,1)]) []) 20162 (catL [deadL 195]),20357⟩
end Go.Proofs.YtlmpjdionndncaaGreatDoor.RRunsNames
namespace Go.Proofs.YtlmpjdionndncaaGreatDoor.RRunsNames
open Go Go.RowKit Ev
set_option maxRecDepth 1000000 in
theorem part37 : Ev.Reach Tryz.prog st37 st38 :=
 Ev.Reach.segD (Ev.tabF_ok Ev.tab) Ev.runsHook_ok Tryz.checked.mixed (HK := Ev.runsHook) (FT := tabF Tryz.prog) (k := 4508) (bitsT 20162 20357 []) (by kernel_rfl)
end Go.Proofs.YtlmpjdionndncaaGreatDoor.RRunsNames
