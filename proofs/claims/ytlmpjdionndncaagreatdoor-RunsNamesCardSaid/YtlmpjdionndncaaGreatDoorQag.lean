/-
  Texts of this claim, laid together: Rzs7, Rzp6, Rzs8, Rzp7.
-/
import Derived.Test.YtlmpjdionndncaaGreatDoorQac
import Derived.Test.YtlmpjdionndncaaGreatDoorProg
import Derived.Test.YtlmpjdionndncaaGreatDoorQaf

/-
 RunsNames: a state of its run (7).
-/
namespace Go.Proofs.YtlmpjdionndncaaGreatDoor.RRunsNames
open Go Go.RowKit Ev
set_option maxRecDepth 100000
noncomputable def st7 : ASt := ⟨⟨150,37,(patS st6.fr.T [(3,vi 232),(4,.su 6729 0 128 0 128),(10,vi 232),(12,vi 232),(13,.tup ([.su 6729 0 128 0 128,vi 0])),(22,vi 232),(23,vi 282),(24,.tup ([.su 6729 0 128 0 128,vi 0])),(25,.su 6729 0 128 0 128),(28,.su 6729 0 128 0 128),(36,vi 232)]),(rg 150 [1,0,0,1,1,0,0,1,1,0] 8),[cd 150 [1,0,0,1,1,0,0,1,1,1],.inBlock 1,cd 150 [1,0,0,1,1,1],il 150 [1,0,0],.inBlock 0],[],false,none,6031⟩,(cat2 [] (drN 0 st6.cs)),
 addL (patL (kilL st6.H [(6534,1)]) []) 6535 (catL [deadL 195]),6730⟩
end Go.Proofs.YtlmpjdionndncaaGreatDoor.RRunsNames
namespace Go.Proofs.YtlmpjdionndncaaGreatDoor.RRunsNames
open Go Go.RowKit Ev
set_option maxRecDepth 1000000 in
theorem part6 : Ev.Reach Tryz.prog st6 st7 :=
 Ev.Reach.segD (Ev.tabF_ok Ev.tab) Ev.runsHook_ok Tryz.checked.mixed (HK := Ev.runsHook) (FT := tabF Tryz.prog) (k := 4508) (bitsT 6535 6730 []) (by kernel_rfl)
end Go.Proofs.YtlmpjdionndncaaGreatDoor.RRunsNames
/-
 RunsNames: a state of its run (8).
-/
namespace Go.Proofs.YtlmpjdionndncaaGreatDoor.RRunsNames
open Go Go.RowKit Ev
set_option maxRecDepth 100000
noncomputable def st8 : ASt := ⟨⟨150,37,(patS st7.fr.T [(3,vi 298),(4,.su 6927 0 128 0 128),(10,vi 298),(12,vi 298),(13,.tup ([.su 6927 0 128 0 128,vi 0])),(22,vi 298),(23,vi 348),(24,.tup ([.su 6927 0 128 0 128,vi 0])),(25,.su 6927 0 128 0 128),(28,.su 6924 0 128 0 128),(36,vi 298)]),.no,[cd 150 [1,0,0,1,1,0,0,1,1],.inBlock 1,cd 150 [1,0,0,1,1,1],il 150 [1,0,0],.inBlock 0],[],false,none,6031⟩,(cat2 [] (drN 0 st7.cs)),
 addL (patL (kilL st7.H []) []) 6730 (catL [deadL 197,[.mem 5 (some 1) (lz 128)]]),6928⟩
end Go.Proofs.YtlmpjdionndncaaGreatDoor.RRunsNames
namespace Go.Proofs.YtlmpjdionndncaaGreatDoor.RRunsNames
open Go Go.RowKit Ev
set_option maxRecDepth 1000000 in
theorem part7 : Ev.Reach Tryz.prog st7 st8 :=
 Ev.Reach.segD (Ev.tabF_ok Ev.tab) Ev.runsHook_ok Tryz.checked.mixed (HK := Ev.runsHook) (FT := tabF Tryz.prog) (k := 4531) (bitsT 6730 6928 []) (by kernel_rfl)
end Go.Proofs.YtlmpjdionndncaaGreatDoor.RRunsNames
