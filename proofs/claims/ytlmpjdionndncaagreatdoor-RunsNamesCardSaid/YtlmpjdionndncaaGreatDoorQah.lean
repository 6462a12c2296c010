/-
  Texts of this claim, laid together: Rzs9, Rzp8, Rzs10, Rzp9.
-/
import Derived.Test.YtlmpjdionndncaaGreatDoorQac
import Derived.Test.YtlmpjdionndncaaGreatDoorProg
import Derived.Test.YtlmpjdionndncaaGreatDoorQag

/-
 RunsNames: a state of its run (9).
-/
namespace Go.Proofs.YtlmpjdionndncaaGreatDoor.RRunsNames
open Go Go.RowKit Ev
set_option maxRecDepth 100000
noncomputable def st9 : ASt := ⟨⟨150,37,(patS st8.fr.T [(3,vi 363),(4,.su 7122 0 128 0 128),(10,vi 363),(12,vi 363),(13,.tup ([.su 7122 0 128 0 128,vi 0])),(22,vi 363),(23,vi 413),(24,.tup ([.su 7122 0 128 0 128,vi 0])),(25,.su 7122 0 128 0 128),(28,.su 7122 0 128 0 128),(36,vi 363)]),(rg 150 [1,0,0,1,1,0,0,1,1,0] 8),[cd 150 [1,0,0,1,1,0,0,1,1,1],.inBlock 1,cd 150 [1,0,0,1,1,1],il 150 [1,0,0],.inBlock 0],[],false,none,6031⟩,(cat2 [] (drN 0 st8.cs)),
 addL (patL (kilL st8.H [(6927,1)]) []) 6928 (catL [deadL 195]),7123⟩
end Go.Proofs.YtlmpjdionndncaaGreatDoor.RRunsNames
namespace Go.Proofs.YtlmpjdionndncaaGreatDoor.RRunsNames
open Go Go.RowKit Ev
set_option maxRecDepth 1000000 in
theorem part8 : Ev.Reach Tryz.prog st8 st9 :=
 Ev.Reach.segD (Ev.tabF_ok Ev.tab) Ev.runsHook_ok Tryz.checked.mixed (HK := Ev.runsHook) (FT := tabF Tryz.prog) (k := 4508) (bitsT 6928 7123 []) (by kernel_rfl)
end Go.Proofs.YtlmpjdionndncaaGreatDoor.RRunsNames
/-
 RunsNames: a state of its run (10).
-/
namespace Go.Proofs.YtlmpjdionndncaaGreatDoor.RRunsNames
open Go Go.RowKit Ev
set_option maxRecDepth 100000
noncomputable def st10 : ASt := ⟨⟨32,117,(patS (frC st9 1).T [(44,.tup ([.ptr 6023 0,vi 0]))]),(rg 32 [1,1,1,1,0] 4),[cd 32 [1,1,1,1,1]],[],false,none,17⟩,(cat2 [] (drN 2 st9.cs)),
 addL (patL (kilL st9.H [(6022,1),(6024,7)]) []) 7123 (catL [deadL 108]),7231⟩
end Go.Proofs.YtlmpjdionndncaaGreatDoor.RRunsNames
namespace Go.Proofs.YtlmpjdionndncaaGreatDoor.RRunsNames
open Go Go.RowKit Ev
set_option maxRecDepth 1000000 in
theorem part9 : Ev.Reach Tryz.prog st9 st10 :=
 Ev.Reach.segD (Ev.tabF_ok Ev.tab) Ev.runsHook_ok Tryz.checked.mixed (HK := Ev.runsHook) (FT := tabF Tryz.prog) (k := 2490) (bitsT 7123 7231 []) (by kernel_rfl)
end Go.Proofs.YtlmpjdionndncaaGreatDoor.RRunsNames
