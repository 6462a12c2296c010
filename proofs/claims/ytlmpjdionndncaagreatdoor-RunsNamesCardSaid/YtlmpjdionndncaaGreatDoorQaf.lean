/-
  Texts of this claim, laid together: Rzs5, Rzp4, Rzs6, Rzp5.
-/
import Derived.Test.YtlmpjdionndncaaGreatDoorQac
import Derived.Test.YtlmpjdionndncaaGreatDoorProg
import Derived.Test.YtlmpjdionndncaaGreatDoorQae

/-
 RunsNames: a state of its run (5).
-/
namespace Go.Proofs.YtlmpjdionndncaaGreatDoor.RRunsNames
open Go Go.RowKit Ev
set_option maxRecDepth 100000
noncomputable def st5 : ASt := ⟨⟨150,37,(patS st4.fr.T [(3,vi 101),(4,.su 6336 0 128 0 128),(10,vi 101),(12,vi 101),(13,.tup ([.su 6336 0 128 0 128,vi 0])),(22,vi 101),(23,vi 151),(24,.tup ([.su 6336 0 128 0 128,vi 0])),(25,.su 6336 0 128 0 128),(28,.su 6336 0 128 0 128),(36,vi 101)]),(rg 150 [1,0,0,1,1,0,0,1,1,0] 8),[cd 150 [1,0,0,1,1,0,0,1,1,1],.inBlock 1,cd 150 [1,0,0,1,1,1],il 150 [1,0,0],.inBlock 0],[],false,none,6031⟩,(cat2 [] (drN 0 st4.cs)),
 addL (patL (kilL st4.H [(6141,1)]) []) 6142 (catL [deadL 195]),6337⟩
end Go.Proofs.YtlmpjdionndncaaGreatDoor.RRunsNames
namespace Go.Proofs.YtlmpjdionndncaaGreatDoor.RRunsNames
open Go Go.RowKit Ev
set_option maxRecDepth 1000000 in
theorem part4 : Ev.Reach Tryz.prog st4 st5 :=
 Ev.Reach.segD (Ev.tabF_ok Ev.tab) Ev.runsHook_ok Tryz.checked.mixed (HK := Ev.runsHook) (FT := tabF Tryz.prog) (k := 4508) (bitsT 6142 6337 []) (by kernel_rfl)
end Go.Proofs.YtlmpjdionndncaaGreatDoor.RRunsNames
/-
 RunsNames: a state of its run (6).
-/
namespace Go.Proofs.YtlmpjdionndncaaGreatDoor.RRunsNames
open Go Go.RowKit Ev
set_option maxRecDepth 100000
noncomputable def st6 : ASt := ⟨⟨150,37,(patS st5.fr.T [(3,vi 167),(4,.su 6534 0 128 0 128),(10,vi 167),(12,vi 167),(13,.tup ([.su 6534 0 128 0 128,vi 0])),(22,vi 167),(23,vi 217),(24,.tup ([.su 6534 0 128 0 128,vi 0])),(25,.su 6534 0 128 0 128),(28,.su 6531 0 128 0 128),(36,vi 167)]),.no,[cd 150 [1,0,0,1,1,0,0,1,1],.inBlock 1,cd 150 [1,0,0,1,1,1],il 150 [1,0,0],.inBlock 0],[],false,none,6031⟩,(cat2 [] (drN 0 st5.cs)),
 addL (patL (kilL st5.H []) []) 6337 (catL [deadL 197,[.mem 5 (some 1) (lz 128)]]),6535⟩
end Go.Proofs.YtlmpjdionndncaaGreatDoor.RRunsNames
namespace Go.Proofs.YtlmpjdionndncaaGreatDoor.RRunsNames
open Go Go.RowKit Ev
set_option maxRecDepth 1000000 in
theorem part5 : Ev.Reach Tryz.prog st5 st6 :=
 Ev.Reach.segD (Ev.tabF_ok Ev.tab) Ev.runsHook_ok Tryz.checked.mixed (HK := Ev.runsHook) (FT := tabF Tryz.prog) (k := 4531) (bitsT 6337 6535 []) (by kernel_rfl)
end Go.Proofs.YtlmpjdionndncaaGreatDoor.RRunsNames
