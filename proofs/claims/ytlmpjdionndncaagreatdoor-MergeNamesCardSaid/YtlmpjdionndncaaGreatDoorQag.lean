/-
  Texts of this claim, laid together: Mzs100, Mzs101.
-/
import Derived.Test.YtlmpjdionndncaaGreatDoorQac
import Derived.Test.YtlmpjdionndncaaGreatDoorProg
import Derived.Test.YtlmpjdionndncaaGreatDoorQaf

namespace Go.Proofs.YtlmpjdionndncaaGreatDoor.RMergeNames
open Go Go.RowKit Ev
set_option maxRecDepth 100000
noncomputable def st100 : ASt := ⟨⟨22,45,(patS .e [(0,.ptr 7664 0),(1,.agg ([.v (.string ⟨#[]⟩),vi 21,vi 1,.su 18826 0 1 0 1,vi 468,vi 1])),(2,vi 0),(3,.sl 38530 0 5 5)]),.no,[cd 22 []],[],false,none,38531⟩,(cat2 [⟨5,211,(patS (frC st99 1).T [(168,vb true),(169,vb true),(170,vb true),(171,vb true),(172,vb true),(173,vi 201),(174,vb true),(175,vb true),(176,vb true),(177,vi 260),(178,vb true),(179,vb true),(180,vb true),(181,vi 260),(182,vb true),(183,vb true),(184,vb true),(185,vi 201),(186,vb true),(187,vb true),(188,vb true),(189,.ptr 7664 0),(190,.agg ([.v (.string ⟨#[]⟩),vi 21,vi 1,.su 18826 0 1 0 1,vi 468,vi 1])),(191,vi 0),(192,.sl 38530 0 5 5)]),(rg 5 [1,1,1,1,1,1,1,1,1,1,1,1,1,1,1,1,1,1,1,1,1,0] 25),[.code .ret],[],false,none,0⟩] (drN 2 st99.cs)),
 addL (patL (kilL st99.H [(20837,1),(24806,3),(30811,1),(32427,2),(32430,1),(32442,2),(32448,1),(32492,1),(32727,1),(33227,1),(33687,1),(33706,1),(34481,2),(34551,1),(34811,1),(34861,1),(34946,1),(35207,1),(35257,1),(35307,1),(35552,1),(35602,1),(35703,1),(35950,2),(36208,2),(36697,1),(36734,1),(36756,1),(36760,1),(36764,1),(37037,2),(37289,2),(37707,1),(37958,1),(37960,1),(37962,1),(37966,2),(38271,2),(38518,1)]) []) 38519 (catL [deadL 11,[mn 2 ((uN .i64 5 21491811330))]]),38531⟩
noncomputable def st101 : ASt := ⟨⟨22,45,(patS st100.fr.T [(5,.ptr 38531 0),(8,vb false),(9,.su 39211 0 5 0 5),(10,vi 0),(11,.tup ([.su 39211 0 5 0 5,vi 0])),(12,.ptr 7664 0),(13,.ptr 7643 0),(14,.ptr 38531 1),(15,vi 21),(16,.tup ([.su 39211 0 5 0 5,vi 0])),(17,.su 39211 0 5 0 5),(18,vi 0)]),.no,[cd 22 [1,1]],[],false,none,38531⟩,(cat2 [] (drN 0 st100.cs)),
 addL (patL (kilL st100.H [(19355,2)]) [(15977,ms 240 1 (([.ptr 19666 0,.ptr 19978 0,.ptr 20292 0,.ptr 9698 0,.ptr 23625 0,.ptr 24174 0,.ptr 24600 0,.ptr 38879 0])))]) 38531 (catL [[mn 46 (([.v (.string ⟨#[]⟩),vi 21,vi 1,.su 18826 0 1 0 1,vi 468,vi 1]))],deadL 346,[ms 2 1 ((uN .i64 5 21491811330)),
 mn 239 (([vi 21,vi 0,vi 1,.su 38878 0 5 0 5,vi 0,vb false,vi 0]))],deadL 331,[ms 2 1 ((uN .i64 5 21491811330))]]),39212⟩
end Go.Proofs.YtlmpjdionndncaaGreatDoor.RMergeNames
