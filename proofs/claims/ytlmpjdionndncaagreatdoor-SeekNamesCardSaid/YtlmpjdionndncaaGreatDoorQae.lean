/-
  Texts of this claim, laid together: Kzs5601, Kzs5602, Kzs5603, Kzs5604, Kzs5605, Kzs5606, Kzs5607, Kzs5608, Kzs5609, Kzs5610, Kzs5611, Kzs57, Kzs58, Kzs59, Kzs60, Kzs61, Kzs62, Kzs63, Kzs64, Kzs65, Kzs66, Kzs67, Kzs68, Kzs69, Kzs70, Kzs71, Kzs72, Kzs73, Kzs74, Kzs75, Kzs76, Kzs77, Kzs78, Kzs79, Kzs80, Kzs81, Kzs82, Kzs83, Kzs84, Kzs85.
-/
import Derived.Test.YtlmpjdionndncaaGreatDoorQac
import Derived.Test.YtlmpjdionndncaaGreatDoorProg
import Derived.Test.YtlmpjdionndncaaGreatDoorQad

/-
 SeekNames: a state of its run (5601).
-/
namespace Go.Proofs.YtlmpjdionndncaaGreatDoor.RSeekNames
open Go Go.RowKit Ev
set_option maxRecDepth 100000
noncomputable def st5601 : ASt := ⟨⟨214,85,(patS .e [(0,.su 20326 0 128 0 128),(2,.ptr 20327 0),(3,vi 0),(18,.su 20326 0 128 0 128),(19,vb true)]),(rg 214 [1,0,0,0] 2),[cd 214 [1,0,0,1],cd 214 [1,0,1],.inScope (subC (bodyF Tryz.prog 214) [1,0])],[],false,none,20327⟩,(cat2 [⟨140,97,(patS .e [(0,.ptr 7646 0),(1,vi 7),(2,vi 0),(6,.ptr 20299 0),(7,vi 0),(8,.ptr 20322 0),(9,vi 3),(10,.su 20326 0 128 0 128),(11,vi 0),(12,.su 20325 0 128 0 128),(13,vi 0),(16,.tup ([.agg ([.v (.string ⟨#[]⟩),vi 7,vi 1,.su 20314 0 1 0 1,vi 455,vi 1]),vi 3])),(17,.ptr 7646 0),(18,vi 7),(19,vi 0),(20,.tup ([.agg ([.v (.string ⟨#[]⟩),vi 7,vi 1,.su 20314 0 1 0 1,vi 455,vi 1]),vi 3])),(21,.agg ([.v (.string ⟨#[]⟩),vi 7,vi 1,.su 20314 0 1 0 1,vi 455,vi 1])),(22,vi 3),(23,vi 3),(24,vb false),(26,.ptr 7646 0),(27,.ptr 7646 0),(28,.ptr 7646 1),(29,.ptr 7646 2),(30,vi 1),(31,vi 1),(32,vb false),(33,vi 0),(34,.tup ([.su 20325 0 128 0 128,vi 0])),(35,.ptr 7646 0),(36,.ptr 7646 0),(37,.ptr 7646 0),(38,.ptr 27 0),(39,.ptr 20322 4),(40,vi 455),(41,vi 0),(42,.ptr 7646 0),(43,.ptr 7646 0),(44,.ptr 7646 1),(45,.ptr 7646 2),(46,vi 1),(47,vi 0),(48,vi 455),(49,vi 0),(50,vi 455),(51,.tup ([.su 20325 0 128 0 128,vi 0])),(52,.su 20325 0 128 0 128),(53,vi 0),(54,vi 0),(55,vb false),(58,.v (.slice none 0 0)),(59,.su 20325 0 128 0 128),(60,.su 20326 0 128 0 128),(61,vi 1),(63,.su 20326 0 128 0 128)]),(rg 140 [1,1,1,1,1,0] 1),[cd 140 [1,1,1,1,1,1]],[],false,none,20299⟩,
 ⟨373,28,(patS .e [(0,.agg ([.ptr 7646 0])),(1,.agg ([vi 7,vi 0])),(2,.ptr 20296 0),(3,.ptr 20297 0),(4,.ptr 20298 0),(5,vi 0),(9,.ptr 20296 0),(10,.ptr 7646 0),(11,.ptr 20297 0),(12,vi 7),(13,.ptr 20297 1),(14,vi 0)]),(rg 373 [1,0] 6),[cd 373 [1,1]],[],false,none,20296⟩,
 ⟨80,61,(patS .e [(0,.ptr 7647 0),(1,.agg ([vi 7,vi 0])),(3,.ptr 20281 0),(4,vi 0),(5,vi (-1)),(6,vi 0),(7,.ptr 20295 0),(10,.ptr 7647 0),(11,vb false),(12,.ptr 7647 0),(13,.agg ([vi 7,vi 0])),(14,vi (-1)),(15,vi (-1)),(16,vb false),(26,.ptr 7647 0),(27,vi 0),(28,vi 0),(29,vb false),(32,.ptr 7647 0),(33,.ptr 7647 0),(34,.ptr 7647 1),(35,.ifc 202 (.agg ([.ptr 7646 0]))),(36,.agg ([vi 7,vi 0]))]),(drC (subC (bodyF Tryz.prog 80) [1,1,1,1,0]) 543 (patS .e [(0,.ptr 7647 0),(1,.ptr 7647 0),(2,.ptr 7647 1),(3,.ifc 202 (.agg ([.ptr 7646 0]))),(4,.agg ([vi 7,vi 0])),(9,.ptr 20295 0)]) (patS .e [(0,.ptr 7647 0),(1,.agg ([vi 7,vi 0])),(3,.ptr 20281 0),(4,vi 0),(5,vi (-1)),(6,vi 0),(10,.ptr 7647 0),(11,vb false),(12,.ptr 7647 0),(13,.agg ([vi 7,vi 0])),(14,vi (-1)),(15,vi (-1)),(16,vb false),(26,.ptr 7647 0),(27,vi 0),(28,vi 0),(29,vb false)]) [] (some 5)),[cd 80 [1,1,1,1,1]],[],false,none,20281⟩,
 ⟨43,71,(patS .e [(0,.ptr 7646 0),(1,vi 7),(2,vi 0),(6,vi 0),(7,vi 0),(8,.ptr 20279 0),(9,vb true),(10,.ptr 20280 0),(14,.ptr 7646 0),(15,vb false),(16,.tup ([.agg ([.v (.string ⟨#[]⟩),vi 7,vi 1,.su 20278 0 1 0 1,vi 455,vi 1]),vb true])),(17,.ptr 7646 0),(18,vi 7),(19,.tup ([.agg ([.v (.string ⟨#[]⟩),vi 7,vi 1,.su 20278 0 1 0 1,vi 455,vi 1]),vb true])),(20,.agg ([.v (.string ⟨#[]⟩),vi 7,vi 1,.su 20278 0 1 0 1,vi 455,vi 1])),(21,vb true),(22,vb true),(23,vb false),(24,vb false),(25,vi 0),(26,vb false),(27,vb false),(28,vb false),(29,vi 0),(30,.ptr 20279 3),(31,.su 20278 0 1 0 1),(32,vi 3),(33,vb false),(34,vb false),(35,vi 7),(36,vi 0),(37,.ptr 7646 0),(38,vi 13),(39,vi 0),(40,.agg ([vi 7,vi 0])),(41,.ptr 7646 0),(42,.ptr 7646 0),(43,.ptr 7646 10),(44,.ptr 7647 0),(45,.agg ([vi 7,vi 0]))]),(drC (subC (bodyF Tryz.prog 43) [1,1,1,1,1,0,0]) 31 (patS .e [(0,.ptr 7646 0),(1,.ptr 7646 0),(2,.ptr 7646 10),(3,.ptr 7647 0),(4,.agg ([vi 7,vi 0]))]) (patS .e [(0,.ptr 7646 0),(1,vi 7),(2,vi 0),(6,vi 0),(7,vi 0),(8,.ptr 20279 0),(9,vb true),(10,.ptr 20280 0),(14,.ptr 7646 0),(15,vb false),(16,.tup ([.agg ([.v (.string ⟨#[]⟩),vi 7,vi 1,.su 20278 0 1 0 1,vi 455,vi 1]),vb true])),(17,.ptr 7646 0),(18,vi 7),(19,.tup ([.agg ([.v (.string ⟨#[]⟩),vi 7,vi 1,.su 20278 0 1 0 1,vi 455,vi 1]),vb true])),(20,.agg ([.v (.string ⟨#[]⟩),vi 7,vi 1,.su 20278 0 1 0 1,vi 455,vi 1])),(21,vb true),(22,vb true),(23,vb false),(24,vb false),(25,vi 0),(26,vb false),(27,vb false),(28,vb false),(29,vi 0),(30,.ptr 20279 3),(31,.su 20278 0 1 0 1),(32,vi 3),(33,vb false),(34,vb false),(35,vi 7),(36,vi 0),(37,.ptr 7646 0),(38,vi 13),(39,vi 0),(40,.agg ([vi 7,vi 0]))]) [] (some 5)),[cd 43 [1,1,1,1,1,0,1],cd 43 [1,1,1,1,1,1]],[],false,none,20266⟩,
 ⟨36,44,(patS .e [(0,.ptr 7646 0),(1,vi 7),(4,.v (.slice none 0 0)),(5,vi 0),(6,.ptr 20265 0),(7,vb true),(8,.v (.slice none 0 0)),(9,vi 0),(12,.ptr 7646 0),(13,vb false),(14,.tup ([.agg ([.v (.string ⟨#[]⟩),vi 7,vi 1,.su 20264 0 1 0 1,vi 455,vi 1]),vb true])),(15,.ptr 7646 0),(16,vi 7),(17,.tup ([.agg ([.v (.string ⟨#[]⟩),vi 7,vi 1,.su 20264 0 1 0 1,vi 455,vi 1]),vb true])),(18,.agg ([.v (.string ⟨#[]⟩),vi 7,vi 1,.su 20264 0 1 0 1,vi 455,vi 1])),(19,vb true),(20,vb true),(21,vb false),(22,.ptr 20265 3),(23,.su 20264 0 1 0 1),(24,vi 3),(25,vi 0),(26,vb true),(27,vi 0),(29,.ptr 7646 0),(30,vi 7),(31,vi 0)]),(rg 36 [1,1,1,1,1,0,1,0,0,1,1,0,0,1,0] 3),[cd 36 [1,1,1,1,1,0,1,0,0,1,1,0,0,1,1],.inBlock 1,cd 36 [1,1,1,1,1,0,1,0,0,1,1,1],il 36 [1,1,1,1,1,0,1,0,0],.inBlock 0,cd 36 [1,1,1,1,1,1]],[],false,none,20252⟩,
 ⟨29,35,(patS .e [(0,.ptr 7667 0),(1,.agg ([.v (.string ⟨#[]⟩),vi 7,vi 1,.su 10562 0 1 0 1,vi 455,vi 1])),(2,vi 0),(3,.agg ([vi 1,.sl 20247 0 1 1,.su 20249 0 3 0 3])),(5,.ptr 20250 0),(7,.ptr 20251 0),(8,vb false),(12,.ptr 7667 0),(13,.ptr 7646 0),(14,.ptr 20250 1),(15,vi 7)]),(drC (subC (bodyF Tryz.prog 29) [1,0]) 15 (patS .e [(0,.ptr 7667 0),(1,.ptr 7646 0),(2,.ptr 20250 1),(3,vi 7)]) (patS .e [(0,.ptr 7667 0),(1,.agg ([.v (.string ⟨#[]⟩),vi 7,vi 1,.su 10562 0 1 0 1,vi 455,vi 1])),(2,vi 0),(3,.agg ([vi 1,.sl 20247 0 1 1,.su 20249 0 3 0 3])),(5,.ptr 20250 0),(7,.ptr 20251 0),(8,vb false)]) [] (some 4)),[cd 29 [1,1]],[],false,none,20250⟩,
 ⟨6,272,(patS st56.fr.T [(27,vi 0),(28,vi 0),(29,vi 0),(30,vi 201),(31,vi 0),(32,vi 0),(33,.v (.pointer none)),(34,.ptr 20229 0),(35,vi 1),(36,.ptr 20240 0),(37,vi 1),(38,vi 0),(39,vi 1),(120,.tup ([vi 0,vi 0])),(125,vi 0),(126,vi 0),(127,.tup ([vi 0,vi 201])),(128,.ptr 7667 0),(129,.tup ([vi 0,vi 201])),(130,vi 0),(131,vi 201),(132,.tup ([vi 0,vi 0])),(133,.ptr 7667 0),(134,.tup ([vi 0,vi 0])),(135,vi 0),(136,vi 0),(137,.tup ([.agg ([.v (.string ⟨#[]⟩),vi 0,vi 0,.v (.slice none 0 0),vi 0,vi 0]),vi 1])),(138,.v (.pointer none)),(139,.agg ([vi 0,vi 0,vi 1,vb true])),(140,.tup ([.agg ([.v (.string ⟨#[]⟩),vi 0,vi 0,.v (.slice none 0 0),vi 0,vi 0]),vi 1])),(141,.agg ([.v (.string ⟨#[]⟩),vi 0,vi 0,.v (.slice none 0 0),vi 0,vi 0])),(142,vi 1),(143,.tup ([.agg ([.v (.string ⟨#[]⟩),vi 0,vi 0,.v (.slice none 0 0),vi 0,vi 0]),vi 1])),(144,.v (.pointer none)),(145,.agg ([vi 0,vi 0,vi 1,vb true])),(146,.tup ([.agg ([.v (.string ⟨#[]⟩),vi 0,vi 0,.v (.slice none 0 0),vi 0,vi 0]),vi 1])),(147,.agg ([.v (.string ⟨#[]⟩),vi 0,vi 0,.v (.slice none 0 0),vi 0,vi 0])),(148,vi 1),(149,.tup ([vi 0,vi 1])),(150,.v (.pointer none)),(151,.tup ([vi 0,vi 1])),(152,vi 0),(153,vi 1),(154,vi 3),(155,vb true),(156,vb true),(157,.ptr 7667 0),(158,.agg ([.v (.string ⟨#[]⟩),vi 7,vi 1,.su 10562 0 1 0 1,vi 455,vi 1])),(159,vi 0),(160,.sl 20245 0 3 3),(161,.agg ([vi 1,.sl 20247 0 1 1,.su 20249 0 3 0 3]))]),(drC (subC (bodyF Tryz.prog 6) [1,1,1,1,1,1,1,1,1,1,1,1,1,1,1,1,1,1,1,1,1,1,1,0]) 255 (patS .e [(0,vi 3),(1,vb true),(2,vb true),(3,.ptr 7667 0),(4,.agg ([.v (.string ⟨#[]⟩),vi 7,vi 1,.su 10562 0 1 0 1,vi 455,vi 1])),(5,vi 0),(6,.sl 20245 0 3 3),(7,.agg ([vi 1,.sl 20247 0 1 1,.su 20249 0 3 0 3]))]) (patS .e [(0,vb false),(1,.ptr 7667 0),(2,.ptr 9844 0),(3,vi 3),(4,.ptr 11995 0),(5,vi 0),(6,.ptr 15034 0),(7,vi 0),(8,.ptr 17190 0),(9,vi 0),(10,vi 8),(11,.ptr 17563 0),(12,vi 0),(13,.ptr 18111 0),(14,vi 0),(15,.ptr 18148 0),(16,vi 201),(17,.ptr 18158 0),(18,vi 260),(19,.ptr 18168 0),(20,vi 260),(21,.ptr 18815 0),(22,vi 0),(23,vi 1),(24,vi 0),(25,vi 0),(26,vi 0),(27,vi 0),(28,vi 0),(29,vi 0),(30,vi 201),(31,vi 0),(32,vi 0),(33,.v (.pointer none)),(34,.ptr 20229 0),(35,vi 1),(36,.ptr 20240 0),(37,vi 1),(38,vi 0),(39,vi 1),(41,.ptr 7667 0),(42,.ptr 7667 0),(43,vb false),(44,.tup ([.agg ([.v (.string ⟨#[]⟩),vi 0,vi 0,.v (.slice none 0 0),vi 0,vi 0]),vi 3])),(45,.ptr 7667 0),(46,.agg ([vi 2,vi 2,vi 3,vb true])),(47,.tup ([.agg ([.v (.string ⟨#[]⟩),vi 0,vi 0,.v (.slice none 0 0),vi 0,vi 0]),vi 3])),(48,.agg ([.v (.string ⟨#[]⟩),vi 0,vi 0,.v (.slice none 0 0),vi 0,vi 0])),(49,vi 3),(50,.tup ([.agg ([.v (.string ⟨#[]⟩),vi 7,vi 1,.su 10562 0 1 0 1,vi 455,vi 1]),vi 0])),(51,.ptr 7667 0),(52,.agg ([vi 2,vi 2,vi 3,vb true])),(53,.tup ([.agg ([.v (.string ⟨#[]⟩),vi 7,vi 1,.su 10562 0 1 0 1,vi 455,vi 1]),vi 0])),(54,.agg ([.v (.string ⟨#[]⟩),vi 7,vi 1,.su 10562 0 1 0 1,vi 455,vi 1])),(55,vi 0),(56,.tup ([.agg ([.v (.string ⟨#[]⟩),vi 11,vi 1,.su 13940 0 1 0 1,vi 459,vi 1]),vi 0])),(57,.ptr 7667 0),(58,.agg ([vi 2,vi 2,vi 3,vb true])),(59,.tup ([.agg ([.v (.string ⟨#[]⟩),vi 11,vi 1,.su 13940 0 1 0 1,vi 459,vi 1]),vi 0])),(60,.agg ([.v (.string ⟨#[]⟩),vi 11,vi 1,.su 13940 0 1 0 1,vi 459,vi 1])),(61,vi 0),(62,.tup ([.agg ([.v (.string ⟨#[]⟩),vi 13,vi 1,.su 15867 0 1 0 1,vi 461,vi 1]),vi 0])),(63,.ptr 7667 0),(64,.agg ([vi 2,vi 2,vi 3,vb true])),(65,.tup ([.agg ([.v (.string ⟨#[]⟩),vi 13,vi 1,.su 15867 0 1 0 1,vi 461,vi 1]),vi 0])),(66,.agg ([.v (.string ⟨#[]⟩),vi 13,vi 1,.su 15867 0 1 0 1,vi 461,vi 1])),(67,vi 0),(68,.ptr 7667 0),(69,vi 8),(70,.tup ([.agg ([.v (.string ⟨#[]⟩),vi 14,vi 1,.su 17269 0 1 0 1,vi 462,vi 1]),vi 0])),(71,.ptr 7667 0),(72,.agg ([vi 2,vi 2,vi 3,vb true])),(73,.tup ([.agg ([.v (.string ⟨#[]⟩),vi 14,vi 1,.su 17269 0 1 0 1,vi 462,vi 1]),vi 0])),(74,.agg ([.v (.string ⟨#[]⟩),vi 14,vi 1,.su 17269 0 1 0 1,vi 462,vi 1])),(75,vi 0),(76,.tup ([.agg ([.v (.string ⟨#[]⟩),vi 16,vi 1,.su 17693 0 2 0 2,vi 463,vi 1]),vi 0])),(77,.ptr 7667 0),(78,.agg ([vi 2,vi 2,vi 3,vb true])),(79,.tup ([.agg ([.v (.string ⟨#[]⟩),vi 16,vi 1,.su 17693 0 2 0 2,vi 463,vi 1]),vi 0])),(80,.agg ([.v (.string ⟨#[]⟩),vi 16,vi 1,.su 17693 0 2 0 2,vi 463,vi 1])),(81,vi 0),(82,.tup ([.agg ([.v (.string ⟨#[]⟩),vi 0,vi 0,.v (.slice none 0 0),vi 0,vi 0]),vi 201])),(83,.ptr 7667 0),(84,.agg ([vi 2,vi 2,vi 3,vb true])),(85,.tup ([.agg ([.v (.string ⟨#[]⟩),vi 0,vi 0,.v (.slice none 0 0),vi 0,vi 0]),vi 201])),(86,.agg ([.v (.string ⟨#[]⟩),vi 0,vi 0,.v (.slice none 0 0),vi 0,vi 0])),(87,vi 201),(88,.tup ([.agg ([.v (.string ⟨#[]⟩),vi 0,vi 0,.v (.slice none 0 0),vi 0,vi 0]),vi 260])),(89,.ptr 7667 0),(90,.agg ([vi 0,vi 2,vi 3,vb true])),(91,.tup ([.agg ([.v (.string ⟨#[]⟩),vi 0,vi 0,.v (.slice none 0 0),vi 0,vi 0]),vi 260])),(92,.agg ([.v (.string ⟨#[]⟩),vi 0,vi 0,.v (.slice none 0 0),vi 0,vi 0])),(93,vi 260),(94,.tup ([.agg ([.v (.string ⟨#[]⟩),vi 0,vi 0,.v (.slice none 0 0),vi 0,vi 0]),vi 260])),(95,.ptr 7667 0),(96,.agg ([vi 0,vi 2,vi 3,vb true])),(97,.tup ([.agg ([.v (.string ⟨#[]⟩),vi 0,vi 0,.v (.slice none 0 0),vi 0,vi 0]),vi 260])),(98,.agg ([.v (.string ⟨#[]⟩),vi 0,vi 0,.v (.slice none 0 0),vi 0,vi 0])),(99,vi 260),(100,.tup ([.agg ([.v (.string ⟨#[]⟩),vi 17,vi 1,.su 18811 0 1 0 1,vi 464,vi 1]),vi 0])),(101,.ptr 7667 0),(102,.agg ([vi 9,vi 2,vi 8,vb false])),(103,.tup ([.agg ([.v (.string ⟨#[]⟩),vi 17,vi 1,.su 18811 0 1 0 1,vi 464,vi 1]),vi 0])),(104,.agg ([.v (.string ⟨#[]⟩),vi 17,vi 1,.su 18811 0 1 0 1,vi 464,vi 1])),(105,vi 0),(106,.tup ([vi 1,vi 0])),(107,.ptr 7667 0),(108,.ptr 18815 1),(109,vi 17),(110,.tup ([vi 1,vi 0])),(111,vi 1),(112,vi 0),(113,.tup ([vi 0,vi 0])),(114,.ptr 7667 0),(115,.ptr 18815 1),(116,vi 17),(117,.tup ([vi 0,vi 0])),(118,vi 0),(119,vi 0),(120,.tup ([vi 0,vi 0])),(121,.ptr 7667 0),(122,.ptr 18815 1),(123,vi 17),(124,.tup ([vi 0,vi 0])),(125,vi 0),(126,vi 0),(127,.tup ([vi 0,vi 201])),(128,.ptr 7667 0),(129,.tup ([vi 0,vi 201])),(130,vi 0),(131,vi 201),(132,.tup ([vi 0,vi 0])),(133,.ptr 7667 0),(134,.tup ([vi 0,vi 0])),(135,vi 0),(136,vi 0),(137,.tup ([.agg ([.v (.string ⟨#[]⟩),vi 0,vi 0,.v (.slice none 0 0),vi 0,vi 0]),vi 1])),(138,.v (.pointer none)),(139,.agg ([vi 0,vi 0,vi 1,vb true])),(140,.tup ([.agg ([.v (.string ⟨#[]⟩),vi 0,vi 0,.v (.slice none 0 0),vi 0,vi 0]),vi 1])),(141,.agg ([.v (.string ⟨#[]⟩),vi 0,vi 0,.v (.slice none 0 0),vi 0,vi 0])),(142,vi 1),(143,.tup ([.agg ([.v (.string ⟨#[]⟩),vi 0,vi 0,.v (.slice none 0 0),vi 0,vi 0]),vi 1])),(144,.v (.pointer none)),(145,.agg ([vi 0,vi 0,vi 1,vb true])),(146,.tup ([.agg ([.v (.string ⟨#[]⟩),vi 0,vi 0,.v (.slice none 0 0),vi 0,vi 0]),vi 1])),(147,.agg ([.v (.string ⟨#[]⟩),vi 0,vi 0,.v (.slice none 0 0),vi 0,vi 0])),(148,vi 1),(149,.tup ([vi 0,vi 1])),(150,.v (.pointer none)),(151,.tup ([vi 0,vi 1])),(152,vi 0),(153,vi 1)]) [] (some 8)),[cd 6 [1,1,1,1,1,1,1,1,1,1,1,1,1,1,1,1,1,1,1,1,1,1,1,1]],[],false,none,0⟩] (drN 0 st56.cs)),
 addL (patL (kilL st56.H []) [(7647,mn 247 (([vi 8,.ifc 202 (.agg ([.ptr 7646 0])),.su 15513 0 7 0 8]))),
 (15513,ms 240 1 (([.ptr 13189 0,.ptr 14242 0,.ptr 10099 0,.ptr 16159 0,.ptr 15300 0,.ptr 19123 0,.ptr 10792 0,.v (.pointer none)])))]) 20159 (catL [[mn 46 (([.v (.string ⟨#[]⟩),vi 1,vi 1,.su 20167 0 1 0 1,vi 450,vi 1])),
 mn 46 (([.v (.string ⟨#[]⟩),vi 2,vi 1,.su 20175 0 1 0 1,vi 451,vi 1])),
 mn 2 (([vi 1])),
 mn 46 (([.v (.string ⟨#[]⟩),vi 1,vi 1,.su 20167 0 1 0 1,vi 450,vi 1])),
 mn 46 (([.v (.string ⟨#[]⟩),vi 1,vi 1,.su 7946 0 1 0 1,vi 450,vi 1])),
 mn 46 (([.v (.string ⟨#[]⟩),vi 1,vi 1,.su 20167 0 1 0 1,vi 450,vi 1])),
 mn 46 (([.v (.string ⟨#[]⟩),vi 1,vi 1,.su 20167 0 1 0 1,vi 450,vi 1])),
 mn 3 (([])),
 ms 3 1 (([vi 3])),
 mn 2 (([vi 2])),
 mn 46 (([.v (.string ⟨#[]⟩),vi 2,vi 1,.su 20175 0 1 0 1,vi 451,vi 1])),
 mn 46 (([.v (.string ⟨#[]⟩),vi 1,vi 1,.su 7946 0 1 0 1,vi 450,vi 1])),
 mn 46 (([.v (.string ⟨#[]⟩),vi 2,vi 1,.su 8414 0 1 0 1,vi 451,vi 1])),
 mn 46 (([.v (.string ⟨#[]⟩),vi 2,vi 1,.su 20175 0 1 0 1,vi 451,vi 1])),
 mn 46 (([.v (.string ⟨#[]⟩),vi 2,vi 1,.su 20175 0 1 0 1,vi 451,vi 1])),
 mn 3 (([])),
 ms 3 1 (([vi 2])),
 mn 46 (([.v (.string ⟨#[]⟩),vi 1,vi 1,.su 20167 0 1 0 1,vi 450,vi 1])),
 mn 46 (([.v (.string ⟨#[]⟩),vi 2,vi 1,.su 20175 0 1 0 1,vi 451,vi 1])),
 mn 46 (([.v (.string ⟨#[]⟩),vi 1,vi 1,.su 20167 0 1 0 1,vi 450,vi 1])),
 mn 46 (([.v (.string ⟨#[]⟩),vi 2,vi 1,.su 20175 0 1 0 1,vi 451,vi 1])),
 mn 46 (([.v (.string ⟨#[]⟩),vi 5,vi 1,.su 20192 0 1 0 1,vi 0,vi 0])),
 mn 46 (([.v (.string ⟨#[]⟩),vi 5,vi 1,.su 20203 0 1 0 1,vi 0,vi 0])),
 mn 2 (([vi 5])),
 mn 46 (([.v (.string ⟨#[]⟩),vi 5,vi 1,.su 20192 0 1 0 1,vi 0,vi 0])),
 mn 46 (([.v (.string ⟨#[]⟩),vi 1,vi 1,.su 7946 0 1 0 1,vi 450,vi 1])),
 mn 46 (([.v (.string ⟨#[]⟩),vi 2,vi 1,.su 8414 0 1 0 1,vi 451,vi 1])),
 mn 46 (([.v (.string ⟨#[]⟩),vi 3,vi 1,.su 8874 0 2 0 2,vi 452,vi 1])),
 mn 46 (([.v (.string ⟨#[]⟩),vi 4,vi 2,.su 9336 0 1 0 1,vi 453,vi 1])),
 mn 46 (([.v (.string ⟨#[]⟩),vi 5,vi 1,.su 9800 0 1 0 1,vi 0,vi 0])),
 mn 46 (([.v (.string ⟨#[]⟩),vi 5,vi 1,.su 20192 0 1 0 1,vi 0,vi 0])),
 mn 46 (([.v (.string ⟨#[]⟩),vi 5,vi 1,.su 20192 0 1 0 1,vi 0,vi 0])),
 mn 3 (([])),
 ms 3 1 (([vi 0])),
 mn 2 (([vi 5])),
 mn 46 (([.v (.string ⟨#[]⟩),vi 5,vi 1,.su 20203 0 1 0 1,vi 0,vi 0])),
 mn 46 (([.v (.string ⟨#[]⟩),vi 1,vi 1,.su 7946 0 1 0 1,vi 450,vi 1])),
 mn 46 (([.v (.string ⟨#[]⟩),vi 2,vi 1,.su 8414 0 1 0 1,vi 451,vi 1])),
 mn 46 (([.v (.string ⟨#[]⟩),vi 3,vi 1,.su 8874 0 2 0 2,vi 452,vi 1])),
 mn 46 (([.v (.string ⟨#[]⟩),vi 4,vi 2,.su 9336 0 1 0 1,vi 453,vi 1])),
 mn 46 (([.v (.string ⟨#[]⟩),vi 5,vi 1,.su 9800 0 1 0 1,vi 0,vi 0])),
 mn 46 (([.v (.string ⟨#[]⟩),vi 5,vi 1,.su 20203 0 1 0 1,vi 0,vi 0])),
 mn 46 (([.v (.string ⟨#[]⟩),vi 5,vi 1,.su 20203 0 1 0 1,vi 0,vi 0])),
 mn 3 (([])),
 ms 3 1 (([vi 0])),
 mn 46 (([.v (.string ⟨#[]⟩),vi 5,vi 1,.su 20192 0 1 0 1,vi 0,vi 0])),
 mn 46 (([.v (.string ⟨#[]⟩),vi 5,vi 1,.su 20203 0 1 0 1,vi 0,vi 0])),
 mn 46 (([.v (.string ⟨#[]⟩),vi 5,vi 1,.su 20192 0 1 0 1,vi 0,vi 0])),
 mn 46 (([.v (.string ⟨#[]⟩),vi 5,vi 1,.su 20203 0 1 0 1,vi 0,vi 0])),
 mn 46 (([.v (.string ⟨#[]⟩),vi 5,vi 1,.su 20192 0 1 0 1,vi 0,vi 0])),
 mn 103 (([.ptr 7667 0,vi 5,vi 5,vi 0])),
 mn 2 (([vi 3])),
 mn 4 (([vb false])),
 mn 3 (([vi 0])),
 mn 39 (([vi 0])),
 mn 103 (([.ptr 7667 0,vi 5,vi 5,vi 0])),
 mn 169 (([.ptr 20211 0])),
 mn 170 (([.ptr 20212 0])),
 .dfd false,
 .loop .exhausted none 55 52 (patS .e [(0,.agg ([.ptr 7667 0,vi 5,vi 5,vi 0])),(1,vi 3),(2,.ptr 20209 0),(3,.ptr 20210 0),(4,vi 0),(5,vi 0),(6,.ptr 20211 0),(7,.ptr 20212 0),(8,.ptr 20213 0),(13,.ptr 20209 3),(14,vi 0),(15,.agg ([.ptr 7667 0,vi 5,vi 5,vi 0])),(16,.fn (.func 144) ([]) (ptP 1 0 3 20214))]) [17,18] (subC (bodyF Tryz.prog 55) [1,0,1,1,1,0,1,0,0]) (subC (bodyF Tryz.prog 55) [1,0,1,1,1,0,1,0,1]) 20217,
 mn 31 (([vi 0,vi 0,vi 1,vb true])),
 mn 31 (([vi 0,vi 0,vi 1,vb true])),
 mn 46 (([.v (.string ⟨#[]⟩),vi 0,vi 0,.v (.slice none 0 0),vi 0,vi 0])),
 mn 31 (([vi 0,vi 0,vi 1,vb true]))],repL [mn 46 (([.v (.string ⟨#[]⟩),vi 0,vi 0,.v (.slice none 0 0),vi 0,vi 0]))] 7,[mn 31 (([vi 0,vi 0,vi 1,vb true])),
 mn 31 (([vi 0,vi 0,vi 1,vb true])),
 mn 46 (([.v (.string ⟨#[]⟩),vi 0,vi 0,.v (.slice none 0 0),vi 0,vi 0])),
 mn 31 (([vi 0,vi 0,vi 1,vb true]))],repL [mn 46 (([.v (.string ⟨#[]⟩),vi 0,vi 0,.v (.slice none 0 0),vi 0,vi 0]))] 11,[mn 2 (([vi 1,vi 0,vi 1])),
 mn 36 (([vi 1,.sl 20247 0 1 1,.su 20249 0 3 0 3])),
 mn 3 (([vi 3])),
 mn 2 (([])),
 ms 2 1 (([vi 1,vi 0,vi 1])),
 mn 46 (([.v (.string ⟨#[]⟩),vi 7,vi 1,.su 10562 0 1 0 1,vi 455,vi 1])),
 mn 36 (([vi 1,.sl 20247 0 1 1,.su 20249 0 3 0 3])),
 mn 2 (([vi 7])),
 mn 46 (([.v (.string ⟨#[]⟩),vi 7,vi 1,.su 20264 0 1 0 1,vi 455,vi 1])),
 mn 46 (([.v (.string ⟨#[]⟩),vi 1,vi 1,.su 7946 0 1 0 1,vi 450,vi 1])),
 mn 46 (([.v (.string ⟨#[]⟩),vi 2,vi 1,.su 8414 0 1 0 1,vi 451,vi 1])),
 mn 46 (([.v (.string ⟨#[]⟩),vi 3,vi 1,.su 8874 0 2 0 2,vi 452,vi 1])),
 mn 46 (([.v (.string ⟨#[]⟩),vi 4,vi 2,.su 9336 0 1 0 1,vi 453,vi 1])),
 mn 46 (([.v (.string ⟨#[]⟩),vi 5,vi 1,.su 9800 0 1 0 1,vi 0,vi 0])),
 mn 46 (([.v (.string ⟨#[]⟩),vi 6,vi 1,.su 10169 0 1 0 1,vi 454,vi 1])),
 mn 46 (([.v (.string ⟨#[]⟩),vi 7,vi 1,.su 10532 0 1 0 1,vi 455,vi 1])),
 mn 46 (([.v (.string ⟨#[]⟩),vi 7,vi 1,.su 20264 0 1 0 1,vi 455,vi 1])),
 mn 46 (([.v (.string ⟨#[]⟩),vi 7,vi 1,.su 20264 0 1 0 1,vi 455,vi 1])),
 mn 3 (([])),
 ms 3 1 (([vi 3])),
 mn 46 (([.v (.string ⟨#[]⟩),vi 7,vi 1,.su 20264 0 1 0 1,vi 455,vi 1])),
 mn 2 (([vi 7])),
 mn 46 (([.v (.string ⟨#[]⟩),vi 7,vi 1,.su 20278 0 1 0 1,vi 455,vi 1])),
 mn 46 (([.v (.string ⟨#[]⟩),vi 1,vi 1,.su 7946 0 1 0 1,vi 450,vi 1])),
 mn 46 (([.v (.string ⟨#[]⟩),vi 2,vi 1,.su 8414 0 1 0 1,vi 451,vi 1])),
 mn 46 (([.v (.string ⟨#[]⟩),vi 3,vi 1,.su 8874 0 2 0 2,vi 452,vi 1])),
 mn 46 (([.v (.string ⟨#[]⟩),vi 4,vi 2,.su 9336 0 1 0 1,vi 453,vi 1])),
 mn 46 (([.v (.string ⟨#[]⟩),vi 5,vi 1,.su 9800 0 1 0 1,vi 0,vi 0])),
 mn 46 (([.v (.string ⟨#[]⟩),vi 6,vi 1,.su 10169 0 1 0 1,vi 454,vi 1])),
 mn 46 (([.v (.string ⟨#[]⟩),vi 7,vi 1,.su 10532 0 1 0 1,vi 455,vi 1])),
 mn 46 (([.v (.string ⟨#[]⟩),vi 7,vi 1,.su 20278 0 1 0 1,vi 455,vi 1])),
 mn 46 (([.v (.string ⟨#[]⟩),vi 7,vi 1,.su 20278 0 1 0 1,vi 455,vi 1])),
 mn 3 (([])),
 ms 3 1 (([vi 3])),
 mn 46 (([.v (.string ⟨#[]⟩),vi 7,vi 1,.su 20278 0 1 0 1,vi 455,vi 1])),
 mn 149 (([vi 7,vi 0])),
 mn 149 (([vi 7,vi 0])),
 mn 149 (([vi 7,vi 0])),
 mn 149 (([vi 9,vi 0])),
 mn 149 (([vi 8,vi 0])),
 mn 149 (([vi 10,vi 0])),
 mn 149 (([vi 2,vi 0])),
 mn 149 (([vi 12,vi 0])),
 mn 149 (([vi 3,vi 0])),
 mn 149 (([vi 17,vi 0])),
 mn 149 (([vi 1,vi 0])),
 mn 3 (([vi 0])),
 mn 134 (([.ptr 7647 0])),
 .dfd false,
 .loop .exhausted (some (.exit 0)) 133 45 (patS .e [(0,.ptr 7647 0),(2,vi 0),(3,.ptr 20291 0),(6,.ptr 7647 0),(7,.ptr 7647 0),(8,.ptr 7647 2),(9,.su 15513 0 8 0 8),(10,vi 8),(11,.ptr 7647 0),(12,.ptr 7647 0),(13,.ptr 7647 0),(14,vi 8),(15,vb false),(16,.ptr 7647 0),(17,.fn (.func 256) ([]) ([.ptr 20292 0]))]) [18] (subC (bodyF Tryz.prog 133) [1,0,1,1,1,0,1,0,0]) (subC (bodyF Tryz.prog 133) [1,0,1,1,1,0,1,0,1]) 20293,
 mn 237 (([vi 0,vi 0,vi 0,.v (.slice none 0 0)])),
 mn 202 (([.ptr 7646 0])),
 mn 149 (([vi 7,vi 0])),
 mn 237 (([vi 0,vi 0,vi 0,.v (.slice none 0 0)])),
 mn 237 (([vi 0,vi 0,vi 0,.v (.slice none 0 0)]))],deadL 14,[ms 3 1 (([vi 3]))],deadL 7,[mn 46 (([.v (.string ⟨#[]⟩),vi 7,vi 1,.su 20314 0 1 0 1,vi 455,vi 1])),
 .dead,
 .dead,
 .dead,
 .mem 5 (some 1) (lc ([u8 28 105312291668557186715044999996141950893760922102692468371994268753,z8 15,u8 1 1,z8 80,u8 4 2842061894])),
 mn 237 (([vi 0,vi 0,vi 0,.v (.slice none 0 0)]))],deadL 14]),20342⟩
end Go.Proofs.YtlmpjdionndncaaGreatDoor.RSeekNames
/-
 SeekNames: a state of its run (5602).
-/
namespace Go.Proofs.YtlmpjdionndncaaGreatDoor.RSeekNames
open Go Go.RowKit Ev
set_option maxRecDepth 100000
noncomputable def st5602 : ASt := ⟨⟨36,44,(patS (frC st5601 4).T [(32,.tup ([vi 1,vi 0]))]),(rg 36 [1,1,1,1,1,0,1,0,0,1,1,0,0,1,0] 4),[cd 36 [1,1,1,1,1,0,1,0,0,1,1,0,0,1,1],.inBlock 1,cd 36 [1,1,1,1,1,0,1,0,0,1,1,1],il 36 [1,1,1,1,1,0,1,0,0],.inBlock 0,cd 36 [1,1,1,1,1,1]],[],false,none,20252⟩,(cat2 [] (drN 5 st5601.cs)),
 addL (patL (kilL st5601.H [(20252,48),(20314,1),(20322,1),(20326,2)]) [(7647,mn 247 (([vi 8,.ifc 202 (.agg ([.ptr 7646 0])),.su 15513 0 8 0 8]))),
 (15513,ms 240 1 (([.ptr 13189 0,.ptr 14242 0,.ptr 10099 0,.ptr 16159 0,.ptr 15300 0,.ptr 19123 0,.ptr 10792 0,.ptr 20509 0])))]) 20342 (catL [deadL 166,[ms 2 1 (([vi 1,vi 0,vi 1])),
 mn 239 (([vi 7,vi 0,vi 1,.su 20508 0 3 0 3,vi 0,vb false,vi 0]))],deadL 34]),20544⟩
end Go.Proofs.YtlmpjdionndncaaGreatDoor.RSeekNames
/-
 SeekNames: a state of its run (5603).
-/
namespace Go.Proofs.YtlmpjdionndncaaGreatDoor.RSeekNames
open Go Go.RowKit Ev
set_option maxRecDepth 100000
noncomputable def st5603 : ASt := ⟨⟨12,9,(patS .e [(0,.sl 20668 0 2 2)]),.no,[cd 12 []],[],false,none,20669⟩,(cat2 [⟨6,272,(patS (frC st5602 1).T [(162,vb true),(163,vb true),(164,vb true),(165,.ptr 7667 0),(166,.agg ([.v (.string ⟨#[]⟩),vi 11,vi 1,.su 13940 0 1 0 1,vi 459,vi 1])),(167,vi 0),(168,.sl 20668 0 2 2)]),(drC (subC (bodyF Tryz.prog 6) [1,1,1,1,1,1,1,1,1,1,1,1,1,1,1,1,1,1,1,1,1,1,1,0]) 32767 (patS .e [(0,vi 3),(1,vb true),(2,vb true),(3,.ptr 7667 0),(4,.agg ([.v (.string ⟨#[]⟩),vi 7,vi 1,.su 10562 0 1 0 1,vi 455,vi 1])),(5,vi 0),(6,.sl 20245 0 3 3),(7,.agg ([vi 1,.sl 20247 0 1 1,.su 20249 0 3 0 3])),(8,vb true),(9,vb true),(10,vb true),(11,.ptr 7667 0),(12,.agg ([.v (.string ⟨#[]⟩),vi 11,vi 1,.su 13940 0 1 0 1,vi 459,vi 1])),(13,vi 0),(14,.sl 20668 0 2 2)]) (patS .e [(0,vb false),(1,.ptr 7667 0),(2,.ptr 9844 0),(3,vi 3),(4,.ptr 11995 0),(5,vi 0),(6,.ptr 15034 0),(7,vi 0),(8,.ptr 17190 0),(9,vi 0),(10,vi 8),(11,.ptr 17563 0),(12,vi 0),(13,.ptr 18111 0),(14,vi 0),(15,.ptr 18148 0),(16,vi 201),(17,.ptr 18158 0),(18,vi 260),(19,.ptr 18168 0),(20,vi 260),(21,.ptr 18815 0),(22,vi 0),(23,vi 1),(24,vi 0),(25,vi 0),(26,vi 0),(27,vi 0),(28,vi 0),(29,vi 0),(30,vi 201),(31,vi 0),(32,vi 0),(33,.v (.pointer none)),(34,.ptr 20229 0),(35,vi 1),(36,.ptr 20240 0),(37,vi 1),(38,vi 0),(39,vi 1),(41,.ptr 7667 0),(42,.ptr 7667 0),(43,vb false),(44,.tup ([.agg ([.v (.string ⟨#[]⟩),vi 0,vi 0,.v (.slice none 0 0),vi 0,vi 0]),vi 3])),(45,.ptr 7667 0),(46,.agg ([vi 2,vi 2,vi 3,vb true])),(47,.tup ([.agg ([.v (.string ⟨#[]⟩),vi 0,vi 0,.v (.slice none 0 0),vi 0,vi 0]),vi 3])),(48,.agg ([.v (.string ⟨#[]⟩),vi 0,vi 0,.v (.slice none 0 0),vi 0,vi 0])),(49,vi 3),(50,.tup ([.agg ([.v (.string ⟨#[]⟩),vi 7,vi 1,.su 10562 0 1 0 1,vi 455,vi 1]),vi 0])),(51,.ptr 7667 0),(52,.agg ([vi 2,vi 2,vi 3,vb true])),(53,.tup ([.agg ([.v (.string ⟨#[]⟩),vi 7,vi 1,.su 10562 0 1 0 1,vi 455,vi 1]),vi 0])),(54,.agg ([.v (.string ⟨#[]⟩),vi 7,vi 1,.su 10562 0 1 0 1,vi 455,vi 1])),(55,vi 0),(56,.tup ([.agg ([.v (.string ⟨#[]⟩),vi 11,vi 1,.su 13940 0 1 0 1,vi 459,vi 1]),vi 0])),(57,.ptr 7667 0),(58,.agg ([vi 2,vi 2,vi 3,vb true])),(59,.tup ([.agg ([.v (.string ⟨#[]⟩),vi 11,vi 1,.su 13940 0 1 0 1,vi 459,vi 1]),vi 0])),(60,.agg ([.v (.string ⟨#[]⟩),vi 11,vi 1,.su 13940 0 1 0 1,vi 459,vi 1])),(61,vi 0),(62,.tup ([.agg ([.v (.string ⟨#[]⟩),vi 13,vi 1,.su 15867 0 1 0 1,vi 461,vi 1]),vi 0])),(63,.ptr 7667 0),(64,.agg ([vi 2,vi 2,vi 3,vb true])),(65,.tup ([.agg ([.v (.string ⟨#[]⟩),vi 13,vi 1,.su 15867 0 1 0 1,vi 461,vi 1]),vi 0])),(66,.agg ([.v (.string ⟨#[]⟩),vi 13,vi 1,.su 15867 0 1 0 1,vi 461,vi 1])),(67,vi 0),(68,.ptr 7667 0),(69,vi 8),(70,.tup ([.agg ([.v (.string ⟨#[]⟩),vi 14,vi 1,.su 17269 0 1 0 1,vi 462,vi 1]),vi 0])),(71,.ptr 7667 0),(72,.agg ([vi 2,vi 2,vi 3,vb true])),(73,.tup ([.agg ([.v (.string ⟨#[]⟩),vi 14,vi 1,.su 17269 0 1 0 1,vi 462,vi 1]),vi 0])),(74,.agg ([.v (.string ⟨#[]⟩),vi 14,vi 1,.su 17269 0 1 0 1,vi 462,vi 1])),(75,vi 0),(76,.tup ([.agg ([.v (.string ⟨#[]⟩),vi 16,vi 1,.su 17693 0 2 0 2,vi 463,vi 1]),vi 0])),(77,.ptr 7667 0),(78,.agg ([vi 2,vi 2,vi 3,vb true])),(79,.tup ([.agg ([.v (.string ⟨#[]⟩),vi 16,vi 1,.su 17693 0 2 0 2,vi 463,vi 1]),vi 0])),(80,.agg ([.v (.string ⟨#[]⟩),vi 16,vi 1,.su 17693 0 2 0 2,vi 463,vi 1])),(81,vi 0),(82,.tup ([.agg ([.v (.string ⟨#[]⟩),vi 0,vi 0,.v (.slice none 0 0),vi 0,vi 0]),vi 201])),(83,.ptr 7667 0),(84,.agg ([vi 2,vi 2,vi 3,vb true])),(85,.tup ([.agg ([.v (.string ⟨#[]⟩),vi 0,vi 0,.v (.slice none 0 0),vi 0,vi 0]),vi 201])),(86,.agg ([.v (.string ⟨#[]⟩),vi 0,vi 0,.v (.slice none 0 0),vi 0,vi 0])),(87,vi 201),(88,.tup ([.agg ([.v (.string ⟨#[]⟩),vi 0,vi 0,.v (.slice none 0 0),vi 0,vi 0]),vi 260])),(89,.ptr 7667 0),(90,.agg ([vi 0,vi 2,vi 3,vb true])),(91,.tup ([.agg ([.v (.string ⟨#[]⟩),vi 0,vi 0,.v (.slice none 0 0),vi 0,vi 0]),vi 260])),(92,.agg ([.v (.string ⟨#[]⟩),vi 0,vi 0,.v (.slice none 0 0),vi 0,vi 0])),(93,vi 260),(94,.tup ([.agg ([.v (.string ⟨#[]⟩),vi 0,vi 0,.v (.slice none 0 0),vi 0,vi 0]),vi 260])),(95,.ptr 7667 0),(96,.agg ([vi 0,vi 2,vi 3,vb true])),(97,.tup ([.agg ([.v (.string ⟨#[]⟩),vi 0,vi 0,.v (.slice none 0 0),vi 0,vi 0]),vi 260])),(98,.agg ([.v (.string ⟨#[]⟩),vi 0,vi 0,.v (.slice none 0 0),vi 0,vi 0])),(99,vi 260),(100,.tup ([.agg ([.v (.string ⟨#[]⟩),vi 17,vi 1,.su 18811 0 1 0 1,vi 464,vi 1]),vi 0])),(101,.ptr 7667 0),(102,.agg ([vi 9,vi 2,vi 8,vb false])),(103,.tup ([.agg ([.v (.string ⟨#[]⟩),vi 17,vi 1,.su 18811 0 1 0 1,vi 464,vi 1]),vi 0])),(104,.agg ([.v (.string ⟨#[]⟩),vi 17,vi 1,.su 18811 0 1 0 1,vi 464,vi 1])),(105,vi 0),(106,.tup ([vi 1,vi 0])),(107,.ptr 7667 0),(108,.ptr 18815 1),(109,vi 17),(110,.tup ([vi 1,vi 0])),(111,vi 1),(112,vi 0),(113,.tup ([vi 0,vi 0])),(114,.ptr 7667 0),(115,.ptr 18815 1),(116,vi 17),(117,.tup ([vi 0,vi 0])),(118,vi 0),(119,vi 0),(120,.tup ([vi 0,vi 0])),(121,.ptr 7667 0),(122,.ptr 18815 1),(123,vi 17),(124,.tup ([vi 0,vi 0])),(125,vi 0),(126,vi 0),(127,.tup ([vi 0,vi 201])),(128,.ptr 7667 0),(129,.tup ([vi 0,vi 201])),(130,vi 0),(131,vi 201),(132,.tup ([vi 0,vi 0])),(133,.ptr 7667 0),(134,.tup ([vi 0,vi 0])),(135,vi 0),(136,vi 0),(137,.tup ([.agg ([.v (.string ⟨#[]⟩),vi 0,vi 0,.v (.slice none 0 0),vi 0,vi 0]),vi 1])),(138,.v (.pointer none)),(139,.agg ([vi 0,vi 0,vi 1,vb true])),(140,.tup ([.agg ([.v (.string ⟨#[]⟩),vi 0,vi 0,.v (.slice none 0 0),vi 0,vi 0]),vi 1])),(141,.agg ([.v (.string ⟨#[]⟩),vi 0,vi 0,.v (.slice none 0 0),vi 0,vi 0])),(142,vi 1),(143,.tup ([.agg ([.v (.string ⟨#[]⟩),vi 0,vi 0,.v (.slice none 0 0),vi 0,vi 0]),vi 1])),(144,.v (.pointer none)),(145,.agg ([vi 0,vi 0,vi 1,vb true])),(146,.tup ([.agg ([.v (.string ⟨#[]⟩),vi 0,vi 0,.v (.slice none 0 0),vi 0,vi 0]),vi 1])),(147,.agg ([.v (.string ⟨#[]⟩),vi 0,vi 0,.v (.slice none 0 0),vi 0,vi 0])),(148,vi 1),(149,.tup ([vi 0,vi 1])),(150,.v (.pointer none)),(151,.tup ([vi 0,vi 1])),(152,vi 0),(153,vi 1)]) [(12,46,.ptr 15034 0,.agg ([.v (.string ⟨#[]⟩),vi 11,vi 1,.su 13940 0 1 0 1,vi 459,vi 1]))] (some 15)),[cd 6 [1,1,1,1,1,1,1,1,1,1,1,1,1,1,1,1,1,1,1,1,1,1,1,1]],[],false,none,0⟩] (drN 2 st5602.cs)),
 addL (patL (kilL st5602.H []) []) 20544 (catL [[mn 2 (([vi 1])),
 .dead,
 mn 2 (([vi 7])),
 mn 46 (([.v (.string ⟨#[]⟩),vi 7,vi 1,.su 20558 0 1 0 1,vi 455,vi 1])),
 mn 46 (([.v (.string ⟨#[]⟩),vi 1,vi 1,.su 7946 0 1 0 1,vi 450,vi 1])),
 mn 46 (([.v (.string ⟨#[]⟩),vi 2,vi 1,.su 8414 0 1 0 1,vi 451,vi 1])),
 mn 46 (([.v (.string ⟨#[]⟩),vi 3,vi 1,.su 8874 0 2 0 2,vi 452,vi 1])),
 mn 46 (([.v (.string ⟨#[]⟩),vi 4,vi 2,.su 9336 0 1 0 1,vi 453,vi 1])),
 mn 46 (([.v (.string ⟨#[]⟩),vi 5,vi 1,.su 9800 0 1 0 1,vi 0,vi 0])),
 mn 46 (([.v (.string ⟨#[]⟩),vi 6,vi 1,.su 10169 0 1 0 1,vi 454,vi 1])),
 mn 46 (([.v (.string ⟨#[]⟩),vi 7,vi 1,.su 10532 0 1 0 1,vi 455,vi 1])),
 mn 46 (([.v (.string ⟨#[]⟩),vi 7,vi 1,.su 20558 0 1 0 1,vi 455,vi 1])),
 mn 46 (([.v (.string ⟨#[]⟩),vi 7,vi 1,.su 20558 0 1 0 1,vi 455,vi 1])),
 mn 3 (([])),
 ms 3 1 (([vi 3])),
 mn 46 (([.v (.string ⟨#[]⟩),vi 7,vi 1,.su 20558 0 1 0 1,vi 455,vi 1])),
 mn 149 (([vi 7,vi 0])),
 mn 149 (([vi 7,vi 0])),
 mn 149 (([vi 7,vi 0])),
 mn 149 (([vi 8,vi 0])),
 mn 149 (([vi 10,vi 0])),
 mn 149 (([vi 2,vi 0])),
 mn 149 (([vi 12,vi 0])),
 mn 149 (([vi 3,vi 0])),
 mn 149 (([vi 17,vi 0])),
 mn 149 (([vi 1,vi 0])),
 mn 149 (([vi 7,vi 0])),
 mn 240 (([.ptr 20509 0])),
 mn 149 (([vi 7,vi 0])),
 mn 149 (([vi 7,vi 0])),
 mn 149 (([vi 7,vi 0])),
 mn 149 (([vi 8,vi 0])),
 mn 149 (([vi 10,vi 0])),
 mn 149 (([vi 2,vi 0])),
 mn 149 (([vi 12,vi 0])),
 mn 149 (([vi 3,vi 0])),
 mn 149 (([vi 17,vi 0])),
 mn 149 (([vi 1,vi 0]))],repL [mn 149 (([vi 7,vi 0]))] 4,[mn 149 (([vi 8,vi 0])),
 mn 149 (([vi 10,vi 0])),
 mn 149 (([vi 2,vi 0])),
 mn 149 (([vi 12,vi 0])),
 mn 149 (([vi 3,vi 0])),
 mn 149 (([vi 17,vi 0])),
 mn 149 (([vi 1,vi 0])),
 mn 149 (([vi 7,vi 0])),
 mn 149 (([vi 7,vi 0])),
 mn 149 (([vi 8,vi 0])),
 mn 149 (([vi 10,vi 0])),
 mn 149 (([vi 2,vi 0])),
 mn 149 (([vi 12,vi 0])),
 mn 149 (([vi 3,vi 0])),
 mn 149 (([vi 17,vi 0])),
 mn 149 (([vi 1,vi 0])),
 mn 149 (([vi 7,vi 0])),
 mn 240 (([.ptr 20509 0])),
 mn 2 (([vi 0])),
 .dead,
 mn 2 (([vi 7])),
 mn 46 (([.v (.string ⟨#[]⟩),vi 7,vi 1,.su 20618 0 1 0 1,vi 455,vi 1])),
 mn 46 (([.v (.string ⟨#[]⟩),vi 1,vi 1,.su 7946 0 1 0 1,vi 450,vi 1])),
 mn 46 (([.v (.string ⟨#[]⟩),vi 2,vi 1,.su 8414 0 1 0 1,vi 451,vi 1])),
 mn 46 (([.v (.string ⟨#[]⟩),vi 3,vi 1,.su 8874 0 2 0 2,vi 452,vi 1])),
 mn 46 (([.v (.string ⟨#[]⟩),vi 4,vi 2,.su 9336 0 1 0 1,vi 453,vi 1])),
 mn 46 (([.v (.string ⟨#[]⟩),vi 5,vi 1,.su 9800 0 1 0 1,vi 0,vi 0])),
 mn 46 (([.v (.string ⟨#[]⟩),vi 6,vi 1,.su 10169 0 1 0 1,vi 454,vi 1])),
 mn 46 (([.v (.string ⟨#[]⟩),vi 7,vi 1,.su 10532 0 1 0 1,vi 455,vi 1])),
 mn 46 (([.v (.string ⟨#[]⟩),vi 7,vi 1,.su 20618 0 1 0 1,vi 455,vi 1])),
 mn 46 (([.v (.string ⟨#[]⟩),vi 7,vi 1,.su 20618 0 1 0 1,vi 455,vi 1])),
 mn 3 (([])),
 ms 3 1 (([vi 3])),
 mn 46 (([.v (.string ⟨#[]⟩),vi 7,vi 1,.su 20618 0 1 0 1,vi 455,vi 1])),
 mn 149 (([vi 7,vi 0])),
 mn 149 (([vi 7,vi 0])),
 mn 149 (([vi 7,vi 0])),
 mn 149 (([vi 8,vi 0])),
 mn 149 (([vi 10,vi 0])),
 mn 149 (([vi 2,vi 0])),
 mn 149 (([vi 12,vi 0])),
 mn 149 (([vi 3,vi 0])),
 mn 149 (([vi 17,vi 0])),
 mn 149 (([vi 1,vi 0])),
 mn 149 (([vi 7,vi 0])),
 mn 240 (([.ptr 20509 0])),
 mn 149 (([vi 7,vi 0])),
 mn 149 (([vi 7,vi 0])),
 mn 149 (([vi 7,vi 0])),
 mn 149 (([vi 8,vi 0])),
 mn 149 (([vi 10,vi 0])),
 mn 149 (([vi 2,vi 0])),
 mn 149 (([vi 12,vi 0])),
 mn 149 (([vi 3,vi 0])),
 mn 149 (([vi 17,vi 0])),
 mn 149 (([vi 1,vi 0]))],repL [mn 149 (([vi 7,vi 0]))] 4,[mn 149 (([vi 8,vi 0])),
 mn 149 (([vi 10,vi 0])),
 mn 149 (([vi 2,vi 0])),
 mn 149 (([vi 12,vi 0])),
 mn 149 (([vi 3,vi 0])),
 mn 149 (([vi 17,vi 0])),
 mn 149 (([vi 1,vi 0])),
 mn 149 (([vi 7,vi 0])),
 mn 149 (([vi 7,vi 0])),
 mn 149 (([vi 8,vi 0])),
 mn 149 (([vi 10,vi 0])),
 mn 149 (([vi 2,vi 0])),
 mn 149 (([vi 12,vi 0])),
 mn 149 (([vi 3,vi 0])),
 mn 149 (([vi 17,vi 0])),
 mn 149 (([vi 1,vi 0])),
 mn 149 (([vi 7,vi 0])),
 mn 240 (([.ptr 20509 0])),
 mn 2 (([vi 1])),
 ms 2 1 (([vi 1,vi 0,vi 1])),
 mn 36 (([vi 1,.su 10562 0 1 0 1,.su 20665 0 3 0 3])),
 mn 36 (([vi 1,.sl 20247 0 1 1,.su 20249 0 3 0 3])),
 mn 2 (([vi 1,vi 0]))]]),20669⟩
end Go.Proofs.YtlmpjdionndncaaGreatDoor.RSeekNames
/-
 SeekNames: a state of its run (5604).
-/
namespace Go.Proofs.YtlmpjdionndncaaGreatDoor.RSeekNames
open Go Go.RowKit Ev
set_option maxRecDepth 100000
noncomputable def st5604 : ASt := ⟨⟨43,71,(patS .e [(0,.ptr 7646 0),(1,vi 11),(2,vi 0),(6,vi 0),(7,vi 0),(8,.ptr 20710 0),(9,vb true),(10,.ptr 20711 0),(11,vi 0),(14,.ptr 7646 0),(15,vb false),(16,.tup ([.agg ([.v (.string ⟨#[]⟩),vi 11,vi 1,.su 20709 0 1 0 1,vi 459,vi 1]),vb true])),(17,.ptr 7646 0),(18,vi 11),(19,.tup ([.agg ([.v (.string ⟨#[]⟩),vi 11,vi 1,.su 20709 0 1 0 1,vi 459,vi 1]),vb true])),(20,.agg ([.v (.string ⟨#[]⟩),vi 11,vi 1,.su 20709 0 1 0 1,vi 459,vi 1])),(21,vb true),(22,vb true),(23,vb false),(24,vb false),(25,vi 0),(26,vb false),(27,vb false),(28,vb false),(29,vi 0),(30,.ptr 20710 3),(31,.su 20709 0 1 0 1),(32,vi 2),(33,vb false),(34,vb false),(35,vi 11),(36,vi 0),(37,.ptr 7646 0),(38,vi 13),(39,vi 0),(40,.agg ([vi 11,vi 0])),(41,.ptr 7646 0),(42,.ptr 7646 0),(43,.ptr 7646 10),(44,.ptr 7647 0),(45,.agg ([vi 11,vi 0])),(46,vi 0)]),.no,[cd 43 [1,1,1,1,1,0,1],cd 43 [1,1,1,1,1,1]],[],false,none,20693⟩,(cat2 [⟨36,44,(patS .e [(0,.ptr 7646 0),(1,vi 11),(4,.v (.slice none 0 0)),(5,vi 0),(6,.ptr 20692 0),(7,vb true),(8,.v (.slice none 0 0)),(9,vi 0),(12,.ptr 7646 0),(13,vb false),(14,.tup ([.agg ([.v (.string ⟨#[]⟩),vi 11,vi 1,.su 20691 0 1 0 1,vi 459,vi 1]),vb true])),(15,.ptr 7646 0),(16,vi 11),(17,.tup ([.agg ([.v (.string ⟨#[]⟩),vi 11,vi 1,.su 20691 0 1 0 1,vi 459,vi 1]),vb true])),(18,.agg ([.v (.string ⟨#[]⟩),vi 11,vi 1,.su 20691 0 1 0 1,vi 459,vi 1])),(19,vb true),(20,vb true),(21,vb false),(22,.ptr 20692 3),(23,.su 20691 0 1 0 1),(24,vi 2),(25,vi 0),(26,vb true),(27,vi 0),(29,.ptr 7646 0),(30,vi 11),(31,vi 0)]),(rg 36 [1,1,1,1,1,0,1,0,0,1,1,0,0,1,0] 3),[cd 36 [1,1,1,1,1,0,1,0,0,1,1,0,0,1,1],.inBlock 1,cd 36 [1,1,1,1,1,0,1,0,0,1,1,1],il 36 [1,1,1,1,1,0,1,0,0],.inBlock 0,cd 36 [1,1,1,1,1,1]],[],false,none,20675⟩,
 ⟨29,35,(patS .e [(0,.ptr 7667 0),(1,.agg ([.v (.string ⟨#[]⟩),vi 11,vi 1,.su 13940 0 1 0 1,vi 459,vi 1])),(2,vi 0),(3,.agg ([vi 1,.sl 20670 0 1 1,.su 20672 0 2 0 2])),(5,.ptr 20673 0),(7,.ptr 20674 0),(8,vb false),(12,.ptr 7667 0),(13,.ptr 7646 0),(14,.ptr 20673 1),(15,vi 11)]),(drC (subC (bodyF Tryz.prog 29) [1,0]) 15 (patS .e [(0,.ptr 7667 0),(1,.ptr 7646 0),(2,.ptr 20673 1),(3,vi 11)]) (patS .e [(0,.ptr 7667 0),(1,.agg ([.v (.string ⟨#[]⟩),vi 11,vi 1,.su 13940 0 1 0 1,vi 459,vi 1])),(2,vi 0),(3,.agg ([vi 1,.sl 20670 0 1 1,.su 20672 0 2 0 2])),(5,.ptr 20673 0),(7,.ptr 20674 0),(8,vb false)]) [] (some 4)),[cd 29 [1,1]],[],false,none,20673⟩,
 ⟨6,272,(patS (frC st5603 0).T [(169,.agg ([vi 1,.sl 20670 0 1 1,.su 20672 0 2 0 2]))]),(drC (subC (bodyF Tryz.prog 6) [1,1,1,1,1,1,1,1,1,1,1,1,1,1,1,1,1,1,1,1,1,1,1,0]) 65535 (patS .e [(0,vi 3),(1,vb true),(2,vb true),(3,.ptr 7667 0),(4,.agg ([.v (.string ⟨#[]⟩),vi 7,vi 1,.su 10562 0 1 0 1,vi 455,vi 1])),(5,vi 0),(6,.sl 20245 0 3 3),(7,.agg ([vi 1,.sl 20247 0 1 1,.su 20249 0 3 0 3])),(8,vb true),(9,vb true),(10,vb true),(11,.ptr 7667 0),(12,.agg ([.v (.string ⟨#[]⟩),vi 11,vi 1,.su 13940 0 1 0 1,vi 459,vi 1])),(13,vi 0),(14,.sl 20668 0 2 2),(15,.agg ([vi 1,.sl 20670 0 1 1,.su 20672 0 2 0 2]))]) (patS .e [(0,vb false),(1,.ptr 7667 0),(2,.ptr 9844 0),(3,vi 3),(4,.ptr 11995 0),(5,vi 0),(6,.ptr 15034 0),(7,vi 0),(8,.ptr 17190 0),(9,vi 0),(10,vi 8),(11,.ptr 17563 0),(12,vi 0),(13,.ptr 18111 0),(14,vi 0),(15,.ptr 18148 0),(16,vi 201),(17,.ptr 18158 0),(18,vi 260),(19,.ptr 18168 0),(20,vi 260),(21,.ptr 18815 0),(22,vi 0),(23,vi 1),(24,vi 0),(25,vi 0),(26,vi 0),(27,vi 0),(28,vi 0),(29,vi 0),(30,vi 201),(31,vi 0),(32,vi 0),(33,.v (.pointer none)),(34,.ptr 20229 0),(35,vi 1),(36,.ptr 20240 0),(37,vi 1),(38,vi 0),(39,vi 1),(41,.ptr 7667 0),(42,.ptr 7667 0),(43,vb false),(44,.tup ([.agg ([.v (.string ⟨#[]⟩),vi 0,vi 0,.v (.slice none 0 0),vi 0,vi 0]),vi 3])),(45,.ptr 7667 0),(46,.agg ([vi 2,vi 2,vi 3,vb true])),(47,.tup ([.agg ([.v (.string ⟨#[]⟩),vi 0,vi 0,.v (.slice none 0 0),vi 0,vi 0]),vi 3])),(48,.agg ([.v (.string ⟨#[]⟩),vi 0,vi 0,.v (.slice none 0 0),vi 0,vi 0])),(49,vi 3),(50,.tup ([.agg ([.v (.string ⟨#[]⟩),vi 7,vi 1,.su 10562 0 1 0 1,vi 455,vi 1]),vi 0])),(51,.ptr 7667 0),(52,.agg ([vi 2,vi 2,vi 3,vb true])),(53,.tup ([.agg ([.v (.string ⟨#[]⟩),vi 7,vi 1,.su 10562 0 1 0 1,vi 455,vi 1]),vi 0])),(54,.agg ([.v (.string ⟨#[]⟩),vi 7,vi 1,.su 10562 0 1 0 1,vi 455,vi 1])),(55,vi 0),(56,.tup ([.agg ([.v (.string ⟨#[]⟩),vi 11,vi 1,.su 13940 0 1 0 1,vi 459,vi 1]),vi 0])),(57,.ptr 7667 0),(58,.agg ([vi 2,vi 2,vi 3,vb true])),(59,.tup ([.agg ([.v (.string ⟨#[]⟩),vi 11,vi 1,.su 13940 0 1 0 1,vi 459,vi 1]),vi 0])),(60,.agg ([.v (.string ⟨#[]⟩),vi 11,vi 1,.su 13940 0 1 0 1,vi 459,vi 1])),(61,vi 0),(62,.tup ([.agg ([.v (.string ⟨#[]⟩),vi 13,vi 1,.su 15867 0 1 0 1,vi 461,vi 1]),vi 0])),(63,.ptr 7667 0),(64,.agg ([vi 2,vi 2,vi 3,vb true])),(65,.tup ([.agg ([.v (.string ⟨#[]⟩),vi 13,vi 1,.su 15867 0 1 0 1,vi 461,vi 1]),vi 0])),(66,.agg ([.v (.string ⟨#[]⟩),vi 13,vi 1,.su 15867 0 1 0 1,vi 461,vi 1])),(67,vi 0),(68,.ptr 7667 0),(69,vi 8),(70,.tup ([.agg ([.v (.string ⟨#[]⟩),vi 14,vi 1,.su 17269 0 1 0 1,vi 462,vi 1]),vi 0])),(71,.ptr 7667 0),(72,.agg ([vi 2,vi 2,vi 3,vb true])),(73,.tup ([.agg ([.v (.string ⟨#[]⟩),vi 14,vi 1,.su 17269 0 1 0 1,vi 462,vi 1]),vi 0])),(74,.agg ([.v (.string ⟨#[]⟩),vi 14,vi 1,.su 17269 0 1 0 1,vi 462,vi 1])),(75,vi 0),(76,.tup ([.agg ([.v (.string ⟨#[]⟩),vi 16,vi 1,.su 17693 0 2 0 2,vi 463,vi 1]),vi 0])),(77,.ptr 7667 0),(78,.agg ([vi 2,vi 2,vi 3,vb true])),(79,.tup ([.agg ([.v (.string ⟨#[]⟩),vi 16,vi 1,.su 17693 0 2 0 2,vi 463,vi 1]),vi 0])),(80,.agg ([.v (.string ⟨#[]⟩),vi 16,vi 1,.su 17693 0 2 0 2,vi 463,vi 1])),(81,vi 0),(82,.tup ([.agg ([.v (.string ⟨#[]⟩),vi 0,vi 0,.v (.slice none 0 0),vi 0,vi 0]),vi 201])),(83,.ptr 7667 0),(84,.agg ([vi 2,vi 2,vi 3,vb true])),(85,.tup ([.agg ([.v (.string ⟨#[]⟩),vi 0,vi 0,.v (.slice none 0 0),vi 0,vi 0]),vi 201])),(86,.agg ([.v (.string ⟨#[]⟩),vi 0,vi 0,.v (.slice none 0 0),vi 0,vi 0])),(87,vi 201),(88,.tup ([.agg ([.v (.string ⟨#[]⟩),vi 0,vi 0,.v (.slice none 0 0),vi 0,vi 0]),vi 260])),(89,.ptr 7667 0),(90,.agg ([vi 0,vi 2,vi 3,vb true])),(91,.tup ([.agg ([.v (.string ⟨#[]⟩),vi 0,vi 0,.v (.slice none 0 0),vi 0,vi 0]),vi 260])),(92,.agg ([.v (.string ⟨#[]⟩),vi 0,vi 0,.v (.slice none 0 0),vi 0,vi 0])),(93,vi 260),(94,.tup ([.agg ([.v (.string ⟨#[]⟩),vi 0,vi 0,.v (.slice none 0 0),vi 0,vi 0]),vi 260])),(95,.ptr 7667 0),(96,.agg ([vi 0,vi 2,vi 3,vb true])),(97,.tup ([.agg ([.v (.string ⟨#[]⟩),vi 0,vi 0,.v (.slice none 0 0),vi 0,vi 0]),vi 260])),(98,.agg ([.v (.string ⟨#[]⟩),vi 0,vi 0,.v (.slice none 0 0),vi 0,vi 0])),(99,vi 260),(100,.tup ([.agg ([.v (.string ⟨#[]⟩),vi 17,vi 1,.su 18811 0 1 0 1,vi 464,vi 1]),vi 0])),(101,.ptr 7667 0),(102,.agg ([vi 9,vi 2,vi 8,vb false])),(103,.tup ([.agg ([.v (.string ⟨#[]⟩),vi 17,vi 1,.su 18811 0 1 0 1,vi 464,vi 1]),vi 0])),(104,.agg ([.v (.string ⟨#[]⟩),vi 17,vi 1,.su 18811 0 1 0 1,vi 464,vi 1])),(105,vi 0),(106,.tup ([vi 1,vi 0])),(107,.ptr 7667 0),(108,.ptr 18815 1),(109,vi 17),(110,.tup ([vi 1,vi 0])),(111,vi 1),(112,vi 0),(113,.tup ([vi 0,vi 0])),(114,.ptr 7667 0),(115,.ptr 18815 1),(116,vi 17),(117,.tup ([vi 0,vi 0])),(118,vi 0),(119,vi 0),(120,.tup ([vi 0,vi 0])),(121,.ptr 7667 0),(122,.ptr 18815 1),(123,vi 17),(124,.tup ([vi 0,vi 0])),(125,vi 0),(126,vi 0),(127,.tup ([vi 0,vi 201])),(128,.ptr 7667 0),(129,.tup ([vi 0,vi 201])),(130,vi 0),(131,vi 201),(132,.tup ([vi 0,vi 0])),(133,.ptr 7667 0),(134,.tup ([vi 0,vi 0])),(135,vi 0),(136,vi 0),(137,.tup ([.agg ([.v (.string ⟨#[]⟩),vi 0,vi 0,.v (.slice none 0 0),vi 0,vi 0]),vi 1])),(138,.v (.pointer none)),(139,.agg ([vi 0,vi 0,vi 1,vb true])),(140,.tup ([.agg ([.v (.string ⟨#[]⟩),vi 0,vi 0,.v (.slice none 0 0),vi 0,vi 0]),vi 1])),(141,.agg ([.v (.string ⟨#[]⟩),vi 0,vi 0,.v (.slice none 0 0),vi 0,vi 0])),(142,vi 1),(143,.tup ([.agg ([.v (.string ⟨#[]⟩),vi 0,vi 0,.v (.slice none 0 0),vi 0,vi 0]),vi 1])),(144,.v (.pointer none)),(145,.agg ([vi 0,vi 0,vi 1,vb true])),(146,.tup ([.agg ([.v (.string ⟨#[]⟩),vi 0,vi 0,.v (.slice none 0 0),vi 0,vi 0]),vi 1])),(147,.agg ([.v (.string ⟨#[]⟩),vi 0,vi 0,.v (.slice none 0 0),vi 0,vi 0])),(148,vi 1),(149,.tup ([vi 0,vi 1])),(150,.v (.pointer none)),(151,.tup ([vi 0,vi 1])),(152,vi 0),(153,vi 1)]) [] (some 16)),[cd 6 [1,1,1,1,1,1,1,1,1,1,1,1,1,1,1,1,1,1,1,1,1,1,1,1]],[],false,none,0⟩] (drN 1 st5603.cs)),
 addL (patL (kilL st5603.H []) [(15513,ms 240 1 (([.ptr 14242 0,.ptr 10099 0,.ptr 16159 0,.ptr 15300 0,.ptr 19123 0,.ptr 10792 0,.ptr 20509 0,.ptr 20920 0])))]) 20669 (catL [[mn 36 (([vi 1,.sl 20670 0 1 1,.su 20672 0 2 0 2])),
 mn 3 (([vi 2])),
 mn 2 (([])),
 ms 2 1 (([vi 1,vi 0])),
 mn 46 (([.v (.string ⟨#[]⟩),vi 11,vi 1,.su 13940 0 1 0 1,vi 459,vi 1])),
 mn 36 (([vi 1,.sl 20670 0 1 1,.su 20672 0 2 0 2]))],deadL 36,[mn 149 (([vi 11,vi 0]))],deadL 207,[ms 2 1 (([vi 1,vi 0])),
 mn 239 (([vi 11,vi 0,vi 1,.su 20919 0 2 0 2,vi 1,vb false,vi 0])),
 .dead,
 .dead]]),20923⟩
end Go.Proofs.YtlmpjdionndncaaGreatDoor.RSeekNames
/-
 SeekNames: a state of its run (5605).
-/
namespace Go.Proofs.YtlmpjdionndncaaGreatDoor.RSeekNames
open Go Go.RowKit Ev
set_option maxRecDepth 100000
noncomputable def st5605 : ASt := ⟨⟨43,71,(patS .e [(0,.ptr 7646 0),(1,vi 13),(2,vi 0),(6,vi 0),(7,vi 0),(14,.ptr 7646 0),(15,vb false),(17,.ptr 7646 0),(18,vi 13),(19,.tup ([.agg ([.v (.string ⟨#[]⟩),vi 13,vi 1,.su 21068 0 1 0 1,vi 461,vi 1]),vb true]))]),(rg 43 [1,1,0] 3),[cd 43 [1,1,1]],[],false,none,21050⟩,(cat2 [⟨36,44,(patS (frC st5604 0).T [(1,vi 13),(6,.ptr 21049 0),(14,.tup ([.agg ([.v (.string ⟨#[]⟩),vi 13,vi 1,.su 21048 0 1 0 1,vi 461,vi 1]),vb true])),(16,vi 13),(17,.tup ([.agg ([.v (.string ⟨#[]⟩),vi 13,vi 1,.su 21048 0 1 0 1,vi 461,vi 1]),vb true])),(18,.agg ([.v (.string ⟨#[]⟩),vi 13,vi 1,.su 21048 0 1 0 1,vi 461,vi 1])),(22,.ptr 21049 3),(23,.su 21048 0 1 0 1),(30,vi 13)]),(rg 36 [1,1,1,1,1,0,1,0,0,1,1,0,0,1,0] 3),[cd 36 [1,1,1,1,1,0,1,0,0,1,1,0,0,1,1],.inBlock 1,cd 36 [1,1,1,1,1,0,1,0,0,1,1,1],il 36 [1,1,1,1,1,0,1,0,0],.inBlock 0,cd 36 [1,1,1,1,1,1]],[],false,none,21030⟩,
 ⟨29,35,(patS (frC st5604 1).T [(1,.agg ([.v (.string ⟨#[]⟩),vi 13,vi 1,.su 15867 0 1 0 1,vi 461,vi 1])),(3,.agg ([vi 1,.sl 21025 0 1 1,.su 21027 0 2 0 2])),(5,.ptr 21028 0),(7,.ptr 21029 0),(14,.ptr 21028 1),(15,vi 13)]),(drC (subC (bodyF Tryz.prog 29) [1,0]) 15 (patS .e [(0,.ptr 7667 0),(1,.ptr 7646 0),(2,.ptr 21028 1),(3,vi 13)]) (patS .e [(0,.ptr 7667 0),(1,.agg ([.v (.string ⟨#[]⟩),vi 13,vi 1,.su 15867 0 1 0 1,vi 461,vi 1])),(2,vi 0),(3,.agg ([vi 1,.sl 21025 0 1 1,.su 21027 0 2 0 2])),(5,.ptr 21028 0),(7,.ptr 21029 0),(8,vb false)]) [] (some 4)),[cd 29 [1,1]],[],false,none,21028⟩,
 ⟨6,272,(patS (frC st5604 2).T [(170,vb true),(171,vb true),(172,vb true),(173,.ptr 7667 0),(174,.agg ([.v (.string ⟨#[]⟩),vi 13,vi 1,.su 15867 0 1 0 1,vi 461,vi 1])),(175,vi 0),(176,.sl 21023 0 2 2),(177,.agg ([vi 1,.sl 21025 0 1 1,.su 21027 0 2 0 2]))]),(drC (subC (bodyF Tryz.prog 6) [1,1,1,1,1,1,1,1,1,1,1,1,1,1,1,1,1,1,1,1,1,1,1,0]) 16777215 (patS .e [(0,vi 3),(1,vb true),(2,vb true),(3,.ptr 7667 0),(4,.agg ([.v (.string ⟨#[]⟩),vi 7,vi 1,.su 10562 0 1 0 1,vi 455,vi 1])),(5,vi 0),(6,.sl 20245 0 3 3),(7,.agg ([vi 1,.sl 20247 0 1 1,.su 20249 0 3 0 3])),(8,vb true),(9,vb true),(10,vb true),(11,.ptr 7667 0),(12,.agg ([.v (.string ⟨#[]⟩),vi 11,vi 1,.su 13940 0 1 0 1,vi 459,vi 1])),(13,vi 0),(14,.sl 20668 0 2 2),(15,.agg ([vi 1,.sl 20670 0 1 1,.su 20672 0 2 0 2])),(16,vb true),(17,vb true),(18,vb true),(19,.ptr 7667 0),(20,.agg ([.v (.string ⟨#[]⟩),vi 13,vi 1,.su 15867 0 1 0 1,vi 461,vi 1])),(21,vi 0),(22,.sl 21023 0 2 2),(23,.agg ([vi 1,.sl 21025 0 1 1,.su 21027 0 2 0 2]))]) (patS .e [(0,vb false),(1,.ptr 7667 0),(2,.ptr 9844 0),(3,vi 3),(4,.ptr 11995 0),(5,vi 0),(6,.ptr 15034 0),(7,vi 0),(8,.ptr 17190 0),(9,vi 0),(10,vi 8),(11,.ptr 17563 0),(12,vi 0),(13,.ptr 18111 0),(14,vi 0),(15,.ptr 18148 0),(16,vi 201),(17,.ptr 18158 0),(18,vi 260),(19,.ptr 18168 0),(20,vi 260),(21,.ptr 18815 0),(22,vi 0),(23,vi 1),(24,vi 0),(25,vi 0),(26,vi 0),(27,vi 0),(28,vi 0),(29,vi 0),(30,vi 201),(31,vi 0),(32,vi 0),(33,.v (.pointer none)),(34,.ptr 20229 0),(35,vi 1),(36,.ptr 20240 0),(37,vi 1),(38,vi 0),(39,vi 1),(41,.ptr 7667 0),(42,.ptr 7667 0),(43,vb false),(44,.tup ([.agg ([.v (.string ⟨#[]⟩),vi 0,vi 0,.v (.slice none 0 0),vi 0,vi 0]),vi 3])),(45,.ptr 7667 0),(46,.agg ([vi 2,vi 2,vi 3,vb true])),(47,.tup ([.agg ([.v (.string ⟨#[]⟩),vi 0,vi 0,.v (.slice none 0 0),vi 0,vi 0]),vi 3])),(48,.agg ([.v (.string ⟨#[]⟩),vi 0,vi 0,.v (.slice none 0 0),vi 0,vi 0])),(49,vi 3),(50,.tup ([.agg ([.v (.string ⟨#[]⟩),vi 7,vi 1,.su 10562 0 1 0 1,vi 455,vi 1]),vi 0])),(51,.ptr 7667 0),(52,.agg ([vi 2,vi 2,vi 3,vb true])),(53,.tup ([.agg ([.v (.string ⟨#[]⟩),vi 7,vi 1,.su 10562 0 1 0 1,vi 455,vi 1]),vi 0])),(54,.agg ([.v (.string ⟨#[]⟩),vi 7,vi 1,.su 10562 0 1 0 1,vi 455,vi 1])),(55,vi 0),(56,.tup ([.agg ([.v (.string ⟨#[]⟩),vi 11,vi 1,.su 13940 0 1 0 1,vi 459,vi 1]),vi 0])),(57,.ptr 7667 0),(58,.agg ([vi 2,vi 2,vi 3,vb true])),(59,.tup ([.agg ([.v (.string ⟨#[]⟩),vi 11,vi 1,.su 13940 0 1 0 1,vi 459,vi 1]),vi 0])),(60,.agg ([.v (.string ⟨#[]⟩),vi 11,vi 1,.su 13940 0 1 0 1,vi 459,vi 1])),(61,vi 0),(62,.tup ([.agg ([.v (.string ⟨#[]⟩),vi 13,vi 1,.su 15867 0 1 0 1,vi 461,vi 1]),vi 0])),(63,.ptr 7667 0),(64,.agg ([vi 2,vi 2,vi 3,vb true])),(65,.tup ([.agg ([.v (.string ⟨#[]⟩),vi 13,vi 1,.su 15867 0 1 0 1,vi 461,vi 1]),vi 0])),(66,.agg ([.v (.string ⟨#[]⟩),vi 13,vi 1,.su 15867 0 1 0 1,vi 461,vi 1])),(67,vi 0),(68,.ptr 7667 0),(69,vi 8),(70,.tup ([.agg ([.v (.string ⟨#[]⟩),vi 14,vi 1,.su 17269 0 1 0 1,vi 462,vi 1]),vi 0])),(71,.ptr 7667 0),(72,.agg ([vi 2,vi 2,vi 3,vb true])),(73,.tup ([.agg ([.v (.string ⟨#[]⟩),vi 14,vi 1,.su 17269 0 1 0 1,vi 462,vi 1]),vi 0])),(74,.agg ([.v (.string ⟨#[]⟩),vi 14,vi 1,.su 17269 0 1 0 1,vi 462,vi 1])),(75,vi 0),(76,.tup ([.agg ([.v (.string ⟨#[]⟩),vi 16,vi 1,.su 17693 0 2 0 2,vi 463,vi 1]),vi 0])),(77,.ptr 7667 0),(78,.agg ([vi 2,vi 2,vi 3,vb true])),(79,.tup ([.agg ([.v (.string ⟨#[]⟩),vi 16,vi 1,.su 17693 0 2 0 2,vi 463,vi 1]),vi 0])),(80,.agg ([.v (.string ⟨#[]⟩),vi 16,vi 1,.su 17693 0 2 0 2,vi 463,vi 1])),(81,vi 0),(82,.tup ([.agg ([.v (.string ⟨#[]⟩),vi 0,vi 0,.v (.slice none 0 0),vi 0,vi 0]),vi 201])),(83,.ptr 7667 0),(84,.agg ([vi 2,vi 2,vi 3,vb true])),(85,.tup ([.agg ([.v (.string ⟨#[]⟩),vi 0,vi 0,.v (.slice none 0 0),vi 0,vi 0]),vi 201])),(86,.agg ([.v (.string ⟨#[]⟩),vi 0,vi 0,.v (.slice none 0 0),vi 0,vi 0])),(87,vi 201),(88,.tup ([.agg ([.v (.string ⟨#[]⟩),vi 0,vi 0,.v (.slice none 0 0),vi 0,vi 0]),vi 260])),(89,.ptr 7667 0),(90,.agg ([vi 0,vi 2,vi 3,vb true])),(91,.tup ([.agg ([.v (.string ⟨#[]⟩),vi 0,vi 0,.v (.slice none 0 0),vi 0,vi 0]),vi 260])),(92,.agg ([.v (.string ⟨#[]⟩),vi 0,vi 0,.v (.slice none 0 0),vi 0,vi 0])),(93,vi 260),(94,.tup ([.agg ([.v (.string ⟨#[]⟩),vi 0,vi 0,.v (.slice none 0 0),vi 0,vi 0]),vi 260])),(95,.ptr 7667 0),(96,.agg ([vi 0,vi 2,vi 3,vb true])),(97,.tup ([.agg ([.v (.string ⟨#[]⟩),vi 0,vi 0,.v (.slice none 0 0),vi 0,vi 0]),vi 260])),(98,.agg ([.v (.string ⟨#[]⟩),vi 0,vi 0,.v (.slice none 0 0),vi 0,vi 0])),(99,vi 260),(100,.tup ([.agg ([.v (.string ⟨#[]⟩),vi 17,vi 1,.su 18811 0 1 0 1,vi 464,vi 1]),vi 0])),(101,.ptr 7667 0),(102,.agg ([vi 9,vi 2,vi 8,vb false])),(103,.tup ([.agg ([.v (.string ⟨#[]⟩),vi 17,vi 1,.su 18811 0 1 0 1,vi 464,vi 1]),vi 0])),(104,.agg ([.v (.string ⟨#[]⟩),vi 17,vi 1,.su 18811 0 1 0 1,vi 464,vi 1])),(105,vi 0),(106,.tup ([vi 1,vi 0])),(107,.ptr 7667 0),(108,.ptr 18815 1),(109,vi 17),(110,.tup ([vi 1,vi 0])),(111,vi 1),(112,vi 0),(113,.tup ([vi 0,vi 0])),(114,.ptr 7667 0),(115,.ptr 18815 1),(116,vi 17),(117,.tup ([vi 0,vi 0])),(118,vi 0),(119,vi 0),(120,.tup ([vi 0,vi 0])),(121,.ptr 7667 0),(122,.ptr 18815 1),(123,vi 17),(124,.tup ([vi 0,vi 0])),(125,vi 0),(126,vi 0),(127,.tup ([vi 0,vi 201])),(128,.ptr 7667 0),(129,.tup ([vi 0,vi 201])),(130,vi 0),(131,vi 201),(132,.tup ([vi 0,vi 0])),(133,.ptr 7667 0),(134,.tup ([vi 0,vi 0])),(135,vi 0),(136,vi 0),(137,.tup ([.agg ([.v (.string ⟨#[]⟩),vi 0,vi 0,.v (.slice none 0 0),vi 0,vi 0]),vi 1])),(138,.v (.pointer none)),(139,.agg ([vi 0,vi 0,vi 1,vb true])),(140,.tup ([.agg ([.v (.string ⟨#[]⟩),vi 0,vi 0,.v (.slice none 0 0),vi 0,vi 0]),vi 1])),(141,.agg ([.v (.string ⟨#[]⟩),vi 0,vi 0,.v (.slice none 0 0),vi 0,vi 0])),(142,vi 1),(143,.tup ([.agg ([.v (.string ⟨#[]⟩),vi 0,vi 0,.v (.slice none 0 0),vi 0,vi 0]),vi 1])),(144,.v (.pointer none)),(145,.agg ([vi 0,vi 0,vi 1,vb true])),(146,.tup ([.agg ([.v (.string ⟨#[]⟩),vi 0,vi 0,.v (.slice none 0 0),vi 0,vi 0]),vi 1])),(147,.agg ([.v (.string ⟨#[]⟩),vi 0,vi 0,.v (.slice none 0 0),vi 0,vi 0])),(148,vi 1),(149,.tup ([vi 0,vi 1])),(150,.v (.pointer none)),(151,.tup ([vi 0,vi 1])),(152,vi 0),(153,vi 1)]) [] (some 24)),[cd 6 [1,1,1,1,1,1,1,1,1,1,1,1,1,1,1,1,1,1,1,1,1,1,1,1]],[],false,none,0⟩] (drN 3 st5604.cs)),
 addL (patL (kilL st5604.H []) [(20920,mn 239 (([vi 11,vi 0,vi 1,.su 20919 0 2 0 2,vi 0,vb false,vi 0])))]) 20923 (catL [[mn 149 (([vi 11,vi 0])),
 mn 149 (([vi 11,vi 0])),
 mn 149 (([vi 11,vi 0])),
 mn 149 (([vi 10,vi 0])),
 mn 149 (([vi 2,vi 0])),
 mn 149 (([vi 12,vi 0])),
 mn 149 (([vi 3,vi 0])),
 mn 149 (([vi 17,vi 0])),
 mn 149 (([vi 1,vi 0])),
 mn 149 (([vi 7,vi 0]))],repL [mn 149 (([vi 11,vi 0]))] 4,[mn 149 (([vi 10,vi 0])),
 mn 149 (([vi 2,vi 0])),
 mn 149 (([vi 12,vi 0])),
 mn 149 (([vi 3,vi 0])),
 mn 149 (([vi 17,vi 0])),
 mn 149 (([vi 1,vi 0])),
 mn 149 (([vi 7,vi 0])),
 mn 149 (([vi 11,vi 0])),
 mn 149 (([vi 11,vi 0])),
 mn 149 (([vi 10,vi 0])),
 mn 149 (([vi 2,vi 0])),
 mn 149 (([vi 12,vi 0])),
 mn 149 (([vi 3,vi 0])),
 mn 149 (([vi 17,vi 0])),
 mn 149 (([vi 1,vi 0])),
 mn 149 (([vi 7,vi 0])),
 mn 149 (([vi 11,vi 0])),
 mn 240 (([.ptr 20920 0])),
 mn 2 (([vi 1])),
 .dead,
 mn 2 (([vi 11])),
 mn 46 (([.v (.string ⟨#[]⟩),vi 11,vi 1,.su 20973 0 1 0 1,vi 459,vi 1])),
 mn 46 (([.v (.string ⟨#[]⟩),vi 1,vi 1,.su 7946 0 1 0 1,vi 450,vi 1])),
 mn 46 (([.v (.string ⟨#[]⟩),vi 2,vi 1,.su 8414 0 1 0 1,vi 451,vi 1])),
 mn 46 (([.v (.string ⟨#[]⟩),vi 3,vi 1,.su 8874 0 2 0 2,vi 452,vi 1])),
 mn 46 (([.v (.string ⟨#[]⟩),vi 4,vi 2,.su 9336 0 1 0 1,vi 453,vi 1])),
 mn 46 (([.v (.string ⟨#[]⟩),vi 5,vi 1,.su 9800 0 1 0 1,vi 0,vi 0])),
 mn 46 (([.v (.string ⟨#[]⟩),vi 6,vi 1,.su 10169 0 1 0 1,vi 454,vi 1])),
 mn 46 (([.v (.string ⟨#[]⟩),vi 7,vi 1,.su 10532 0 1 0 1,vi 455,vi 1])),
 mn 46 (([.v (.string ⟨#[]⟩),vi 8,vi 1,.su 12145 0 1 0 1,vi 456,vi 1])),
 mn 46 (([.v (.string ⟨#[]⟩),vi 9,vi 1,.su 12532 0 1 0 1,vi 457,vi 1])),
 mn 46 (([.v (.string ⟨#[]⟩),vi 10,vi 1,.su 12933 0 1 0 1,vi 458,vi 1])),
 mn 46 (([.v (.string ⟨#[]⟩),vi 11,vi 1,.su 13910 0 1 0 1,vi 459,vi 1])),
 mn 46 (([.v (.string ⟨#[]⟩),vi 11,vi 1,.su 20973 0 1 0 1,vi 459,vi 1])),
 mn 46 (([.v (.string ⟨#[]⟩),vi 11,vi 1,.su 20973 0 1 0 1,vi 459,vi 1])),
 mn 3 (([])),
 ms 3 1 (([vi 2])),
 mn 46 (([.v (.string ⟨#[]⟩),vi 11,vi 1,.su 20973 0 1 0 1,vi 459,vi 1])),
 mn 149 (([vi 11,vi 0])),
 mn 149 (([vi 11,vi 0])),
 mn 149 (([vi 11,vi 0])),
 mn 149 (([vi 10,vi 0])),
 mn 149 (([vi 2,vi 0])),
 mn 149 (([vi 12,vi 0])),
 mn 149 (([vi 3,vi 0])),
 mn 149 (([vi 17,vi 0])),
 mn 149 (([vi 1,vi 0])),
 mn 149 (([vi 7,vi 0])),
 mn 149 (([vi 11,vi 0])),
 mn 240 (([.ptr 20920 0])),
 mn 149 (([vi 11,vi 0])),
 mn 149 (([vi 11,vi 0])),
 mn 149 (([vi 11,vi 0])),
 mn 149 (([vi 10,vi 0])),
 mn 149 (([vi 2,vi 0])),
 mn 149 (([vi 12,vi 0])),
 mn 149 (([vi 3,vi 0])),
 mn 149 (([vi 17,vi 0])),
 mn 149 (([vi 1,vi 0])),
 mn 149 (([vi 7,vi 0]))],repL [mn 149 (([vi 11,vi 0]))] 4,[mn 149 (([vi 10,vi 0])),
 mn 149 (([vi 2,vi 0])),
 mn 149 (([vi 12,vi 0])),
 mn 149 (([vi 3,vi 0])),
 mn 149 (([vi 17,vi 0])),
 mn 149 (([vi 1,vi 0])),
 mn 149 (([vi 7,vi 0])),
 mn 149 (([vi 11,vi 0])),
 mn 149 (([vi 11,vi 0])),
 mn 149 (([vi 10,vi 0])),
 mn 149 (([vi 2,vi 0])),
 mn 149 (([vi 12,vi 0])),
 mn 149 (([vi 3,vi 0])),
 mn 149 (([vi 17,vi 0])),
 mn 149 (([vi 1,vi 0])),
 mn 149 (([vi 7,vi 0])),
 mn 149 (([vi 11,vi 0])),
 mn 240 (([.ptr 20920 0])),
 mn 2 (([vi 0])),
 ms 2 1 (([vi 1,vi 0])),
 mn 36 (([vi 1,.su 13940 0 1 0 1,.su 21020 0 2 0 2])),
 mn 36 (([vi 1,.sl 20670 0 1 1,.su 20672 0 2 0 2])),
 mn 2 (([vi 1,vi 1])),
 mn 36 (([vi 1,.sl 21025 0 1 1,.su 21027 0 2 0 2])),
 mn 3 (([vi 2])),
 mn 2 (([])),
 ms 2 1 (([vi 1,vi 1])),
 mn 46 (([.v (.string ⟨#[]⟩),vi 13,vi 1,.su 15867 0 1 0 1,vi 461,vi 1])),
 mn 36 (([vi 1,.sl 21025 0 1 1,.su 21027 0 2 0 2]))],deadL 38,[ms 3 1 (([vi 2]))]]),21069⟩
end Go.Proofs.YtlmpjdionndncaaGreatDoor.RSeekNames
/-
 SeekNames: a state of its run (5606).
-/
namespace Go.Proofs.YtlmpjdionndncaaGreatDoor.RSeekNames
open Go Go.RowKit Ev
set_option maxRecDepth 100000
noncomputable def st5606 : ASt := ⟨⟨43,71,(patS st5605.fr.T [(8,.ptr 21069 0),(9,vb true),(10,.ptr 21070 0),(11,vi 0),(16,.tup ([.agg ([.v (.string ⟨#[]⟩),vi 13,vi 1,.su 21068 0 1 0 1,vi 461,vi 1]),vb true])),(20,.agg ([.v (.string ⟨#[]⟩),vi 13,vi 1,.su 21068 0 1 0 1,vi 461,vi 1])),(21,vb true),(22,vb true),(23,vb false),(24,vb false),(25,vi 0),(26,vb false),(27,vb false),(28,vb false),(29,vi 0),(30,.ptr 21069 3),(31,.su 21068 0 1 0 1),(32,vi 2),(33,vb false),(34,vb false),(35,vi 13),(36,vi 0),(37,.ptr 7646 0),(38,vi 13),(39,vi 0),(40,.agg ([vi 13,vi 0])),(41,.ptr 7646 0),(42,.ptr 7646 0),(43,.ptr 7646 10),(44,.ptr 7647 0),(45,.agg ([vi 13,vi 0])),(46,vi 0)]),.no,[cd 43 [1,1,1,1,1,0,1],cd 43 [1,1,1,1,1,1]],[],false,none,21050⟩,(cat2 [] (drN 0 st5605.cs)),
 addL (patL (kilL st5605.H [(21068,1)]) [(15513,ms 240 1 (([.ptr 10099 0,.ptr 16159 0,.ptr 15300 0,.ptr 19123 0,.ptr 10792 0,.ptr 20509 0,.ptr 20920 0,.ptr 21281 0])))]) 21069 (catL [[.dead,
 mn 149 (([vi 13,vi 0]))],deadL 209,[ms 2 1 (([vi 1,vi 1])),
 mn 239 (([vi 13,vi 0,vi 1,.su 21280 0 2 0 2,vi 1,vb false,vi 0])),
 .dead,
 .dead]]),21284⟩
end Go.Proofs.YtlmpjdionndncaaGreatDoor.RSeekNames
/-
 SeekNames: a state of its run (5607).
-/
namespace Go.Proofs.YtlmpjdionndncaaGreatDoor.RSeekNames
open Go Go.RowKit Ev
set_option maxRecDepth 100000
noncomputable def st5607 : ASt := ⟨⟨43,71,(patS .e [(0,.ptr 7646 0),(1,vi 14),(2,vi 0),(6,vi 0),(7,vi 0),(14,.ptr 7646 0),(15,vb false),(17,.ptr 7646 0),(18,vi 14),(19,.tup ([.agg ([.v (.string ⟨#[]⟩),vi 14,vi 1,.su 21433 0 1 0 1,vi 462,vi 1]),vb true]))]),(rg 43 [1,1,0] 3),[cd 43 [1,1,1]],[],false,none,21414⟩,(cat2 [⟨36,44,(patS (frC st5606 0).T [(1,vi 14),(6,.ptr 21413 0),(14,.tup ([.agg ([.v (.string ⟨#[]⟩),vi 14,vi 1,.su 21412 0 1 0 1,vi 462,vi 1]),vb true])),(16,vi 14),(17,.tup ([.agg ([.v (.string ⟨#[]⟩),vi 14,vi 1,.su 21412 0 1 0 1,vi 462,vi 1]),vb true])),(18,.agg ([.v (.string ⟨#[]⟩),vi 14,vi 1,.su 21412 0 1 0 1,vi 462,vi 1])),(22,.ptr 21413 3),(23,.su 21412 0 1 0 1),(30,vi 14)]),(rg 36 [1,1,1,1,1,0,1,0,0,1,1,0,0,1,0] 3),[cd 36 [1,1,1,1,1,0,1,0,0,1,1,0,0,1,1],.inBlock 1,cd 36 [1,1,1,1,1,0,1,0,0,1,1,1],il 36 [1,1,1,1,1,0,1,0,0],.inBlock 0,cd 36 [1,1,1,1,1,1]],[],false,none,21393⟩,
 ⟨29,35,(patS (frC st5606 1).T [(1,.agg ([.v (.string ⟨#[]⟩),vi 14,vi 1,.su 17269 0 1 0 1,vi 462,vi 1])),(3,.agg ([vi 1,.sl 21388 0 1 1,.su 21390 0 2 0 2])),(5,.ptr 21391 0),(7,.ptr 21392 0),(14,.ptr 21391 1),(15,vi 14)]),(drC (subC (bodyF Tryz.prog 29) [1,0]) 15 (patS .e [(0,.ptr 7667 0),(1,.ptr 7646 0),(2,.ptr 21391 1),(3,vi 14)]) (patS .e [(0,.ptr 7667 0),(1,.agg ([.v (.string ⟨#[]⟩),vi 14,vi 1,.su 17269 0 1 0 1,vi 462,vi 1])),(2,vi 0),(3,.agg ([vi 1,.sl 21388 0 1 1,.su 21390 0 2 0 2])),(5,.ptr 21391 0),(7,.ptr 21392 0),(8,vb false)]) [] (some 4)),[cd 29 [1,1]],[],false,none,21391⟩,
 ⟨6,272,(patS (frC st5606 2).T [(178,vb true),(179,vb true),(180,vb true),(181,.ptr 7667 0),(182,.agg ([.v (.string ⟨#[]⟩),vi 14,vi 1,.su 17269 0 1 0 1,vi 462,vi 1])),(183,vi 0),(184,.sl 21386 0 2 2),(185,.agg ([vi 1,.sl 21388 0 1 1,.su 21390 0 2 0 2]))]),(drC (subC (bodyF Tryz.prog 6) [1,1,1,1,1,1,1,1,1,1,1,1,1,1,1,1,1,1,1,1,1,1,1,0]) 4294967295 (patS .e [(0,vi 3),(1,vb true),(2,vb true),(3,.ptr 7667 0),(4,.agg ([.v (.string ⟨#[]⟩),vi 7,vi 1,.su 10562 0 1 0 1,vi 455,vi 1])),(5,vi 0),(6,.sl 20245 0 3 3),(7,.agg ([vi 1,.sl 20247 0 1 1,.su 20249 0 3 0 3])),(8,vb true),(9,vb true),(10,vb true),(11,.ptr 7667 0),(12,.agg ([.v (.string ⟨#[]⟩),vi 11,vi 1,.su 13940 0 1 0 1,vi 459,vi 1])),(13,vi 0),(14,.sl 20668 0 2 2),(15,.agg ([vi 1,.sl 20670 0 1 1,.su 20672 0 2 0 2])),(16,vb true),(17,vb true),(18,vb true),(19,.ptr 7667 0),(20,.agg ([.v (.string ⟨#[]⟩),vi 13,vi 1,.su 15867 0 1 0 1,vi 461,vi 1])),(21,vi 0),(22,.sl 21023 0 2 2),(23,.agg ([vi 1,.sl 21025 0 1 1,.su 21027 0 2 0 2])),(24,vb true),(25,vb true),(26,vb true),(27,.ptr 7667 0),(28,.agg ([.v (.string ⟨#[]⟩),vi 14,vi 1,.su 17269 0 1 0 1,vi 462,vi 1])),(29,vi 0),(30,.sl 21386 0 2 2),(31,.agg ([vi 1,.sl 21388 0 1 1,.su 21390 0 2 0 2]))]) (patS .e [(0,vb false),(1,.ptr 7667 0),(2,.ptr 9844 0),(3,vi 3),(4,.ptr 11995 0),(5,vi 0),(6,.ptr 15034 0),(7,vi 0),(8,.ptr 17190 0),(9,vi 0),(10,vi 8),(11,.ptr 17563 0),(12,vi 0),(13,.ptr 18111 0),(14,vi 0),(15,.ptr 18148 0),(16,vi 201),(17,.ptr 18158 0),(18,vi 260),(19,.ptr 18168 0),(20,vi 260),(21,.ptr 18815 0),(22,vi 0),(23,vi 1),(24,vi 0),(25,vi 0),(26,vi 0),(27,vi 0),(28,vi 0),(29,vi 0),(30,vi 201),(31,vi 0),(32,vi 0),(33,.v (.pointer none)),(34,.ptr 20229 0),(35,vi 1),(36,.ptr 20240 0),(37,vi 1),(38,vi 0),(39,vi 1),(41,.ptr 7667 0),(42,.ptr 7667 0),(43,vb false),(44,.tup ([.agg ([.v (.string ⟨#[]⟩),vi 0,vi 0,.v (.slice none 0 0),vi 0,vi 0]),vi 3])),(45,.ptr 7667 0),(46,.agg ([vi 2,vi 2,vi 3,vb true])),(47,.tup ([.agg ([.v (.string ⟨#[]⟩),vi 0,vi 0,.v (.slice none 0 0),vi 0,vi 0]),vi 3])),(48,.agg ([.v (.string ⟨#[]⟩),vi 0,vi 0,.v (.slice none 0 0),vi 0,vi 0])),(49,vi 3),(50,.tup ([.agg ([.v (.string ⟨#[]⟩),vi 7,vi 1,.su 10562 0 1 0 1,vi 455,vi 1]),vi 0])),(51,.ptr 7667 0),(52,.agg ([vi 2,vi 2,vi 3,vb true])),(53,.tup ([.agg ([.v (.string ⟨#[]⟩),vi 7,vi 1,.su 10562 0 1 0 1,vi 455,vi 1]),vi 0])),(54,.agg ([.v (.string ⟨#[]⟩),vi 7,vi 1,.su 10562 0 1 0 1,vi 455,vi 1])),(55,vi 0),(56,.tup ([.agg ([.v (.string ⟨#[]⟩),vi 11,vi 1,.su 13940 0 1 0 1,vi 459,vi 1]),vi 0])),(57,.ptr 7667 0),(58,.agg ([vi 2,vi 2,vi 3,vb true])),(59,.tup ([.agg ([.v (.string ⟨#[]⟩),vi 11,vi 1,.su 13940 0 1 0 1,vi 459,vi 1]),vi 0])),(60,.agg ([.v (.string ⟨#[]⟩),vi 11,vi 1,.su 13940 0 1 0 1,vi 459,vi 1])),(61,vi 0),(62,.tup ([.agg ([.v (.string ⟨#[]⟩),vi 13,vi 1,.su 15867 0 1 0 1,vi 461,vi 1]),vi 0])),(63,.ptr 7667 0),(64,.agg ([vi 2,vi 2,vi 3,vb true])),(65,.tup ([.agg ([.v (.string ⟨#[]⟩),vi 13,vi 1,.su 15867 0 1 0 1,vi 461,vi 1]),vi 0])),(66,.agg ([.v (.string ⟨#[]⟩),vi 13,vi 1,.su 15867 0 1 0 1,vi 461,vi 1])),(67,vi 0),(68,.ptr 7667 0),(69,vi 8),(70,.tup ([.agg ([.v (.string ⟨#[]⟩),vi 14,vi 1,.su 17269 0 1 0 1,vi 462,vi 1]),vi 0])),(71,.ptr 7667 0),(72,.agg ([vi 2,vi 2,vi 3,vb true])),(73,.tup ([.agg ([.v (.string ⟨#[]⟩),vi 14,vi 1,.su 17269 0 1 0 1,vi 462,vi 1]),vi 0])),(74,.agg ([.v (.string ⟨#[]⟩),vi 14,vi 1,.su 17269 0 1 0 1,vi 462,vi 1])),(75,vi 0),(76,.tup ([.agg ([.v (.string ⟨#[]⟩),vi 16,vi 1,.su 17693 0 2 0 2,vi 463,vi 1]),vi 0])),(77,.ptr 7667 0),(78,.agg ([vi 2,vi 2,vi 3,vb true])),(79,.tup ([.agg ([.v (.string ⟨#[]⟩),vi 16,vi 1,.su 17693 0 2 0 2,vi 463,vi 1]),vi 0])),(80,.agg ([.v (.string ⟨#[]⟩),vi 16,vi 1,.su 17693 0 2 0 2,vi 463,vi 1])),(81,vi 0),(82,.tup ([.agg ([.v (.string ⟨#[]⟩),vi 0,vi 0,.v (.slice none 0 0),vi 0,vi 0]),vi 201])),(83,.ptr 7667 0),(84,.agg ([vi 2,vi 2,vi 3,vb true])),(85,.tup ([.agg ([.v (.string ⟨#[]⟩),vi 0,vi 0,.v (.slice none 0 0),vi 0,vi 0]),vi 201])),(86,.agg ([.v (.string ⟨#[]⟩),vi 0,vi 0,.v (.slice none 0 0),vi 0,vi 0])),(87,vi 201),(88,.tup ([.agg ([.v (.string ⟨#[]⟩),vi 0,vi 0,.v (.slice none 0 0),vi 0,vi 0]),vi 260])),(89,.ptr 7667 0),(90,.agg ([vi 0,vi 2,vi 3,vb true])),(91,.tup ([.agg ([.v (.string ⟨#[]⟩),vi 0,vi 0,.v (.slice none 0 0),vi 0,vi 0]),vi 260])),(92,.agg ([.v (.string ⟨#[]⟩),vi 0,vi 0,.v (.slice none 0 0),vi 0,vi 0])),(93,vi 260),(94,.tup ([.agg ([.v (.string ⟨#[]⟩),vi 0,vi 0,.v (.slice none 0 0),vi 0,vi 0]),vi 260])),(95,.ptr 7667 0),(96,.agg ([vi 0,vi 2,vi 3,vb true])),(97,.tup ([.agg ([.v (.string ⟨#[]⟩),vi 0,vi 0,.v (.slice none 0 0),vi 0,vi 0]),vi 260])),(98,.agg ([.v (.string ⟨#[]⟩),vi 0,vi 0,.v (.slice none 0 0),vi 0,vi 0])),(99,vi 260),(100,.tup ([.agg ([.v (.string ⟨#[]⟩),vi 17,vi 1,.su 18811 0 1 0 1,vi 464,vi 1]),vi 0])),(101,.ptr 7667 0),(102,.agg ([vi 9,vi 2,vi 8,vb false])),(103,.tup ([.agg ([.v (.string ⟨#[]⟩),vi 17,vi 1,.su 18811 0 1 0 1,vi 464,vi 1]),vi 0])),(104,.agg ([.v (.string ⟨#[]⟩),vi 17,vi 1,.su 18811 0 1 0 1,vi 464,vi 1])),(105,vi 0),(106,.tup ([vi 1,vi 0])),(107,.ptr 7667 0),(108,.ptr 18815 1),(109,vi 17),(110,.tup ([vi 1,vi 0])),(111,vi 1),(112,vi 0),(113,.tup ([vi 0,vi 0])),(114,.ptr 7667 0),(115,.ptr 18815 1),(116,vi 17),(117,.tup ([vi 0,vi 0])),(118,vi 0),(119,vi 0),(120,.tup ([vi 0,vi 0])),(121,.ptr 7667 0),(122,.ptr 18815 1),(123,vi 17),(124,.tup ([vi 0,vi 0])),(125,vi 0),(126,vi 0),(127,.tup ([vi 0,vi 201])),(128,.ptr 7667 0),(129,.tup ([vi 0,vi 201])),(130,vi 0),(131,vi 201),(132,.tup ([vi 0,vi 0])),(133,.ptr 7667 0),(134,.tup ([vi 0,vi 0])),(135,vi 0),(136,vi 0),(137,.tup ([.agg ([.v (.string ⟨#[]⟩),vi 0,vi 0,.v (.slice none 0 0),vi 0,vi 0]),vi 1])),(138,.v (.pointer none)),(139,.agg ([vi 0,vi 0,vi 1,vb true])),(140,.tup ([.agg ([.v (.string ⟨#[]⟩),vi 0,vi 0,.v (.slice none 0 0),vi 0,vi 0]),vi 1])),(141,.agg ([.v (.string ⟨#[]⟩),vi 0,vi 0,.v (.slice none 0 0),vi 0,vi 0])),(142,vi 1),(143,.tup ([.agg ([.v (.string ⟨#[]⟩),vi 0,vi 0,.v (.slice none 0 0),vi 0,vi 0]),vi 1])),(144,.v (.pointer none)),(145,.agg ([vi 0,vi 0,vi 1,vb true])),(146,.tup ([.agg ([.v (.string ⟨#[]⟩),vi 0,vi 0,.v (.slice none 0 0),vi 0,vi 0]),vi 1])),(147,.agg ([.v (.string ⟨#[]⟩),vi 0,vi 0,.v (.slice none 0 0),vi 0,vi 0])),(148,vi 1),(149,.tup ([vi 0,vi 1])),(150,.v (.pointer none)),(151,.tup ([vi 0,vi 1])),(152,vi 0),(153,vi 1)]) [] (some 32)),[cd 6 [1,1,1,1,1,1,1,1,1,1,1,1,1,1,1,1,1,1,1,1,1,1,1,1]],[],false,none,0⟩] (drN 3 st5606.cs)),
 addL (patL (kilL st5606.H []) [(21281,mn 239 (([vi 13,vi 0,vi 1,.su 21280 0 2 0 2,vi 0,vb false,vi 0])))]) 21284 (catL [[mn 149 (([vi 13,vi 0])),
 mn 149 (([vi 13,vi 0])),
 mn 149 (([vi 13,vi 0])),
 mn 149 (([vi 2,vi 0])),
 mn 149 (([vi 12,vi 0])),
 mn 149 (([vi 3,vi 0])),
 mn 149 (([vi 17,vi 0])),
 mn 149 (([vi 1,vi 0])),
 mn 149 (([vi 7,vi 0])),
 mn 149 (([vi 11,vi 0]))],repL [mn 149 (([vi 13,vi 0]))] 4,[mn 149 (([vi 2,vi 0])),
 mn 149 (([vi 12,vi 0])),
 mn 149 (([vi 3,vi 0])),
 mn 149 (([vi 17,vi 0])),
 mn 149 (([vi 1,vi 0])),
 mn 149 (([vi 7,vi 0])),
 mn 149 (([vi 11,vi 0])),
 mn 149 (([vi 13,vi 0])),
 mn 149 (([vi 13,vi 0])),
 mn 149 (([vi 2,vi 0])),
 mn 149 (([vi 12,vi 0])),
 mn 149 (([vi 3,vi 0])),
 mn 149 (([vi 17,vi 0])),
 mn 149 (([vi 1,vi 0])),
 mn 149 (([vi 7,vi 0])),
 mn 149 (([vi 11,vi 0])),
 mn 149 (([vi 13,vi 0])),
 mn 240 (([.ptr 21281 0])),
 mn 2 (([vi 1])),
 .dead,
 mn 2 (([vi 13])),
 mn 46 (([.v (.string ⟨#[]⟩),vi 13,vi 1,.su 21336 0 1 0 1,vi 461,vi 1])),
 mn 46 (([.v (.string ⟨#[]⟩),vi 1,vi 1,.su 7946 0 1 0 1,vi 450,vi 1])),
 mn 46 (([.v (.string ⟨#[]⟩),vi 2,vi 1,.su 8414 0 1 0 1,vi 451,vi 1])),
 mn 46 (([.v (.string ⟨#[]⟩),vi 3,vi 1,.su 8874 0 2 0 2,vi 452,vi 1])),
 mn 46 (([.v (.string ⟨#[]⟩),vi 4,vi 2,.su 9336 0 1 0 1,vi 453,vi 1])),
 mn 46 (([.v (.string ⟨#[]⟩),vi 5,vi 1,.su 9800 0 1 0 1,vi 0,vi 0])),
 mn 46 (([.v (.string ⟨#[]⟩),vi 6,vi 1,.su 10169 0 1 0 1,vi 454,vi 1])),
 mn 46 (([.v (.string ⟨#[]⟩),vi 7,vi 1,.su 10532 0 1 0 1,vi 455,vi 1])),
 mn 46 (([.v (.string ⟨#[]⟩),vi 8,vi 1,.su 12145 0 1 0 1,vi 456,vi 1])),
 mn 46 (([.v (.string ⟨#[]⟩),vi 9,vi 1,.su 12532 0 1 0 1,vi 457,vi 1])),
 mn 46 (([.v (.string ⟨#[]⟩),vi 10,vi 1,.su 12933 0 1 0 1,vi 458,vi 1])),
 mn 46 (([.v (.string ⟨#[]⟩),vi 11,vi 1,.su 13910 0 1 0 1,vi 459,vi 1])),
 mn 46 (([.v (.string ⟨#[]⟩),vi 12,vi 1,.su 15413 0 1 0 1,vi 460,vi 1])),
 mn 46 (([.v (.string ⟨#[]⟩),vi 13,vi 1,.su 15837 0 1 0 1,vi 461,vi 1])),
 mn 46 (([.v (.string ⟨#[]⟩),vi 13,vi 1,.su 21336 0 1 0 1,vi 461,vi 1])),
 mn 46 (([.v (.string ⟨#[]⟩),vi 13,vi 1,.su 21336 0 1 0 1,vi 461,vi 1])),
 mn 3 (([])),
 ms 3 1 (([vi 2])),
 mn 46 (([.v (.string ⟨#[]⟩),vi 13,vi 1,.su 21336 0 1 0 1,vi 461,vi 1])),
 mn 149 (([vi 13,vi 0])),
 mn 149 (([vi 13,vi 0])),
 mn 149 (([vi 13,vi 0])),
 mn 149 (([vi 2,vi 0])),
 mn 149 (([vi 12,vi 0])),
 mn 149 (([vi 3,vi 0])),
 mn 149 (([vi 17,vi 0])),
 mn 149 (([vi 1,vi 0])),
 mn 149 (([vi 7,vi 0])),
 mn 149 (([vi 11,vi 0])),
 mn 149 (([vi 13,vi 0])),
 mn 240 (([.ptr 21281 0])),
 mn 149 (([vi 13,vi 0])),
 mn 149 (([vi 13,vi 0])),
 mn 149 (([vi 13,vi 0])),
 mn 149 (([vi 2,vi 0])),
 mn 149 (([vi 12,vi 0])),
 mn 149 (([vi 3,vi 0])),
 mn 149 (([vi 17,vi 0])),
 mn 149 (([vi 1,vi 0])),
 mn 149 (([vi 7,vi 0])),
 mn 149 (([vi 11,vi 0]))],repL [mn 149 (([vi 13,vi 0]))] 4,[mn 149 (([vi 2,vi 0])),
 mn 149 (([vi 12,vi 0])),
 mn 149 (([vi 3,vi 0])),
 mn 149 (([vi 17,vi 0])),
 mn 149 (([vi 1,vi 0])),
 mn 149 (([vi 7,vi 0])),
 mn 149 (([vi 11,vi 0])),
 mn 149 (([vi 13,vi 0])),
 mn 149 (([vi 13,vi 0])),
 mn 149 (([vi 2,vi 0])),
 mn 149 (([vi 12,vi 0])),
 mn 149 (([vi 3,vi 0])),
 mn 149 (([vi 17,vi 0])),
 mn 149 (([vi 1,vi 0])),
 mn 149 (([vi 7,vi 0])),
 mn 149 (([vi 11,vi 0])),
 mn 149 (([vi 13,vi 0])),
 mn 240 (([.ptr 21281 0])),
 mn 2 (([vi 1])),
 ms 2 1 (([vi 1,vi 1])),
 mn 36 (([vi 1,.su 15867 0 1 0 1,.su 21383 0 2 0 2])),
 mn 36 (([vi 1,.sl 21025 0 1 1,.su 21027 0 2 0 2])),
 mn 2 (([vi 4,vi 4])),
 mn 36 (([vi 1,.sl 21388 0 1 1,.su 21390 0 2 0 2])),
 mn 3 (([vi 2])),
 mn 2 (([])),
 ms 2 1 (([vi 4,vi 4])),
 mn 46 (([.v (.string ⟨#[]⟩),vi 14,vi 1,.su 17269 0 1 0 1,vi 462,vi 1])),
 mn 36 (([vi 1,.sl 21388 0 1 1,.su 21390 0 2 0 2]))],deadL 40,[ms 3 1 (([vi 2]))]]),21434⟩
end Go.Proofs.YtlmpjdionndncaaGreatDoor.RSeekNames
/-
 SeekNames: a state of its run (5608).
-/
namespace Go.Proofs.YtlmpjdionndncaaGreatDoor.RSeekNames
open Go Go.RowKit Ev
set_option maxRecDepth 100000
noncomputable def st5608 : ASt := ⟨⟨43,71,(patS st5607.fr.T [(8,.ptr 21434 0),(9,vb true),(10,.ptr 21435 0),(11,vi 0),(16,.tup ([.agg ([.v (.string ⟨#[]⟩),vi 14,vi 1,.su 21433 0 1 0 1,vi 462,vi 1]),vb true])),(20,.agg ([.v (.string ⟨#[]⟩),vi 14,vi 1,.su 21433 0 1 0 1,vi 462,vi 1])),(21,vb true),(22,vb true),(23,vb false),(24,vb false),(25,vi 0),(26,vb false),(27,vb false),(28,vb false),(29,vi 0),(30,.ptr 21434 3),(31,.su 21433 0 1 0 1),(32,vi 2),(33,vb false),(34,vb false),(35,vi 14),(36,vi 0),(37,.ptr 7646 0),(38,vi 13),(39,vi 0),(40,.agg ([vi 14,vi 0])),(41,.ptr 7646 0),(42,.ptr 7646 0),(43,.ptr 7646 10),(44,.ptr 7647 0),(45,.agg ([vi 14,vi 0])),(46,vi 0)]),.no,[cd 43 [1,1,1,1,1,0,1],cd 43 [1,1,1,1,1,1]],[],false,none,21414⟩,(cat2 [] (drN 0 st5607.cs)),
 addL (patL (kilL st5607.H [(21433,1)]) [(15513,ms 240 1 (([.ptr 16159 0,.ptr 15300 0,.ptr 19123 0,.ptr 10792 0,.ptr 20509 0,.ptr 20920 0,.ptr 21281 0,.ptr 21647 0])))]) 21434 (catL [[.dead,
 mn 149 (([vi 14,vi 0]))],deadL 210,[ms 2 1 (([vi 4,vi 4])),
 mn 239 (([vi 14,vi 0,vi 1,.su 21646 0 2 0 2,vi 1,vb false,vi 0])),
 .dead,
 .dead]]),21650⟩
end Go.Proofs.YtlmpjdionndncaaGreatDoor.RSeekNames
/-
 SeekNames: a state of its run (5609).
-/
namespace Go.Proofs.YtlmpjdionndncaaGreatDoor.RSeekNames
open Go Go.RowKit Ev
set_option maxRecDepth 100000
noncomputable def st5609 : ASt := ⟨⟨43,71,(patS .e [(0,.ptr 7646 0),(1,vi 16),(2,vi 0),(6,vi 0),(7,vi 0),(14,.ptr 7646 0),(15,vb false),(17,.ptr 7646 0),(18,vi 16),(19,.tup ([.agg ([.v (.string ⟨#[]⟩),vi 16,vi 1,.su 21801 0 2 0 2,vi 463,vi 1]),vb true]))]),(rg 43 [1,1,0] 3),[cd 43 [1,1,1]],[],false,none,21780⟩,(cat2 [⟨36,44,(patS (frC st5608 0).T [(1,vi 16),(6,.ptr 21779 0),(14,.tup ([.agg ([.v (.string ⟨#[]⟩),vi 16,vi 1,.su 21778 0 2 0 2,vi 463,vi 1]),vb true])),(16,vi 16),(17,.tup ([.agg ([.v (.string ⟨#[]⟩),vi 16,vi 1,.su 21778 0 2 0 2,vi 463,vi 1]),vb true])),(18,.agg ([.v (.string ⟨#[]⟩),vi 16,vi 1,.su 21778 0 2 0 2,vi 463,vi 1])),(22,.ptr 21779 3),(23,.su 21778 0 2 0 2),(30,vi 16)]),(rg 36 [1,1,1,1,1,0,1,0,0,1,1,0,0,1,0] 3),[cd 36 [1,1,1,1,1,0,1,0,0,1,1,0,0,1,1],.inBlock 1,cd 36 [1,1,1,1,1,0,1,0,0,1,1,1],il 36 [1,1,1,1,1,0,1,0,0],.inBlock 0,cd 36 [1,1,1,1,1,1]],[],false,none,21757⟩,
 ⟨29,35,(patS (frC st5608 1).T [(1,.agg ([.v (.string ⟨#[]⟩),vi 16,vi 1,.su 17693 0 2 0 2,vi 463,vi 1])),(3,.agg ([vi 1,.sl 21753 0 2 2,.sl 21754 0 2 2])),(5,.ptr 21755 0),(7,.ptr 21756 0),(14,.ptr 21755 1),(15,vi 16)]),(drC (subC (bodyF Tryz.prog 29) [1,0]) 15 (patS .e [(0,.ptr 7667 0),(1,.ptr 7646 0),(2,.ptr 21755 1),(3,vi 16)]) (patS .e [(0,.ptr 7667 0),(1,.agg ([.v (.string ⟨#[]⟩),vi 16,vi 1,.su 17693 0 2 0 2,vi 463,vi 1])),(2,vi 0),(3,.agg ([vi 1,.sl 21753 0 2 2,.sl 21754 0 2 2])),(5,.ptr 21755 0),(7,.ptr 21756 0),(8,vb false)]) [] (some 4)),[cd 29 [1,1]],[],false,none,21755⟩,
 ⟨6,272,(patS (frC st5608 2).T [(186,vb true),(187,vb true),(188,vb true),(189,.ptr 17563 1),(190,vi 14),(191,vi 8),(192,vi 14),(193,vb true),(194,vb true),(195,vb true),(196,.ptr 7667 0),(197,.agg ([.v (.string ⟨#[]⟩),vi 16,vi 1,.su 17693 0 2 0 2,vi 463,vi 1])),(198,vi 0),(199,.sl 21753 0 2 2),(200,.sl 21754 0 2 2),(201,.agg ([vi 1,.sl 21753 0 2 2,.sl 21754 0 2 2]))]),(drC (subC (bodyF Tryz.prog 6) [1,1,1,1,1,1,1,1,1,1,1,1,1,1,1,1,1,1,1,1,1,1,1,0]) 281474976710655 (patS .e [(0,vi 3),(1,vb true),(2,vb true),(3,.ptr 7667 0),(4,.agg ([.v (.string ⟨#[]⟩),vi 7,vi 1,.su 10562 0 1 0 1,vi 455,vi 1])),(5,vi 0),(6,.sl 20245 0 3 3),(7,.agg ([vi 1,.sl 20247 0 1 1,.su 20249 0 3 0 3])),(8,vb true),(9,vb true),(10,vb true),(11,.ptr 7667 0),(12,.agg ([.v (.string ⟨#[]⟩),vi 11,vi 1,.su 13940 0 1 0 1,vi 459,vi 1])),(13,vi 0),(14,.sl 20668 0 2 2),(15,.agg ([vi 1,.sl 20670 0 1 1,.su 20672 0 2 0 2])),(16,vb true),(17,vb true),(18,vb true),(19,.ptr 7667 0),(20,.agg ([.v (.string ⟨#[]⟩),vi 13,vi 1,.su 15867 0 1 0 1,vi 461,vi 1])),(21,vi 0),(22,.sl 21023 0 2 2),(23,.agg ([vi 1,.sl 21025 0 1 1,.su 21027 0 2 0 2])),(24,vb true),(25,vb true),(26,vb true),(27,.ptr 7667 0),(28,.agg ([.v (.string ⟨#[]⟩),vi 14,vi 1,.su 17269 0 1 0 1,vi 462,vi 1])),(29,vi 0),(30,.sl 21386 0 2 2),(31,.agg ([vi 1,.sl 21388 0 1 1,.su 21390 0 2 0 2])),(32,vb true),(33,vb true),(34,vb true),(35,.ptr 17563 1),(36,vi 14),(37,vi 8),(38,vi 14),(39,vb true),(40,vb true),(41,vb true),(42,.ptr 7667 0),(43,.agg ([.v (.string ⟨#[]⟩),vi 16,vi 1,.su 17693 0 2 0 2,vi 463,vi 1])),(44,vi 0),(45,.sl 21753 0 2 2),(46,.sl 21754 0 2 2),(47,.agg ([vi 1,.sl 21753 0 2 2,.sl 21754 0 2 2]))]) (patS .e [(0,vb false),(1,.ptr 7667 0),(2,.ptr 9844 0),(3,vi 3),(4,.ptr 11995 0),(5,vi 0),(6,.ptr 15034 0),(7,vi 0),(8,.ptr 17190 0),(9,vi 0),(10,vi 8),(11,.ptr 17563 0),(12,vi 0),(13,.ptr 18111 0),(14,vi 0),(15,.ptr 18148 0),(16,vi 201),(17,.ptr 18158 0),(18,vi 260),(19,.ptr 18168 0),(20,vi 260),(21,.ptr 18815 0),(22,vi 0),(23,vi 1),(24,vi 0),(25,vi 0),(26,vi 0),(27,vi 0),(28,vi 0),(29,vi 0),(30,vi 201),(31,vi 0),(32,vi 0),(33,.v (.pointer none)),(34,.ptr 20229 0),(35,vi 1),(36,.ptr 20240 0),(37,vi 1),(38,vi 0),(39,vi 1),(41,.ptr 7667 0),(42,.ptr 7667 0),(43,vb false),(44,.tup ([.agg ([.v (.string ⟨#[]⟩),vi 0,vi 0,.v (.slice none 0 0),vi 0,vi 0]),vi 3])),(45,.ptr 7667 0),(46,.agg ([vi 2,vi 2,vi 3,vb true])),(47,.tup ([.agg ([.v (.string ⟨#[]⟩),vi 0,vi 0,.v (.slice none 0 0),vi 0,vi 0]),vi 3])),(48,.agg ([.v (.string ⟨#[]⟩),vi 0,vi 0,.v (.slice none 0 0),vi 0,vi 0])),(49,vi 3),(50,.tup ([.agg ([.v (.string ⟨#[]⟩),vi 7,vi 1,.su 10562 0 1 0 1,vi 455,vi 1]),vi 0])),(51,.ptr 7667 0),(52,.agg ([vi 2,vi 2,vi 3,vb true])),(53,.tup ([.agg ([.v (.string ⟨#[]⟩),vi 7,vi 1,.su 10562 0 1 0 1,vi 455,vi 1]),vi 0])),(54,.agg ([.v (.string ⟨#[]⟩),vi 7,vi 1,.su 10562 0 1 0 1,vi 455,vi 1])),(55,vi 0),(56,.tup ([.agg ([.v (.string ⟨#[]⟩),vi 11,vi 1,.su 13940 0 1 0 1,vi 459,vi 1]),vi 0])),(57,.ptr 7667 0),(58,.agg ([vi 2,vi 2,vi 3,vb true])),(59,.tup ([.agg ([.v (.string ⟨#[]⟩),vi 11,vi 1,.su 13940 0 1 0 1,vi 459,vi 1]),vi 0])),(60,.agg ([.v (.string ⟨#[]⟩),vi 11,vi 1,.su 13940 0 1 0 1,vi 459,vi 1])),(61,vi 0),(62,.tup ([.agg ([.v (.string ⟨#[]⟩),vi 13,vi 1,.su 15867 0 1 0 1,vi 461,vi 1]),vi 0])),(63,.ptr 7667 0),(64,.agg ([vi 2,vi 2,vi 3,vb true])),(65,.tup ([.agg ([.v (.string ⟨#[]⟩),vi 13,vi 1,.su 15867 0 1 0 1,vi 461,vi 1]),vi 0])),(66,.agg ([.v (.string ⟨#[]⟩),vi 13,vi 1,.su 15867 0 1 0 1,vi 461,vi 1])),(67,vi 0),(68,.ptr 7667 0),(69,vi 8),(70,.tup ([.agg ([.v (.string ⟨#[]⟩),vi 14,vi 1,.su 17269 0 1 0 1,vi 462,vi 1]),vi 0])),(71,.ptr 7667 0),(72,.agg ([vi 2,vi 2,vi 3,vb true])),(73,.tup ([.agg ([.v (.string ⟨#[]⟩),vi 14,vi 1,.su 17269 0 1 0 1,vi 462,vi 1]),vi 0])),(74,.agg ([.v (.string ⟨#[]⟩),vi 14,vi 1,.su 17269 0 1 0 1,vi 462,vi 1])),(75,vi 0),(76,.tup ([.agg ([.v (.string ⟨#[]⟩),vi 16,vi 1,.su 17693 0 2 0 2,vi 463,vi 1]),vi 0])),(77,.ptr 7667 0),(78,.agg ([vi 2,vi 2,vi 3,vb true])),(79,.tup ([.agg ([.v (.string ⟨#[]⟩),vi 16,vi 1,.su 17693 0 2 0 2,vi 463,vi 1]),vi 0])),(80,.agg ([.v (.string ⟨#[]⟩),vi 16,vi 1,.su 17693 0 2 0 2,vi 463,vi 1])),(81,vi 0),(82,.tup ([.agg ([.v (.string ⟨#[]⟩),vi 0,vi 0,.v (.slice none 0 0),vi 0,vi 0]),vi 201])),(83,.ptr 7667 0),(84,.agg ([vi 2,vi 2,vi 3,vb true])),(85,.tup ([.agg ([.v (.string ⟨#[]⟩),vi 0,vi 0,.v (.slice none 0 0),vi 0,vi 0]),vi 201])),(86,.agg ([.v (.string ⟨#[]⟩),vi 0,vi 0,.v (.slice none 0 0),vi 0,vi 0])),(87,vi 201),(88,.tup ([.agg ([.v (.string ⟨#[]⟩),vi 0,vi 0,.v (.slice none 0 0),vi 0,vi 0]),vi 260])),(89,.ptr 7667 0),(90,.agg ([vi 0,vi 2,vi 3,vb true])),(91,.tup ([.agg ([.v (.string ⟨#[]⟩),vi 0,vi 0,.v (.slice none 0 0),vi 0,vi 0]),vi 260])),(92,.agg ([.v (.string ⟨#[]⟩),vi 0,vi 0,.v (.slice none 0 0),vi 0,vi 0])),(93,vi 260),(94,.tup ([.agg ([.v (.string ⟨#[]⟩),vi 0,vi 0,.v (.slice none 0 0),vi 0,vi 0]),vi 260])),(95,.ptr 7667 0),(96,.agg ([vi 0,vi 2,vi 3,vb true])),(97,.tup ([.agg ([.v (.string ⟨#[]⟩),vi 0,vi 0,.v (.slice none 0 0),vi 0,vi 0]),vi 260])),(98,.agg ([.v (.string ⟨#[]⟩),vi 0,vi 0,.v (.slice none 0 0),vi 0,vi 0])),(99,vi 260),(100,.tup ([.agg ([.v (.string ⟨#[]⟩),vi 17,vi 1,.su 18811 0 1 0 1,vi 464,vi 1]),vi 0])),(101,.ptr 7667 0),(102,.agg ([vi 9,vi 2,vi 8,vb false])),(103,.tup ([.agg ([.v (.string ⟨#[]⟩),vi 17,vi 1,.su 18811 0 1 0 1,vi 464,vi 1]),vi 0])),(104,.agg ([.v (.string ⟨#[]⟩),vi 17,vi 1,.su 18811 0 1 0 1,vi 464,vi 1])),(105,vi 0),(106,.tup ([vi 1,vi 0])),(107,.ptr 7667 0),(108,.ptr 18815 1),(109,vi 17),(110,.tup ([vi 1,vi 0])),(111,vi 1),(112,vi 0),(113,.tup ([vi 0,vi 0])),(114,.ptr 7667 0),(115,.ptr 18815 1),(116,vi 17),(117,.tup ([vi 0,vi 0])),(118,vi 0),(119,vi 0),(120,.tup ([vi 0,vi 0])),(121,.ptr 7667 0),(122,.ptr 18815 1),(123,vi 17),(124,.tup ([vi 0,vi 0])),(125,vi 0),(126,vi 0),(127,.tup ([vi 0,vi 201])),(128,.ptr 7667 0),(129,.tup ([vi 0,vi 201])),(130,vi 0),(131,vi 201),(132,.tup ([vi 0,vi 0])),(133,.ptr 7667 0),(134,.tup ([vi 0,vi 0])),(135,vi 0),(136,vi 0),(137,.tup ([.agg ([.v (.string ⟨#[]⟩),vi 0,vi 0,.v (.slice none 0 0),vi 0,vi 0]),vi 1])),(138,.v (.pointer none)),(139,.agg ([vi 0,vi 0,vi 1,vb true])),(140,.tup ([.agg ([.v (.string ⟨#[]⟩),vi 0,vi 0,.v (.slice none 0 0),vi 0,vi 0]),vi 1])),(141,.agg ([.v (.string ⟨#[]⟩),vi 0,vi 0,.v (.slice none 0 0),vi 0,vi 0])),(142,vi 1),(143,.tup ([.agg ([.v (.string ⟨#[]⟩),vi 0,vi 0,.v (.slice none 0 0),vi 0,vi 0]),vi 1])),(144,.v (.pointer none)),(145,.agg ([vi 0,vi 0,vi 1,vb true])),(146,.tup ([.agg ([.v (.string ⟨#[]⟩),vi 0,vi 0,.v (.slice none 0 0),vi 0,vi 0]),vi 1])),(147,.agg ([.v (.string ⟨#[]⟩),vi 0,vi 0,.v (.slice none 0 0),vi 0,vi 0])),(148,vi 1),(149,.tup ([vi 0,vi 1])),(150,.v (.pointer none)),(151,.tup ([vi 0,vi 1])),(152,vi 0),(153,vi 1)]) [] (some 48)),[cd 6 [1,1,1,1,1,1,1,1,1,1,1,1,1,1,1,1,1,1,1,1,1,1,1,1]],[],false,none,0⟩] (drN 3 st5608.cs)),
 addL (patL (kilL st5608.H []) [(21647,mn 239 (([vi 14,vi 0,vi 1,.su 21646 0 2 0 2,vi 0,vb false,vi 0])))]) 21650 (catL [[mn 149 (([vi 14,vi 0])),
 mn 149 (([vi 14,vi 0])),
 mn 149 (([vi 14,vi 0])),
 mn 149 (([vi 12,vi 0])),
 mn 149 (([vi 3,vi 0])),
 mn 149 (([vi 17,vi 0])),
 mn 149 (([vi 1,vi 0])),
 mn 149 (([vi 7,vi 0])),
 mn 149 (([vi 11,vi 0])),
 mn 149 (([vi 13,vi 0]))],repL [mn 149 (([vi 14,vi 0]))] 4,[mn 149 (([vi 12,vi 0])),
 mn 149 (([vi 3,vi 0])),
 mn 149 (([vi 17,vi 0])),
 mn 149 (([vi 1,vi 0])),
 mn 149 (([vi 7,vi 0])),
 mn 149 (([vi 11,vi 0])),
 mn 149 (([vi 13,vi 0])),
 mn 149 (([vi 14,vi 0])),
 mn 149 (([vi 14,vi 0])),
 mn 149 (([vi 12,vi 0])),
 mn 149 (([vi 3,vi 0])),
 mn 149 (([vi 17,vi 0])),
 mn 149 (([vi 1,vi 0])),
 mn 149 (([vi 7,vi 0])),
 mn 149 (([vi 11,vi 0])),
 mn 149 (([vi 13,vi 0])),
 mn 149 (([vi 14,vi 0])),
 mn 240 (([.ptr 21647 0])),
 mn 2 (([vi 4])),
 .dead,
 mn 2 (([vi 14])),
 mn 46 (([.v (.string ⟨#[]⟩),vi 14,vi 1,.su 21703 0 1 0 1,vi 462,vi 1])),
 mn 46 (([.v (.string ⟨#[]⟩),vi 1,vi 1,.su 7946 0 1 0 1,vi 450,vi 1])),
 mn 46 (([.v (.string ⟨#[]⟩),vi 2,vi 1,.su 8414 0 1 0 1,vi 451,vi 1])),
 mn 46 (([.v (.string ⟨#[]⟩),vi 3,vi 1,.su 8874 0 2 0 2,vi 452,vi 1])),
 mn 46 (([.v (.string ⟨#[]⟩),vi 4,vi 2,.su 9336 0 1 0 1,vi 453,vi 1])),
 mn 46 (([.v (.string ⟨#[]⟩),vi 5,vi 1,.su 9800 0 1 0 1,vi 0,vi 0])),
 mn 46 (([.v (.string ⟨#[]⟩),vi 6,vi 1,.su 10169 0 1 0 1,vi 454,vi 1])),
 mn 46 (([.v (.string ⟨#[]⟩),vi 7,vi 1,.su 10532 0 1 0 1,vi 455,vi 1])),
 mn 46 (([.v (.string ⟨#[]⟩),vi 8,vi 1,.su 12145 0 1 0 1,vi 456,vi 1])),
 mn 46 (([.v (.string ⟨#[]⟩),vi 9,vi 1,.su 12532 0 1 0 1,vi 457,vi 1])),
 mn 46 (([.v (.string ⟨#[]⟩),vi 10,vi 1,.su 12933 0 1 0 1,vi 458,vi 1])),
 mn 46 (([.v (.string ⟨#[]⟩),vi 11,vi 1,.su 13910 0 1 0 1,vi 459,vi 1])),
 mn 46 (([.v (.string ⟨#[]⟩),vi 12,vi 1,.su 15413 0 1 0 1,vi 460,vi 1])),
 mn 46 (([.v (.string ⟨#[]⟩),vi 13,vi 1,.su 15837 0 1 0 1,vi 461,vi 1])),
 mn 46 (([.v (.string ⟨#[]⟩),vi 14,vi 1,.su 17239 0 1 0 1,vi 462,vi 1])),
 mn 46 (([.v (.string ⟨#[]⟩),vi 14,vi 1,.su 21703 0 1 0 1,vi 462,vi 1])),
 mn 46 (([.v (.string ⟨#[]⟩),vi 14,vi 1,.su 21703 0 1 0 1,vi 462,vi 1])),
 mn 3 (([])),
 ms 3 1 (([vi 2])),
 mn 46 (([.v (.string ⟨#[]⟩),vi 14,vi 1,.su 21703 0 1 0 1,vi 462,vi 1])),
 mn 149 (([vi 14,vi 0])),
 mn 149 (([vi 14,vi 0])),
 mn 149 (([vi 14,vi 0])),
 mn 149 (([vi 12,vi 0])),
 mn 149 (([vi 3,vi 0])),
 mn 149 (([vi 17,vi 0])),
 mn 149 (([vi 1,vi 0])),
 mn 149 (([vi 7,vi 0])),
 mn 149 (([vi 11,vi 0])),
 mn 149 (([vi 13,vi 0])),
 mn 149 (([vi 14,vi 0])),
 mn 240 (([.ptr 21647 0])),
 mn 149 (([vi 14,vi 0])),
 mn 149 (([vi 14,vi 0])),
 mn 149 (([vi 14,vi 0])),
 mn 149 (([vi 12,vi 0])),
 mn 149 (([vi 3,vi 0])),
 mn 149 (([vi 17,vi 0])),
 mn 149 (([vi 1,vi 0])),
 mn 149 (([vi 7,vi 0])),
 mn 149 (([vi 11,vi 0])),
 mn 149 (([vi 13,vi 0]))],repL [mn 149 (([vi 14,vi 0]))] 4,[mn 149 (([vi 12,vi 0])),
 mn 149 (([vi 3,vi 0])),
 mn 149 (([vi 17,vi 0])),
 mn 149 (([vi 1,vi 0])),
 mn 149 (([vi 7,vi 0])),
 mn 149 (([vi 11,vi 0])),
 mn 149 (([vi 13,vi 0])),
 mn 149 (([vi 14,vi 0])),
 mn 149 (([vi 14,vi 0])),
 mn 149 (([vi 12,vi 0])),
 mn 149 (([vi 3,vi 0])),
 mn 149 (([vi 17,vi 0])),
 mn 149 (([vi 1,vi 0])),
 mn 149 (([vi 7,vi 0])),
 mn 149 (([vi 11,vi 0])),
 mn 149 (([vi 13,vi 0])),
 mn 149 (([vi 14,vi 0])),
 mn 240 (([.ptr 21647 0])),
 mn 2 (([vi 4])),
 ms 2 1 (([vi 4,vi 4])),
 mn 36 (([vi 1,.su 17269 0 1 0 1,.su 21750 0 2 0 2])),
 mn 36 (([vi 1,.sl 21388 0 1 1,.su 21390 0 2 0 2])),
 mn 3 (([vi 1,vi 2])),
 mn 2 (([vi 1,vi 1])),
 mn 46 (([.v (.string ⟨#[]⟩),vi 16,vi 1,.su 17693 0 2 0 2,vi 463,vi 1])),
 mn 36 (([vi 1,.sl 21753 0 2 2,.sl 21754 0 2 2]))],deadL 44,[ms 3 1 (([vi 1,vi 2]))]]),21802⟩
end Go.Proofs.YtlmpjdionndncaaGreatDoor.RSeekNames
/-
 SeekNames: a state of its run (5610).
-/
namespace Go.Proofs.YtlmpjdionndncaaGreatDoor.RSeekNames
open Go Go.RowKit Ev
set_option maxRecDepth 100000
noncomputable def st5610 : ASt := ⟨⟨43,71,(patS st5609.fr.T [(8,.ptr 21802 0),(9,vb true),(10,.ptr 21803 0),(11,vi 0),(16,.tup ([.agg ([.v (.string ⟨#[]⟩),vi 16,vi 1,.su 21801 0 2 0 2,vi 463,vi 1]),vb true])),(20,.agg ([.v (.string ⟨#[]⟩),vi 16,vi 1,.su 21801 0 2 0 2,vi 463,vi 1])),(21,vb true),(22,vb true),(23,vb false),(24,vb false),(25,vi 0),(26,vb false),(27,vb false),(28,vb false),(29,vi 0),(30,.ptr 21802 3),(31,.su 21801 0 2 0 2),(32,vi 2),(33,vb false),(34,vb false),(35,vi 16),(36,vi 0),(37,.ptr 7646 0),(38,vi 13),(39,vi 0),(40,.agg ([vi 16,vi 0])),(41,.ptr 7646 0),(42,.ptr 7646 0),(43,.ptr 7646 10),(44,.ptr 7647 0),(45,.agg ([vi 16,vi 0])),(46,vi 0)]),.no,[cd 43 [1,1,1,1,1,0,1],cd 43 [1,1,1,1,1,1]],[],false,none,21780⟩,(cat2 [] (drN 0 st5609.cs)),
 addL (patL (kilL st5609.H [(21801,1)]) [(15513,ms 240 1 (([.ptr 15300 0,.ptr 19123 0,.ptr 10792 0,.ptr 20509 0,.ptr 20920 0,.ptr 21281 0,.ptr 21647 0,.ptr 22017 0])))]) 21802 (catL [[.dead,
 mn 149 (([vi 16,vi 0]))],deadL 212,[ms 2 1 (([vi 1,vi 1])),
 mn 239 (([vi 16,vi 0,vi 1,.su 22016 0 2 0 2,vi 1,vb false,vi 0])),
 .dead,
 .dead]]),22020⟩
end Go.Proofs.YtlmpjdionndncaaGreatDoor.RSeekNames
/-
 SeekNames: a state of its run (5611).
-/
namespace Go.Proofs.YtlmpjdionndncaaGreatDoor.RSeekNames
open Go Go.RowKit Ev
set_option maxRecDepth 100000
noncomputable def st5611 : ASt := ⟨⟨29,35,(patS .e [(0,.ptr 7667 0),(1,.agg ([.v (.string ⟨#[]⟩),vi 16,vi 1,.su 17693 0 2 0 2,vi 463,vi 1])),(2,vi 0),(3,.agg ([vi 1,.sl 21753 0 2 2,.sl 21754 0 2 2])),(5,.ptr 21755 0),(7,.ptr 21756 0),(8,vb true),(9,.su 22122 0 2 0 2),(10,vi 0),(11,.tup ([.su 22122 0 2 0 2,vi 0])),(12,.ptr 7667 0),(13,.ptr 7646 0),(14,.ptr 21755 1),(15,vi 16),(16,.tup ([.su 22122 0 2 0 2,vi 0])),(17,.su 22122 0 2 0 2),(18,vi 0),(19,vi 0),(20,vb true),(21,vb true),(22,vi 0),(23,vb true),(24,vb true),(25,vb true),(26,.ptr 21755 2),(27,vi 1),(28,.ptr 21755 3),(29,.su 17693 0 2 0 2),(30,.su 22122 0 2 0 2),(31,.agg ([vi 1,.su 17693 0 2 0 2,.su 22122 0 2 0 2])),(32,.agg ([vi 1,.sl 21753 0 2 2,.sl 21754 0 2 2])),(33,vb true),(34,vb true)]),.no,[.code .ret],[],true,none,21755⟩,(cat2 [] (drN 2 st5610.cs)),
 addL (patL (kilL st5610.H [(21755,2),(21803,1)]) [(22017,mn 239 (([vi 16,vi 0,vi 1,.su 22016 0 2 0 2,vi 0,vb false,vi 0])))]) 22020 (catL [deadL 105]),22125⟩
end Go.Proofs.YtlmpjdionndncaaGreatDoor.RSeekNames
/-
 SeekNames: a state of its run (57).
-/
namespace Go.Proofs.YtlmpjdionndncaaGreatDoor.RSeekNames
open Go Go.RowKit Ev
set_option maxRecDepth 100000
noncomputable def st57 : ASt := ⟨⟨6,272,(patS st56.fr.T [(27,vi 0),(28,vi 0),(29,vi 0),(30,vi 201),(31,vi 0),(32,vi 0),(33,.v (.pointer none)),(34,.ptr 20229 0),(35,vi 1),(36,.ptr 20240 0),(37,vi 1),(38,vi 0),(39,vi 1),(40,vb true),(120,.tup ([vi 0,vi 0])),(125,vi 0),(126,vi 0),(127,.tup ([vi 0,vi 201])),(128,.ptr 7667 0),(129,.tup ([vi 0,vi 201])),(130,vi 0),(131,vi 201),(132,.tup ([vi 0,vi 0])),(133,.ptr 7667 0),(134,.tup ([vi 0,vi 0])),(135,vi 0),(136,vi 0),(137,.tup ([.agg ([.v (.string ⟨#[]⟩),vi 0,vi 0,.v (.slice none 0 0),vi 0,vi 0]),vi 1])),(138,.v (.pointer none)),(139,.agg ([vi 0,vi 0,vi 1,vb true])),(140,.tup ([.agg ([.v (.string ⟨#[]⟩),vi 0,vi 0,.v (.slice none 0 0),vi 0,vi 0]),vi 1])),(141,.agg ([.v (.string ⟨#[]⟩),vi 0,vi 0,.v (.slice none 0 0),vi 0,vi 0])),(142,vi 1),(143,.tup ([.agg ([.v (.string ⟨#[]⟩),vi 0,vi 0,.v (.slice none 0 0),vi 0,vi 0]),vi 1])),(144,.v (.pointer none)),(145,.agg ([vi 0,vi 0,vi 1,vb true])),(146,.tup ([.agg ([.v (.string ⟨#[]⟩),vi 0,vi 0,.v (.slice none 0 0),vi 0,vi 0]),vi 1])),(147,.agg ([.v (.string ⟨#[]⟩),vi 0,vi 0,.v (.slice none 0 0),vi 0,vi 0])),(148,vi 1),(149,.tup ([vi 0,vi 1])),(150,.v (.pointer none)),(151,.tup ([vi 0,vi 1])),(152,vi 0),(153,vi 1),(154,vi 3),(155,vb true),(156,vb true),(157,.ptr 7667 0),(158,.agg ([.v (.string ⟨#[]⟩),vi 7,vi 1,.su 10562 0 1 0 1,vi 455,vi 1])),(159,vi 0),(160,.sl 20245 0 3 3),(161,.agg ([vi 1,.sl 20247 0 1 1,.su 20249 0 3 0 3])),(162,vb true),(163,vb true),(164,vb true),(165,.ptr 7667 0),(166,.agg ([.v (.string ⟨#[]⟩),vi 11,vi 1,.su 13940 0 1 0 1,vi 459,vi 1])),(167,vi 0),(168,.sl 20668 0 2 2),(169,.agg ([vi 1,.sl 20670 0 1 1,.su 20672 0 2 0 2])),(170,vb true),(171,vb true),(172,vb true),(173,.ptr 7667 0),(174,.agg ([.v (.string ⟨#[]⟩),vi 13,vi 1,.su 15867 0 1 0 1,vi 461,vi 1])),(175,vi 0),(176,.sl 21023 0 2 2),(177,.agg ([vi 1,.sl 21025 0 1 1,.su 21027 0 2 0 2])),(178,vb true),(179,vb true),(180,vb true),(181,.ptr 7667 0),(182,.agg ([.v (.string ⟨#[]⟩),vi 14,vi 1,.su 17269 0 1 0 1,vi 462,vi 1])),(183,vi 0),(184,.sl 21386 0 2 2),(185,.agg ([vi 1,.sl 21388 0 1 1,.su 21390 0 2 0 2])),(186,vb true),(187,vb true),(188,vb true),(189,.ptr 17563 1),(190,vi 14),(191,vi 8),(192,vi 14),(193,vb true),(194,vb true),(195,vb true),(196,.ptr 7667 0),(197,.agg ([.v (.string ⟨#[]⟩),vi 16,vi 1,.su 17693 0 2 0 2,vi 463,vi 1])),(198,vi 0),(199,.sl 21753 0 2 2),(200,.sl 21754 0 2 2),(201,.agg ([vi 1,.sl 21753 0 2 2,.sl 21754 0 2 2])),(202,vb true),(203,vb true)]),.no,[cd 6 [1,1,1,1,1,1,1,1,1,1,1,1,1,1,1,1,1,1,1,1,1,1,1,1]],[],false,none,0⟩,(cat2 [] (drN 0 st56.cs)),
 addL (patL (kilL st56.H [(25,3),(6030,1),(7646,2),(7649,1),(7661,2),(7667,1),(7711,1),(7946,1),(8414,1),(8874,1),(9336,1),(9800,1),(10098,2),(10169,1),(10431,1),(10481,1),(10532,1),(10562,1),(10791,2),(11990,1),(11995,1),(12145,1),(12424,1),(12474,1),(12532,1),(12795,1),(12845,1),(12933,1),(13188,2),(13444,2),(13891,1),(13910,1),(13940,1),(14241,2),(15029,1),(15034,1),(15299,2),(15413,1),(15513,1),(15729,1),(15779,1),(15837,1),(15867,1),(16158,2),(17185,1),(17190,1),(17239,1),(17269,1),(17558,1),(17563,1),(17639,1),(17663,1),(17693,1),(18106,1),(18111,1),(18373,1),(18395,1),(18399,1),(18716,1),(18720,1),(18766,1),(18768,1),(19122,2)]) []) 20159 (catL [deadL 1966]),22125⟩
end Go.Proofs.YtlmpjdionndncaaGreatDoor.RSeekNames
/-
 SeekNames: a state of its run (58).
-/
namespace Go.Proofs.YtlmpjdionndncaaGreatDoor.RSeekNames
open Go Go.RowKit Ev
set_option maxRecDepth 100000
noncomputable def st58 : ASt := ⟨⟨60,39,(patS .e [(0,vi 1200),(2,.v (.pointer none)),(3,vi 0),(4,.ptr 22153 0),(5,vi 345),(6,vi 1200),(7,vb false),(8,vb false),(9,vi 1200),(10,vb false),(11,vb false),(12,.agg ([.v (.slice none 0 0),.v (.slice none 0 0),vi 0,.v (.slice none 0 0),vi 0,vi 0,vi 0,vb false])),(13,.ptr 22153 0),(14,vi 345),(15,vi 1200),(16,vb true),(17,vi 344),(18,vi 345),(19,.ptr 22153 0),(20,.ptr 22153 0),(21,.ptr 22153 0),(22,.ptr 22153 0),(23,.su 23876 0 345 0 345),(24,.sl 23879 0 128 128),(25,.sl 23880 0 1 1),(26,.su 23881 0 346 0 346),(27,.ptr 22153 0),(28,.ptr 22153 0),(29,.ptr 22153 0),(30,.ptr 22153 0),(31,.ptr 22153 0),(32,.ptr 22153 1),(33,.su 23873 0 344 0 344),(34,.sl 23877 0 1 1),(35,.su 23878 0 345 0 345),(36,.ptr 22153 0),(37,.ptr 22153 1)]),.no,[cd 60 [1,1,1,0,1,0,0,1,0,0,1],.inBlock 1,cd 60 [1,1,1,0,1,0,0,1,1],il 60 [1,1,1,0,1,0,0],.inBlock 0,cd 60 [1,1,1,1]],[],false,none,22153⟩,(cat2 [⟨32,117,(patS .e [(0,.agg ([vi 8,vi 1,vi 2,vb false,vi 400,vi 1200])),(1,.sl 22148 0 5 5),(2,.ptr 22149 0),(4,.v (.pointer none)),(5,.ptr 22152 0),(6,vi 0),(22,.tup ([.ptr 22152 0,vi 0])),(23,.ptr 22149 5),(24,vi 1200),(25,.tup ([.ptr 22152 0,vi 0])),(26,.ptr 22152 0),(27,vi 0),(29,.ptr 22149 5),(30,vi 1200)]),(rg 32 [1,1,0] 2),[cd 32 [1,1,1]],[],false,none,22149⟩,
 ⟨24,20,(patS .e [(0,.v (.pointer none)),(2,.agg ([vi 8,vi 1,vi 2,vb false,vi 400,vi 1200])),(3,.sl 22126 0 3 3),(4,.agg ([vi 1,.sl 22128 0 1 1,.su 22130 0 3 0 3])),(5,.sl 22131 0 2 2),(6,.agg ([vi 1,.sl 22133 0 1 1,.su 22135 0 2 0 2])),(7,.sl 22136 0 2 2),(8,.sl 22137 0 2 2),(9,.agg ([vi 1,.sl 22136 0 2 2,.sl 22137 0 2 2])),(10,.agg ([vi 2,.sl 22145 0 1 1,.su 22144 0 2 0 2])),(11,.agg ([vi 1,.sl 22147 0 1 1,.v (.slice none 0 0)])),(12,.sl 22148 0 5 5)]),(rg 24 [1,0] 11),[cd 24 [1,1]],[],false,none,22125⟩,
 ⟨30,19,(patS .e [(0,vb false)]),(rg 30 [1,0] 0),[cd 30 [1,1]],[],false,none,22125⟩,
 ⟨6,272,(patS st57.fr.T []),(rg 6 [1,1,1,1,1,1,1,1,1,1,1,1,1,1,1,1,1,1,1,1,1,1,1,1,0] 0),[.code .ret],[],false,none,0⟩] (drN 0 st57.cs)),
 addL (patL (kilL st57.H []) []) 22125 (catL [[.dead,
 .dead,
 .dead,
 mn 3 (([vi 3])),
 .dead,
 ms 2 1 (([vi 3,vi 1,vi 3])),
 .dead,
 .dead,
 mn 3 (([vi 2])),
 .dead,
 ms 2 1 (([vi 3,vi 4])),
 mn 3 (([vi 1,vi 2])),
 mn 2 (([vi 4,vi 3]))],deadL 6,[ms 2 1 (([vi 97,vi 98])),
 mn 3 (([vi 2])),
 .dead,
 mn 3 (([vi 0])),
 mn 36 (([vi 1,.sl 22128 0 1 1,.su 22130 0 3 0 3,vi 1,.sl 22133 0 1 1,.su 22135 0 2 0 2,vi 1,.sl 22136 0 2 2,.sl 22137 0 2 2,vi 2,.sl 22145 0 1 1,.su 22144 0 2 0 2,vi 1,.sl 22147 0 1 1,.v (.slice none 0 0)])),
 mn 64 (([vi 8,vi 1,vi 2,vb false,vi 400,vi 1200])),
 .mem 349 none (rz 153600),
 .map [] 0,
 mn 179 (([.sl 22150 0 1200 1200,.mp 22151,vi 0,.v (.slice none 0 0),vi 0,vi 0,vi 0,vb false])),
 mn 182 (([.su 23881 0 346 0 346,.su 23878 0 345 0 345,vi 0,.v (.slice none 0 0),vi 0,vi 0,vi 0,vb false]))],repL [.mem 5 none (rz 128),.dead,.dead,.dead,.dead] 344,[.mem 5 none (rz 128),
 .dead,
 .dead,
 .dead,
 .mem 183 (some 1) (.node 256 (.node 128 (.node 64 (.node 32 (.node 16 (.leaf (zN (.v (.slice none 0 0)) 16)) (.leaf (zN (.v (.slice none 0 0)) 16))) (.node 16 (.leaf (zN (.v (.slice none 0 0)) 16)) (.leaf (zN (.v (.slice none 0 0)) 16)))) (.node 32 (.node 16 (.leaf (zN (.v (.slice none 0 0)) 16)) (.leaf (zN (.v (.slice none 0 0)) 16))) (.node 16 (.leaf (zN (.v (.slice none 0 0)) 16)) (.leaf (zN (.v (.slice none 0 0)) 16))))) (.node 64 (.node 32 (.node 16 (.leaf (zN (.v (.slice none 0 0)) 16)) (.leaf (zN (.v (.slice none 0 0)) 16))) (.node 16 (.leaf (zN (.v (.slice none 0 0)) 16)) (.leaf (zN (.v (.slice none 0 0)) 16)))) (.node 32 (.node 16 (.leaf (zN (.v (.slice none 0 0)) 16)) (.leaf (zN (.v (.slice none 0 0)) 16))) (.node 16 (.leaf (zN (.v (.slice none 0 0)) 16)) (.leaf (zN (.v (.slice none 0 0)) 16)))))) (.node 64 (.node 32 (.node 16 (.leaf (zN (.v (.slice none 0 0)) 16)) (.leaf (zN (.v (.slice none 0 0)) 16))) (.node 16 (.leaf (zN (.v (.slice none 0 0)) 16)) (.leaf (zN (.v (.slice none 0 0)) 16)))) (.node 16 (.leaf (zN (.v (.slice none 0 0)) 16)) (.leaf (zN (.v (.slice none 0 0)) 9))))),
 .mem 5 none (rz 128),
 .dead,
 .mem 183 (some 1) (.node 256 (.node 128 (.node 64 (.node 32 (.node 16 (.leaf (slP 5 0 128 128 16 22154)) (.leaf (slP 5 0 128 128 16 22234))) (.node 16 (.leaf (slP 5 0 128 128 16 22314)) (.leaf (slP 5 0 128 128 16 22394)))) (.node 32 (.node 16 (.leaf (slP 5 0 128 128 16 22474)) (.leaf (slP 5 0 128 128 16 22554))) (.node 16 (.leaf (slP 5 0 128 128 16 22634)) (.leaf (slP 5 0 128 128 16 22714))))) (.node 64 (.node 32 (.node 16 (.leaf (slP 5 0 128 128 16 22794)) (.leaf (slP 5 0 128 128 16 22874))) (.node 16 (.leaf (slP 5 0 128 128 16 22954)) (.leaf (slP 5 0 128 128 16 23034)))) (.node 32 (.node 16 (.leaf (slP 5 0 128 128 16 23114)) (.leaf (slP 5 0 128 128 16 23194))) (.node 16 (.leaf (slP 5 0 128 128 16 23274)) (.leaf (slP 5 0 128 128 16 23354)))))) (.node 64 (.node 32 (.node 16 (.leaf (slP 5 0 128 128 16 23434)) (.leaf (slP 5 0 128 128 16 23514))) (.node 16 (.leaf (slP 5 0 128 128 16 23594)) (.leaf (slP 5 0 128 128 16 23674)))) (.node 16 (.leaf (slP 5 0 128 128 16 23754)) (.leaf (slP 5 0 128 128 10 23834)))))]]),23882⟩
end Go.Proofs.YtlmpjdionndncaaGreatDoor.RSeekNames
/-
 SeekNames: a state of its run (59).
-/
namespace Go.Proofs.YtlmpjdionndncaaGreatDoor.RSeekNames
open Go Go.RowKit Ev
set_option maxRecDepth 100000
noncomputable def st59 : ASt := ⟨⟨60,39,(patS st58.fr.T [(5,vi 695),(14,vi 695),(17,vi 694),(18,vi 695),(23,.su 25626 0 695 0 695),(24,.sl 25629 0 128 128),(25,.sl 25630 0 1 1),(26,.su 25631 0 696 0 696),(33,.su 25623 0 694 0 694),(34,.sl 25627 0 1 1),(35,.su 25628 0 695 0 695)]),.no,[cd 60 [1,1,1,0,1,0,0,1,0,0,1],.inBlock 1,cd 60 [1,1,1,0,1,0,0,1,1],il 60 [1,1,1,0,1,0,0],.inBlock 0,cd 60 [1,1,1,1]],[],false,none,22153⟩,(cat2 [] (drN 0 st58.cs)),
 addL (patL (kilL st58.H [(23878,1),(23881,1)]) [(22153,mn 182 (([.su 25631 0 696 0 696,.su 25628 0 695 0 695,vi 0,.v (.slice none 0 0),vi 0,vi 0,vi 0,vb false])))]) 23882 (catL [repL [.dead,.dead,.mem 5 none (rz 128),.dead,.dead] 349,[.dead,
 .mem 183 (some 1) (.node 512 (.node 256 (.node 128 (.node 64 (.node 32 (.node 16 (.leaf (zN (.v (.slice none 0 0)) 16)) (.leaf (zN (.v (.slice none 0 0)) 16))) (.node 16 (.leaf (zN (.v (.slice none 0 0)) 16)) (.leaf (zN (.v (.slice none 0 0)) 16)))) (.node 32 (.node 16 (.leaf (zN (.v (.slice none 0 0)) 16)) (.leaf (zN (.v (.slice none 0 0)) 16))) (.node 16 (.leaf (zN (.v (.slice none 0 0)) 16)) (.leaf (zN (.v (.slice none 0 0)) 16))))) (.node 64 (.node 32 (.node 16 (.leaf (zN (.v (.slice none 0 0)) 16)) (.leaf (zN (.v (.slice none 0 0)) 16))) (.node 16 (.leaf (zN (.v (.slice none 0 0)) 16)) (.leaf (zN (.v (.slice none 0 0)) 16)))) (.node 32 (.node 16 (.leaf (zN (.v (.slice none 0 0)) 16)) (.leaf (zN (.v (.slice none 0 0)) 16))) (.node 16 (.leaf (zN (.v (.slice none 0 0)) 16)) (.leaf (zN (.v (.slice none 0 0)) 16)))))) (.node 128 (.node 64 (.node 32 (.node 16 (.leaf (zN (.v (.slice none 0 0)) 16)) (.leaf (zN (.v (.slice none 0 0)) 16))) (.node 16 (.leaf (zN (.v (.slice none 0 0)) 16)) (.leaf (zN (.v (.slice none 0 0)) 16)))) (.node 32 (.node 16 (.leaf (zN (.v (.slice none 0 0)) 16)) (.leaf (zN (.v (.slice none 0 0)) 16))) (.node 16 (.leaf (zN (.v (.slice none 0 0)) 16)) (.leaf (zN (.v (.slice none 0 0)) 16))))) (.node 64 (.node 32 (.node 16 (.leaf (zN (.v (.slice none 0 0)) 16)) (.leaf (zN (.v (.slice none 0 0)) 16))) (.node 16 (.leaf (zN (.v (.slice none 0 0)) 16)) (.leaf (zN (.v (.slice none 0 0)) 16)))) (.node 32 (.node 16 (.leaf (zN (.v (.slice none 0 0)) 16)) (.leaf (zN (.v (.slice none 0 0)) 16))) (.node 16 (.leaf (zN (.v (.slice none 0 0)) 16)) (.leaf (zN (.v (.slice none 0 0)) 16))))))) (.node 128 (.node 64 (.node 32 (.node 16 (.leaf (zN (.v (.slice none 0 0)) 16)) (.leaf (zN (.v (.slice none 0 0)) 16))) (.node 16 (.leaf (zN (.v (.slice none 0 0)) 16)) (.leaf (zN (.v (.slice none 0 0)) 16)))) (.node 32 (.node 16 (.leaf (zN (.v (.slice none 0 0)) 16)) (.leaf (zN (.v (.slice none 0 0)) 16))) (.node 16 (.leaf (zN (.v (.slice none 0 0)) 16)) (.leaf (zN (.v (.slice none 0 0)) 16))))) (.node 32 (.node 16 (.leaf (zN (.v (.slice none 0 0)) 16)) (.leaf (zN (.v (.slice none 0 0)) 16))) (.node 16 (.leaf (zN (.v (.slice none 0 0)) 16)) (.leaf (zN (.v (.slice none 0 0)) 7)))))),
 .mem 5 none (rz 128),
 .dead,
 .mem 183 (some 1) (.node 512 (.node 256 (.node 128 (.node 64 (.node 32 (.node 16 (.leaf (slP 5 0 128 128 16 22154)) (.leaf (slP 5 0 128 128 16 22234))) (.node 16 (.leaf (slP 5 0 128 128 16 22314)) (.leaf (slP 5 0 128 128 16 22394)))) (.node 32 (.node 16 (.leaf (slP 5 0 128 128 16 22474)) (.leaf (slP 5 0 128 128 16 22554))) (.node 16 (.leaf (slP 5 0 128 128 16 22634)) (.leaf (slP 5 0 128 128 16 22714))))) (.node 64 (.node 32 (.node 16 (.leaf (slP 5 0 128 128 16 22794)) (.leaf (slP 5 0 128 128 16 22874))) (.node 16 (.leaf (slP 5 0 128 128 16 22954)) (.leaf (slP 5 0 128 128 16 23034)))) (.node 32 (.node 16 (.leaf (slP 5 0 128 128 16 23114)) (.leaf (slP 5 0 128 128 16 23194))) (.node 16 (.leaf (slP 5 0 128 128 16 23274)) (.leaf (slP 5 0 128 128 16 23354)))))) (.node 128 (.node 64 (.node 32 (.node 16 (.leaf (slP 5 0 128 128 16 23434)) (.leaf (slP 5 0 128 128 16 23514))) (.node 16 (.leaf (slP 5 0 128 128 16 23594)) (.leaf (slP 5 0 128 128 16 23674)))) (.node 32 (.node 16 (.leaf (slP 5 0 128 128 16 23754)) (.leaf (slP 5 0 128 128 16 23834))) (.node 16 (.leaf (slP 5 0 128 128 16 23914)) (.leaf (slP 5 0 128 128 16 23994))))) (.node 64 (.node 32 (.node 16 (.leaf (slP 5 0 128 128 16 24074)) (.leaf (slP 5 0 128 128 16 24154))) (.node 16 (.leaf (slP 5 0 128 128 16 24234)) (.leaf (slP 5 0 128 128 16 24314)))) (.node 32 (.node 16 (.leaf (slP 5 0 128 128 16 24394)) (.leaf (slP 5 0 128 128 16 24474))) (.node 16 (.leaf (slP 5 0 128 128 16 24554)) (.leaf (slP 5 0 128 128 16 24634))))))) (.node 128 (.node 64 (.node 32 (.node 16 (.leaf (slP 5 0 128 128 16 24714)) (.leaf (slP 5 0 128 128 16 24794))) (.node 16 (.leaf (slP 5 0 128 128 16 24874)) (.leaf (slP 5 0 128 128 16 24954)))) (.node 32 (.node 16 (.leaf (slP 5 0 128 128 16 25034)) (.leaf (slP 5 0 128 128 16 25114))) (.node 16 (.leaf (slP 5 0 128 128 16 25194)) (.leaf (slP 5 0 128 128 16 25274))))) (.node 32 (.node 16 (.leaf (slP 5 0 128 128 16 25354)) (.leaf (slP 5 0 128 128 16 25434))) (.node 16 (.leaf (slP 5 0 128 128 16 25514)) (.leaf (slP 5 0 128 128 8 25594))))))]]),25632⟩
end Go.Proofs.YtlmpjdionndncaaGreatDoor.RSeekNames
/-
 SeekNames: a state of its run (60).
-/
namespace Go.Proofs.YtlmpjdionndncaaGreatDoor.RSeekNames
open Go Go.RowKit Ev
set_option maxRecDepth 100000
noncomputable def st60 : ASt := ⟨⟨60,39,(patS st59.fr.T [(5,vi 1045),(14,vi 1045),(17,vi 1044),(18,vi 1045),(23,.su 27376 0 1045 0 1045),(24,.sl 27379 0 128 128),(25,.sl 27380 0 1 1),(26,.su 27381 0 1046 0 1046),(33,.su 27373 0 1044 0 1044),(34,.sl 27377 0 1 1),(35,.su 27378 0 1045 0 1045)]),.no,[cd 60 [1,1,1,0,1,0,0,1,0,0,1],.inBlock 1,cd 60 [1,1,1,0,1,0,0,1,1],il 60 [1,1,1,0,1,0,0],.inBlock 0,cd 60 [1,1,1,1]],[],false,none,22153⟩,(cat2 [] (drN 0 st59.cs)),
 addL (patL (kilL st59.H [(25628,1),(25631,1)]) [(22153,mn 182 (([.su 27381 0 1046 0 1046,.su 27378 0 1045 0 1045,vi 0,.v (.slice none 0 0),vi 0,vi 0,vi 0,vb false])))]) 25632 (catL [repL [.dead,.dead,.mem 5 none (rz 128),.dead,.dead] 349,[.dead,
 .mem 183 (some 1) (.node 1024 (.node 512 (.node 256 (.node 128 (.node 64 (.node 32 (.node 16 (.leaf (zN (.v (.slice none 0 0)) 16)) (.leaf (zN (.v (.slice none 0 0)) 16))) (.node 16 (.leaf (zN (.v (.slice none 0 0)) 16)) (.leaf (zN (.v (.slice none 0 0)) 16)))) (.node 32 (.node 16 (.leaf (zN (.v (.slice none 0 0)) 16)) (.leaf (zN (.v (.slice none 0 0)) 16))) (.node 16 (.leaf (zN (.v (.slice none 0 0)) 16)) (.leaf (zN (.v (.slice none 0 0)) 16))))) (.node 64 (.node 32 (.node 16 (.leaf (zN (.v (.slice none 0 0)) 16)) (.leaf (zN (.v (.slice none 0 0)) 16))) (.node 16 (.leaf (zN (.v (.slice none 0 0)) 16)) (.leaf (zN (.v (.slice none 0 0)) 16)))) (.node 32 (.node 16 (.leaf (zN (.v (.slice none 0 0)) 16)) (.leaf (zN (.v (.slice none 0 0)) 16))) (.node 16 (.leaf (zN (.v (.slice none 0 0)) 16)) (.leaf (zN (.v (.slice none 0 0)) 16)))))) (.node 128 (.node 64 (.node 32 (.node 16 (.leaf (zN (.v (.slice none 0 0)) 16)) (.leaf (zN (.v (.slice none 0 0)) 16))) (.node 16 (.leaf (zN (.v (.slice none 0 0)) 16)) (.leaf (zN (.v (.slice none 0 0)) 16)))) (.node 32 (.node 16 (.leaf (zN (.v (.slice none 0 0)) 16)) (.leaf (zN (.v (.slice none 0 0)) 16))) (.node 16 (.leaf (zN (.v (.slice none 0 0)) 16)) (.leaf (zN (.v (.slice none 0 0)) 16))))) (.node 64 (.node 32 (.node 16 (.leaf (zN (.v (.slice none 0 0)) 16)) (.leaf (zN (.v (.slice none 0 0)) 16))) (.node 16 (.leaf (zN (.v (.slice none 0 0)) 16)) (.leaf (zN (.v (.slice none 0 0)) 16)))) (.node 32 (.node 16 (.leaf (zN (.v (.slice none 0 0)) 16)) (.leaf (zN (.v (.slice none 0 0)) 16))) (.node 16 (.leaf (zN (.v (.slice none 0 0)) 16)) (.leaf (zN (.v (.slice none 0 0)) 16))))))) (.node 256 (.node 128 (.node 64 (.node 32 (.node 16 (.leaf (zN (.v (.slice none 0 0)) 16)) (.leaf (zN (.v (.slice none 0 0)) 16))) (.node 16 (.leaf (zN (.v (.slice none 0 0)) 16)) (.leaf (zN (.v (.slice none 0 0)) 16)))) (.node 32 (.node 16 (.leaf (zN (.v (.slice none 0 0)) 16)) (.leaf (zN (.v (.slice none 0 0)) 16))) (.node 16 (.leaf (zN (.v (.slice none 0 0)) 16)) (.leaf (zN (.v (.slice none 0 0)) 16))))) (.node 64 (.node 32 (.node 16 (.leaf (zN (.v (.slice none 0 0)) 16)) (.leaf (zN (.v (.slice none 0 0)) 16))) (.node 16 (.leaf (zN (.v (.slice none 0 0)) 16)) (.leaf (zN (.v (.slice none 0 0)) 16)))) (.node 32 (.node 16 (.leaf (zN (.v (.slice none 0 0)) 16)) (.leaf (zN (.v (.slice none 0 0)) 16))) (.node 16 (.leaf (zN (.v (.slice none 0 0)) 16)) (.leaf (zN (.v (.slice none 0 0)) 16)))))) (.node 128 (.node 64 (.node 32 (.node 16 (.leaf (zN (.v (.slice none 0 0)) 16)) (.leaf (zN (.v (.slice none 0 0)) 16))) (.node 16 (.leaf (zN (.v (.slice none 0 0)) 16)) (.leaf (zN (.v (.slice none 0 0)) 16)))) (.node 32 (.node 16 (.leaf (zN (.v (.slice none 0 0)) 16)) (.leaf (zN (.v (.slice none 0 0)) 16))) (.node 16 (.leaf (zN (.v (.slice none 0 0)) 16)) (.leaf (zN (.v (.slice none 0 0)) 16))))) (.node 64 (.node 32 (.node 16 (.leaf (zN (.v (.slice none 0 0)) 16)) (.leaf (zN (.v (.slice none 0 0)) 16))) (.node 16 (.leaf (zN (.v (.slice none 0 0)) 16)) (.leaf (zN (.v (.slice none 0 0)) 16)))) (.node 32 (.node 16 (.leaf (zN (.v (.slice none 0 0)) 16)) (.leaf (zN (.v (.slice none 0 0)) 16))) (.node 16 (.leaf (zN (.v (.slice none 0 0)) 16)) (.leaf (zN (.v (.slice none 0 0)) 16)))))))) (.node 16 (.leaf (zN (.v (.slice none 0 0)) 16)) (.leaf (zN (.v (.slice none 0 0)) 5)))),
 .mem 5 none (rz 128),
 .dead,
 .mem 183 (some 1) (.node 1024 (.node 512 (.node 256 (.node 128 (.node 64 (.node 32 (.node 16 (.leaf (slP 5 0 128 128 16 22154)) (.leaf (slP 5 0 128 128 16 22234))) (.node 16 (.leaf (slP 5 0 128 128 16 22314)) (.leaf (slP 5 0 128 128 16 22394)))) (.node 32 (.node 16 (.leaf (slP 5 0 128 128 16 22474)) (.leaf (slP 5 0 128 128 16 22554))) (.node 16 (.leaf (slP 5 0 128 128 16 22634)) (.leaf (slP 5 0 128 128 16 22714))))) (.node 64 (.node 32 (.node 16 (.leaf (slP 5 0 128 128 16 22794)) (.leaf (slP 5 0 128 128 16 22874))) (.node 16 (.leaf (slP 5 0 128 128 16 22954)) (.leaf (slP 5 0 128 128 16 23034)))) (.node 32 (.node 16 (.leaf (slP 5 0 128 128 16 23114)) (.leaf (slP 5 0 128 128 16 23194))) (.node 16 (.leaf (slP 5 0 128 128 16 23274)) (.leaf (slP 5 0 128 128 16 23354)))))) (.node 128 (.node 64 (.node 32 (.node 16 (.leaf (slP 5 0 128 128 16 23434)) (.leaf (slP 5 0 128 128 16 23514))) (.node 16 (.leaf (slP 5 0 128 128 16 23594)) (.leaf (slP 5 0 128 128 16 23674)))) (.node 32 (.node 16 (.leaf (slP 5 0 128 128 16 23754)) (.leaf (slP 5 0 128 128 16 23834))) (.node 16 (.leaf (slP 5 0 128 128 16 23914)) (.leaf (slP 5 0 128 128 16 23994))))) (.node 64 (.node 32 (.node 16 (.leaf (slP 5 0 128 128 16 24074)) (.leaf (slP 5 0 128 128 16 24154))) (.node 16 (.leaf (slP 5 0 128 128 16 24234)) (.leaf (slP 5 0 128 128 16 24314)))) (.node 32 (.node 16 (.leaf (slP 5 0 128 128 16 24394)) (.leaf (slP 5 0 128 128 16 24474))) (.node 16 (.leaf (slP 5 0 128 128 16 24554)) (.leaf (slP 5 0 128 128 16 24634))))))) (.node 256 (.node 128 (.node 64 (.node 32 (.node 16 (.leaf (slP 5 0 128 128 16 24714)) (.leaf (slP 5 0 128 128 16 24794))) (.node 16 (.leaf (slP 5 0 128 128 16 24874)) (.leaf (slP 5 0 128 128 16 24954)))) (.node 32 (.node 16 (.leaf (slP 5 0 128 128 16 25034)) (.leaf (slP 5 0 128 128 16 25114))) (.node 16 (.leaf (slP 5 0 128 128 16 25194)) (.leaf (slP 5 0 128 128 16 25274))))) (.node 64 (.node 32 (.node 16 (.leaf (slP 5 0 128 128 16 25354)) (.leaf (slP 5 0 128 128 16 25434))) (.node 16 (.leaf (slP 5 0 128 128 16 25514)) (.leaf (slP 5 0 128 128 16 25594)))) (.node 32 (.node 16 (.leaf (slP 5 0 128 128 16 25674)) (.leaf (slP 5 0 128 128 16 25754))) (.node 16 (.leaf (slP 5 0 128 128 16 25834)) (.leaf (slP 5 0 128 128 16 25914)))))) (.node 128 (.node 64 (.node 32 (.node 16 (.leaf (slP 5 0 128 128 16 25994)) (.leaf (slP 5 0 128 128 16 26074))) (.node 16 (.leaf (slP 5 0 128 128 16 26154)) (.leaf (slP 5 0 128 128 16 26234)))) (.node 32 (.node 16 (.leaf (slP 5 0 128 128 16 26314)) (.leaf (slP 5 0 128 128 16 26394))) (.node 16 (.leaf (slP 5 0 128 128 16 26474)) (.leaf (slP 5 0 128 128 16 26554))))) (.node 64 (.node 32 (.node 16 (.leaf (slP 5 0 128 128 16 26634)) (.leaf (slP 5 0 128 128 16 26714))) (.node 16 (.leaf (slP 5 0 128 128 16 26794)) (.leaf (slP 5 0 128 128 16 26874)))) (.node 32 (.node 16 (.leaf (slP 5 0 128 128 16 26954)) (.leaf (slP 5 0 128 128 16 27034))) (.node 16 (.leaf (slP 5 0 128 128 16 27114)) (.leaf (slP 5 0 128 128 16 27194)))))))) (.node 16 (.leaf (slP 5 0 128 128 16 27274)) (.leaf (slP 5 0 128 128 6 27354))))]]),27382⟩
end Go.Proofs.YtlmpjdionndncaaGreatDoor.RSeekNames
/-
 SeekNames: a state of its run (61).
-/
namespace Go.Proofs.YtlmpjdionndncaaGreatDoor.RSeekNames
open Go Go.RowKit Ev
set_option maxRecDepth 100000
noncomputable def st61 : ASt := ⟨⟨150,37,(patS .e [(0,.yl 28162),(1,.ptr 28160 0),(3,vi 36),(4,.su 28273 0 128 0 128),(5,vi 0),(6,.ptr 28155 0),(7,.ptr 28155 0),(8,.ptr 28155 2),(9,vi 400),(10,vi 36),(11,vb true),(12,vi 36),(13,.tup ([.su 28273 0 128 0 128,vi 0])),(14,.ptr 28155 0),(15,.ptr 28155 0),(16,.ptr 28155 0),(17,.ptr 22152 0),(18,.ptr 28155 0),(19,.ptr 28155 0),(20,.ptr 28155 1),(21,vi 50),(22,vi 36),(23,vi 86),(24,.tup ([.su 28273 0 128 0 128,vi 0])),(25,.su 28273 0 128 0 128),(26,vi 0),(27,.yl 28162),(28,.su 28270 0 128 0 128),(29,vi 0),(30,vb true),(31,vb false),(32,vb false),(33,vi 0),(34,vb false),(35,vb false),(36,vi 36)]),.no,[cd 150 [1,0,0,1,1,0,0,1,1],.inBlock 1,cd 150 [1,0,0,1,1,1],il 150 [1,0,0],.inBlock 0],[],false,none,28163⟩,(cat2 [⟨61,43,(patS .e [(0,.ptr 22152 0),(1,vi 50),(2,vi 400),(3,.v (.int .u64 1)),(7,.ptr 28154 0),(8,.v (.pointer none)),(9,vi 0),(10,.ptr 28156 0),(11,.ptr 28157 0),(12,.ptr 28158 0),(13,.ptr 28159 0),(16,vi 400),(17,vb false),(18,vb false),(19,vi 50),(20,vb false),(21,vb false),(22,.ptr 22152 0),(23,vi 50),(24,vi 400),(25,.v (.int .u64 1)),(26,.agg ([.ptr 22152 0,vi 50,vi 400,.v (.int .u64 1),.v (.slice none 0 0)])),(27,.ptr 28155 0),(28,.fn (.func 97) ([]) ([.ptr 28158 0,.ptr 28154 0,.ptr 28156 0])),(29,.ptr 28155 0),(30,.fn (.func 150) ([]) ([.ptr 28160 0]))]),.no,[.inRF 28162,.inBlock 0,cd 61 [1,0,1,1,1,1,1,1],.inScope (subC (bodyF Tryz.prog 61) [1,0])],[28161],false,none,28154⟩,
 ⟨32,117,(patS (frC st60 0).T [(7,.ptr 22153 0),(8,vi 0),(28,.tup ([.ptr 22153 0,vi 0])),(31,.tup ([.ptr 22153 0,vi 0])),(32,.ptr 22153 0),(33,vi 0),(34,vi 0),(35,vb false),(36,vb false),(37,vi 0),(38,vb false),(39,vb false),(41,.ptr 22152 0),(42,.ptr 22149 4),(43,vi 400)]),(rg 32 [1,1,1,1,0] 3),[cd 32 [1,1,1,1,1]],[],false,none,22149⟩] (drN 1 st60.cs)),
 addL (patL (kilL st60.H [(27378,1),(27381,1)]) [(22153,mn 182 (([.su 28151 0 1200 0 1200,.su 28153 0 1200 0 1200,vi 0,.v (.slice none 0 0),vi 0,vi 0,vi 0,vb false])))]) 27382 (catL [repL [.dead,.dead,.mem 5 none (rz 128),.dead,.dead] 153,[.dead,
 .dead,
 .mem 5 none (rz 128),
 .dead,
 .mem 183 (some 1) (.node 1024 (.node 512 (.node 256 (.node 128 (.node 64 (.node 32 (.node 16 (.leaf (slP 5 0 128 128 16 22154)) (.leaf (slP 5 0 128 128 16 22234))) (.node 16 (.leaf (slP 5 0 128 128 16 22314)) (.leaf (slP 5 0 128 128 16 22394)))) (.node 32 (.node 16 (.leaf (slP 5 0 128 128 16 22474)) (.leaf (slP 5 0 128 128 16 22554))) (.node 16 (.leaf (slP 5 0 128 128 16 22634)) (.leaf (slP 5 0 128 128 16 22714))))) (.node 64 (.node 32 (.node 16 (.leaf (slP 5 0 128 128 16 22794)) (.leaf (slP 5 0 128 128 16 22874))) (.node 16 (.leaf (slP 5 0 128 128 16 22954)) (.leaf (slP 5 0 128 128 16 23034)))) (.node 32 (.node 16 (.leaf (slP 5 0 128 128 16 23114)) (.leaf (slP 5 0 128 128 16 23194))) (.node 16 (.leaf (slP 5 0 128 128 16 23274)) (.leaf (slP 5 0 128 128 16 23354)))))) (.node 128 (.node 64 (.node 32 (.node 16 (.leaf (slP 5 0 128 128 16 23434)) (.leaf (slP 5 0 128 128 16 23514))) (.node 16 (.leaf (slP 5 0 128 128 16 23594)) (.leaf (slP 5 0 128 128 16 23674)))) (.node 32 (.node 16 (.leaf (slP 5 0 128 128 16 23754)) (.leaf (slP 5 0 128 128 16 23834))) (.node 16 (.leaf (slP 5 0 128 128 16 23914)) (.leaf (slP 5 0 128 128 16 23994))))) (.node 64 (.node 32 (.node 16 (.leaf (slP 5 0 128 128 16 24074)) (.leaf (slP 5 0 128 128 16 24154))) (.node 16 (.leaf (slP 5 0 128 128 16 24234)) (.leaf (slP 5 0 128 128 16 24314)))) (.node 32 (.node 16 (.leaf (slP 5 0 128 128 16 24394)) (.leaf (slP 5 0 128 128 16 24474))) (.node 16 (.leaf (slP 5 0 128 128 16 24554)) (.leaf (slP 5 0 128 128 16 24634))))))) (.node 256 (.node 128 (.node 64 (.node 32 (.node 16 (.leaf (slP 5 0 128 128 16 24714)) (.leaf (slP 5 0 128 128 16 24794))) (.node 16 (.leaf (slP 5 0 128 128 16 24874)) (.leaf (slP 5 0 128 128 16 24954)))) (.node 32 (.node 16 (.leaf (slP 5 0 128 128 16 25034)) (.leaf (slP 5 0 128 128 16 25114))) (.node 16 (.leaf (slP 5 0 128 128 16 25194)) (.leaf (slP 5 0 128 128 16 25274))))) (.node 64 (.node 32 (.node 16 (.leaf (slP 5 0 128 128 16 25354)) (.leaf (slP 5 0 128 128 16 25434))) (.node 16 (.leaf (slP 5 0 128 128 16 25514)) (.leaf (slP 5 0 128 128 16 25594)))) (.node 32 (.node 16 (.leaf (slP 5 0 128 128 16 25674)) (.leaf (slP 5 0 128 128 16 25754))) (.node 16 (.leaf (slP 5 0 128 128 16 25834)) (.leaf (slP 5 0 128 128 16 25914)))))) (.node 128 (.node 64 (.node 32 (.node 16 (.leaf (slP 5 0 128 128 16 25994)) (.leaf (slP 5 0 128 128 16 26074))) (.node 16 (.leaf (slP 5 0 128 128 16 26154)) (.leaf (slP 5 0 128 128 16 26234)))) (.node 32 (.node 16 (.leaf (slP 5 0 128 128 16 26314)) (.leaf (slP 5 0 128 128 16 26394))) (.node 16 (.leaf (slP 5 0 128 128 16 26474)) (.leaf (slP 5 0 128 128 16 26554))))) (.node 64 (.node 32 (.node 16 (.leaf (slP 5 0 128 128 16 26634)) (.leaf (slP 5 0 128 128 16 26714))) (.node 16 (.leaf (slP 5 0 128 128 16 26794)) (.leaf (slP 5 0 128 128 16 26874)))) (.node 32 (.node 16 (.leaf (slP 5 0 128 128 16 26954)) (.leaf (slP 5 0 128 128 16 27034))) (.node 16 (.leaf (slP 5 0 128 128 16 27114)) (.leaf (slP 5 0 128 128 16 27194)))))))) (.node 128 (.node 64 (.node 32 (.node 16 (.leaf (slP 5 0 128 128 16 27274)) (.leaf (slP 5 0 128 128 16 27354))) (.node 16 (.leaf (slP 5 0 128 128 16 27434)) (.leaf (slP 5 0 128 128 16 27514)))) (.node 32 (.node 16 (.leaf (slP 5 0 128 128 16 27594)) (.leaf (slP 5 0 128 128 16 27674))) (.node 16 (.leaf (slP 5 0 128 128 16 27754)) (.leaf (slP 5 0 128 128 16 27834))))) (.node 32 (.node 16 (.leaf (slP 5 0 128 128 16 27914)) (.leaf (slP 5 0 128 128 16 27994))) (.leaf (slP 5 0 128 128 16 28074))))),
 .dead,
 .mem 183 (some 1) (.node 1024 (.node 512 (.node 256 (.node 128 (.node 64 (.node 32 (.node 16 (.leaf (zN (.v (.slice none 0 0)) 16)) (.leaf (zN (.v (.slice none 0 0)) 16))) (.node 16 (.leaf (zN (.v (.slice none 0 0)) 16)) (.leaf (zN (.v (.slice none 0 0)) 16)))) (.node 32 (.node 16 (.leaf (zN (.v (.slice none 0 0)) 16)) (.leaf (zN (.v (.slice none 0 0)) 16))) (.node 16 (.leaf (zN (.v (.slice none 0 0)) 16)) (.leaf (zN (.v (.slice none 0 0)) 16))))) (.node 64 (.node 32 (.node 16 (.leaf (zN (.v (.slice none 0 0)) 16)) (.leaf (zN (.v (.slice none 0 0)) 16))) (.node 16 (.leaf (zN (.v (.slice none 0 0)) 16)) (.leaf (zN (.v (.slice none 0 0)) 16)))) (.node 32 (.node 16 (.leaf (zN (.v (.slice none 0 0)) 16)) (.leaf (zN (.v (.slice none 0 0)) 16))) (.node 16 (.leaf (zN (.v (.slice none 0 0)) 16)) (.leaf (zN (.v (.slice none 0 0)) 16)))))) (.node 128 (.node 64 (.node 32 (.node 16 (.leaf (zN (.v (.slice none 0 0)) 16)) (.leaf (zN (.v (.slice none 0 0)) 16))) (.node 16 (.leaf (zN (.v (.slice none 0 0)) 16)) (.leaf (zN (.v (.slice none 0 0)) 16)))) (.node 32 (.node 16 (.leaf (zN (.v (.slice none 0 0)) 16)) (.leaf (zN (.v (.slice none 0 0)) 16))) (.node 16 (.leaf (zN (.v (.slice none 0 0)) 16)) (.leaf (zN (.v (.slice none 0 0)) 16))))) (.node 64 (.node 32 (.node 16 (.leaf (zN (.v (.slice none 0 0)) 16)) (.leaf (zN (.v (.slice none 0 0)) 16))) (.node 16 (.leaf (zN (.v (.slice none 0 0)) 16)) (.leaf (zN (.v (.slice none 0 0)) 16)))) (.node 32 (.node 16 (.leaf (zN (.v (.slice none 0 0)) 16)) (.leaf (zN (.v (.slice none 0 0)) 16))) (.node 16 (.leaf (zN (.v (.slice none 0 0)) 16)) (.leaf (zN (.v (.slice none 0 0)) 16))))))) (.node 256 (.node 128 (.node 64 (.node 32 (.node 16 (.leaf (zN (.v (.slice none 0 0)) 16)) (.leaf (zN (.v (.slice none 0 0)) 16))) (.node 16 (.leaf (zN (.v (.slice none 0 0)) 16)) (.leaf (zN (.v (.slice none 0 0)) 16)))) (.node 32 (.node 16 (.leaf (zN (.v (.slice none 0 0)) 16)) (.leaf (zN (.v (.slice none 0 0)) 16))) (.node 16 (.leaf (zN (.v (.slice none 0 0)) 16)) (.leaf (zN (.v (.slice none 0 0)) 16))))) (.node 64 (.node 32 (.node 16 (.leaf (zN (.v (.slice none 0 0)) 16)) (.leaf (zN (.v (.slice none 0 0)) 16))) (.node 16 (.leaf (zN (.v (.slice none 0 0)) 16)) (.leaf (zN (.v (.slice none 0 0)) 16)))) (.node 32 (.node 16 (.leaf (zN (.v (.slice none 0 0)) 16)) (.leaf (zN (.v (.slice none 0 0)) 16))) (.node 16 (.leaf (zN (.v (.slice none 0 0)) 16)) (.leaf (zN (.v (.slice none 0 0)) 16)))))) (.node 128 (.node 64 (.node 32 (.node 16 (.leaf (zN (.v (.slice none 0 0)) 16)) (.leaf (zN (.v (.slice none 0 0)) 16))) (.node 16 (.leaf (zN (.v (.slice none 0 0)) 16)) (.leaf (zN (.v (.slice none 0 0)) 16)))) (.node 32 (.node 16 (.leaf (zN (.v (.slice none 0 0)) 16)) (.leaf (zN (.v (.slice none 0 0)) 16))) (.node 16 (.leaf (zN (.v (.slice none 0 0)) 16)) (.leaf (zN (.v (.slice none 0 0)) 16))))) (.node 64 (.node 32 (.node 16 (.leaf (zN (.v (.slice none 0 0)) 16)) (.leaf (zN (.v (.slice none 0 0)) 16))) (.node 16 (.leaf (zN (.v (.slice none 0 0)) 16)) (.leaf (zN (.v (.slice none 0 0)) 16)))) (.node 32 (.node 16 (.leaf (zN (.v (.slice none 0 0)) 16)) (.leaf (zN (.v (.slice none 0 0)) 16))) (.node 16 (.leaf (zN (.v (.slice none 0 0)) 16)) (.leaf (zN (.v (.slice none 0 0)) 16)))))))) (.node 128 (.node 64 (.node 32 (.node 16 (.leaf (zN (.v (.slice none 0 0)) 16)) (.leaf (zN (.v (.slice none 0 0)) 16))) (.node 16 (.leaf (zN (.v (.slice none 0 0)) 16)) (.leaf (zN (.v (.slice none 0 0)) 16)))) (.node 32 (.node 16 (.leaf (zN (.v (.slice none 0 0)) 16)) (.leaf (zN (.v (.slice none 0 0)) 16))) (.node 16 (.leaf (zN (.v (.slice none 0 0)) 16)) (.leaf (zN (.v (.slice none 0 0)) 16))))) (.node 32 (.node 16 (.leaf (zN (.v (.slice none 0 0)) 16)) (.leaf (zN (.v (.slice none 0 0)) 16))) (.leaf (zN (.v (.slice none 0 0)) 16))))),
 mn 113 (([.v (.int .u64 1)])),
 mn 185 (([.ptr 22152 0,vi 50,vi 400,.v (.int .u64 1),.v (.slice none 0 0)])),
 mn 87 (([.ptr 28155 0])),
 mn 39 (([vi 0])),
 mn 4 (([vb false])),
 mn 188 (([.fn (.func 97) ([]) ([.ptr 28158 0,.ptr 28154 0,.ptr 28156 0])])),
 mn 87 (([.ptr 28155 0])),
 .dfd true,
 .loop .ready none 61 43 (patS .e [(0,.ptr 22152 0),(1,vi 50),(2,vi 400),(3,.v (.int .u64 1)),(7,.ptr 28154 0),(8,.v (.pointer none)),(9,vi 0),(10,.ptr 28156 0),(11,.ptr 28157 0),(12,.ptr 28158 0),(13,.ptr 28159 0),(16,vi 400),(17,vb false),(18,vb false),(19,vi 50),(20,vb false),(21,vb false),(22,.ptr 22152 0),(23,vi 50),(24,vi 400),(25,.v (.int .u64 1)),(26,.agg ([.ptr 22152 0,vi 50,vi 400,.v (.int .u64 1),.v (.slice none 0 0)])),(27,.ptr 28155 0),(28,.fn (.func 97) ([]) ([.ptr 28158 0,.ptr 28154 0,.ptr 28156 0])),(29,.ptr 28155 0),(30,.fn (.func 150) ([]) ([.ptr 28160 0]))]) [31,32] (subC (bodyF Tryz.prog 61) [1,0,1,1,1,1,1,0,1,0,0]) (subC (bodyF Tryz.prog 61) [1,0,1,1,1,1,1,0,1,0,1]) 28161],deadL 110,[.mem 5 (some 1) (lz 128)]]),28274⟩
end Go.Proofs.YtlmpjdionndncaaGreatDoor.RSeekNames
/-
 SeekNames: a state of its run (62).
-/
namespace Go.Proofs.YtlmpjdionndncaaGreatDoor.RSeekNames
open Go Go.RowKit Ev
set_option maxRecDepth 100000
noncomputable def st62 : ASt := ⟨⟨150,37,(patS st61.fr.T [(3,vi 101),(4,.su 28468 0 128 0 128),(10,vi 101),(12,vi 101),(13,.tup ([.su 28468 0 128 0 128,vi 0])),(22,vi 101),(23,vi 151),(24,.tup ([.su 28468 0 128 0 128,vi 0])),(25,.su 28468 0 128 0 128),(28,.su 28468 0 128 0 128),(36,vi 101)]),(rg 150 [1,0,0,1,1,0,0,1,1,0] 8),[cd 150 [1,0,0,1,1,0,0,1,1,1],.inBlock 1,cd 150 [1,0,0,1,1,1],il 150 [1,0,0],.inBlock 0],[],false,none,28163⟩,(cat2 [] (drN 0 st61.cs)),
 addL (patL (kilL st61.H [(28273,1)]) []) 28274 (catL [deadL 195]),28469⟩
end Go.Proofs.YtlmpjdionndncaaGreatDoor.RSeekNames
/-
 SeekNames: a state of its run (63).
-/
namespace Go.Proofs.YtlmpjdionndncaaGreatDoor.RSeekNames
open Go Go.RowKit Ev
set_option maxRecDepth 100000
noncomputable def st63 : ASt := ⟨⟨150,37,(patS st62.fr.T [(3,vi 167),(4,.su 28666 0 128 0 128),(10,vi 167),(12,vi 167),(13,.tup ([.su 28666 0 128 0 128,vi 0])),(22,vi 167),(23,vi 217),(24,.tup ([.su 28666 0 128 0 128,vi 0])),(25,.su 28666 0 128 0 128),(28,.su 28663 0 128 0 128),(36,vi 167)]),.no,[cd 150 [1,0,0,1,1,0,0,1,1],.inBlock 1,cd 150 [1,0,0,1,1,1],il 150 [1,0,0],.inBlock 0],[],false,none,28163⟩,(cat2 [] (drN 0 st62.cs)),
 addL (patL (kilL st62.H []) []) 28469 (catL [deadL 197,[.mem 5 (some 1) (lz 128)]]),28667⟩
end Go.Proofs.YtlmpjdionndncaaGreatDoor.RSeekNames
/-
 SeekNames: a state of its run (64).
-/
namespace Go.Proofs.YtlmpjdionndncaaGreatDoor.RSeekNames
open Go Go.RowKit Ev
set_option maxRecDepth 100000
noncomputable def st64 : ASt := ⟨⟨150,37,(patS st63.fr.T [(3,vi 232),(4,.su 28861 0 128 0 128),(10,vi 232),(12,vi 232),(13,.tup ([.su 28861 0 128 0 128,vi 0])),(22,vi 232),(23,vi 282),(24,.tup ([.su 28861 0 128 0 128,vi 0])),(25,.su 28861 0 128 0 128),(28,.su 28861 0 128 0 128),(36,vi 232)]),(rg 150 [1,0,0,1,1,0,0,1,1,0] 8),[cd 150 [1,0,0,1,1,0,0,1,1,1],.inBlock 1,cd 150 [1,0,0,1,1,1],il 150 [1,0,0],.inBlock 0],[],false,none,28163⟩,(cat2 [] (drN 0 st63.cs)),
 addL (patL (kilL st63.H [(28666,1)]) []) 28667 (catL [deadL 195]),28862⟩
end Go.Proofs.YtlmpjdionndncaaGreatDoor.RSeekNames
/-
 SeekNames: a state of its run (65).
-/
namespace Go.Proofs.YtlmpjdionndncaaGreatDoor.RSeekNames
open Go Go.RowKit Ev
set_option maxRecDepth 100000
noncomputable def st65 : ASt := ⟨⟨150,37,(patS st64.fr.T [(3,vi 298),(4,.su 29059 0 128 0 128),(10,vi 298),(12,vi 298),(13,.tup ([.su 29059 0 128 0 128,vi 0])),(22,vi 298),(23,vi 348),(24,.tup ([.su 29059 0 128 0 128,vi 0])),(25,.su 29059 0 128 0 128),(28,.su 29056 0 128 0 128),(36,vi 298)]),.no,[cd 150 [1,0,0,1,1,0,0,1,1],.inBlock 1,cd 150 [1,0,0,1,1,1],il 150 [1,0,0],.inBlock 0],[],false,none,28163⟩,(cat2 [] (drN 0 st64.cs)),
 addL (patL (kilL st64.H []) []) 28862 (catL [deadL 197,[.mem 5 (some 1) (lz 128)]]),29060⟩
end Go.Proofs.YtlmpjdionndncaaGreatDoor.RSeekNames
/-
 SeekNames: a state of its run (66).
-/
namespace Go.Proofs.YtlmpjdionndncaaGreatDoor.RSeekNames
open Go Go.RowKit Ev
set_option maxRecDepth 100000
noncomputable def st66 : ASt := ⟨⟨150,37,(patS st65.fr.T [(3,vi 363),(4,.su 29254 0 128 0 128),(10,vi 363),(12,vi 363),(13,.tup ([.su 29254 0 128 0 128,vi 0])),(22,vi 363),(23,vi 413),(24,.tup ([.su 29254 0 128 0 128,vi 0])),(25,.su 29254 0 128 0 128),(28,.su 29254 0 128 0 128),(36,vi 363)]),(rg 150 [1,0,0,1,1,0,0,1,1,0] 8),[cd 150 [1,0,0,1,1,0,0,1,1,1],.inBlock 1,cd 150 [1,0,0,1,1,1],il 150 [1,0,0],.inBlock 0],[],false,none,28163⟩,(cat2 [] (drN 0 st65.cs)),
 addL (patL (kilL st65.H [(29059,1)]) []) 29060 (catL [deadL 195]),29255⟩
end Go.Proofs.YtlmpjdionndncaaGreatDoor.RSeekNames
/-
 SeekNames: a state of its run (67).
-/
namespace Go.Proofs.YtlmpjdionndncaaGreatDoor.RSeekNames
open Go Go.RowKit Ev
set_option maxRecDepth 100000
noncomputable def st67 : ASt := ⟨⟨32,117,(patS (frC st66 1).T [(44,.tup ([.ptr 28155 0,vi 0]))]),(rg 32 [1,1,1,1,0] 4),[cd 32 [1,1,1,1,1]],[],false,none,22149⟩,(cat2 [] (drN 2 st66.cs)),
 addL (patL (kilL st66.H [(28154,1),(28156,7)]) []) 29255 (catL [deadL 108]),29363⟩
end Go.Proofs.YtlmpjdionndncaaGreatDoor.RSeekNames
/-
 SeekNames: a state of its run (68).
-/
namespace Go.Proofs.YtlmpjdionndncaaGreatDoor.RSeekNames
open Go Go.RowKit Ev
set_option maxRecDepth 100000
noncomputable def st68 : ASt := ⟨⟨62,81,(patS .e [(0,.ptr 22153 0),(1,vi 50),(2,vi 400),(3,.v (.int .u64 1)),(8,.v (.pointer none)),(9,vi 0),(10,.ptr 29363 0),(11,vb true),(12,vi 181),(13,.su 29545 0 128 0 128),(14,vi 0),(15,.v (.int .u64 0)),(16,.v (.int .u64 0)),(17,.s0),(18,vi 80),(19,vi 400),(20,vb false),(21,vb false),(22,vi 50),(23,vb false),(24,vb false),(25,.ptr 22153 0),(26,vi 50),(27,vi 400),(28,.v (.int .u64 1)),(29,.agg ([.ptr 22153 0,vi 50,vi 400,.v (.int .u64 1),.v (.slice none 0 0)])),(30,.ptr 29363 0),(31,vi 181),(32,vi 400),(33,vb true),(34,vi 180),(35,vi 181),(36,.tup ([.su 29545 0 128 0 128,vi 0])),(37,.ptr 22153 0),(38,vi 50),(39,vi 181),(40,vi 231),(41,.tup ([.su 29545 0 128 0 128,vi 0])),(42,.su 29545 0 128 0 128),(43,vi 0),(44,vi 0),(45,vb false),(47,.tup ([.v (.int .u64 0),.v (.int .u64 0),.s0,vi 80])),(48,.su 29545 0 128 0 128),(49,.tup ([.v (.int .u64 0),.v (.int .u64 0),.s0,vi 80])),(50,.v (.int .u64 0)),(51,.v (.int .u64 0)),(52,.s0),(53,vi 80),(54,vi 80),(55,vb true),(56,vb true),(57,.v (.tuple #[])),(58,.v (.tuple #[])),(59,.v (.tuple #[])),(60,vb true),(61,vb true),(62,.v (.tuple #[])),(63,.v (.tuple #[])),(64,.v (.tuple #[])),(65,.v (.tuple #[])),(66,.v (.tuple #[])),(67,vb true),(68,vb true),(69,vb false)]),(rg 62 [1,1,1,1,0,1,0,0,1,0,0,1,1,1,0,0] 10),[cd 62 [1,1,1,1,0,1,0,0,1,0,0,1,1,1,0,1],cd 62 [1,1,1,1,0,1,0,0,1,0,0,1,1,1,1],.inBlock 1,cd 62 [1,1,1,1,0,1,0,0,1,1],il 62 [1,1,1,1,0,1,0,0],.inBlock 0,cd 62 [1,1,1,1,1]],[],false,none,29363⟩,(cat2 [⟨32,117,(patS st67.fr.T [(9,.ptr 28155 0),(10,vi 0),(40,.tup ([.ptr 28155 0,vi 0])),(45,.ptr 28155 0),(46,vi 0),(48,.ptr 22153 0),(49,.ptr 22149 4),(50,vi 400)]),(rg 32 [1,1,1,1,1,0] 3),[cd 32 [1,1,1,1,1,1]],[],false,none,22149⟩] (drN 0 st67.cs)),
 addL (patL (kilL st67.H []) []) 29363 (catL [[mn 193 (([.ptr 22153 0,vi 50,vi 400,.v (.int .u64 1),.v (.slice none 0 0)]))],deadL 182]),29546⟩
end Go.Proofs.YtlmpjdionndncaaGreatDoor.RSeekNames
/-
 SeekNames: a state of its run (69).
-/
namespace Go.Proofs.YtlmpjdionndncaaGreatDoor.RSeekNames
open Go Go.RowKit Ev
set_option maxRecDepth 100000
noncomputable def st69 : ASt := ⟨⟨62,81,(patS st68.fr.T [(12,vi 363),(13,.su 29727 0 128 0 128),(31,vi 363),(34,vi 362),(35,vi 363),(36,.tup ([.su 29727 0 128 0 128,vi 0])),(39,vi 363),(40,vi 413),(41,.tup ([.su 29727 0 128 0 128,vi 0])),(42,.su 29727 0 128 0 128),(48,.su 29727 0 128 0 128)]),(rg 62 [1,1,1,1,0,1,0,0,1,0,0,1,1,1,0,0] 10),[cd 62 [1,1,1,1,0,1,0,0,1,0,0,1,1,1,0,1],cd 62 [1,1,1,1,0,1,0,0,1,0,0,1,1,1,1],.inBlock 1,cd 62 [1,1,1,1,0,1,0,0,1,1],il 62 [1,1,1,1,0,1,0,0],.inBlock 0,cd 62 [1,1,1,1,1]],[],false,none,29363⟩,(cat2 [] (drN 0 st68.cs)),
 addL (patL (kilL st68.H []) []) 29546 (catL [deadL 182]),29728⟩
end Go.Proofs.YtlmpjdionndncaaGreatDoor.RSeekNames
/-
 SeekNames: a state of its run (70).
-/
namespace Go.Proofs.YtlmpjdionndncaaGreatDoor.RSeekNames
open Go Go.RowKit Ev
set_option maxRecDepth 100000
noncomputable def st70 : ASt := ⟨⟨68,149,(patS .e [(0,.ptr 30065 0),(1,.agg ([vi 8,vi 1,vi 2,vb false,vi 400,vi 1200])),(2,.sl 22148 0 5 5),(4,.ptr 30066 0),(6,vb false),(7,vi 13),(8,vi 0),(9,.ptr 30067 0),(10,vi 0),(11,.ptr 30095 0),(12,vi 0),(15,.ptr 30066 1),(16,vi 1),(17,vi 13),(18,.sl 22148 0 5 5),(19,vi 5),(20,vi 0),(21,vb true),(22,vi 0),(23,.tup ([.agg ([.v (.string ⟨#[]⟩),vi 1,vi 1,.su 30094 0 1 0 1,vi 450,vi 1]),vi 0])),(24,.ptr 30065 0),(25,.ptr 30065 0),(26,.ptr 30065 1),(27,.ptr 29792 0),(28,.ptr 29771 0),(29,.sl 22148 0 5 5),(30,vi 0),(31,.ptr 22148 0),(32,.ptr 22148 0),(33,vi 1),(34,.sl 22148 0 5 5),(35,vi 0),(36,.ptr 22148 0),(37,.ptr 22148 1),(38,.sl 22128 0 1 1),(39,.tup ([.agg ([.v (.string ⟨#[]⟩),vi 1,vi 1,.su 30094 0 1 0 1,vi 450,vi 1]),vi 0])),(40,.agg ([.v (.string ⟨#[]⟩),vi 1,vi 1,.su 30094 0 1 0 1,vi 450,vi 1])),(41,vi 0),(42,.tup ([.agg ([.v (.string ⟨#[]⟩),vi 1,vi 1,.su 30098 0 1 0 1,vi 450,vi 1]),vi 0])),(43,.ptr 30065 0),(44,.ptr 30065 0),(45,.ptr 30065 3),(46,.ptr 29839 0),(47,.ptr 29839 0),(48,.ptr 29839 0),(49,.ptr 29781 0),(50,.sl 22148 0 5 5),(51,vi 0),(52,.ptr 22148 0),(53,.ptr 22148 0),(54,vi 1),(55,.sl 22148 0 5 5),(56,vi 0),(57,.ptr 22148 0),(58,.ptr 22148 1),(59,.sl 22128 0 1 1),(60,.tup ([.agg ([.v (.string ⟨#[]⟩),vi 1,vi 1,.su 30098 0 1 0 1,vi 450,vi 1]),vi 0])),(61,.agg ([.v (.string ⟨#[]⟩),vi 1,vi 1,.su 30098 0 1 0 1,vi 450,vi 1])),(62,vi 0)]),.no,[cd 68 [1,1,0,1,0,0,1,1,0,0,1,1,1],.inBlock 1,cd 68 [1,1,0,1,0,0,1,1,1],il 68 [1,1,0,1,0,0],.inBlock 0,cd 68 [1,1,1]],[],false,none,30066⟩,(cat2 [⟨32,117,(patS .e [(0,.agg ([vi 8,vi 1,vi 2,vb false,vi 400,vi 1200])),(1,.sl 22148 0 5 5),(2,.ptr 22149 0),(4,.v (.pointer none)),(5,.ptr 22152 0),(6,vi 0),(7,.ptr 22153 0),(8,vi 0),(9,.ptr 28155 0),(10,vi 0),(11,.ptr 29363 0),(12,vi 0),(13,.ptr 29771 0),(14,vi 0),(15,.ptr 29781 0),(16,vi 0),(17,.ptr 29792 0),(18,vi 0),(19,.ptr 29839 0),(20,vi 0),(21,.ptr 30065 0),(22,.tup ([.ptr 22152 0,vi 0])),(23,.ptr 22149 5),(24,vi 1200),(25,.tup ([.ptr 22152 0,vi 0])),(26,.ptr 22152 0),(27,vi 0),(28,.tup ([.ptr 22153 0,vi 0])),(29,.ptr 22149 5),(30,vi 1200),(31,.tup ([.ptr 22153 0,vi 0])),(32,.ptr 22153 0),(33,vi 0),(34,vi 0),(35,vb false),(36,vb false),(37,vi 0),(38,vb false),(39,vb false),(40,.tup ([.ptr 28155 0,vi 0])),(41,.ptr 22152 0),(42,.ptr 22149 4),(43,vi 400),(44,.tup ([.ptr 28155 0,vi 0])),(45,.ptr 28155 0),(46,vi 0),(47,.tup ([.ptr 29363 0,vi 0])),(48,.ptr 22153 0),(49,.ptr 22149 4),(50,vi 400),(51,.tup ([.ptr 29363 0,vi 0])),(52,.ptr 29363 0),(53,vi 0),(54,.tup ([.ptr 29771 0,vi 0])),(55,.ptr 22152 0),(56,.agg ([vi 8,vi 1,vi 2,vb false,vi 400,vi 1200])),(57,.agg (catL [[.v (.int .u64 1),vi 8,vi 1,vi 2,vb false,vi 400,vi 1200,.v (.slice none 0 0)],uN .i64 5 1,[.v (.int .u32 0)]])),(58,.tup ([.ptr 29771 0,vi 0])),(59,.ptr 29771 0),(60,vi 0),(61,.tup ([.ptr 29781 0,vi 0])),(62,.ptr 22153 0),(63,.agg ([vi 8,vi 1,vi 2,vb false,vi 400,vi 1200])),(64,.agg (catL [[.v (.int .u64 1),vi 8,vi 1,vi 2,vb false,vi 400,vi 1200,.v (.slice none 0 0)],uN .i64 5 1,[.v (.int .u32 0)]])),(65,.tup ([.ptr 29781 0,vi 0])),(66,.ptr 29781 0),(67,vi 0),(68,vi 0),(69,vb false),(70,vb false),(71,vi 0),(72,vb false),(73,vb false),(74,vb false),(75,vi 0),(76,vb false),(77,vb false),(78,vb false),(79,vi 0),(80,vb false),(81,vb false),(82,.tup ([.ptr 29792 0,vi 0])),(83,.ptr 29771 0),(84,.ptr 28155 0),(85,.tup ([.ptr 29792 0,vi 0])),(86,.ptr 29792 0),(87,vi 0),(88,.tup ([.ptr 29839 0,vi 0])),(89,.ptr 29781 0),(90,.ptr 29363 0),(91,.tup ([.ptr 29839 0,vi 0])),(92,.ptr 29839 0),(93,vi 0),(94,vi 0),(95,vb false),(96,vb false),(97,vi 0),(98,vb false),(99,vb false),(100,.ptr 22152 0),(101,.ptr 29792 0),(102,.ptr 22153 0),(103,.ptr 29839 0),(104,.agg ([.ptr 22152 0,.ptr 29792 0,.ptr 22153 0,.ptr 29839 0])),(105,.ptr 30065 0),(106,.ptr 29792 0),(107,.ptr 29771 0),(108,vb false),(109,vb false),(110,.ptr 30065 0),(111,.agg ([vi 8,vi 1,vi 2,vb false,vi 400,vi 1200])),(112,.sl 22148 0 5 5)]),(rg 32 [1,1,1,1,1,1,1,1,1,1,1,1,1,0,0] 7),[cd 32 [1,1,1,1,1,1,1,1,1,1,1,1,1,0,1],cd 32 [1,1,1,1,1,1,1,1,1,1,1,1,1,1]],[],false,none,22149⟩] (drN 1 st69.cs)),
 addL (patL (kilL st69.H [(22149,1),(22404,1)]) [(22150,.mem 349 none (.node 76800 (.node 38400 (.node 19200 (.node 9600 (.node 4800 (rz 4800) (.node 2400 (.node 1200 (rz 1200) (.node 600 (.node 300 (rz 300) (.node 150 (.node 75 (rz 75) (.node 37 (.node 18 (rz 18) (lu 19 22300745198530623162093550468306498700181504)) (.node 19 (lu 19 18518801667747479552) (lz 19)))) (.node 75 (.node 37 (.node 18 (lz 18) (lz 19)) (.node 19 (lz 19) (lu 19 20282409603651670532316941189120))) (.node 37 (.node 18 (lc ([u8 3 65536,z8 15])) (rz 19)) (rz 38))))) (rz 600))) (rz 2400))) (rz 9600)) (rz 19200)) (rz 38400)) (rz 76800))),
 (22151,.map [] 1),
 (22152,mn 179 (([.sl 22150 0 1200 1200,.mp 22151,vi 0,.v (.slice none 0 0),vi 0,vi 0,vi 1,vb false]))),
 (22153,mn 182 (([.su 28151 0 1200 0 1200,.su 28153 0 1200 0 1200,vi 0,.v (.slice none 0 0),vi 0,vi 0,vi 1,vb false]))),
 (28151,.mem 183 (some 1) (.node 1024 (.node 512 (.node 256 (.node 128 (.node 64 (.node 32 (.node 16 (.leaf (slP 5 0 128 128 16 22154)) (.leaf (slP 5 0 128 128 16 22234))) (.node 16 (.leaf (slP 5 0 128 128 16 22314)) (lc ([[.sl 22394 0 128 128,.sl 22399 0 128 128,.su 30061 0 128 0 128],slP 5 0 128 128 13 22409])))) (.node 32 (.node 16 (.leaf (slP 5 0 128 128 16 22474)) (.leaf (slP 5 0 128 128 16 22554))) (.node 16 (.leaf (slP 5 0 128 128 16 22634)) (.leaf (slP 5 0 128 128 16 22714))))) (.node 64 (.node 32 (.node 16 (.leaf (slP 5 0 128 128 16 22794)) (.leaf (slP 5 0 128 128 16 22874))) (.node 16 (.leaf (slP 5 0 128 128 16 22954)) (.leaf (slP 5 0 128 128 16 23034)))) (.node 32 (.node 16 (.leaf (slP 5 0 128 128 16 23114)) (.leaf (slP 5 0 128 128 16 23194))) (.node 16 (.leaf (slP 5 0 128 128 16 23274)) (.leaf (slP 5 0 128 128 16 23354)))))) (.node 128 (.node 64 (.node 32 (.node 16 (.leaf (slP 5 0 128 128 16 23434)) (.leaf (slP 5 0 128 128 16 23514))) (.node 16 (.leaf (slP 5 0 128 128 16 23594)) (.leaf (slP 5 0 128 128 16 23674)))) (.node 32 (.node 16 (.leaf (slP 5 0 128 128 16 23754)) (.leaf (slP 5 0 128 128 16 23834))) (.node 16 (.leaf (slP 5 0 128 128 16 23914)) (.leaf (slP 5 0 128 128 16 23994))))) (.node 64 (.node 32 (.node 16 (.leaf (slP 5 0 128 128 16 24074)) (.leaf (slP 5 0 128 128 16 24154))) (.node 16 (.leaf (slP 5 0 128 128 16 24234)) (.leaf (slP 5 0 128 128 16 24314)))) (.node 32 (.node 16 (.leaf (slP 5 0 128 128 16 24394)) (.leaf (slP 5 0 128 128 16 24474))) (.node 16 (.leaf (slP 5 0 128 128 16 24554)) (.leaf (slP 5 0 128 128 16 24634))))))) (.node 256 (.node 128 (.node 64 (.node 32 (.node 16 (.leaf (slP 5 0 128 128 16 24714)) (.leaf (slP 5 0 128 128 16 24794))) (.node 16 (.leaf (slP 5 0 128 128 16 24874)) (.leaf (slP 5 0 128 128 16 24954)))) (.node 32 (.node 16 (.leaf (slP 5 0 128 128 16 25034)) (.leaf (slP 5 0 128 128 16 25114))) (.node 16 (.leaf (slP 5 0 128 128 16 25194)) (.leaf (slP 5 0 128 128 16 25274))))) (.node 64 (.node 32 (.node 16 (.leaf (slP 5 0 128 128 16 25354)) (.leaf (slP 5 0 128 128 16 25434))) (.node 16 (.leaf (slP 5 0 128 128 16 25514)) (.leaf (slP 5 0 128 128 16 25594)))) (.node 32 (.node 16 (.leaf (slP 5 0 128 128 16 25674)) (.leaf (slP 5 0 128 128 16 25754))) (.node 16 (.leaf (slP 5 0 128 128 16 25834)) (.leaf (slP 5 0 128 128 16 25914)))))) (.node 128 (.node 64 (.node 32 (.node 16 (.leaf (slP 5 0 128 128 16 25994)) (.leaf (slP 5 0 128 128 16 26074))) (.node 16 (.leaf (slP 5 0 128 128 16 26154)) (.leaf (slP 5 0 128 128 16 26234)))) (.node 32 (.node 16 (.leaf (slP 5 0 128 128 16 26314)) (.leaf (slP 5 0 128 128 16 26394))) (.node 16 (.leaf (slP 5 0 128 128 16 26474)) (.leaf (slP 5 0 128 128 16 26554))))) (.node 64 (.node 32 (.node 16 (.leaf (slP 5 0 128 128 16 26634)) (.leaf (slP 5 0 128 128 16 26714))) (.node 16 (.leaf (slP 5 0 128 128 16 26794)) (.leaf (slP 5 0 128 128 16 26874)))) (.node 32 (.node 16 (.leaf (slP 5 0 128 128 16 26954)) (.leaf (slP 5 0 128 128 16 27034))) (.node 16 (.leaf (slP 5 0 128 128 16 27114)) (.leaf (slP 5 0 128 128 16 27194)))))))) (.node 128 (.node 64 (.node 32 (.node 16 (.leaf (slP 5 0 128 128 16 27274)) (.leaf (slP 5 0 128 128 16 27354))) (.node 16 (.leaf (slP 5 0 128 128 16 27434)) (.leaf (slP 5 0 128 128 16 27514)))) (.node 32 (.node 16 (.leaf (slP 5 0 128 128 16 27594)) (.leaf (slP 5 0 128 128 16 27674))) (.node 16 (.leaf (slP 5 0 128 128 16 27754)) (.leaf (slP 5 0 128 128 16 27834))))) (.node 32 (.node 16 (.leaf (slP 5 0 128 128 16 27914)) (.leaf (slP 5 0 128 128 16 27994))) (.leaf (slP 5 0 128 128 16 28074)))))),
 (28155,mn 185 (([.ptr 22152 0,vi 50,vi 400,.v (.int .u64 1),.su 29838 0 1 0 1]))),
 (29363,mn 193 (([.ptr 22153 0,vi 50,vi 400,.v (.int .u64 1),.su 30064 0 1 0 1])))]) 29728 (catL [deadL 43,[mn 137 (([.ptr 22152 0,vi 8,vi 1,vi 2,vb false,vi 400,vi 1200,.ptr 29774 0,.su 30090 0 1 0 1,vi 2,.ptr 29772 0,vi 0,.fn (.func 104) ([]) ([])])),
 mn 247 (([vi 8,.ifc 202 (.agg ([.ptr 29771 0])),.v (.slice none 0 0)])),
 .dead,
 mn 354 (([vb true,vi 450,vi 1200,.su 30088 0 1 0 1]))],deadL 6,[mn 208 (([.ptr 22153 0,vi 8,vi 1,vi 2,vb false,vi 400,vi 1200,.ptr 29784 0,.su 30104 0 1 0 1,vi 2,.v (.slice none 0 0),vi 0,vi 1073741824,vi 0])),
 .dead,
 .mem 4 none (.node 375 (.node 187 (.node 93 (.node 46 (.node 23 (lc ([[vb true],zN (vb false) 22])) (.rep (vb false) 23)) (.rep (vb false) 47)) (.rep (vb false) 94)) (.rep (vb false) 188)) (.rep (vb false) 375)),
 mn 364 (([vi 450,.sl 29783 0 750 750])),
 .dead,
 .map [] 0,
 mn 295 (([vb false,.v (.slice none 0 0),.mp 29786]))],deadL 4,[mn 91 (([.ptr 29771 0,.ptr 28155 0,.ptr 29787 0,vi 0,.v (.slice none 0 0),vi 0]))],deadL 43,[.mem 5 (some 1) (lc ([u8 1 1,z8 16])),
 .dead,
 ms 183 1 (([.su 29836 0 17 0 17])),
 mn 215 (([.ptr 29781 0,.ptr 29363 0,.v (.slice none 0 0),vi 0,.v (.slice none 0 0),vi 0]))],deadL 221,[.mem 5 (some 1) (lc ([u8 21 1467210628101726757728227461603902345270473607761,z8 87,u8 20 5708990770823839524542628887619325615909357791])),
 .mem 5 (some 1) (lc ([u8 1 1,z8 16])),
 .dead,
 ms 183 1 (([.su 30062 0 17 0 17])),
 mn 72 (([.ptr 22152 0,.ptr 29792 0,.ptr 22153 0,.ptr 29839 0])),
 .dead,
 mn 46 (([.v (.string ⟨#[]⟩),vi 1,vi 1,.su 30094 0 1 0 1,vi 450,vi 1])),
 .dead,
 .dead,
 .dead,
 ms 3 1 (([vi 3]))],deadL 16,[ms 255 2 (([vi 450,vi 1])),
 .dead,
 ms 46 6 (([.v (.string ⟨#[]⟩),vi 1,vi 1,.su 30071 0 1 0 1,vi 450,vi 1])),
 .dead,
 .dead,
 .dead,
 ms 3 1 (([vi 3])),
 mn 46 (([.v (.string ⟨#[]⟩),vi 1,vi 1,.su 30098 0 1 0 1,vi 450,vi 1])),
 .dead,
 .dead,
 ms 3 1 (([vi 3]))],deadL 5,[ms 46 6 (([.v (.string ⟨#[]⟩),vi 1,vi 1,.su 30098 0 1 0 1,vi 450,vi 1]))]]),30105⟩
end Go.Proofs.YtlmpjdionndncaaGreatDoor.RSeekNames
/-
 SeekNames: a state of its run (71).
-/
namespace Go.Proofs.YtlmpjdionndncaaGreatDoor.RSeekNames
open Go Go.RowKit Ev
set_option maxRecDepth 100000
noncomputable def st71 : ASt := ⟨⟨68,149,(patS .e [(0,.ptr 30065 0),(1,.agg ([vi 8,vi 1,vi 2,vb false,vi 400,vi 1200])),(2,.sl 22148 0 5 5),(4,.ptr 30066 0),(6,vb false),(7,vi 13),(8,vi 1),(9,.ptr 30535 0),(10,vi 0),(11,.ptr 30570 0),(12,vi 0),(13,vi 0),(14,.su 22135 0 2 0 2),(15,.ptr 30066 1),(16,vi 1),(17,vi 13),(18,.sl 22148 0 5 5),(19,vi 5),(20,vi 1),(21,vb true),(22,vi 1),(23,.tup ([.agg ([.v (.string ⟨#[]⟩),vi 2,vi 1,.su 30569 0 1 0 1,vi 451,vi 1]),vi 0])),(24,.ptr 30065 0),(25,.ptr 30065 0),(26,.ptr 30065 1),(27,.ptr 29792 0),(28,.ptr 29771 0),(29,.sl 22148 0 5 5),(30,vi 1),(31,.ptr 22148 3),(32,.ptr 22148 3),(33,vi 1),(34,.sl 22148 0 5 5),(35,vi 1),(36,.ptr 22148 3),(37,.ptr 22148 4),(38,.sl 22133 0 1 1),(39,.tup ([.agg ([.v (.string ⟨#[]⟩),vi 2,vi 1,.su 30569 0 1 0 1,vi 451,vi 1]),vi 0])),(40,.agg ([.v (.string ⟨#[]⟩),vi 2,vi 1,.su 30569 0 1 0 1,vi 451,vi 1])),(41,vi 0),(42,.tup ([.agg ([.v (.string ⟨#[]⟩),vi 2,vi 1,.su 30573 0 1 0 1,vi 451,vi 1]),vi 0])),(43,.ptr 30065 0),(44,.ptr 30065 0),(45,.ptr 30065 3),(46,.ptr 29839 0),(47,.ptr 29839 0),(48,.ptr 29839 0),(49,.ptr 29781 0),(50,.sl 22148 0 5 5),(51,vi 1),(52,.ptr 22148 3),(53,.ptr 22148 3),(54,vi 1),(55,.sl 22148 0 5 5),(56,vi 1),(57,.ptr 22148 3),(58,.ptr 22148 4),(59,.sl 22133 0 1 1),(60,.tup ([.agg ([.v (.string ⟨#[]⟩),vi 2,vi 1,.su 30573 0 1 0 1,vi 451,vi 1]),vi 0])),(61,.agg ([.v (.string ⟨#[]⟩),vi 2,vi 1,.su 30573 0 1 0 1,vi 451,vi 1])),(62,vi 0),(63,vi 0),(64,vb false),(65,vb false),(66,vi 0),(67,vb false),(68,vb false),(69,vb false),(70,.agg ([.v (.string ⟨#[]⟩),vi 2,vi 1,.su 30569 0 1 0 1,vi 451,vi 1])),(71,.agg ([.v (.string ⟨#[]⟩),vi 2,vi 1,.su 30573 0 1 0 1,vi 451,vi 1])),(72,vb true),(73,vb false),(74,vb false),(75,vi 0),(76,.ptr 30570 5),(77,vi 1),(78,vb true),(79,vi 0),(80,vi 1),(81,.sl 22148 0 5 5),(82,vi 1),(83,.ptr 22148 3),(84,.ptr 22148 5),(85,.su 22135 0 2 0 2),(86,vi 0),(87,vi 13),(88,vi 0),(89,vi 0),(90,vi 1),(91,vi 13),(92,vi 13),(93,.sl 22148 0 5 5),(94,vi 1),(95,.ptr 22148 3),(96,.ptr 22148 5),(97,.su 22135 0 2 0 2),(98,vi 2),(99,vi 2),(100,.su 22135 0 2 0 2),(101,.ptr 30065 0),(102,.ptr 30065 0),(103,.ptr 30065 1),(104,.ptr 29792 0),(105,.ptr 29771 0),(106,.ptr 30067 1),(107,vi 1),(108,vi 0),(109,.su 22130 0 3 0 3),(110,vi 0),(111,vb false),(112,vb false),(113,.ptr 30065 0),(114,.ptr 30065 0),(115,.ptr 30065 3),(116,.ptr 29839 0),(117,.ptr 29839 0),(118,.ptr 29839 0),(119,.ptr 29781 0),(120,.ptr 30095 1),(121,vi 1),(122,vi 0),(123,.su 22130 0 3 0 3),(124,vi 0),(125,vb false),(126,vb false),(127,vi 1)]),.no,[cd 68 [1,1,0,1,0,0,1,1,0,0,1,1,1,1,1,0,0,1,0,0,1],.inBlock 3,cd 68 [1,1,0,1,0,0,1,1,0,0,1,1,1,1,1,0,0,1,1],il 68 [1,1,0,1,0,0,1,1,0,0,1,1,1,1,1,0,0],.inBlock 2,.inBlock 1,cd 68 [1,1,0,1,0,0,1,1,1],il 68 [1,1,0,1,0,0],.inBlock 0,cd 68 [1,1,1]],[],false,none,30066⟩,(cat2 [] (drN 0 st70.cs)),
 addL (patL (kilL st70.H [(30067,1),(30088,1),(30090,1),(30094,2),(30104,1)]) [(22151,.map [(.int .i64 450,.agg (catL [u8 44 107507747624534602108699898359511054421074382649092368141952764740677632153429231990865886582710617592913,z8 80,u8 4 1228253713]),1)] 2),
 (22152,mn 179 (([.sl 22150 0 1200 1200,.mp 22151,vi 0,.v (.slice none 0 0),vi 0,vi 0,vi 2,vb false]))),
 (22153,mn 182 (([.su 28151 0 1200 0 1200,.su 28153 0 1200 0 1200,vi 0,.v (.slice none 0 0),vi 0,vi 0,vi 2,vb false]))),
 (28153,.mem 183 (some 1) (.node 1024 (.node 512 (.node 256 (.node 128 (.node 64 (.node 32 (.node 16 (.leaf (zN (.v (.slice none 0 0)) 16)) (.leaf (zN (.v (.slice none 0 0)) 16))) (.node 16 (.leaf (zN (.v (.slice none 0 0)) 16)) (.leaf (zN (.v (.slice none 0 0)) 16)))) (.node 32 (.node 16 (.leaf (zN (.v (.slice none 0 0)) 16)) (.leaf (zN (.v (.slice none 0 0)) 16))) (.node 16 (.leaf (zN (.v (.slice none 0 0)) 16)) (.leaf (zN (.v (.slice none 0 0)) 16))))) (.node 64 (.node 32 (.node 16 (.leaf (zN (.v (.slice none 0 0)) 16)) (.leaf (zN (.v (.slice none 0 0)) 16))) (.node 16 (.leaf (zN (.v (.slice none 0 0)) 16)) (.leaf (zN (.v (.slice none 0 0)) 16)))) (.node 32 (.node 16 (.leaf (zN (.v (.slice none 0 0)) 16)) (.leaf (zN (.v (.slice none 0 0)) 16))) (.node 16 (.leaf (zN (.v (.slice none 0 0)) 16)) (.leaf (zN (.v (.slice none 0 0)) 16)))))) (.node 128 (.node 64 (.node 32 (.node 16 (.leaf (zN (.v (.slice none 0 0)) 16)) (.leaf (zN (.v (.slice none 0 0)) 16))) (.node 16 (.leaf (zN (.v (.slice none 0 0)) 16)) (.leaf (zN (.v (.slice none 0 0)) 16)))) (.node 32 (.node 16 (.leaf (zN (.v (.slice none 0 0)) 16)) (.leaf (zN (.v (.slice none 0 0)) 16))) (.node 16 (.leaf (zN (.v (.slice none 0 0)) 16)) (.leaf (zN (.v (.slice none 0 0)) 16))))) (.node 64 (.node 32 (.node 16 (.leaf (zN (.v (.slice none 0 0)) 16)) (.leaf (zN (.v (.slice none 0 0)) 16))) (.node 16 (.leaf (zN (.v (.slice none 0 0)) 16)) (.leaf (zN (.v (.slice none 0 0)) 16)))) (.node 32 (.node 16 (lc ([[.v (.slice none 0 0),.v (.slice none 0 0),.su 30534 0 128 0 128],zN (.v (.slice none 0 0)) 13])) (.leaf (zN (.v (.slice none 0 0)) 16))) (.node 16 (.leaf (zN (.v (.slice none 0 0)) 16)) (.leaf (zN (.v (.slice none 0 0)) 16))))))) (.node 256 (.node 128 (.node 64 (.node 32 (.node 16 (.leaf (zN (.v (.slice none 0 0)) 16)) (.leaf (zN (.v (.slice none 0 0)) 16))) (.node 16 (.leaf (zN (.v (.slice none 0 0)) 16)) (.leaf (zN (.v (.slice none 0 0)) 16)))) (.node 32 (.node 16 (.leaf (zN (.v (.slice none 0 0)) 16)) (.leaf (zN (.v (.slice none 0 0)) 16))) (.node 16 (.leaf (zN (.v (.slice none 0 0)) 16)) (.leaf (zN (.v (.slice none 0 0)) 16))))) (.node 64 (.node 32 (.node 16 (.leaf (zN (.v (.slice none 0 0)) 16)) (.leaf (zN (.v (.slice none 0 0)) 16))) (.node 16 (.leaf (zN (.v (.slice none 0 0)) 16)) (.leaf (zN (.v (.slice none 0 0)) 16)))) (.node 32 (.node 16 (.leaf (zN (.v (.slice none 0 0)) 16)) (.leaf (zN (.v (.slice none 0 0)) 16))) (.node 16 (.leaf (zN (.v (.slice none 0 0)) 16)) (.leaf (zN (.v (.slice none 0 0)) 16)))))) (.node 128 (.node 64 (.node 32 (.node 16 (.leaf (zN (.v (.slice none 0 0)) 16)) (.leaf (zN (.v (.slice none 0 0)) 16))) (.node 16 (.leaf (zN (.v (.slice none 0 0)) 16)) (.leaf (zN (.v (.slice none 0 0)) 16)))) (.node 32 (.node 16 (.leaf (zN (.v (.slice none 0 0)) 16)) (.leaf (zN (.v (.slice none 0 0)) 16))) (.node 16 (.leaf (zN (.v (.slice none 0 0)) 16)) (.leaf (zN (.v (.slice none 0 0)) 16))))) (.node 64 (.node 32 (.node 16 (.leaf (zN (.v (.slice none 0 0)) 16)) (.leaf (zN (.v (.slice none 0 0)) 16))) (.node 16 (.leaf (zN (.v (.slice none 0 0)) 16)) (.leaf (zN (.v (.slice none 0 0)) 16)))) (.node 32 (.node 16 (.leaf (zN (.v (.slice none 0 0)) 16)) (.leaf (zN (.v (.slice none 0 0)) 16))) (.node 16 (.leaf (zN (.v (.slice none 0 0)) 16)) (.leaf (zN (.v (.slice none 0 0)) 16)))))))) (.node 128 (.node 64 (.node 32 (.node 16 (.leaf (zN (.v (.slice none 0 0)) 16)) (.leaf (zN (.v (.slice none 0 0)) 16))) (.node 16 (.leaf (zN (.v (.slice none 0 0)) 16)) (.leaf (zN (.v (.slice none 0 0)) 16)))) (.node 32 (.node 16 (.leaf (zN (.v (.slice none 0 0)) 16)) (.leaf (zN (.v (.slice none 0 0)) 16))) (.node 16 (.leaf (zN (.v (.slice none 0 0)) 16)) (.leaf (zN (.v (.slice none 0 0)) 16))))) (.node 32 (.node 16 (.leaf (zN (.v (.slice none 0 0)) 16)) (.leaf (zN (.v (.slice none 0 0)) 16))) (.leaf (zN (.v (.slice none 0 0)) 16)))))),
 (29771,mn 137 (([.ptr 22152 0,vi 8,vi 1,vi 2,vb false,vi 400,vi 1200,.ptr 29774 0,.su 30565 0 2 0 2,vi 3,.ptr 29772 0,vi 0,.fn (.func 104) ([]) ([])]))),
 (29772,mn 247 (([vi 8,.ifc 202 (.agg ([.ptr 29771 0])),.su 30138 0 0 0 1]))),
 (29774,mn 354 (([vb true,vi 450,vi 1200,.su 30561 0 1 0 1]))),
 (29781,mn 208 (([.ptr 22153 0,vi 8,vi 1,vi 2,vb false,vi 400,vi 1200,.ptr 29784 0,.su 30579 0 2 0 2,vi 3,.v (.slice none 0 0),vi 0,vi 1073741824,vi 0]))),
 (29783,.mem 4 none (.node 375 (.node 187 (.node 93 (.node 46 (.node 23 (lc ([[vb true,vb true],zN (vb false) 21])) (.rep (vb false) 23)) (.rep (vb false) 47)) (.rep (vb false) 94)) (.rep (vb false) 188)) (.rep (vb false) 375)))]) 30105 (catL [deadL 33,[ms 240 1 (([.v (.pointer none)]))],deadL 395,[.mem 5 (some 1) (lc ([u8 44 107507747624534602108699898359511054421074382649092368141952764740677632153429231990865886582710617592913,z8 80,u8 4 1228253713])),
 mn 46 (([.v (.string ⟨#[]⟩),vi 2,vi 1,.su 30569 0 1 0 1,vi 451,vi 1])),
 .dead,
 .dead,
 .dead,
 ms 3 1 (([vi 2]))],deadL 21,[ms 255 2 (([vi 450,vi 2])),
 .dead,
 .dead,
 .dead,
 ms 46 6 (([.v (.string ⟨#[]⟩),vi 1,vi 1,.su 30071 0 1 0 1,vi 450,vi 1,.v (.string ⟨#[]⟩),vi 2,vi 1,.su 30539 0 1 0 1,vi 451,vi 1])),
 .dead,
 .dead,
 .dead,
 ms 3 1 (([vi 2])),
 mn 46 (([.v (.string ⟨#[]⟩),vi 2,vi 1,.su 30573 0 1 0 1,vi 451,vi 1])),
 .dead,
 .dead,
 ms 3 1 (([vi 2]))],deadL 5,[ms 46 6 (([.v (.string ⟨#[]⟩),vi 1,vi 1,.su 30098 0 1 0 1,vi 450,vi 1,.v (.string ⟨#[]⟩),vi 2,vi 1,.su 30573 0 1 0 1,vi 451,vi 1])),
 .dead,
 .dead]]),30582⟩
end Go.Proofs.YtlmpjdionndncaaGreatDoor.RSeekNames
/-
 SeekNames: a state of its run (72).
-/
namespace Go.Proofs.YtlmpjdionndncaaGreatDoor.RSeekNames
open Go Go.RowKit Ev
set_option maxRecDepth 100000
noncomputable def st72 : ASt := ⟨⟨68,149,(patS st71.fr.T [(8,vi 2),(9,.ptr 30995 0),(11,.ptr 31030 0),(14,.sl 22137 0 2 2),(20,vi 2),(22,vi 2),(23,.tup ([.agg ([.v (.string ⟨#[]⟩),vi 3,vi 1,.su 31029 0 2 0 2,vi 452,vi 1]),vi 0])),(30,vi 2),(31,.ptr 22148 6),(32,.ptr 22148 6),(35,vi 2),(36,.ptr 22148 6),(37,.ptr 22148 7),(38,.sl 22136 0 2 2),(39,.tup ([.agg ([.v (.string ⟨#[]⟩),vi 3,vi 1,.su 31029 0 2 0 2,vi 452,vi 1]),vi 0])),(40,.agg ([.v (.string ⟨#[]⟩),vi 3,vi 1,.su 31029 0 2 0 2,vi 452,vi 1])),(42,.tup ([.agg ([.v (.string ⟨#[]⟩),vi 3,vi 1,.su 31033 0 2 0 2,vi 452,vi 1]),vi 0])),(51,vi 2),(52,.ptr 22148 6),(53,.ptr 22148 6),(56,vi 2),(57,.ptr 22148 6),(58,.ptr 22148 7),(59,.sl 22136 0 2 2),(60,.tup ([.agg ([.v (.string ⟨#[]⟩),vi 3,vi 1,.su 31033 0 2 0 2,vi 452,vi 1]),vi 0])),(61,.agg ([.v (.string ⟨#[]⟩),vi 3,vi 1,.su 31033 0 2 0 2,vi 452,vi 1])),(70,.agg ([.v (.string ⟨#[]⟩),vi 3,vi 1,.su 31029 0 2 0 2,vi 452,vi 1])),(71,.agg ([.v (.string ⟨#[]⟩),vi 3,vi 1,.su 31033 0 2 0 2,vi 452,vi 1])),(76,.ptr 31030 5),(82,vi 2),(83,.ptr 22148 6),(84,.ptr 22148 8),(85,.sl 22137 0 2 2),(94,vi 2),(95,.ptr 22148 6),(96,.ptr 22148 8),(97,.sl 22137 0 2 2),(100,.sl 22137 0 2 2),(106,.ptr 30995 1),(107,vi 3),(109,.sl 22137 0 2 2),(120,.ptr 31030 1),(121,vi 3),(123,.sl 22137 0 2 2),(127,vi 2)]),.no,[cd 68 [1,1,0,1,0,0,1,1,0,0,1,1,1,1,1,0,0,1,0,0,1,1],.inBlock 3,cd 68 [1,1,0,1,0,0,1,1,0,0,1,1,1,1,1,0,0,1,1],il 68 [1,1,0,1,0,0,1,1,0,0,1,1,1,1,1,0,0],.inBlock 2,.inBlock 1,cd 68 [1,1,0,1,0,0,1,1,1],il 68 [1,1,0,1,0,0],.inBlock 0,cd 68 [1,1,1]],[],false,none,30066⟩,(cat2 [] (drN 0 st71.cs)),
 addL (patL (kilL st71.H [(30535,1),(30561,1),(30565,1),(30569,2),(30579,1)]) [(22151,.map [(.int .i64 450,.agg (catL [u8 44 107507747624534602108699898359511054421074382649092368141952764740677632153429231990865886582710617592913,z8 80,u8 4 1228253713]),1),(.int .i64 451,.agg (catL [u8 36 7770675568902916283993784502299747186674799420801217061013020182932503125812295324753,z8 88,u8 4 1727294039]),2),(.int .i64 452,.agg (catL [u8 36 5828006676677187213179634887144785466730310609432747972080412353603969296930122585169,z8 88,u8 4 2757394581]),3)] 4),
 (22152,mn 179 (([.sl 22150 0 1200 1200,.mp 22151,vi 0,.v (.slice none 0 0),vi 0,vi 0,vi 4,vb false]))),
 (22153,mn 182 (([.su 28151 0 1200 0 1200,.su 28153 0 1200 0 1200,vi 0,.v (.slice none 0 0),vi 0,vi 0,vi 4,vb false]))),
 (28153,.mem 183 (some 1) (.node 1024 (.node 512 (.node 256 (.node 128 (.node 64 (.node 32 (.node 16 (.leaf (zN (.v (.slice none 0 0)) 16)) (.leaf (zN (.v (.slice none 0 0)) 16))) (.node 16 (.leaf (zN (.v (.slice none 0 0)) 16)) (.leaf (zN (.v (.slice none 0 0)) 16)))) (.node 32 (.node 16 (.leaf (zN (.v (.slice none 0 0)) 16)) (.leaf (zN (.v (.slice none 0 0)) 16))) (.node 16 (.leaf (zN (.v (.slice none 0 0)) 16)) (.leaf (zN (.v (.slice none 0 0)) 16))))) (.node 64 (.node 32 (.node 16 (.leaf (zN (.v (.slice none 0 0)) 16)) (.leaf (zN (.v (.slice none 0 0)) 16))) (.node 16 (.leaf (zN (.v (.slice none 0 0)) 16)) (.leaf (zN (.v (.slice none 0 0)) 16)))) (.node 32 (.node 16 (.leaf (zN (.v (.slice none 0 0)) 16)) (.leaf (zN (.v (.slice none 0 0)) 16))) (.node 16 (.leaf (zN (.v (.slice none 0 0)) 16)) (.leaf (zN (.v (.slice none 0 0)) 16)))))) (.node 128 (.node 64 (.node 32 (.node 16 (.leaf (zN (.v (.slice none 0 0)) 16)) (.leaf (zN (.v (.slice none 0 0)) 16))) (.node 16 (.leaf (zN (.v (.slice none 0 0)) 16)) (.leaf (zN (.v (.slice none 0 0)) 16)))) (.node 32 (.node 16 (.leaf (zN (.v (.slice none 0 0)) 16)) (.leaf (zN (.v (.slice none 0 0)) 16))) (.node 16 (.leaf (zN (.v (.slice none 0 0)) 16)) (.leaf (zN (.v (.slice none 0 0)) 16))))) (.node 64 (.node 32 (.node 16 (.leaf (zN (.v (.slice none 0 0)) 16)) (.leaf (zN (.v (.slice none 0 0)) 16))) (.node 16 (.leaf (zN (.v (.slice none 0 0)) 16)) (.leaf (zN (.v (.slice none 0 0)) 16)))) (.node 32 (.node 16 (lc ([[.v (.slice none 0 0),.v (.slice none 0 0),.su 30534 0 128 0 128,.su 30994 0 128 0 128,.su 31456 0 128 0 128],zN (.v (.slice none 0 0)) 11])) (.leaf (zN (.v (.slice none 0 0)) 16))) (.node 16 (.leaf (zN (.v (.slice none 0 0)) 16)) (.leaf (zN (.v (.slice none 0 0)) 16))))))) (.node 256 (.node 128 (.node 64 (.node 32 (.node 16 (.leaf (zN (.v (.slice none 0 0)) 16)) (.leaf (zN (.v (.slice none 0 0)) 16))) (.node 16 (.leaf (zN (.v (.slice none 0 0)) 16)) (.leaf (zN (.v (.slice none 0 0)) 16)))) (.node 32 (.node 16 (.leaf (zN (.v (.slice none 0 0)) 16)) (.leaf (zN (.v (.slice none 0 0)) 16))) (.node 16 (.leaf (zN (.v (.slice none 0 0)) 16)) (.leaf (zN (.v (.slice none 0 0)) 16))))) (.node 64 (.node 32 (.node 16 (.leaf (zN (.v (.slice none 0 0)) 16)) (.leaf (zN (.v (.slice none 0 0)) 16))) (.node 16 (.leaf (zN (.v (.slice none 0 0)) 16)) (.leaf (zN (.v (.slice none 0 0)) 16)))) (.node 32 (.node 16 (.leaf (zN (.v (.slice none 0 0)) 16)) (.leaf (zN (.v (.slice none 0 0)) 16))) (.node 16 (.leaf (zN (.v (.slice none 0 0)) 16)) (.leaf (zN (.v (.slice none 0 0)) 16)))))) (.node 128 (.node 64 (.node 32 (.node 16 (.leaf (zN (.v (.slice none 0 0)) 16)) (.leaf (zN (.v (.slice none 0 0)) 16))) (.node 16 (.leaf (zN (.v (.slice none 0 0)) 16)) (.leaf (zN (.v (.slice none 0 0)) 16)))) (.node 32 (.node 16 (.leaf (zN (.v (.slice none 0 0)) 16)) (.leaf (zN (.v (.slice none 0 0)) 16))) (.node 16 (.leaf (zN (.v (.slice none 0 0)) 16)) (.leaf (zN (.v (.slice none 0 0)) 16))))) (.node 64 (.node 32 (.node 16 (.leaf (zN (.v (.slice none 0 0)) 16)) (.leaf (zN (.v (.slice none 0 0)) 16))) (.node 16 (.leaf (zN (.v (.slice none 0 0)) 16)) (.leaf (zN (.v (.slice none 0 0)) 16)))) (.node 32 (.node 16 (.leaf (zN (.v (.slice none 0 0)) 16)) (.leaf (zN (.v (.slice none 0 0)) 16))) (.node 16 (.leaf (zN (.v (.slice none 0 0)) 16)) (.leaf (zN (.v (.slice none 0 0)) 16)))))))) (.node 128 (.node 64 (.node 32 (.node 16 (.leaf (zN (.v (.slice none 0 0)) 16)) (.leaf (zN (.v (.slice none 0 0)) 16))) (.node 16 (.leaf (zN (.v (.slice none 0 0)) 16)) (.leaf (zN (.v (.slice none 0 0)) 16)))) (.node 32 (.node 16 (.leaf (zN (.v (.slice none 0 0)) 16)) (.leaf (zN (.v (.slice none 0 0)) 16))) (.node 16 (.leaf (zN (.v (.slice none 0 0)) 16)) (.leaf (zN (.v (.slice none 0 0)) 16))))) (.node 32 (.node 16 (.leaf (zN (.v (.slice none 0 0)) 16)) (.leaf (zN (.v (.slice none 0 0)) 16))) (.leaf (zN (.v (.slice none 0 0)) 16)))))),
 (29771,mn 137 (([.ptr 22152 0,vi 8,vi 1,vi 2,vb false,vi 400,vi 1200,.ptr 29774 0,.su 31025 0 3 0 3,vi 4,.ptr 29772 0,vi 0,.fn (.func 104) ([]) ([])]))),
 (29774,mn 354 (([vb true,vi 450,vi 1200,.su 31021 0 1 0 1]))),
 (29781,mn 208 (([.ptr 22153 0,vi 8,vi 1,vi 2,vb false,vi 400,vi 1200,.ptr 29784 0,.su 31039 0 3 0 3,vi 4,.v (.slice none 0 0),vi 0,vi 1073741824,vi 0]))),
 (29783,.mem 4 none (.node 375 (.node 187 (.node 93 (.node 46 (.node 23 (lc ([[vb true,vb true,vb true],zN (vb false) 20])) (.rep (vb false) 23)) (.rep (vb false) 47)) (.rep (vb false) 94)) (.rep (vb false) 188)) (.rep (vb false) 375)))]) 30582 (catL [deadL 412,[.mem 5 (some 1) (lc ([u8 36 7770675568902916283993784502299747186674799420801217061013020182932503125812295324753,z8 88,u8 4 1727294039])),
 mn 46 (([.v (.string ⟨#[]⟩),vi 3,vi 1,.su 31029 0 2 0 2,vi 452,vi 1])),
 .dead,
 .dead,
 .dead,
 ms 3 1 (([vi 1,vi 2]))],deadL 21,[ms 255 2 (([vi 450,vi 3])),
 .dead,
 .dead,
 .dead,
 ms 46 6 (([.v (.string ⟨#[]⟩),vi 1,vi 1,.su 30071 0 1 0 1,vi 450,vi 1,.v (.string ⟨#[]⟩),vi 2,vi 1,.su 30539 0 1 0 1,vi 451,vi 1,.v (.string ⟨#[]⟩),vi 3,vi 1,.su 30999 0 2 0 2,vi 452,vi 1])),
 .dead,
 .dead,
 .dead,
 ms 3 1 (([vi 1,vi 2])),
 mn 46 (([.v (.string ⟨#[]⟩),vi 3,vi 1,.su 31033 0 2 0 2,vi 452,vi 1])),
 .dead,
 .dead,
 ms 3 1 (([vi 1,vi 2]))],deadL 5,[ms 46 6 (([.v (.string ⟨#[]⟩),vi 1,vi 1,.su 30098 0 1 0 1,vi 450,vi 1,.v (.string ⟨#[]⟩),vi 2,vi 1,.su 30573 0 1 0 1,vi 451,vi 1,.v (.string ⟨#[]⟩),vi 3,vi 1,.su 31033 0 2 0 2,vi 452,vi 1]))],deadL 416,[.mem 5 (some 1) (lc ([u8 36 5828006676677187213179634887144785466730310609432747972080412353603969296930122585169,z8 88,u8 4 2757394581]))]]),31457⟩
end Go.Proofs.YtlmpjdionndncaaGreatDoor.RSeekNames
/-
 SeekNames: a state of its run (73).
-/
namespace Go.Proofs.YtlmpjdionndncaaGreatDoor.RSeekNames
open Go Go.RowKit Ev
set_option maxRecDepth 100000
noncomputable def st73 : ASt := ⟨⟨30,19,(patS .e [(0,vb false),(4,.ptr 29792 0)]),(rg 30 [1,0] 1),[cd 30 [1,1]],[],false,none,22125⟩,[⟨6,272,(patS .e [(0,vb false),(1,.ptr 7667 0),(2,.ptr 9844 0),(3,vi 3),(4,.ptr 11995 0),(5,vi 0),(6,.ptr 15034 0),(7,vi 0),(8,.ptr 17190 0),(9,vi 0),(10,vi 8),(11,.ptr 17563 0),(12,vi 0),(13,.ptr 18111 0),(14,vi 0),(15,.ptr 18148 0),(16,vi 201),(17,.ptr 18158 0),(18,vi 260),(19,.ptr 18168 0),(20,vi 260),(21,.ptr 18815 0),(22,vi 0),(23,vi 1),(24,vi 0),(25,vi 0),(26,vi 0),(27,vi 0),(28,vi 0),(29,vi 0),(30,vi 201),(31,vi 0),(32,vi 0),(33,.v (.pointer none)),(34,.ptr 20229 0),(35,vi 1),(36,.ptr 20240 0),(37,vi 1),(38,vi 0),(39,vi 1),(40,vb true),(41,.ptr 7667 0),(42,.ptr 7667 0),(43,vb false),(44,.tup ([.agg ([.v (.string ⟨#[]⟩),vi 0,vi 0,.v (.slice none 0 0),vi 0,vi 0]),vi 3])),(45,.ptr 7667 0),(46,.agg ([vi 2,vi 2,vi 3,vb true])),(47,.tup ([.agg ([.v (.string ⟨#[]⟩),vi 0,vi 0,.v (.slice none 0 0),vi 0,vi 0]),vi 3])),(48,.agg ([.v (.string ⟨#[]⟩),vi 0,vi 0,.v (.slice none 0 0),vi 0,vi 0])),(49,vi 3),(50,.tup ([.agg ([.v (.string ⟨#[]⟩),vi 7,vi 1,.su 10562 0 1 0 1,vi 455,vi 1]),vi 0])),(51,.ptr 7667 0),(52,.agg ([vi 2,vi 2,vi 3,vb true])),(53,.tup ([.agg ([.v (.string ⟨#[]⟩),vi 7,vi 1,.su 10562 0 1 0 1,vi 455,vi 1]),vi 0])),(54,.agg ([.v (.string ⟨#[]⟩),vi 7,vi 1,.su 10562 0 1 0 1,vi 455,vi 1])),(55,vi 0),(56,.tup ([.agg ([.v (.string ⟨#[]⟩),vi 11,vi 1,.su 13940 0 1 0 1,vi 459,vi 1]),vi 0])),(57,.ptr 7667 0),(58,.agg ([vi 2,vi 2,vi 3,vb true])),(59,.tup ([.agg ([.v (.string ⟨#[]⟩),vi 11,vi 1,.su 13940 0 1 0 1,vi 459,vi 1]),vi 0])),(60,.agg ([.v (.string ⟨#[]⟩),vi 11,vi 1,.su 13940 0 1 0 1,vi 459,vi 1])),(61,vi 0),(62,.tup ([.agg ([.v (.string ⟨#[]⟩),vi 13,vi 1,.su 15867 0 1 0 1,vi 461,vi 1]),vi 0])),(63,.ptr 7667 0),(64,.agg ([vi 2,vi 2,vi 3,vb true])),(65,.tup ([.agg ([.v (.string ⟨#[]⟩),vi 13,vi 1,.su 15867 0 1 0 1,vi 461,vi 1]),vi 0])),(66,.agg ([.v (.string ⟨#[]⟩),vi 13,vi 1,.su 15867 0 1 0 1,vi 461,vi 1])),(67,vi 0),(68,.ptr 7667 0),(69,vi 8),(70,.tup ([.agg ([.v (.string ⟨#[]⟩),vi 14,vi 1,.su 17269 0 1 0 1,vi 462,vi 1]),vi 0])),(71,.ptr 7667 0),(72,.agg ([vi 2,vi 2,vi 3,vb true])),(73,.tup ([.agg ([.v (.string ⟨#[]⟩),vi 14,vi 1,.su 17269 0 1 0 1,vi 462,vi 1]),vi 0])),(74,.agg ([.v (.string ⟨#[]⟩),vi 14,vi 1,.su 17269 0 1 0 1,vi 462,vi 1])),(75,vi 0),(76,.tup ([.agg ([.v (.string ⟨#[]⟩),vi 16,vi 1,.su 17693 0 2 0 2,vi 463,vi 1]),vi 0])),(77,.ptr 7667 0),(78,.agg ([vi 2,vi 2,vi 3,vb true])),(79,.tup ([.agg ([.v (.string ⟨#[]⟩),vi 16,vi 1,.su 17693 0 2 0 2,vi 463,vi 1]),vi 0])),(80,.agg ([.v (.string ⟨#[]⟩),vi 16,vi 1,.su 17693 0 2 0 2,vi 463,vi 1])),(81,vi 0),(82,.tup ([.agg ([.v (.string ⟨#[]⟩),vi 0,vi 0,.v (.slice none 0 0),vi 0,vi 0]),vi 201])),(83,.ptr 7667 0),(84,.agg ([vi 2,vi 2,vi 3,vb true])),(85,.tup ([.agg ([.v (.string ⟨#[]⟩),vi 0,vi 0,.v (.slice none 0 0),vi 0,vi 0]),vi 201])),(86,.agg ([.v (.string ⟨#[]⟩),vi 0,vi 0,.v (.slice none 0 0),vi 0,vi 0])),(87,vi 201),(88,.tup ([.agg ([.v (.string ⟨#[]⟩),vi 0,vi 0,.v (.slice none 0 0),vi 0,vi 0]),vi 260])),(89,.ptr 7667 0),(90,.agg ([vi 0,vi 2,vi 3,vb true])),(91,.tup ([.agg ([.v (.string ⟨#[]⟩),vi 0,vi 0,.v (.slice none 0 0),vi 0,vi 0]),vi 260])),(92,.agg ([.v (.string ⟨#[]⟩),vi 0,vi 0,.v (.slice none 0 0),vi 0,vi 0])),(93,vi 260),(94,.tup ([.agg ([.v (.string ⟨#[]⟩),vi 0,vi 0,.v (.slice none 0 0),vi 0,vi 0]),vi 260])),(95,.ptr 7667 0),(96,.agg ([vi 0,vi 2,vi 3,vb true])),(97,.tup ([.agg ([.v (.string ⟨#[]⟩),vi 0,vi 0,.v (.slice none 0 0),vi 0,vi 0]),vi 260])),(98,.agg ([.v (.string ⟨#[]⟩),vi 0,vi 0,.v (.slice none 0 0),vi 0,vi 0])),(99,vi 260),(100,.tup ([.agg ([.v (.string ⟨#[]⟩),vi 17,vi 1,.su 18811 0 1 0 1,vi 464,vi 1]),vi 0])),(101,.ptr 7667 0),(102,.agg ([vi 9,vi 2,vi 8,vb false])),(103,.tup ([.agg ([.v (.string ⟨#[]⟩),vi 17,vi 1,.su 18811 0 1 0 1,vi 464,vi 1]),vi 0])),(104,.agg ([.v (.string ⟨#[]⟩),vi 17,vi 1,.su 18811 0 1 0 1,vi 464,vi 1])),(105,vi 0),(106,.tup ([vi 1,vi 0])),(107,.ptr 7667 0),(108,.ptr 18815 1),(109,vi 17),(110,.tup ([vi 1,vi 0])),(111,vi 1),(112,vi 0),(113,.tup ([vi 0,vi 0])),(114,.ptr 7667 0),(115,.ptr 18815 1),(116,vi 17),(117,.tup ([vi 0,vi 0])),(118,vi 0),(119,vi 0),(120,.tup ([vi 0,vi 0])),(121,.ptr 7667 0),(122,.ptr 18815 1),(123,vi 17),(124,.tup ([vi 0,vi 0])),(125,vi 0),(126,vi 0),(127,.tup ([vi 0,vi 201])),(128,.ptr 7667 0),(129,.tup ([vi 0,vi 201])),(130,vi 0),(131,vi 201),(132,.tup ([vi 0,vi 0])),(133,.ptr 7667 0),(134,.tup ([vi 0,vi 0])),(135,vi 0),(136,vi 0),(137,.tup ([.agg ([.v (.string ⟨#[]⟩),vi 0,vi 0,.v (.slice none 0 0),vi 0,vi 0]),vi 1])),(138,.v (.pointer none)),(139,.agg ([vi 0,vi 0,vi 1,vb true])),(140,.tup ([.agg ([.v (.string ⟨#[]⟩),vi 0,vi 0,.v (.slice none 0 0),vi 0,vi 0]),vi 1])),(141,.agg ([.v (.string ⟨#[]⟩),vi 0,vi 0,.v (.slice none 0 0),vi 0,vi 0])),(142,vi 1),(143,.tup ([.agg ([.v (.string ⟨#[]⟩),vi 0,vi 0,.v (.slice none 0 0),vi 0,vi 0]),vi 1])),(144,.v (.pointer none)),(145,.agg ([vi 0,vi 0,vi 1,vb true])),(146,.tup ([.agg ([.v (.string ⟨#[]⟩),vi 0,vi 0,.v (.slice none 0 0),vi 0,vi 0]),vi 1])),(147,.agg ([.v (.string ⟨#[]⟩),vi 0,vi 0,.v (.slice none 0 0),vi 0,vi 0])),(148,vi 1),(149,.tup ([vi 0,vi 1])),(150,.v (.pointer none)),(151,.tup ([vi 0,vi 1])),(152,vi 0),(153,vi 1),(154,vi 3),(155,vb true),(156,vb true),(157,.ptr 7667 0),(158,.agg ([.v (.string ⟨#[]⟩),vi 7,vi 1,.su 10562 0 1 0 1,vi 455,vi 1])),(159,vi 0),(160,.sl 20245 0 3 3),(161,.agg ([vi 1,.sl 20247 0 1 1,.su 20249 0 3 0 3])),(162,vb true),(163,vb true),(164,vb true),(165,.ptr 7667 0),(166,.agg ([.v (.string ⟨#[]⟩),vi 11,vi 1,.su 13940 0 1 0 1,vi 459,vi 1])),(167,vi 0),(168,.sl 20668 0 2 2),(169,.agg ([vi 1,.sl 20670 0 1 1,.su 20672 0 2 0 2])),(170,vb true),(171,vb true),(172,vb true),(173,.ptr 7667 0),(174,.agg ([.v (.string ⟨#[]⟩),vi 13,vi 1,.su 15867 0 1 0 1,vi 461,vi 1])),(175,vi 0),(176,.sl 21023 0 2 2),(177,.agg ([vi 1,.sl 21025 0 1 1,.su 21027 0 2 0 2])),(178,vb true),(179,vb true),(180,vb true),(181,.ptr 7667 0),(182,.agg ([.v (.string ⟨#[]⟩),vi 14,vi 1,.su 17269 0 1 0 1,vi 462,vi 1])),(183,vi 0),(184,.sl 21386 0 2 2),(185,.agg ([vi 1,.sl 21388 0 1 1,.su 21390 0 2 0 2])),(186,vb true),(187,vb true),(188,vb true),(189,.ptr 17563 1),(190,vi 14),(191,vi 8),(192,vi 14),(193,vb true),(194,vb true),(195,vb true),(196,.ptr 7667 0),(197,.agg ([.v (.string ⟨#[]⟩),vi 16,vi 1,.su 17693 0 2 0 2,vi 463,vi 1])),(198,vi 0),(199,.sl 21753 0 2 2),(200,.sl 21754 0 2 2),(201,.agg ([vi 1,.sl 21753 0 2 2,.sl 21754 0 2 2])),(202,vb true),(203,vb true)]),(rg 6 [1,1,1,1,1,1,1,1,1,1,1,1,1,1,1,1,1,1,1,1,1,1,1,1,0] 0),[.code .ret],[],false,none,0⟩],
 ofB (catL [deadL 22150,[.mem 349 none (.node 76800 (.node 38400 (.node 19200 (.node 9600 (.node 4800 (rz 4800) (.node 2400 (.node 1200 (rz 1200) (.node 600 (.node 300 (rz 300) (.node 150 (.node 75 (rz 75) (.node 37 (.node 18 (rz 18) (lu 19 22300745198530623162093550468306498700181504)) (.node 19 (lu 19 18518801667747479552) (lz 19)))) (.node 75 (.node 37 (.node 18 (lz 18) (lz 19)) (.node 19 (lz 19) (lu 19 20282409603651670532316941189120))) (.node 37 (.node 18 (lc ([u8 3 65536,z8 15])) (rz 19)) (rz 38))))) (rz 600))) (rz 2400))) (rz 9600)) (rz 19200)) (.node 19200 (rz 19200) (.node 9600 (.node 4800 (.node 2400 (.node 1200 (.node 600 (.node 300 (.node 150 (.node 75 (.node 37 (.node 18 (lu 18 309485009821345068741645393) (lu 19 87112285931760246660790998951141597774592)) (.node 19 (lc ([u8 7 844424930131968,z8 12])) (lz 19))) (.node 37 (.node 18 (lz 18) (lz 19)) (.node 19 (lc ([z8 12,u8 7 374183074048529])) (lu 19 680564733841876926963642703010955526145)))) (.node 75 (.node 37 (.node 18 (lu 18 81129638414606681699087540027392) (lz 19)) (.node 19 (lz 19) (lz 19))) (.node 37 (.node 18 (lz 18) (lu 19 342049398884933676476513107573039169536)) (.node 19 (lu 19 40564819207303340851193037455360) (lu 19 3626777458843887524380672))))) (.node 150 (.node 75 (.node 37 (.node 18 (lz 18) (lz 19)) (.node 19 (lz 19) (lz 19))) (.node 37 (.node 18 (lu 18 158867745350670165723781791744) (lu 19 2163172284257470444731382524086120324429774848)) (.node 19 (lu 19 7061644215716937728) (lz 19)))) (.node 75 (.node 37 (.node 18 (lz 18) (lz 19)) (.node 19 (lz 19) (lc ([u8 6 181481481109504,z8 13])))) (rz 75)))) (rz 600)) (rz 1200)) (rz 2400)) (rz 4800)) (rz 9600)))) (rz 76800)),
 .map [] 5,
 mn 179 (([.sl 22150 0 1200 1200,.mp 22151,vi 0,.v (.slice none 0 0),vi 0,vi 0,vi 5,vb false]))],deadL 6002,[mn 185 (([.ptr 22152 0,vi 50,vi 400,.v (.int .u64 1),.su 29838 0 1 0 1]))],deadL 1615,[mn 137 (([.ptr 22152 0,vi 8,vi 1,vi 2,vb false,vi 400,vi 1200,.ptr 29774 0,.su 31927 0 5 0 5,vi 6,.ptr 29772 0,vi 0,.fn (.func 104) ([]) ([])])),
 mn 247 (([vi 8,.ifc 202 (.agg ([.ptr 29771 0])),.su 30138 0 0 0 1])),
 .dead,
 mn 354 (([vb true,vi 450,vi 1200,.su 31483 0 1 0 1]))],deadL 11,[.map [] 0,
 mn 295 (([vb false,.v (.slice none 0 0),.mp 29786]))],deadL 4,[mn 91 (([.ptr 29771 0,.ptr 28155 0,.ptr 29787 0,vi 0,.v (.slice none 0 0),vi 0]))],deadL 43,[.mem 5 (some 1) (lc ([u8 1 1,z8 16])),
 .dead,
 ms 183 1 (([.su 29836 0 17 0 17]))],deadL 232,[ms 3 1 (([vi 3]))],deadL 66,[ms 240 1 (([.v (.pointer none)]))],deadL 400,[ms 3 1 (([vi 2]))],deadL 459,[ms 3 1 (([vi 1,vi 2]))],deadL 461,[ms 3 1 (([vi 2]))],deadL 21,[ms 255 2 (([vi 450,vi 4]))],deadL 441,[ms 3 1 (([vi 0])),
 .dead,
 .mem 46 (some 6) (.node 18 (.leaf ([.v (.string ⟨#[]⟩),vi 1,vi 1,.su 30071 0 1 0 1,vi 450,vi 1,.v (.string ⟨#[]⟩),vi 2,vi 1,.su 30539 0 1 0 1,vi 451,vi 1,.v (.string ⟨#[]⟩),vi 3,vi 1,.su 30999 0 2 0 2,vi 452,vi 1])) (.leaf ([.v (.string ⟨#[]⟩),vi 4,vi 2,.su 31461 0 1 0 1,vi 453,vi 1,.v (.string ⟨#[]⟩),vi 5,vi 1,.su 31925 0 1 0 1,vi 0,vi 0])))],deadL 13]),31941⟩
end Go.Proofs.YtlmpjdionndncaaGreatDoor.RSeekNames
/-
 SeekNames: a state of its run (74).
-/
namespace Go.Proofs.YtlmpjdionndncaaGreatDoor.RSeekNames
open Go Go.RowKit Ev
set_option maxRecDepth 100000
noncomputable def st74 : ASt := ⟨⟨13,90,(patS .e [(0,.ptr 29792 0),(1,vi 1),(2,.agg ([vi 2,vi 2,vi 3,vb false])),(3,.ptr 31980 0),(4,.ptr 31981 0),(5,.ptr 31982 0),(6,.v (.slice none 0 0)),(7,vi 0),(8,vi 0),(9,.ptr 31984 0),(10,vb true),(11,vi 3),(13,vi 3),(14,.ptr 31992 0),(15,.ptr 31993 0),(16,vi 0),(17,vi 2),(21,.ptr 29792 0),(22,vb false),(23,vb false),(24,.ptr 29792 0),(25,.ptr 29771 0),(26,vb false),(27,vb false),(28,.agg ([vi 2,vi 2,vi 3,vb false])),(29,vi 0),(30,vi 0),(31,vb false),(33,.tup ([.agg ([.v (.string ⟨#[]⟩),vi 1,vi 1,.su 31991 0 1 0 1,vi 450,vi 1]),vb true])),(34,.ptr 29792 0),(35,.ptr 29771 0),(36,vi 1),(37,.tup ([.agg ([.v (.string ⟨#[]⟩),vi 1,vi 1,.su 31991 0 1 0 1,vi 450,vi 1]),vb true])),(38,.agg ([.v (.string ⟨#[]⟩),vi 1,vi 1,.su 31991 0 1 0 1,vi 450,vi 1])),(39,vb true),(40,vb true),(41,vb false),(42,.ptr 31984 3),(43,.su 31991 0 1 0 1),(44,vi 1),(45,vi 1),(46,vb false),(47,.ptr 31991 0),(48,vi 3),(49,vi 1),(50,vi 3),(51,vi 3),(52,vi 1),(53,vi 3),(54,.ptr 31982 0),(55,vi 2),(56,.fn (.func 74) ([]) ([.ptr 31994 0,.ptr 31995 0])),(57,vi 0),(58,vi 2),(60,.ptr 29792 0),(61,vi 1),(62,vi 0),(63,vi 2),(64,.ptr 31982 3),(65,vb false),(66,.tup ([.su 32272 0 2 0 2,vi 0]))]),(rg 13 [1,0,1,1,1,1,1,1,1,1,1,0,1,0,1,0,0] 7),[cd 13 [1,0,1,1,1,1,1,1,1,1,1,0,1,0,1,0,1],.inBlock 3],[],false,(some 31997),31998⟩,(cat2 [⟨74,20,(patS .e [(0,.yl 31997),(1,.ptr 31994 0),(2,.ptr 31995 0),(4,vi 0),(5,vi 0),(6,vi 3),(7,vb true),(11,.yl 31997),(12,vi 0),(13,vi 3),(14,vi 0),(15,vi 2),(16,vi 2),(17,vi 2)]),(rg 74 [1,0,0,1,0,0,0] 7),[cd 74 [1,0,0,1,0,0,1],.inBlock 1,cd 74 [1,0,0,1,1],il 74 [1,0,0],.inBlock 0],[],false,none,31998⟩,
 ⟨13,90,(patS .e [(0,.ptr 29792 0),(1,vi 1),(2,.agg ([vi 2,vi 2,vi 3,vb false])),(3,.ptr 31980 0),(4,.ptr 31981 0),(5,.ptr 31982 0),(6,.v (.slice none 0 0)),(7,vi 0),(8,vi 0),(9,.ptr 31984 0),(10,vb true),(11,vi 3),(13,vi 3),(14,.ptr 31992 0),(15,.ptr 31993 0),(21,.ptr 29792 0),(22,vb false),(23,vb false),(24,.ptr 29792 0),(25,.ptr 29771 0),(26,vb false),(27,vb false),(28,.agg ([vi 2,vi 2,vi 3,vb false])),(29,vi 0),(30,vi 0),(31,vb false),(33,.tup ([.agg ([.v (.string ⟨#[]⟩),vi 1,vi 1,.su 31991 0 1 0 1,vi 450,vi 1]),vb true])),(34,.ptr 29792 0),(35,.ptr 29771 0),(36,vi 1),(37,.tup ([.agg ([.v (.string ⟨#[]⟩),vi 1,vi 1,.su 31991 0 1 0 1,vi 450,vi 1]),vb true])),(38,.agg ([.v (.string ⟨#[]⟩),vi 1,vi 1,.su 31991 0 1 0 1,vi 450,vi 1])),(39,vb true),(40,vb true),(41,vb false),(42,.ptr 31984 3),(43,.su 31991 0 1 0 1),(44,vi 1),(45,vi 1),(46,vb false),(47,.ptr 31991 0),(48,vi 3),(49,vi 1),(50,vi 3),(51,vi 3),(52,vi 1),(53,vi 3),(54,.ptr 31982 0),(55,vi 2),(56,.fn (.func 74) ([]) ([.ptr 31994 0,.ptr 31995 0]))]),.no,[.inRF 31997,.inBlock 2,cd 13 [1,0,1,1,1,1,1,1,1,1,1,1],.inScope (subC (bodyF Tryz.prog 13) [1,0])],[31996],false,none,31980⟩,
 ⟨20,51,(patS .e [(0,.ptr 29792 0),(1,vi 1),(2,.agg ([vi 2,vi 2,vi 3,vb false])),(5,.ptr 31978 0),(6,.ptr 31979 0),(7,vi 0),(14,.ptr 29792 0),(15,vi 1),(16,.agg ([vi 2,vi 2,vi 3,vb false]))]),(rg 20 [1,0] 3),[cd 20 [1,1]],[],false,none,31978⟩,
 ⟨90,36,(patS .e [(0,.ptr 29792 0),(1,.agg ([.v (.string ⟨#[]⟩),vi 1,vi 1,.su 31956 0 1 0 1,vi 450,vi 1])),(2,.agg ([.v (.string ⟨#[]⟩),vi 2,vi 1,.su 31964 0 1 0 1,vi 451,vi 1])),(3,.agg ([vi 2,vi 2,vi 3,vb true])),(5,.ptr 31975 0),(6,.ptr 31976 0),(7,.ptr 31977 0),(8,.v (.pointer none)),(9,vi 0),(12,.ptr 31975 2),(13,vi 1),(14,.ptr 31976 2),(15,vi 1),(16,vb false),(17,.ptr 31977 3),(19,.ptr 29792 0),(20,.ptr 31975 1),(21,vi 1),(22,.agg ([vi 2,vi 2,vi 3,vb false]))]),(rg 90 [1,1,1,0] 4),[cd 90 [1,1,1,1]],[],false,none,31975⟩,
 ⟨51,33,(patS .e [(0,.ptr 29792 0),(1,.agg ([.v (.string ⟨#[]⟩),vi 1,vi 1,.su 31956 0 1 0 1,vi 450,vi 1])),(2,.agg ([.v (.string ⟨#[]⟩),vi 2,vi 1,.su 31964 0 1 0 1,vi 451,vi 1])),(3,.agg ([vi 2,vi 2,vi 3,vb true])),(4,.fn (.func 52) ([]) ([.ptr 31968 0])),(5,.ptr 31969 0),(6,.ptr 31970 0),(7,.ptr 31971 0),(8,.ptr 31972 0),(9,.ptr 31973 0),(10,.ptr 31974 0),(11,vi 0),(15,.ptr 29792 0),(16,.agg ([.v (.string ⟨#[]⟩),vi 1,vi 1,.su 31956 0 1 0 1,vi 450,vi 1])),(17,.agg ([.v (.string ⟨#[]⟩),vi 2,vi 1,.su 31964 0 1 0 1,vi 451,vi 1])),(18,.agg ([vi 2,vi 2,vi 3,vb true]))]),(rg 51 [1,0] 4),[cd 51 [1,1]],[],false,none,31969⟩,
 ⟨25,45,(patS .e [(0,.ptr 29792 0),(1,vi 1),(2,vi 2),(3,.agg ([vi 2,vi 2,vi 3,vb true])),(7,.ptr 31942 0),(8,.ptr 31943 0),(9,vi 0),(10,.ptr 31965 0),(11,.ptr 31966 0),(12,vi 0),(13,.ptr 31968 0),(14,.tup ([.agg ([.v (.string ⟨#[]⟩),vi 1,vi 1,.su 31956 0 1 0 1,vi 450,vi 1]),.agg ([.v (.string ⟨#[]⟩),vi 2,vi 1,.su 31964 0 1 0 1,vi 451,vi 1]),vi 0])),(15,.ptr 29792 0),(16,vi 1),(17,vi 2),(18,.agg ([vi 2,vi 2,vi 3,vb true])),(19,.tup ([.agg ([.v (.string ⟨#[]⟩),vi 1,vi 1,.su 31956 0 1 0 1,vi 450,vi 1]),.agg ([.v (.string ⟨#[]⟩),vi 2,vi 1,.su 31964 0 1 0 1,vi 451,vi 1]),vi 0])),(20,.agg ([.v (.string ⟨#[]⟩),vi 1,vi 1,.su 31956 0 1 0 1,vi 450,vi 1])),(21,.agg ([.v (.string ⟨#[]⟩),vi 2,vi 1,.su 31964 0 1 0 1,vi 451,vi 1])),(22,vi 0),(23,vb false),(24,vi 0),(25,vb false),(28,vb false),(29,.ptr 31965 3),(30,.su 31956 0 1 0 1),(31,vi 1),(32,vb false),(34,.agg ([.v (.string ⟨#[]⟩),vi 1,vi 1,.su 31956 0 1 0 1,vi 450,vi 1])),(35,vi 3),(36,vi 4),(37,.ptr 29792 0),(38,.agg ([.v (.string ⟨#[]⟩),vi 1,vi 1,.su 31956 0 1 0 1,vi 450,vi 1])),(39,.agg ([.v (.string ⟨#[]⟩),vi 2,vi 1,.su 31964 0 1 0 1,vi 451,vi 1])),(40,.agg ([vi 2,vi 2,vi 3,vb true])),(41,.fn (.func 52) ([]) ([.ptr 31968 0]))]),(rg 25 [1,1,1,1,0] 5),[.code .ret],[],false,none,31942⟩,
 ⟨30,19,(patS st73.fr.T [(1,.ptr 29792 0),(5,.ptr 29792 0),(6,vb false),(8,.ptr 29792 0),(9,.agg ([vi 2,vi 2,vi 3,vb true]))]),(rg 30 [1,1,1,0] 2),[cd 30 [1,1,1,1]],[],false,none,22125⟩] (drN 0 st73.cs)),
 addL (patL (kilL st73.H []) [(29772,mn 247 (([vi 8,.ifc 202 (.agg ([.ptr 29771 0])),.su 30138 0 1 0 1]))),
 (30138,ms 240 1 (([.ptr 32218 0])))]) 31941 (catL [[.dead,
 .dead,
 mn 46 (([.v (.string ⟨#[]⟩),vi 0,vi 0,.v (.slice none 0 0),vi 0,vi 0]))],deadL 12,[ms 3 1 (([vi 3]))],deadL 7,[ms 3 1 (([vi 2])),
 .dead,
 .dead,
 .dead,
 mn 2 (([vi 4])),
 mn 27 (([.ptr 29792 0])),
 .dead,
 mn 46 (([.v (.string ⟨#[]⟩),vi 2,vi 1,.su 31964 0 1 0 1,vi 451,vi 1])),
 .dead,
 mn 100 (([.fn (.func 52) ([]) ([.ptr 31968 0])])),
 mn 46 (([.v (.string ⟨#[]⟩),vi 0,vi 0,.v (.slice none 0 0),vi 0,vi 0])),
 mn 46 (([.v (.string ⟨#[]⟩),vi 1,vi 1,.su 31956 0 1 0 1,vi 450,vi 1])),
 .dead,
 .dead,
 mn 31 (([vi 2,vi 2,vi 3,vb false])),
 mn 46 (([.v (.string ⟨#[]⟩),vi 0,vi 0,.v (.slice none 0 0),vi 0,vi 0])),
 mn 27 (([.ptr 29792 0])),
 mn 2 (([vi 1])),
 mn 31 (([vi 2,vi 2,vi 3,vb false])),
 .dead,
 mn 46 (([.v (.string ⟨#[]⟩),vi 1,vi 1,.su 31991 0 1 0 1,vi 450,vi 1]))],deadL 6,[ms 3 1 (([vi 3])),
 mn 38 (([.v (.slice none 0 0)])),
 mn 39 (([vi 0])),
 mn 3 (([vi 3])),
 mn 3 (([vi 2])),
 .dfd true,
 .loop .busy none 13 90 (patS .e [(0,.ptr 29792 0),(1,vi 1),(2,.agg ([vi 2,vi 2,vi 3,vb false])),(3,.ptr 31980 0),(4,.ptr 31981 0),(5,.ptr 31982 0),(6,.v (.slice none 0 0)),(7,vi 0),(8,vi 0),(9,.ptr 31984 0),(10,vb true),(11,vi 3),(13,vi 3),(14,.ptr 31992 0),(15,.ptr 31993 0),(21,.ptr 29792 0),(22,vb false),(23,vb false),(24,.ptr 29792 0),(25,.ptr 29771 0),(26,vb false),(27,vb false),(28,.agg ([vi 2,vi 2,vi 3,vb false])),(29,vi 0),(30,vi 0),(31,vb false),(33,.tup ([.agg ([.v (.string ⟨#[]⟩),vi 1,vi 1,.su 31991 0 1 0 1,vi 450,vi 1]),vb true])),(34,.ptr 29792 0),(35,.ptr 29771 0),(36,vi 1),(37,.tup ([.agg ([.v (.string ⟨#[]⟩),vi 1,vi 1,.su 31991 0 1 0 1,vi 450,vi 1]),vb true])),(38,.agg ([.v (.string ⟨#[]⟩),vi 1,vi 1,.su 31991 0 1 0 1,vi 450,vi 1])),(39,vb true),(40,vb true),(41,vb false),(42,.ptr 31984 3),(43,.su 31991 0 1 0 1),(44,vi 1),(45,vi 1),(46,vb false),(47,.ptr 31991 0),(48,vi 3),(49,vi 1),(50,vi 3),(51,vi 3),(52,vi 1),(53,vi 3),(54,.ptr 31982 0),(55,vi 2),(56,.fn (.func 74) ([]) ([.ptr 31994 0,.ptr 31995 0]))]) [57,58] (subC (bodyF Tryz.prog 13) [1,0,1,1,1,1,1,1,1,1,1,0,1,0,0]) (subC (bodyF Tryz.prog 13) [1,0,1,1,1,1,1,1,1,1,1,0,1,0,1]) 31996],deadL 219,[ms 2 1 (([vi 3,vi 1,vi 3])),
 mn 239 (([vi 1,vi 0,vi 1,.su 32217 0 3 0 3,vi 0,vb false,vi 0]))],deadL 53,[ms 2 1 (([vi 2,vi 1]))]]),32273⟩
end Go.Proofs.YtlmpjdionndncaaGreatDoor.RSeekNames
/-
 SeekNames: a state of its run (75).
-/
namespace Go.Proofs.YtlmpjdionndncaaGreatDoor.RSeekNames
open Go Go.RowKit Ev
set_option maxRecDepth 100000
noncomputable def st75 : ASt := ⟨⟨74,20,(patS (frC st74 0).T [(18,vb true)]),(rg 74 [1,0,0,1,0,0,0] 8),[cd 74 [1,0,0,1,0,0,1],.inBlock 1,cd 74 [1,0,0,1,1],il 74 [1,0,0],.inBlock 0],[],false,none,31998⟩,(cat2 [] (drN 1 st74.cs)),
 addL (patL (kilL st74.H [(29838,1),(30138,1),(31483,1),(31927,1),(32272,1)]) [(22150,.mem 349 none (.node 76800 (.node 38400 (.node 19200 (.node 9600 (.node 4800 (rz 4800) (.node 2400 (.node 1200 (rz 1200) (.node 600 (.node 300 (rz 300) (.node 150 (.node 75 (rz 75) (.node 37 (.node 18 (rz 18) (lu 19 22300745198530623162093550468306498700181504)) (.node 19 (lu 19 18518801667747479552) (lz 19)))) (.node 75 (.node 37 (.node 18 (lz 18) (lz 19)) (.node 19 (lz 19) (lu 19 20282409603651670532316941189120))) (.node 37 (.node 18 (lu 18 5192296858534827633316989631528960) (lc ([u8 6 2207613190144,z8 13]))) (.node 19 (lc ([u8 3 393216,z8 16])) (lz 19)))))) (.node 300 (.node 150 (.node 75 (.node 37 (.node 18 (lz 18) (lc ([z8 18,u8 1 217]))) (.node 19 (lu 19 44601490397061246284280362364911352189486106) (lu 19 309485009821345069010078289))) (.node 37 (.node 18 (lc ([u8 2 771,z8 15,u8 1 6])) (lz 19)) (.node 19 (lz 19) (lz 19)))) (.node 75 (.node 37 (.node 18 (lc ([z8 14,u8 4 3122783210])) (lu 19 3987683987354747618783478774878961664)) (rz 38)) (rz 75))) (rz 300)))) (rz 2400))) (rz 9600)) (rz 19200)) (.node 19200 (rz 19200) (.node 9600 (.node 4800 (.node 2400 (.node 1200 (.node 600 (.node 300 (.node 150 (.node 75 (.node 37 (.node 18 (lu 18 309485009821345068741645393) (lu 19 87112285931760246660790998951141597774592)) (.node 19 (lc ([u8 7 844424930131968,z8 12])) (lz 19))) (.node 37 (.node 18 (lz 18) (lz 19)) (.node 19 (lc ([z8 12,u8 7 374183074048529])) (lu 19 680564733841876926963642703010955526145)))) (.node 75 (.node 37 (.node 18 (lu 18 81129638414606681699087540027392) (lz 19)) (.node 19 (lz 19) (lz 19))) (.node 37 (.node 18 (lz 18) (lu 19 342049398884933676476513107573039169536)) (.node 19 (lu 19 40564819207303340851193037455360) (lu 19 3626777458843887524380672))))) (.node 150 (.node 75 (.node 37 (.node 18 (lz 18) (lz 19)) (.node 19 (lz 19) (lz 19))) (.node 37 (.node 18 (lu 18 158867745350670165723781791744) (lu 19 2163172284257470444731382524086120324429774848)) (.node 19 (lu 19 7061644215716937728) (lz 19)))) (.node 75 (.node 37 (.node 18 (lz 18) (lz 19)) (.node 19 (lz 19) (lu 19 522673715590561479884490286060993108180992))) (.node 37 (.node 18 (lu 18 10384593717069655257623942611861504) (lc ([u8 5 4294967296,z8 14]))) (.node 19 (lz 19) (lz 19)))))) (.node 300 (.node 150 (.node 75 (.node 37 (.node 18 (lz 18) (lc ([z8 18,u8 1 185]))) (.node 19 (lc ([u8 3 6935215,z8 16])) (rz 19))) (rz 75)) (rz 150)) (rz 300))) (rz 1200)) (rz 2400)) (rz 4800)) (rz 9600)))) (rz 76800))),
 (22151,.map [] 8),
 (22152,mn 179 (([.sl 22150 0 1200 1200,.mp 22151,vi 0,.v (.slice none 0 0),vi 0,vi 0,vi 8,vb false]))),
 (28155,mn 185 (([.ptr 22152 0,vi 50,vi 400,.v (.int .u64 1),.su 32601 0 3 0 3]))),
 (29771,mn 137 (([.ptr 22152 0,vi 8,vi 1,vi 2,vb false,vi 400,vi 1200,.ptr 29774 0,.su 32313 0 6 0 6,vi 7,.ptr 29772 0,vi 0,.fn (.func 104) ([]) ([])]))),
 (29772,mn 247 (([vi 8,.ifc 202 (.agg ([.ptr 29771 0])),.su 32369 0 1 0 2]))),
 (29774,mn 354 (([vb true,vi 450,vi 1200,.su 32309 0 1 0 1]))),
 (29792,mn 91 (([.ptr 29771 0,.ptr 28155 0,.ptr 29787 0,vi 1,.su 32553 0 1 0 1,vi 0]))),
 (31992,mn 38 (([.su 32603 0 1 0 1]))),
 (31997,.loop .ready none 13 90 (patS .e [(0,.ptr 29792 0),(1,vi 1),(2,.agg ([vi 2,vi 2,vi 3,vb false])),(3,.ptr 31980 0),(4,.ptr 31981 0),(5,.ptr 31982 0),(6,.v (.slice none 0 0)),(7,vi 0),(8,vi 0),(9,.ptr 31984 0),(10,vb true),(11,vi 3),(13,vi 3),(14,.ptr 31992 0),(15,.ptr 31993 0),(21,.ptr 29792 0),(22,vb false),(23,vb false),(24,.ptr 29792 0),(25,.ptr 29771 0),(26,vb false),(27,vb false),(28,.agg ([vi 2,vi 2,vi 3,vb false])),(29,vi 0),(30,vi 0),(31,vb false),(33,.tup ([.agg ([.v (.string ⟨#[]⟩),vi 1,vi 1,.su 31991 0 1 0 1,vi 450,vi 1]),vb true])),(34,.ptr 29792 0),(35,.ptr 29771 0),(36,vi 1),(37,.tup ([.agg ([.v (.string ⟨#[]⟩),vi 1,vi 1,.su 31991 0 1 0 1,vi 450,vi 1]),vb true])),(38,.agg ([.v (.string ⟨#[]⟩),vi 1,vi 1,.su 31991 0 1 0 1,vi 450,vi 1])),(39,vb true),(40,vb true),(41,vb false),(42,.ptr 31984 3),(43,.su 31991 0 1 0 1),(44,vi 1),(45,vi 1),(46,vb false),(47,.ptr 31991 0),(48,vi 3),(49,vi 1),(50,vi 3),(51,vi 3),(52,vi 1),(53,vi 3),(54,.ptr 31982 0),(55,vi 2),(56,.fn (.func 74) ([]) ([.ptr 31994 0,.ptr 31995 0]))]) [57,58] (subC (bodyF Tryz.prog 13) [1,0,1,1,1,1,1,1,1,1,1,0,1,0,0]) (subC (bodyF Tryz.prog 13) [1,0,1,1,1,1,1,1,1,1,1,0,1,0,1]) 31996)]) 32273 (catL [deadL 14,[ms 3 1 (([vi 2]))],deadL 21,[ms 255 2 (([vi 450,vi 5])),
 .dead,
 .dead,
 .dead,
 .mem 46 (some 6) (.node 18 (.leaf ([.v (.string ⟨#[]⟩),vi 1,vi 1,.su 30071 0 1 0 1,vi 450,vi 1,.v (.string ⟨#[]⟩),vi 2,vi 1,.su 30539 0 1 0 1,vi 451,vi 1,.v (.string ⟨#[]⟩),vi 3,vi 1,.su 30999 0 2 0 2,vi 452,vi 1])) (.leaf ([.v (.string ⟨#[]⟩),vi 4,vi 2,.su 31461 0 1 0 1,vi 453,vi 1,.v (.string ⟨#[]⟩),vi 5,vi 1,.su 31925 0 1 0 1,vi 0,vi 0,.v (.string ⟨#[]⟩),vi 6,vi 1,.su 32287 0 1 0 1,vi 454,vi 1]))),
 .dead,
 .dead,
 .dead,
 ms 3 1 (([vi 2]))],deadL 51,[ms 240 1 (([.ptr 32218 0,.v (.pointer none)]))],deadL 179,[.mem 5 (some 1) (lc ([u8 1 2,z8 15,u8 1 6])),
 .dead,
 .dead,
 .dead,
 ms 149 2 (([vi 6,vi 0]))],deadL 45,[.mem 5 (some 1) (lc ([u8 1 3,z8 15,u8 1 6])),
 .dead,
 ms 183 1 (([.su 29836 0 17 0 17,.su 32549 0 17 0 17,.su 32599 0 17 0 17])),
 .dead,
 ms 46 6 (([.v (.string ⟨#[]⟩),vi 6,vi 1,.su 32317 0 1 0 1,vi 454,vi 1]))]]),32604⟩
end Go.Proofs.YtlmpjdionndncaaGreatDoor.RSeekNames
/-
 SeekNames: a state of its run (76).
-/
namespace Go.Proofs.YtlmpjdionndncaaGreatDoor.RSeekNames
open Go Go.RowKit Ev
set_option maxRecDepth 100000
noncomputable def st76 : ASt := ⟨⟨20,51,(patS (frC st75 1).T [(17,.tup ([.su 32948 0 2 0 2,vi 0]))]),(rg 20 [1,0] 4),[cd 20 [1,1]],[],false,none,31978⟩,(cat2 [] (drN 2 st75.cs)),
 addL (patL (kilL st75.H [(31980,3),(31984,1),(31991,7),(32309,1),(32313,1),(32553,1),(32601,1),(32603,1)]) [(22150,.mem 349 none (.node 76800 (.node 38400 (.node 19200 (.node 9600 (.node 4800 (rz 4800) (.node 2400 (.node 1200 (rz 1200) (.node 600 (.node 300 (rz 300) (.node 150 (.node 75 (rz 75) (.node 37 (.node 18 (rz 18) (lu 19 22300745198530623162093550468306498700181504)) (.node 19 (lu 19 18518801667747479552) (lz 19)))) (.node 75 (.node 37 (.node 18 (lz 18) (lz 19)) (.node 19 (lz 19) (lu 19 20282409603651670532316941189120))) (.node 37 (.node 18 (lu 18 5192296858534827633316989631528960) (lc ([u8 6 2207613190144,z8 13]))) (.node 19 (lc ([u8 3 393216,z8 16])) (lz 19)))))) (.node 300 (.node 150 (.node 75 (.node 37 (.node 18 (lz 18) (lc ([z8 18,u8 1 217]))) (.node 19 (lu 19 44601490397061246284280362364911352189486106) (lu 19 309485009821345069010078289))) (.node 37 (.node 18 (lc ([u8 2 771,z8 15,u8 1 6])) (lz 19)) (.node 19 (lz 19) (lz 19)))) (.node 75 (.node 37 (.node 18 (lc ([z8 14,u8 4 3122783210])) (lu 19 28774621216885464763674038962516526607892480)) (.node 19 (lu 19 175585701331204247147119744178866106662929) (lu 19 36346078009743793399713474304606208))) (.node 37 (.node 18 (lz 18) (lz 19)) (.node 19 (lz 19) (lu 19 8374945997124534983705114926120960))))) (.node 150 (.node 75 (.node 37 (.node 18 (lu 18 22603575542231878585301347969666121728) (lu 19 22300745214208925765158459510360686261698560)) (.node 19 (lu 19 2166395068749415481090244608) (lz 19))) (.node 37 (.node 18 (lz 18) (lz 19)) (.node 19 (lu 19 41201648800973271633244454912) (lu 19 92233720368547758081)))) (rz 150))))) (rz 2400))) (rz 9600)) (rz 19200)) (.node 19200 (rz 19200) (.node 9600 (.node 4800 (.node 2400 (.node 1200 (.node 600 (.node 300 (.node 150 (.node 75 (.node 37 (.node 18 (lu 18 309485009821345068741645393) (lu 19 87112285931760246660790998951141597774592)) (.node 19 (lc ([u8 7 844424930131968,z8 12])) (lz 19))) (.node 37 (.node 18 (lz 18) (lz 19)) (.node 19 (lc ([z8 12,u8 7 374183074048529])) (lu 19 680564733841876926963642703010955526145)))) (.node 75 (.node 37 (.node 18 (lu 18 81129638414606681699087540027392) (lz 19)) (.node 19 (lz 19) (lz 19))) (.node 37 (.node 18 (lz 18) (lu 19 342049398884933676476513107573039169536)) (.node 19 (lu 19 40564819207303340851193037455360) (lu 19 3626777458843887524380672))))) (.node 150 (.node 75 (.node 37 (.node 18 (lz 18) (lz 19)) (.node 19 (lz 19) (lz 19))) (.node 37 (.node 18 (lu 18 158867745350670165723781791744) (lu 19 2163172284257470444731382524086120324429774848)) (.node 19 (lu 19 7061644215716937728) (lz 19)))) (.node 75 (.node 37 (.node 18 (lz 18) (lz 19)) (.node 19 (lz 19) (lu 19 522673715590561479884490286060993108180992))) (.node 37 (.node 18 (lu 18 10384593717069655257623942611861504) (lc ([u8 5 4294967296,z8 14]))) (.node 19 (lz 19) (lz 19)))))) (.node 300 (.node 150 (.node 75 (.node 37 (.node 18 (lz 18) (lc ([z8 18,u8 1 185]))) (.node 19 (lu 19 36346078009743793399996410936021679) (lu 19 928455029464035206191120384))) (.node 37 (.node 18 (lz 18) (lz 19)) (.node 19 (lz 19) (lz 19)))) (.node 75 (.node 37 (.node 18 (lc ([z8 14,u8 4 3014252966])) (rz 19)) (rz 38)) (rz 75))) (rz 300))) (rz 1200)) (rz 2400)) (rz 4800)) (rz 9600)))) (rz 76800))),
 (22151,.map [] 11),
 (22152,mn 179 (([.sl 22150 0 1200 1200,.mp 22151,vi 0,.v (.slice none 0 0),vi 0,vi 0,vi 11,vb false]))),
 (28155,mn 185 (([.ptr 22152 0,vi 50,vi 400,.v (.int .u64 1),.su 32946 0 5 0 5]))),
 (29771,mn 137 (([.ptr 22152 0,vi 8,vi 1,vi 2,vb false,vi 400,vi 1200,.ptr 29774 0,.su 32675 0 7 0 7,vi 8,.ptr 29772 0,vi 0,.fn (.func 104) ([]) ([])]))),
 (29774,mn 354 (([vb true,vi 450,vi 1200,.su 32671 0 1 0 1]))),
 (29792,mn 91 (([.ptr 29771 0,.ptr 28155 0,.ptr 29787 0,vi 2,.su 32898 0 2 0 2,vi 0])))]) 32604 (catL [deadL 45,[ms 3 1 (([vi 1]))],deadL 21,[ms 255 2 (([vi 450,vi 6])),
 .dead,
 .dead,
 .dead,
 .mem 46 (some 6) (.node 36 (.node 18 (.leaf ([.v (.string ⟨#[]⟩),vi 1,vi 1,.su 30071 0 1 0 1,vi 450,vi 1,.v (.string ⟨#[]⟩),vi 2,vi 1,.su 30539 0 1 0 1,vi 451,vi 1,.v (.string ⟨#[]⟩),vi 3,vi 1,.su 30999 0 2 0 2,vi 452,vi 1])) (.leaf ([.v (.string ⟨#[]⟩),vi 4,vi 2,.su 31461 0 1 0 1,vi 453,vi 1,.v (.string ⟨#[]⟩),vi 5,vi 1,.su 31925 0 1 0 1,vi 0,vi 0,.v (.string ⟨#[]⟩),vi 6,vi 1,.su 32287 0 1 0 1,vi 454,vi 1]))) (.leaf ([.v (.string ⟨#[]⟩),vi 7,vi 1,.su 32649 0 1 0 1,vi 455,vi 1]))),
 .dead,
 .dead,
 .dead,
 ms 3 1 (([vi 1]))],deadL 214,[.mem 5 (some 1) (lu 17 2381976568446569244243622252026672447490),
 .dead,
 .dead,
 .dead,
 ms 149 2 ((uN .i64 4 458758))],deadL 45,[.mem 5 (some 1) (lu 17 2381976568446569244262068996100381999107),
 .dead,
 ms 183 1 (([.su 29836 0 17 0 17,.su 32549 0 17 0 17,.su 32599 0 17 0 17,.su 32894 0 17 0 17,.su 32944 0 17 0 17])),
 .dead,
 ms 46 6 (([.v (.string ⟨#[]⟩),vi 6,vi 1,.su 32317 0 1 0 1,vi 454,vi 1,.v (.string ⟨#[]⟩),vi 7,vi 1,.su 32679 0 1 0 1,vi 455,vi 1]))]]),32949⟩
end Go.Proofs.YtlmpjdionndncaaGreatDoor.RSeekNames
/-
 SeekNames: a state of its run (77).
-/
namespace Go.Proofs.YtlmpjdionndncaaGreatDoor.RSeekNames
open Go Go.RowKit Ev
set_option maxRecDepth 100000
noncomputable def st77 : ASt := ⟨⟨215,39,(patS .e [(0,.ptr 33018 0),(2,vi 0),(3,.ptr 33068 0),(4,.ptr 33018 0),(5,.ptr 33018 0),(6,.ptr 33018 2),(7,.ptr 33018 0),(8,.ptr 33018 0),(9,.ptr 33018 1),(10,.su 33000 6 2 1 2),(11,vi 2),(12,vi 0),(13,vb true),(14,vi 0),(15,.ptr 33000 6),(16,.agg ([.v (.string ⟨#[]⟩),vi 6,vi 1,.su 32981 0 1 0 1,vi 454,vi 1])),(17,.ptr 33018 0),(18,.ptr 33018 0),(19,.ptr 33018 0),(20,.ptr 33018 0),(21,.ptr 33017 0),(22,vi 0),(23,.agg ([.v (.string ⟨#[]⟩),vi 6,vi 1,.su 32981 0 1 0 1,vi 454,vi 1])),(24,vi 0),(25,.ptr 33018 0),(26,.ptr 33018 5)]),.no,[cd 215 [1,0,1,0,0,1,1,0,0,1,1],.inBlock 1,cd 215 [1,0,1,0,0,1,1,1],il 215 [1,0,1,0,0],.inBlock 0,cd 215 [1,1]],[],false,none,33068⟩,(cat2 [⟨143,55,(patS .e [(0,.ptr 33018 0),(1,vi 0),(4,vi 0),(5,vi 0),(6,.ptr 33018 0),(7,.ptr 33018 0),(8,.ptr 33018 2),(9,vb false),(10,vb true),(11,.ptr 33018 0)]),(rg 143 [1,0,1,0] 1),[cd 143 [1,1]],[],false,none,33068⟩,
 ⟨87,89,(patS .e [(0,.ptr 29792 0),(1,.agg ([.v (.string ⟨#[]⟩),vi 8,vi 1,.su 33058 0 1 0 1,vi 456,vi 1])),(2,vi 2),(3,vi 0),(4,.agg ([vi 0,vi 3])),(5,.fn (.func 143) ([.ptr 33018 0]) ([])),(7,.ptr 33066 0),(10,.ptr 33067 0),(12,vi 0),(13,.v (.slice none 0 0)),(14,vi 0),(20,.ptr 33067 0),(21,vi 0),(22,vi 0),(23,.ptr 33067 1),(24,vi 3),(25,vb true),(29,.fn (.func 143) ([.ptr 33018 0]) ([])),(30,vi 0)]),(rg 87 [1,1,0,1,0,0,1,0,0,0] 2),[cd 87 [1,1,0,1,0,0,1,0,0,1],.inBlock 1,cd 87 [1,1,0,1,0,0,1,1],il 87 [1,1,0,1,0,0],.inBlock 0,cd 87 [1,1,1]],[],false,none,33066⟩,
 ⟨45,97,(patS .e [(0,.ptr 29792 0),(1,vi 1),(2,.sl 33019 0 1 1),(3,.fn (.func 143) ([.ptr 33018 0]) ([])),(4,.ptr 33020 0),(7,.ptr 33021 0),(8,.ptr 33022 0),(9,.ptr 33023 0),(10,.ptr 33024 0),(11,.ptr 33059 0),(12,vi 0),(13,vi 0),(14,.ptr 33064 0),(15,vi 0),(16,vb false),(18,.ptr 29792 0),(19,vb false),(21,.ptr 29792 0),(22,.ptr 29792 0),(23,.ptr 29792 3),(24,vi 2),(25,.ptr 29792 0),(26,.ptr 29792 0),(27,.ptr 29792 3),(28,vi 2),(29,vi 3),(30,.ptr 29792 0),(31,.ptr 29792 3),(32,.tup ([.agg ([.v (.string ⟨#[]⟩),vi 8,vi 1,.su 33058 0 1 0 1,vi 456,vi 1]),vi 0])),(33,.ptr 29792 0),(34,.ptr 29792 0),(35,.ptr 29792 0),(36,.ptr 29771 0),(37,vi 1),(38,.sl 33019 0 1 1),(39,.tup ([.agg ([.v (.string ⟨#[]⟩),vi 8,vi 1,.su 33058 0 1 0 1,vi 456,vi 1]),vi 0])),(40,.agg ([.v (.string ⟨#[]⟩),vi 8,vi 1,.su 33058 0 1 0 1,vi 456,vi 1])),(41,vi 0),(42,vi 0),(43,vb false),(46,.ptr 29792 0),(47,.agg ([.v (.string ⟨#[]⟩),vi 8,vi 1,.su 33058 0 1 0 1,vi 456,vi 1])),(48,.fn (.func 139) ([]) ([.ptr 33061 0,.ptr 33060 0])),(49,vi 0),(50,.agg ([vi 0,vi 3])),(51,.tup ([vi 0,vb false])),(52,.ptr 29792 0),(53,.ptr 29792 0),(54,.ptr 29792 2),(55,.ptr 29787 0),(56,vi 2),(57,vi 0),(58,.tup ([vi 0,vb false])),(59,vi 0),(60,vb false),(61,vb false),(62,vb false),(63,.v (.tuple #[])),(64,.v (.tuple #[])),(65,.v (.tuple #[])),(66,.v (.tuple #[])),(67,vb false),(68,vb false),(69,.v (.tuple #[])),(70,.v (.tuple #[])),(71,.v (.tuple #[])),(72,.v (.tuple #[])),(73,.v (.tuple #[])),(74,.v (.tuple #[])),(75,.v (.tuple #[])),(76,.v (.tuple #[])),(77,vb false),(85,.ptr 29792 0),(86,.agg ([.v (.string ⟨#[]⟩),vi 8,vi 1,.su 33058 0 1 0 1,vi 456,vi 1])),(87,vi 2),(88,vi 0),(89,.agg ([vi 0,vi 3])),(90,.fn (.func 143) ([.ptr 33018 0]) ([]))]),(rg 45 [1,0,1,1,1,1,1,1,0,1,0,1,0,1,0] 6),[cd 45 [1,0,1,1,1,1,1,1,0,1,0,1,0,1,1],.inBlock 1],[],false,(some 33063),33064⟩,
 ⟨139,35,(patS .e [(0,.yl 33063),(1,.ptr 33061 0),(2,.ptr 33060 0),(4,vi 3),(5,vi 13),(6,vi 0),(7,.ptr 33061 3),(8,.su 33058 0 1 0 1),(9,vi 3),(10,.ptr 29792 0),(11,.ptr 29792 0),(12,.ptr 29792 0),(13,.ptr 29771 0),(14,vi 13),(15,.ptr 33061 5),(16,vi 1),(17,vi 0),(18,vb true),(19,vi 0),(20,.yl 33063),(21,vi 0),(22,vi 0),(23,vi 13),(24,vi 0),(25,vi 0),(26,vi 1),(27,vi 13),(28,vi 13),(29,vi 3),(30,vi 3),(31,.agg ([vi 0,vi 3]))]),(rg 139 [1,1,0,0,1,1,0,0,1,0] 12),[cd 139 [1,1,0,0,1,1,0,0,1,1],.inBlock 1,cd 139 [1,1,0,0,1,1,1],il 139 [1,1,0,0],.inBlock 0],[],false,none,33064⟩,
 ⟨45,97,(patS .e [(0,.ptr 29792 0),(1,vi 1),(2,.sl 33019 0 1 1),(3,.fn (.func 143) ([.ptr 33018 0]) ([])),(4,.ptr 33020 0),(7,.ptr 33021 0),(8,.ptr 33022 0),(9,.ptr 33023 0),(10,.ptr 33024 0),(11,.ptr 33059 0),(12,vi 0),(18,.ptr 29792 0),(19,vb false),(21,.ptr 29792 0),(22,.ptr 29792 0),(23,.ptr 29792 3),(24,vi 2),(25,.ptr 29792 0),(26,.ptr 29792 0),(27,.ptr 29792 3),(28,vi 2),(29,vi 3),(30,.ptr 29792 0),(31,.ptr 29792 3),(32,.tup ([.agg ([.v (.string ⟨#[]⟩),vi 8,vi 1,.su 33058 0 1 0 1,vi 456,vi 1]),vi 0])),(33,.ptr 29792 0),(34,.ptr 29792 0),(35,.ptr 29792 0),(36,.ptr 29771 0),(37,vi 1),(38,.sl 33019 0 1 1),(39,.tup ([.agg ([.v (.string ⟨#[]⟩),vi 8,vi 1,.su 33058 0 1 0 1,vi 456,vi 1]),vi 0])),(40,.agg ([.v (.string ⟨#[]⟩),vi 8,vi 1,.su 33058 0 1 0 1,vi 456,vi 1])),(41,vi 0),(42,vi 0),(43,vb false),(46,.ptr 29792 0),(47,.agg ([.v (.string ⟨#[]⟩),vi 8,vi 1,.su 33058 0 1 0 1,vi 456,vi 1])),(48,.fn (.func 139) ([]) ([.ptr 33061 0,.ptr 33060 0]))]),.no,[.inRF 33063,.inBlock 0,cd 45 [1,0,1,1,1,1,1,1,1],.inScope (subC (bodyF Tryz.prog 45) [1,0])],[33062],false,none,33020⟩,
 ⟨89,49,(patS .e [(0,.ptr 29792 0),(1,vi 1),(2,.su 33000 6 2 1 2),(3,.agg ([vi 2,vi 2,vi 3,vb false])),(7,.ptr 33011 0),(8,.ptr 33012 0),(9,vi 0),(10,vi 3),(12,.ptr 33015 0),(13,.ptr 33018 0),(14,.su 33000 6 2 1 2),(15,vi 2),(16,vi 3),(17,.ptr 33011 2),(18,vi 3),(19,vb false),(21,.su 33000 6 2 1 2),(22,vi 2),(23,vi 2),(24,vb false),(25,.ptr 33000 12),(26,.agg ([.v (.string ⟨#[]⟩),vi 7,vi 1,.su 32997 0 1 0 1,vi 455,vi 1])),(27,vi 2),(28,.agg ([.v (.string ⟨#[]⟩),vi 7,vi 1,.su 32997 0 1 0 1,vi 455,vi 1])),(29,vi 1),(30,vi 3),(31,vi 2),(32,.ptr 29792 0),(33,vi 1),(34,.ptr 33011 3),(35,vb false),(36,.agg ([.ptr 29792 0,vi 1,vb false,.v (.slice none 0 0)])),(37,.ptr 33017 0),(38,.su 33000 6 2 1 2),(39,.agg ([.ptr 33017 0,.su 33000 6 2 1 2,vb false,vi 0,vi 0,vi 0])),(40,.ptr 33018 0),(41,.ptr 29792 0),(42,vi 3),(43,.sl 33019 0 1 1),(44,.ptr 33018 0),(45,.fn (.func 143) ([.ptr 33018 0]) ([]))]),(rg 89 [1,1,1,1,1,0] 5),[.code .ret],[],false,none,33011⟩,
 ⟨47,43,(patS .e [(0,.ptr 29792 0),(1,vi 1),(2,.su 33000 6 2 1 2),(3,.agg ([vi 2,vi 2,vi 3,vb false])),(4,.ptr 33001 0),(5,.ptr 33002 0),(7,.ptr 33003 0),(8,.v (.slice none 0 0)),(9,vi 0),(10,.ptr 33004 0),(11,.ptr 33005 0),(12,vb true),(13,.su 33000 6 2 1 2),(14,.ptr 33010 0),(15,vi 0),(16,.su 33000 6 2 1 2),(17,.ptr 33003 1),(18,vi 2),(19,.fn (.func 141) ([]) ([.ptr 33006 0,.ptr 33007 0])),(20,vb true),(21,.su 33000 6 2 1 2),(22,.su 33000 6 2 1 2),(23,.ptr 33000 6),(24,.agg ([.v (.string ⟨#[]⟩),vi 6,vi 1,.su 32981 0 1 0 1,vi 454,vi 1])),(25,vb true),(27,.ptr 29792 0),(28,vi 1),(29,.su 33000 6 2 1 2),(30,.agg ([vi 2,vi 2,vi 3,vb false]))]),(rg 47 [1,0,1,1,1,0,1,0,1,0,1,0,1,0] 4),[cd 47 [1,0,1,1,1,0,1,0,1,0,1,1],.inBlock 1],[],false,(some 33009),33010⟩,
 ⟨141,27,(patS .e [(0,.yl 33009),(1,.ptr 33006 0),(2,.ptr 33007 0),(4,.se),(5,.su 33000 6 2 1 2),(6,.su 33000 6 2 1 2),(7,.su 33000 6 2 1 2),(8,vi 2),(9,vb true),(10,.su 33000 6 2 1 2),(11,.su 33000 6 2 1 2),(12,vi 2),(13,vi 2),(14,vi 2),(15,.su 33000 6 2 1 2),(16,.su 33000 6 2 1 2),(17,.su 33000 6 2 1 2),(18,vi 2),(19,.se),(20,.yl 33009),(21,.su 33000 6 2 1 2),(22,vi 2),(23,vb true),(24,.su 33000 6 2 1 2)]),(rg 141 [1,0,0,1,0,1,1,0] 5),[cd 141 [1,0,0,1,0,1,1,1],.inBlock 1,il 141 [1,0,0],.inBlock 0],[],false,none,33010⟩,
 ⟨47,43,(patS .e [(0,.ptr 29792 0),(1,vi 1),(2,.su 33000 6 2 1 2),(3,.agg ([vi 2,vi 2,vi 3,vb false])),(4,.ptr 33001 0),(5,.ptr 33002 0),(7,.ptr 33003 0),(8,.v (.slice none 0 0)),(9,vi 0),(10,.ptr 33004 0),(11,.ptr 33005 0),(16,.su 33000 6 2 1 2),(17,.ptr 33003 1),(18,vi 2),(19,.fn (.func 141) ([]) ([.ptr 33006 0,.ptr 33007 0]))]),.no,[.inRF 33009,.inBlock 0,cd 47 [1,0,1,1,1,1],.inScope (subC (bodyF Tryz.prog 47) [1,0])],[33008],false,none,33001⟩,
 ⟨21,81,(patS .e [(0,.ptr 29792 0),(1,vi 1),(2,.su 32954 0 2 0 2),(3,.agg ([vi 2,vi 2,vi 3,vb false])),(7,.ptr 32955 0),(8,.ptr 32956 0),(9,vi 0),(10,.su 33000 6 2 1 2),(12,vi 7),(13,.ptr 32998 0),(14,vb true),(17,vb false),(18,.ptr 29792 0),(19,vb false),(20,vb false),(21,.ptr 29792 0),(22,.ptr 29771 0),(23,vb false),(24,vb false),(26,vb false),(27,.agg ([vi 2,vi 2,vi 3,vb false])),(28,vi 0),(29,vb false),(30,vb false),(31,.su 32954 0 2 0 2),(32,vi 2),(33,vb false),(34,vb false),(36,vi 1),(37,.sl 32958 0 1 1),(38,.su 32954 0 2 0 2),(39,.su 32959 0 3 0 3),(40,vi 3),(41,vi 3),(42,vb false),(43,.ptr 32959 2),(44,vi 7),(45,.tup ([.agg ([.v (.string ⟨#[]⟩),vi 7,vi 1,.su 32997 0 1 0 1,vi 455,vi 1]),vb true])),(46,.ptr 29792 0),(47,.ptr 29771 0),(48,vi 7),(49,.tup ([.agg ([.v (.string ⟨#[]⟩),vi 7,vi 1,.su 32997 0 1 0 1,vi 455,vi 1]),vb true])),(50,.agg ([.v (.string ⟨#[]⟩),vi 7,vi 1,.su 32997 0 1 0 1,vi 455,vi 1])),(51,vb true),(52,vb true),(53,vb false),(55,.su 32984 0 2 0 2),(56,.agg ([.v (.string ⟨#[]⟩),vi 7,vi 1,.su 32997 0 1 0 1,vi 455,vi 1])),(57,.sl 32999 0 1 1),(58,.su 33000 0 3 0 3),(59,vi 3),(60,.su 33000 0 3 0 3),(61,.su 33000 6 2 1 2),(62,.su 33000 6 2 1 2),(63,vi 2),(64,vb true),(66,.ptr 29792 0),(67,vi 1),(68,.su 33000 6 2 1 2),(69,.agg ([vi 2,vi 2,vi 3,vb false]))]),(rg 21 [1,1,1,1,1,0,0,0,1,0,0] 4),[cd 21 [1,1,1,1,1,0,0,0,1,0,1],.inBlock 4,il 21 [1,1,1,1,1,0,0,0],.inBlock 3,cd 21 [1,1,1,1,1,1]],[],false,none,32955⟩,
 ⟨20,51,(patS .e [(0,.ptr 29792 0),(1,vi 1),(2,.agg ([vi 2,vi 2,vi 3,vb false])),(5,.ptr 31978 0),(6,.ptr 31979 0),(7,vi 0),(8,.su 32948 0 2 0 2),(9,vi 0),(10,.su 32954 0 2 0 2),(12,.ptr 32952 0),(13,.tup ([.su 32948 0 2 0 2,vi 0])),(14,.ptr 29792 0),(15,vi 1),(16,.agg ([vi 2,vi 2,vi 3,vb false])),(17,.tup ([.su 32948 0 2 0 2,vi 0])),(18,.su 32948 0 2 0 2),(19,vi 0),(20,vi 0),(21,vb false),(24,.su 32948 0 2 0 2),(25,vi 2),(26,vb false),(32,.su 32948 0 2 0 2),(33,vi 2),(34,vi 2),(35,vb false),(36,.ptr 32948 6),(37,.agg ([.v (.string ⟨#[]⟩),vi 7,vi 1,.su 32679 0 1 0 1,vi 455,vi 1])),(38,.su 32951 0 1 0 1),(39,.ptr 32952 1),(40,vi 7),(41,.sl 32953 0 1 1),(42,.su 32954 0 2 0 2),(43,vi 2),(44,.ptr 29792 0),(45,vi 1),(46,.su 32954 0 2 0 2),(47,.agg ([vi 2,vi 2,vi 3,vb false]))]),(rg 20 [1,1,1,1,1,1,0] 4),[.code .ret],[],false,none,31978⟩] (drN 0 st76.cs)),
 addL (patL (kilL st76.H [(31978,1),(32317,1),(32671,1),(32675,1),(32679,1),(32948,1)]) [(29771,mn 137 (([.ptr 22152 0,vi 8,vi 1,vi 2,vb false,vi 400,vi 1200,.ptr 29774 0,.su 33054 0 8 0 8,vi 9,.ptr 29772 0,vi 0,.fn (.func 104) ([]) ([])]))),
 (29772,mn 247 (([vi 8,.ifc 202 (.agg ([.ptr 29771 0])),.su 32369 0 2 0 2]))),
 (29774,mn 354 (([vb true,vi 450,vi 1200,.su 33050 0 1 0 1]))),
 (29792,mn 91 (([.ptr 29771 0,.ptr 28155 0,.ptr 29787 0,vi 3,.su 32898 0 2 0 2,vi 0]))),
 (32369,ms 240 1 (([.ptr 33278 0,.ptr 32218 0])))]) 32949 (catL [deadL 5,[ms 2 1 (([vi 6,vi 7])),
 mn 31 (([vi 2,vi 2,vi 3,vb false])),
 mn 46 (([.v (.string ⟨#[]⟩),vi 0,vi 0,.v (.slice none 0 0),vi 0,vi 0]))],deadL 9,[ms 3 1 (([vi 3]))],deadL 14,[ms 3 1 (([vi 2]))],deadL 15,[ms 3 1 (([vi 1])),
 .dead,
 .dead,
 ms 46 6 (([.v (.string ⟨#[]⟩),vi 1,vi 1,.su 32966 0 1 0 1,vi 450,vi 1,.v (.string ⟨#[]⟩),vi 6,vi 1,.su 32981 0 1 0 1,vi 454,vi 1,.v (.string ⟨#[]⟩),vi 7,vi 1,.su 32997 0 1 0 1,vi 455,vi 1])),
 mn 27 (([.ptr 29792 0])),
 mn 2 (([vi 1])),
 mn 31 (([vi 2,vi 2,vi 3,vb false])),
 mn 38 (([.v (.slice none 0 0)])),
 mn 39 (([vi 0])),
 mn 38 (([.su 33000 6 2 1 2])),
 mn 3 (([vi 2])),
 .dfd true,
 .loop .busy none 47 43 (patS .e [(0,.ptr 29792 0),(1,vi 1),(2,.su 33000 6 2 1 2),(3,.agg ([vi 2,vi 2,vi 3,vb false])),(4,.ptr 33001 0),(5,.ptr 33002 0),(7,.ptr 33003 0),(8,.v (.slice none 0 0)),(9,vi 0),(10,.ptr 33004 0),(11,.ptr 33005 0),(16,.su 33000 6 2 1 2),(17,.ptr 33003 1),(18,vi 2),(19,.fn (.func 141) ([]) ([.ptr 33006 0,.ptr 33007 0]))]) [20,21] (subC (bodyF Tryz.prog 47) [1,0,1,1,1,0,1,0,0]) (subC (bodyF Tryz.prog 47) [1,0,1,1,1,0,1,0,1]) 33008,
 mn 46 (([.v (.string ⟨#[]⟩),vi 6,vi 1,.su 32981 0 1 0 1,vi 454,vi 1])),
 .dead,
 mn 46 (([.v (.string ⟨#[]⟩),vi 0,vi 0,.v (.slice none 0 0),vi 0,vi 0]))],deadL 4,[mn 265 (([.ptr 29792 0,vi 1,vb false,.su 33324 0 1 0 1])),
 mn 267 (([.ptr 33017 0,.su 33000 6 2 1 2,vb true,vi 0,vi 0,vi 0])),
 mn 3 (([vi 3])),
 mn 27 (([.ptr 29792 0])),
 mn 93 (([.fn (.func 143) ([.ptr 33018 0]) ([])])),
 mn 46 (([.v (.string ⟨#[]⟩),vi 0,vi 0,.v (.slice none 0 0),vi 0,vi 0])),
 mn 39 (([vi 0])),
 mn 3 (([vi 2])),
 .dead,
 .dead,
 .dead,
 ms 3 1 (([vi 3]))],deadL 21,[ms 255 2 (([vi 450,vi 7])),
 .dead,
 .dead,
 .dead,
 .mem 46 (some 6) (.node 36 (.node 18 (.leaf ([.v (.string ⟨#[]⟩),vi 1,vi 1,.su 30071 0 1 0 1,vi 450,vi 1,.v (.string ⟨#[]⟩),vi 2,vi 1,.su 30539 0 1 0 1,vi 451,vi 1,.v (.string ⟨#[]⟩),vi 3,vi 1,.su 30999 0 2 0 2,vi 452,vi 1])) (.leaf ([.v (.string ⟨#[]⟩),vi 4,vi 2,.su 31461 0 1 0 1,vi 453,vi 1,.v (.string ⟨#[]⟩),vi 5,vi 1,.su 31925 0 1 0 1,vi 0,vi 0,.v (.string ⟨#[]⟩),vi 6,vi 1,.su 32287 0 1 0 1,vi 454,vi 1]))) (.leaf ([.v (.string ⟨#[]⟩),vi 7,vi 1,.su 32649 0 1 0 1,vi 455,vi 1,.v (.string ⟨#[]⟩),vi 8,vi 1,.su 33028 0 1 0 1,vi 456,vi 1]))),
 .dead,
 .dead,
 .dead,
 ms 3 1 (([vi 3])),
 mn 46 (([.v (.string ⟨#[]⟩),vi 8,vi 1,.su 33058 0 1 0 1,vi 456,vi 1])),
 mn 27 (([.ptr 29792 0])),
 mn 46 (([.v (.string ⟨#[]⟩),vi 8,vi 1,.su 33058 0 1 0 1,vi 456,vi 1])),
 .dfd true,
 .loop .busy none 45 97 (patS .e [(0,.ptr 29792 0),(1,vi 1),(2,.sl 33019 0 1 1),(3,.fn (.func 143) ([.ptr 33018 0]) ([])),(4,.ptr 33020 0),(7,.ptr 33021 0),(8,.ptr 33022 0),(9,.ptr 33023 0),(10,.ptr 33024 0),(11,.ptr 33059 0),(12,vi 0),(18,.ptr 29792 0),(19,vb false),(21,.ptr 29792 0),(22,.ptr 29792 0),(23,.ptr 29792 3),(24,vi 2),(25,.ptr 29792 0),(26,.ptr 29792 0),(27,.ptr 29792 3),(28,vi 2),(29,vi 3),(30,.ptr 29792 0),(31,.ptr 29792 3),(32,.tup ([.agg ([.v (.string ⟨#[]⟩),vi 8,vi 1,.su 33058 0 1 0 1,vi 456,vi 1]),vi 0])),(33,.ptr 29792 0),(34,.ptr 29792 0),(35,.ptr 29792 0),(36,.ptr 29771 0),(37,vi 1),(38,.sl 33019 0 1 1),(39,.tup ([.agg ([.v (.string ⟨#[]⟩),vi 8,vi 1,.su 33058 0 1 0 1,vi 456,vi 1]),vi 0])),(40,.agg ([.v (.string ⟨#[]⟩),vi 8,vi 1,.su 33058 0 1 0 1,vi 456,vi 1])),(41,vi 0),(42,vi 0),(43,vb false),(46,.ptr 29792 0),(47,.agg ([.v (.string ⟨#[]⟩),vi 8,vi 1,.su 33058 0 1 0 1,vi 456,vi 1])),(48,.fn (.func 139) ([]) ([.ptr 33061 0,.ptr 33060 0]))]) [49,50] (subC (bodyF Tryz.prog 45) [1,0,1,1,1,1,1,1,0,1,0,0]) (subC (bodyF Tryz.prog 45) [1,0,1,1,1,1,1,1,0,1,0,1]) 33062,
 .dead,
 .dead,
 mn 46 (([.v (.string ⟨#[]⟩),vi 8,vi 1,.su 33058 0 1 0 1,vi 456,vi 1])),
 mn 156 (([vi 0,vi 3]))],deadL 209,[ms 2 1 (([vi 2,vi 1])),
 mn 239 (([vi 6,vi 0,vi 1,.su 33277 0 2 0 2,vi 0,vb false,vi 0]))],deadL 45,[ms 397 6 ((uN .i64 6 8590328321))]]),33325⟩
end Go.Proofs.YtlmpjdionndncaaGreatDoor.RSeekNames
/-
 SeekNames: a state of its run (78).
-/
namespace Go.Proofs.YtlmpjdionndncaaGreatDoor.RSeekNames
open Go Go.RowKit Ev
set_option maxRecDepth 100000
noncomputable def st78 : ASt := ⟨⟨143,55,(patS (frC st77 0).T [(12,.tup ([]))]),(rg 143 [1,0,1,0] 2),[cd 143 [1,1]],[],false,none,33068⟩,(cat2 [] (drN 1 st77.cs)),
 addL (patL (kilL st77.H [(32369,1),(33324,1)]) [(29772,mn 247 (([vi 8,.ifc 202 (.agg ([.ptr 29771 0])),.su 33517 0 3 0 3]))),
 (33017,mn 265 (([.ptr 29792 0,vi 1,vb false,.su 33568 0 2 0 2])))]) 33325 (catL [deadL 188,[ms 2 1 (([vi 3])),
 mn 239 (([vi 7,vi 0,vi 1,.su 33513 0 1 0 1,vi 0,vb false,vi 0])),
 .dead,
 .dead,
 ms 240 1 (([.ptr 33278 0,.ptr 33514 0,.ptr 32218 0]))],deadL 50,[ms 397 6 ((uN .i64 12 1213777530323230421025281))],deadL 8]),33577⟩
end Go.Proofs.YtlmpjdionndncaaGreatDoor.RSeekNames
/-
 SeekNames: a state of its run (79).
-/
namespace Go.Proofs.YtlmpjdionndncaaGreatDoor.RSeekNames
open Go Go.RowKit Ev
set_option maxRecDepth 100000
noncomputable def st79 : ASt := ⟨⟨51,33,(patS (frC st78 11).T [(19,.tup ([.ptr 33919 0,vi 0]))]),(rg 51 [1,0] 5),[cd 51 [1,1]],[],false,none,31969⟩,(cat2 [] (drN 12 st78.cs)),
 addL (patL (kilL st78.H [(31975,1),(31979,1),(32898,1),(32946,1),(32954,3),(32966,1),(32981,1),(32997,1),(33000,11),(33012,1),(33017,8),(33058,6),(33066,2),(33517,1),(33568,1)]) [(22150,.mem 349 none (.node 76800 (.node 38400 (.node 19200 (.node 9600 (.node 4800 (rz 4800) (.node 2400 (.node 1200 (rz 1200) (.node 600 (.node 300 (rz 300) (.node 150 (.node 75 (rz 75) (.node 37 (.node 18 (rz 18) (lu 19 22300745198530623162093550468306498700181504)) (.node 19 (lu 19 18518801667747479552) (lz 19)))) (.node 75 (.node 37 (.node 18 (lz 18) (lz 19)) (.node 19 (lz 19) (lu 19 20282409603651670532316941189120))) (.node 37 (.node 18 (lu 18 5192296858534827633316989631528960) (lc ([u8 6 2207613190144,z8 13]))) (.node 19 (lc ([u8 3 393216,z8 16])) (lz 19)))))) (.node 300 (.node 150 (.node 75 (.node 37 (.node 18 (lz 18) (lc ([z8 18,u8 1 217]))) (.node 19 (lu 19 44601490397061246284280362364911352189486106) (lu 19 309485009821345069010078289))) (.node 37 (.node 18 (lc ([u8 2 771,z8 15,u8 1 6])) (lz 19)) (.node 19 (lz 19) (lz 19)))) (.node 75 (.node 37 (.node 18 (lc ([z8 14,u8 4 3122783210])) (lu 19 28774621216885464763674038962516526607892480)) (.node 19 (lu 19 175585701331204247147119744178866106662929) (lu 19 36346078009743793399713474304606208))) (.node 37 (.node 18 (lz 18) (lz 19)) (.node 19 (lz 19) (lu 19 8374945997124534983705114926120960))))) (.node 150 (.node 75 (.node 37 (.node 18 (lu 18 22603575542231878585301347969666121728) (lu 19 22300745214208925765158459510360686261698560)) (.node 19 (lu 19 2166395068749415481090244608) (lz 19))) (.node 37 (.node 18 (lz 18) (lz 19)) (.node 19 (lu 19 41201648800973271633244454912) (lu 19 1347278090866885399527710261249)))) (.node 75 (.node 37 (.node 18 (lu 18 10384593719515841095187468879134976) (lu 19 147573952589676412928)) (.node 19 (lz 19) (lz 19))) (.node 37 (.node 18 (lz 18) (lu 19 340282366920938464821464634335942410240)) (.node 19 (lc ([u8 6 6597069766656,z8 13])) (rz 19)))))))) (rz 2400))) (rz 9600)) (rz 19200)) (.node 19200 (rz 19200) (.node 9600 (.node 4800 (.node 2400 (.node 1200 (.node 600 (.node 300 (.node 150 (.node 75 (.node 37 (.node 18 (lu 18 309485009821345068741645393) (lu 19 87112285931760246660790998951141597774592)) (.node 19 (lc ([u8 7 844424930131968,z8 12])) (lz 19))) (.node 37 (.node 18 (lz 18) (lz 19)) (.node 19 (lc ([z8 12,u8 7 374183074048529])) (lu 19 680564733841876926963642703010955526145)))) (.node 75 (.node 37 (.node 18 (lu 18 81129638414606681699087540027392) (lz 19)) (.node 19 (lz 19) (lz 19))) (.node 37 (.node 18 (lz 18) (lu 19 342049398884933676476513107573039169536)) (.node 19 (lu 19 40564819207303340851193037455360) (lu 19 3626777458843887524380672))))) (.node 150 (.node 75 (.node 37 (.node 18 (lz 18) (lz 19)) (.node 19 (lz 19) (lz 19))) (.node 37 (.node 18 (lu 18 158867745350670165723781791744) (lu 19 2163172284257470444731382524086120324429774848)) (.node 19 (lu 19 7061644215716937728) (lz 19)))) (.node 75 (.node 37 (.node 18 (lz 18) (lz 19)) (.node 19 (lz 19) (lu 19 522673715590561479884490286060993108180992))) (.node 37 (.node 18 (lu 18 10384593717069655257623942611861504) (lc ([u8 5 4294967296,z8 14]))) (.node 19 (lz 19) (lz 19)))))) (.node 300 (.node 150 (.node 75 (.node 37 (.node 18 (lz 18) (lc ([z8 18,u8 1 185]))) (.node 19 (lu 19 36346078009743793399996410936021679) (lu 19 928455029464035206191120384))) (.node 37 (.node 18 (lz 18) (lz 19)) (.node 19 (lz 19) (lz 19)))) (.node 75 (.node 37 (.node 18 (lc ([z8 14,u8 4 3014252966])) (lu 19 2475880078570760549815112785)) (.node 19 (lu 19 340282366920938463500268095579187314691) (lc ([u8 6 3298534883328,z8 13])))) (.node 37 (.node 18 (lz 18) (lz 19)) (.node 19 (lz 19) (lu 19 1303238732117760170827785842286657536))))) (rz 300))) (rz 1200)) (rz 2400)) (rz 4800)) (rz 9600)))) (rz 76800))),
 (22151,.map [] 13),
 (22152,mn 179 (([.sl 22150 0 1200 1200,.mp 22151,vi 0,.v (.slice none 0 0),vi 0,vi 0,vi 13,vb false]))),
 (28155,mn 185 (([.ptr 22152 0,vi 50,vi 400,.v (.int .u64 1),.su 33912 0 6 0 6]))),
 (29772,mn 247 (([vi 8,.ifc 202 (.agg ([.ptr 29771 0])),.su 33702 0 3 0 4]))),
 (29792,mn 91 (([.ptr 29771 0,.ptr 28155 0,.ptr 29787 0,vi 3,.su 33914 0 3 0 3,vi 0])))]) 33577 (catL [deadL 125,[ms 240 1 (([.ptr 33514 0,.ptr 33278 0,.ptr 32218 0,.v (.pointer none)]))],deadL 207,[.mem 5 (some 1) (lu 17 2722258935367507707706996859462735626242),
 .dead,
 ms 183 1 (([.su 29836 0 17 0 17,.su 32549 0 17 0 17,.su 32599 0 17 0 17,.su 32894 0 17 0 17,.su 32944 0 17 0 17,.su 33910 0 17 0 17])),
 .dead,
 ms 149 2 ((uN .i64 6 34360197126))],deadL 4,[mn 103 (([.ptr 29792 0,vi 1,vi 8,vi 3]))]]),33920⟩
end Go.Proofs.YtlmpjdionndncaaGreatDoor.RSeekNames
/-
 SeekNames: a state of its run (80).
-/
namespace Go.Proofs.YtlmpjdionndncaaGreatDoor.RSeekNames
open Go Go.RowKit Ev
set_option maxRecDepth 100000
noncomputable def st80 : ASt := ⟨⟨91,39,(patS .e [(0,vi 0),(1,.ptr 33920 0),(2,.ptr 31973 0),(3,.ptr 31969 0),(4,.ptr 31971 0),(6,vi 0),(7,vi 0),(8,vi 3),(9,vi 0),(11,.ptr 33919 0),(12,vb false),(15,.tup ([vi 3,vi 0])),(16,.ptr 29792 0),(17,.ptr 29771 0),(18,.ptr 31971 1),(19,vi 2),(20,vi 0),(21,.tup ([vi 3,vi 0])),(22,vi 3),(23,vi 0)]),.no,[cd 91 [1,1,1]],[],false,none,33969⟩,(cat2 [⟨87,89,(patS .e [(0,.ptr 29792 0),(1,.agg ([.v (.string ⟨#[]⟩),vi 9,vi 1,.su 33959 0 1 0 1,vi 457,vi 1])),(2,vi 3),(3,vi 0),(4,.agg ([vi 0,vi 2])),(5,.fn (.func 91) ([]) ([.ptr 33920 0,.ptr 31973 0,.ptr 31969 0,.ptr 31971 0])),(7,.ptr 33967 0),(10,.ptr 33968 0),(12,vi 0),(13,.v (.slice none 0 0)),(14,vi 0),(20,.ptr 33968 0),(21,vi 0),(22,vi 0),(23,.ptr 33968 1),(24,vi 2),(25,vb true),(29,.fn (.func 91) ([]) ([.ptr 33920 0,.ptr 31973 0,.ptr 31969 0,.ptr 31971 0])),(30,vi 0)]),(rg 87 [1,1,0,1,0,0,1,0,0,0] 2),[cd 87 [1,1,0,1,0,0,1,0,0,1],.inBlock 1,cd 87 [1,1,0,1,0,0,1,1],il 87 [1,1,0,1,0,0],.inBlock 0,cd 87 [1,1,1]],[],false,none,33967⟩,
 ⟨45,97,(patS .e [(0,.ptr 29792 0),(1,vi 1),(2,.su 31964 0 1 0 1),(3,.fn (.func 91) ([]) ([.ptr 33920 0,.ptr 31973 0,.ptr 31969 0,.ptr 31971 0])),(4,.ptr 33921 0),(7,.ptr 33922 0),(8,.ptr 33923 0),(9,.ptr 33924 0),(10,.ptr 33925 0),(11,.ptr 33960 0),(12,vi 0),(13,vi 0),(14,.ptr 33965 0),(15,vi 0),(16,vb false),(18,.ptr 29792 0),(19,vb false),(21,.ptr 29792 0),(22,.ptr 29792 0),(23,.ptr 29792 3),(24,vi 3),(25,.ptr 29792 0),(26,.ptr 29792 0),(27,.ptr 29792 3),(28,vi 3),(29,vi 4),(30,.ptr 29792 0),(31,.ptr 29792 3),(32,.tup ([.agg ([.v (.string ⟨#[]⟩),vi 9,vi 1,.su 33959 0 1 0 1,vi 457,vi 1]),vi 0])),(33,.ptr 29792 0),(34,.ptr 29792 0),(35,.ptr 29792 0),(36,.ptr 29771 0),(37,vi 1),(38,.su 31964 0 1 0 1),(39,.tup ([.agg ([.v (.string ⟨#[]⟩),vi 9,vi 1,.su 33959 0 1 0 1,vi 457,vi 1]),vi 0])),(40,.agg ([.v (.string ⟨#[]⟩),vi 9,vi 1,.su 33959 0 1 0 1,vi 457,vi 1])),(41,vi 0),(42,vi 0),(43,vb false),(46,.ptr 29792 0),(47,.agg ([.v (.string ⟨#[]⟩),vi 9,vi 1,.su 33959 0 1 0 1,vi 457,vi 1])),(48,.fn (.func 139) ([]) ([.ptr 33962 0,.ptr 33961 0])),(49,vi 0),(50,.agg ([vi 0,vi 2])),(51,.tup ([vi 0,vb false])),(52,.ptr 29792 0),(53,.ptr 29792 0),(54,.ptr 29792 2),(55,.ptr 29787 0),(56,vi 3),(57,vi 0),(58,.tup ([vi 0,vb false])),(59,vi 0),(60,vb false),(61,vb false),(62,vb false),(63,.v (.tuple #[])),(64,.v (.tuple #[])),(65,.v (.tuple #[])),(66,.v (.tuple #[])),(67,vb false),(68,vb false),(69,.v (.tuple #[])),(70,.v (.tuple #[])),(71,.v (.tuple #[])),(72,.v (.tuple #[])),(73,.v (.tuple #[])),(74,.v (.tuple #[])),(75,.v (.tuple #[])),(76,.v (.tuple #[])),(77,vb false),(85,.ptr 29792 0),(86,.agg ([.v (.string ⟨#[]⟩),vi 9,vi 1,.su 33959 0 1 0 1,vi 457,vi 1])),(87,vi 3),(88,vi 0),(89,.agg ([vi 0,vi 2])),(90,.fn (.func 91) ([]) ([.ptr 33920 0,.ptr 31973 0,.ptr 31969 0,.ptr 31971 0]))]),(rg 45 [1,0,1,1,1,1,1,1,0,1,0,1,0,1,0] 6),[cd 45 [1,0,1,1,1,1,1,1,0,1,0,1,0,1,1],.inBlock 1],[],false,(some 33964),33965⟩,
 ⟨139,35,(patS .e [(0,.yl 33964),(1,.ptr 33962 0),(2,.ptr 33961 0),(4,vi 2),(5,vi 13),(6,vi 0),(7,.ptr 33962 3),(8,.su 33959 0 1 0 1),(9,vi 2),(10,.ptr 29792 0),(11,.ptr 29792 0),(12,.ptr 29792 0),(13,.ptr 29771 0),(14,vi 13),(15,.ptr 33962 5),(16,vi 1),(17,vi 0),(18,vb true),(19,vi 0),(20,.yl 33964),(21,vi 0),(22,vi 0),(23,vi 13),(24,vi 0),(25,vi 0),(26,vi 1),(27,vi 13),(28,vi 13),(29,vi 2),(30,vi 2),(31,.agg ([vi 0,vi 2]))]),(rg 139 [1,1,0,0,1,1,0,0,1,0] 12),[cd 139 [1,1,0,0,1,1,0,0,1,1],.inBlock 1,cd 139 [1,1,0,0,1,1,1],il 139 [1,1,0,0],.inBlock 0],[],false,none,33965⟩,
 ⟨45,97,(patS .e [(0,.ptr 29792 0),(1,vi 1),(2,.su 31964 0 1 0 1),(3,.fn (.func 91) ([]) ([.ptr 33920 0,.ptr 31973 0,.ptr 31969 0,.ptr 31971 0])),(4,.ptr 33921 0),(7,.ptr 33922 0),(8,.ptr 33923 0),(9,.ptr 33924 0),(10,.ptr 33925 0),(11,.ptr 33960 0),(12,vi 0),(18,.ptr 29792 0),(19,vb false),(21,.ptr 29792 0),(22,.ptr 29792 0),(23,.ptr 29792 3),(24,vi 3),(25,.ptr 29792 0),(26,.ptr 29792 0),(27,.ptr 29792 3),(28,vi 3),(29,vi 4),(30,.ptr 29792 0),(31,.ptr 29792 3),(32,.tup ([.agg ([.v (.string ⟨#[]⟩),vi 9,vi 1,.su 33959 0 1 0 1,vi 457,vi 1]),vi 0])),(33,.ptr 29792 0),(34,.ptr 29792 0),(35,.ptr 29792 0),(36,.ptr 29771 0),(37,vi 1),(38,.su 31964 0 1 0 1),(39,.tup ([.agg ([.v (.string ⟨#[]⟩),vi 9,vi 1,.su 33959 0 1 0 1,vi 457,vi 1]),vi 0])),(40,.agg ([.v (.string ⟨#[]⟩),vi 9,vi 1,.su 33959 0 1 0 1,vi 457,vi 1])),(41,vi 0),(42,vi 0),(43,vb false),(46,.ptr 29792 0),(47,.agg ([.v (.string ⟨#[]⟩),vi 9,vi 1,.su 33959 0 1 0 1,vi 457,vi 1])),(48,.fn (.func 139) ([]) ([.ptr 33962 0,.ptr 33961 0]))]),.no,[.inRF 33964,.inBlock 0,cd 45 [1,0,1,1,1,1,1,1,1],.inScope (subC (bodyF Tryz.prog 45) [1,0])],[33963],false,none,33921⟩,
 ⟨51,33,(patS st79.fr.T [(12,.ptr 33920 0),(13,vi 0),(14,.tup ([.ptr 33919 0,vi 0])),(20,.ptr 33919 0),(21,vi 0),(22,vi 0),(23,vb false),(26,.ptr 29792 0),(27,.ptr 31971 3),(28,.su 31964 0 1 0 1),(29,.fn (.func 91) ([]) ([.ptr 33920 0,.ptr 31973 0,.ptr 31969 0,.ptr 31971 0]))]),(rg 51 [1,1,1,0] 4),[.code .ret],[],false,none,31969⟩] (drN 0 st79.cs)),
 addL (patL (kilL st79.H [(33050,1),(33054,1)]) [(29771,mn 137 (([.ptr 22152 0,vi 8,vi 1,vi 2,vb false,vi 400,vi 1200,.ptr 29774 0,.su 33955 0 9 0 9,vi 10,.ptr 29772 0,vi 0,.fn (.func 104) ([]) ([])]))),
 (29772,mn 247 (([vi 8,.ifc 202 (.agg ([.ptr 29771 0])),.su 33702 0 4 0 4]))),
 (29774,mn 354 (([vb true,vi 450,vi 1200,.su 33951 0 1 0 1]))),
 (29792,mn 91 (([.ptr 29771 0,.ptr 28155 0,.ptr 29787 0,vi 4,.su 33914 0 3 0 3,vi 0]))),
 (33702,ms 240 1 (([.ptr 33514 0,.ptr 33278 0,.ptr 32218 0,.ptr 34169 0])))]) 33920 (catL [[mn 163 (([.ptr 33919 0])),
 mn 27 (([.ptr 29792 0])),
 mn 93 (([.fn (.func 91) ([]) ([.ptr 33920 0,.ptr 31973 0,.ptr 31969 0,.ptr 31971 0])])),
 mn 46 (([.v (.string ⟨#[]⟩),vi 0,vi 0,.v (.slice none 0 0),vi 0,vi 0])),
 mn 39 (([vi 0])),
 mn 3 (([vi 3])),
 .dead,
 .dead,
 .dead,
 ms 3 1 (([vi 2]))],deadL 21,[ms 255 2 (([vi 450,vi 8])),
 .dead,
 .dead,
 .dead,
 .mem 46 (some 6) (.node 36 (.node 18 (.leaf ([.v (.string ⟨#[]⟩),vi 1,vi 1,.su 30071 0 1 0 1,vi 450,vi 1,.v (.string ⟨#[]⟩),vi 2,vi 1,.su 30539 0 1 0 1,vi 451,vi 1,.v (.string ⟨#[]⟩),vi 3,vi 1,.su 30999 0 2 0 2,vi 452,vi 1])) (.leaf ([.v (.string ⟨#[]⟩),vi 4,vi 2,.su 31461 0 1 0 1,vi 453,vi 1,.v (.string ⟨#[]⟩),vi 5,vi 1,.su 31925 0 1 0 1,vi 0,vi 0,.v (.string ⟨#[]⟩),vi 6,vi 1,.su 32287 0 1 0 1,vi 454,vi 1]))) (.leaf ([.v (.string ⟨#[]⟩),vi 7,vi 1,.su 32649 0 1 0 1,vi 455,vi 1,.v (.string ⟨#[]⟩),vi 8,vi 1,.su 33028 0 1 0 1,vi 456,vi 1,.v (.string ⟨#[]⟩),vi 9,vi 1,.su 33929 0 1 0 1,vi 457,vi 1]))),
 .dead,
 .dead,
 .dead,
 ms 3 1 (([vi 2])),
 mn 46 (([.v (.string ⟨#[]⟩),vi 9,vi 1,.su 33959 0 1 0 1,vi 457,vi 1])),
 mn 27 (([.ptr 29792 0])),
 mn 46 (([.v (.string ⟨#[]⟩),vi 9,vi 1,.su 33959 0 1 0 1,vi 457,vi 1])),
 .dfd true,
 .loop .busy none 45 97 (patS .e [(0,.ptr 29792 0),(1,vi 1),(2,.su 31964 0 1 0 1),(3,.fn (.func 91) ([]) ([.ptr 33920 0,.ptr 31973 0,.ptr 31969 0,.ptr 31971 0])),(4,.ptr 33921 0),(7,.ptr 33922 0),(8,.ptr 33923 0),(9,.ptr 33924 0),(10,.ptr 33925 0),(11,.ptr 33960 0),(12,vi 0),(18,.ptr 29792 0),(19,vb false),(21,.ptr 29792 0),(22,.ptr 29792 0),(23,.ptr 29792 3),(24,vi 3),(25,.ptr 29792 0),(26,.ptr 29792 0),(27,.ptr 29792 3),(28,vi 3),(29,vi 4),(30,.ptr 29792 0),(31,.ptr 29792 3),(32,.tup ([.agg ([.v (.string ⟨#[]⟩),vi 9,vi 1,.su 33959 0 1 0 1,vi 457,vi 1]),vi 0])),(33,.ptr 29792 0),(34,.ptr 29792 0),(35,.ptr 29792 0),(36,.ptr 29771 0),(37,vi 1),(38,.su 31964 0 1 0 1),(39,.tup ([.agg ([.v (.string ⟨#[]⟩),vi 9,vi 1,.su 33959 0 1 0 1,vi 457,vi 1]),vi 0])),(40,.agg ([.v (.string ⟨#[]⟩),vi 9,vi 1,.su 33959 0 1 0 1,vi 457,vi 1])),(41,vi 0),(42,vi 0),(43,vb false),(46,.ptr 29792 0),(47,.agg ([.v (.string ⟨#[]⟩),vi 9,vi 1,.su 33959 0 1 0 1,vi 457,vi 1])),(48,.fn (.func 139) ([]) ([.ptr 33962 0,.ptr 33961 0]))]) [49,50] (subC (bodyF Tryz.prog 45) [1,0,1,1,1,1,1,1,0,1,0,0]) (subC (bodyF Tryz.prog 45) [1,0,1,1,1,1,1,1,0,1,0,1]) 33963,
 .dead,
 .dead,
 mn 46 (([.v (.string ⟨#[]⟩),vi 9,vi 1,.su 33959 0 1 0 1,vi 457,vi 1])),
 mn 156 (([vi 0,vi 2]))],deadL 199,[ms 2 1 (([vi 3,vi 4])),
 mn 239 (([vi 2,vi 0,vi 1,.su 34168 0 2 0 2,vi 0,vb false,vi 0]))],deadL 22]),34192⟩
end Go.Proofs.YtlmpjdionndncaaGreatDoor.RSeekNames
/-
 SeekNames: a state of its run (81).
-/
namespace Go.Proofs.YtlmpjdionndncaaGreatDoor.RSeekNames
open Go Go.RowKit Ev
set_option maxRecDepth 100000
noncomputable def st81 : ASt := ⟨⟨93,30,(patS .e [(0,.agg ([.ptr 29792 0,vi 1,vi 8,vi 3])),(1,vi 1),(2,.ptr 34202 0),(4,.ptr 34203 0),(5,vi 0),(6,vi 1),(7,vi 0),(8,.tup ([vi 1,vi 0])),(9,.ptr 34202 0),(10,.ptr 29792 0),(11,.ptr 29771 0),(12,.ptr 34202 2),(13,vi 8),(14,vi 1),(15,.tup ([vi 1,vi 0])),(16,vi 1),(17,vi 0)]),.no,[cd 93 [1,1]],[],false,none,34202⟩,(cat2 [⟨144,34,(patS .e [(0,.yl 34201),(1,.ptr 34197 0),(2,.ptr 34198 0),(3,.ptr 34199 0),(5,vi 0),(6,vi 3),(7,vi 1),(8,.ptr 34197 3),(9,vi 3),(10,vi 0),(11,vi 3),(12,vb true),(13,vi 0),(14,vi 3),(15,vi 3),(16,vi 1),(17,.yl 34201),(18,.agg ([.ptr 29792 0,vi 1,vi 8,vi 3])),(19,vi 1)]),(rg 144 [1,0,0,0,1,0,1,0,0] 3),[cd 144 [1,0,0,0,1,0,1,0,1],cd 144 [1,0,0,0,1,0,1,1],.inBlock 1,il 144 [1,0,0,0],.inBlock 0,cd 144 [1,1]],[],false,none,34202⟩,
 ⟨55,52,(patS .e [(0,.agg ([.ptr 29792 0,vi 1,vi 8,vi 3])),(1,vi 3),(2,.ptr 34192 0),(3,.ptr 34193 0),(4,vi 0),(5,vi 0),(6,.ptr 34194 0),(7,.ptr 34195 0),(8,.ptr 34196 0),(13,.ptr 34192 3),(14,vi 3),(15,.agg ([.ptr 29792 0,vi 1,vi 8,vi 3])),(16,.fn (.func 144) ([]) (ptP 1 0 3 34197))]),.no,[.inRF 34201,.inBlock 0,cd 55 [1,0,1,1,1,1],.inScope (subC (bodyF Tryz.prog 55) [1,0])],[34200],false,none,34192⟩,
 ⟨91,39,(patS st80.fr.T [(24,vi 0),(25,vb false),(28,.ptr 33919 0),(29,.ptr 33919 0),(30,.agg ([.ptr 29792 0,vi 1,vi 8,vi 3])),(31,vi 3)]),(rg 91 [1,1,1,1,0] 4),[cd 91 [1,1,1,1,1]],[],false,none,33969⟩] (drN 0 st80.cs)),
 addL (patL (kilL st80.H [(33702,1)]) [(29772,mn 247 (([vi 8,.ifc 202 (.agg ([.ptr 29771 0])),.su 34444 0 5 0 5])))]) 34192 (catL [[mn 103 (([.ptr 29792 0,vi 1,vi 8,vi 3])),
 mn 2 (([vi 3])),
 mn 4 (([vb false])),
 mn 3 (([vi 3])),
 mn 39 (([vi 0])),
 mn 103 (([.ptr 29792 0,vi 1,vi 8,vi 3])),
 mn 169 (([.ptr 34194 0])),
 mn 170 (([.ptr 34195 0])),
 .dfd true,
 .loop .ready none 55 52 (patS .e [(0,.agg ([.ptr 29792 0,vi 1,vi 8,vi 3])),(1,vi 3),(2,.ptr 34192 0),(3,.ptr 34193 0),(4,vi 0),(5,vi 0),(6,.ptr 34194 0),(7,.ptr 34195 0),(8,.ptr 34196 0),(13,.ptr 34192 3),(14,vi 3),(15,.agg ([.ptr 29792 0,vi 1,vi 8,vi 3])),(16,.fn (.func 144) ([]) (ptP 1 0 3 34197))]) [17,18] (subC (bodyF Tryz.prog 55) [1,0,1,1,1,0,1,0,0]) (subC (bodyF Tryz.prog 55) [1,0,1,1,1,0,1,0,1]) 34200,
 mn 103 (([.ptr 29792 0,vi 1,vi 8,vi 3])),
 mn 24 (([vi 0,vi 0]))],deadL 236,[ms 2 1 (([vi 2,vi 1,vi 3])),
 mn 239 (([vi 8,vi 0,vi 1,.su 34440 0 3 0 3,vi 0,vb false,vi 0])),
 .dead,
 .dead,
 ms 240 1 (([.ptr 33514 0,.ptr 33278 0,.ptr 32218 0,.ptr 34169 0,.ptr 34441 0]))],deadL 23]),34468⟩
end Go.Proofs.YtlmpjdionndncaaGreatDoor.RSeekNames
/-
 SeekNames: a state of its run (82).
-/
namespace Go.Proofs.YtlmpjdionndncaaGreatDoor.RSeekNames
open Go Go.RowKit Ev
set_option maxRecDepth 100000
noncomputable def st82 : ASt := ⟨⟨87,89,(patS (frC st81 3).T [(31,.tup ([vi 1,vi 0]))]),(rg 87 [1,1,0,1,0,0,1,0,0,0] 3),[cd 87 [1,1,0,1,0,0,1,0,0,1],.inBlock 1,cd 87 [1,1,0,1,0,0,1,1],il 87 [1,1,0,1,0,0],.inBlock 0,cd 87 [1,1,1]],[],false,none,33967⟩,(cat2 [] (drN 4 st81.cs)),
 addL (patL (kilL st81.H [(34192,12)]) [(34444,ms 240 1 (([.ptr 33514 0,.ptr 33278 0,.ptr 34169 0,.ptr 34441 0,.ptr 32218 0])))]) 34468 (catL [deadL 218]),34686⟩
end Go.Proofs.YtlmpjdionndncaaGreatDoor.RSeekNames
/-
 SeekNames: a state of its run (83).
-/
namespace Go.Proofs.YtlmpjdionndncaaGreatDoor.RSeekNames
open Go Go.RowKit Ev
set_option maxRecDepth 100000
noncomputable def st83 : ASt := ⟨⟨87,89,(patS st82.fr.T [(13,.su 34687 0 1 0 1),(14,vi 1),(15,vi 1),(16,vi 0),(22,vi 1),(26,vi 0),(27,vi 1),(28,.tup ([vi 1,vi 0])),(30,vi 1),(31,.tup ([vi 4,vi 0])),(32,vi 1),(33,vi 0),(34,vi 0),(35,vb false),(37,.v (.slice none 0 0)),(38,vi 1),(39,.sl 34686 0 1 1),(40,.su 34687 0 1 0 1)]),(rg 87 [1,1,0,1,0,0,1,0,0,0] 3),[cd 87 [1,1,0,1,0,0,1,0,0,1],.inBlock 1,cd 87 [1,1,0,1,0,0,1,1],il 87 [1,1,0,1,0,0],.inBlock 0,cd 87 [1,1,1]],[],false,none,33967⟩,(cat2 [] (drN 0 st82.cs)),
 addL (patL (kilL st82.H []) []) 34686 (catL [[.dead,
 ms 2 1 (([vi 1]))],deadL 225]),34913⟩
end Go.Proofs.YtlmpjdionndncaaGreatDoor.RSeekNames
/-
 SeekNames: a state of its run (84).
-/
namespace Go.Proofs.YtlmpjdionndncaaGreatDoor.RSeekNames
open Go Go.RowKit Ev
set_option maxRecDepth 100000
noncomputable def st84 : ASt := ⟨⟨30,19,(patS (frC st83 5).T [(10,.tup ([.agg ([.v (.string ⟨#[]⟩),vi 9,vi 1,.su 33959 0 1 0 1,vi 457,vi 1]),vi 0]))]),(rg 30 [1,1,1,0] 3),[cd 30 [1,1,1,1]],[],false,none,22125⟩,(cat2 [] (drN 6 st83.cs)),
 addL (patL (kilL st83.H [(31943,1),(31956,1),(31964,1),(31968,2),(31971,1),(31973,2),(33912,1),(33914,1),(33919,7),(33960,5),(33967,2),(34444,1),(34687,1)]) [(22150,.mem 349 none (.node 76800 (.node 38400 (.node 19200 (.node 9600 (.node 4800 (rz 4800) (.node 2400 (.node 1200 (rz 1200) (.node 600 (.node 300 (rz 300) (.node 150 (.node 75 (rz 75) (.node 37 (.node 18 (rz 18) (lu 19 22300745198530623162093550468306498700181504)) (.node 19 (lu 19 18518801667747479552) (lz 19)))) (.node 75 (.node 37 (.node 18 (lz 18) (lz 19)) (.node 19 (lz 19) (lu 19 20282409603651670532316941189120))) (.node 37 (.node 18 (lu 18 5192296858534827633316989631528960) (lc ([u8 6 2207613190144,z8 13]))) (.node 19 (lc ([u8 3 393216,z8 16])) (lz 19)))))) (.node 300 (.node 150 (.node 75 (.node 37 (.node 18 (lz 18) (lc ([z8 18,u8 1 217]))) (.node 19 (lu 19 44601490397061246284280362364911352189486106) (lu 19 309485009821345069010078289))) (.node 37 (.node 18 (lc ([u8 2 771,z8 15,u8 1 6])) (lz 19)) (.node 19 (lz 19) (lz 19)))) (.node 75 (.node 37 (.node 18 (lc ([z8 14,u8 4 3122783210])) (lu 19 28774621216885464763674038962516526607892480)) (.node 19 (lu 19 175585701331204247147119744178866106662929) (lu 19 36346078009743793399713474304606208))) (.node 37 (.node 18 (lz 18) (lz 19)) (.node 19 (lz 19) (lu 19 8374945997124534983705114926120960))))) (.node 150 (.node 75 (.node 37 (.node 18 (lu 18 22603575542231878585301347969666121728) (lu 19 22300745214208925765158459510360686261698560)) (.node 19 (lu 19 2166395068749415481090244608) (lz 19))) (.node 37 (.node 18 (lz 18) (lz 19)) (.node 19 (lu 19 41201648800973271633244454912) (lu 19 1347278090866885399527710261249)))) (.node 75 (.node 37 (.node 18 (lu 18 10384593719515841095187468879134976) (lu 19 147573952589676412928)) (.node 19 (lz 19) (lz 19))) (.node 37 (.node 18 (lz 18) (lu 19 340282366920938464821464634335942410240)) (.node 19 (lu 19 87112285931760246726927931523419330314240) (lu 19 928455029610120719087173632)))))))) (.node 1200 (.node 600 (.node 300 (.node 150 (.node 75 (.node 37 (.node 18 (lc ([u8 5 38654705664,z8 13])) (lz 19)) (.node 19 (lz 19) (lz 19))) (.node 37 (.node 18 (lu 18 79228162514264338254993921024) (lc ([u8 3 458752,z8 16]))) (rz 38))) (rz 150)) (rz 300)) (rz 600)) (rz 1200)))) (rz 9600)) (rz 19200)) (.node 19200 (rz 19200) (.node 9600 (.node 4800 (.node 2400 (.node 1200 (.node 600 (.node 300 (.node 150 (.node 75 (.node 37 (.node 18 (lu 18 309485009821345068741645393) (lu 19 87112285931760246660790998951141597774592)) (.node 19 (lc ([u8 7 844424930131968,z8 12])) (lz 19))) (.node 37 (.node 18 (lz 18) (lz 19)) (.node 19 (lc ([z8 12,u8 7 374183074048529])) (lu 19 680564733841876926963642703010955526145)))) (.node 75 (.node 37 (.node 18 (lu 18 81129638414606681699087540027392) (lz 19)) (.node 19 (lz 19) (lz 19))) (.node 37 (.node 18 (lz 18) (lu 19 342049398884933676476513107573039169536)) (.node 19 (lu 19 40564819207303340851193037455360) (lu 19 3626777458843887524380672))))) (.node 150 (.node 75 (.node 37 (.node 18 (lz 18) (lz 19)) (.node 19 (lz 19) (lz 19))) (.node 37 (.node 18 (lu 18 158867745350670165723781791744) (lu 19 2163172284257470444731382524086120324429774848)) (.node 19 (lu 19 7061644215716937728) (lz 19)))) (.node 75 (.node 37 (.node 18 (lz 18) (lz 19)) (.node 19 (lz 19) (lu 19 522673715590561479884490286060993108180992))) (.node 37 (.node 18 (lu 18 10384593717069655257623942611861504) (lc ([u8 5 4294967296,z8 14]))) (.node 19 (lz 19) (lz 19)))))) (.node 300 (.node 150 (.node 75 (.node 37 (.node 18 (lz 18) (lc ([z8 18,u8 1 185]))) (.node 19 (lu 19 36346078009743793399996410936021679) (lu 19 928455029464035206191120384))) (.node 37 (.node 18 (lz 18) (lz 19)) (.node 19 (lz 19) (lz 19)))) (.node 75 (.node 37 (.node 18 (lc ([z8 14,u8 4 3014252966])) (lu 19 2475880078570760549815112785)) (.node 19 (lu 19 340282366920938463500268095579187314691) (lc ([u8 6 3298534883328,z8 13])))) (.node 37 (.node 18 (lz 18) (lz 19)) (.node 19 (lz 19) (lu 19 22416550173990132915059141675332887692443648))))) (.node 150 (.node 75 (.node 37 (.node 18 (lu 18 2658455991569831746456132466902040576) (lu 19 81129638414606681696888516771840)) (.node 19 (lz 19) (lz 19))) (.node 37 (.node 18 (lz 18) (lz 19)) (.node 19 (lu 19 58643032004116431467876188160) (rz 19)))) (rz 150)))) (rz 1200)) (rz 2400)) (rz 4800)) (rz 9600)))) (rz 76800))),
 (22151,.map [] 15),
 (22152,mn 179 (([.sl 22150 0 1200 1200,.mp 22151,vi 0,.v (.slice none 0 0),vi 0,vi 0,vi 15,vb false]))),
 (28155,mn 185 (([.ptr 22152 0,vi 50,vi 400,.v (.int .u64 1),.su 35169 0 7 0 7]))),
 (29772,mn 247 (([vi 8,.ifc 202 (.agg ([.ptr 29771 0])),.su 34964 0 5 0 6]))),
 (29792,mn 91 (([.ptr 29771 0,.ptr 28155 0,.ptr 29787 0,vi 4,.su 35171 0 4 0 4,vi 0])))]) 34913 (catL [deadL 51,[ms 240 1 (([.ptr 33514 0,.ptr 33278 0,.ptr 34169 0,.ptr 34441 0,.ptr 32218 0,.v (.pointer none)]))],deadL 202,[.mem 5 (some 1) (lu 17 3062541302288446171170371466898798804994),
 .dead,
 ms 183 1 (([.su 29836 0 17 0 17,.su 32549 0 17 0 17,.su 32599 0 17 0 17,.su 32894 0 17 0 17,.su 32944 0 17 0 17,.su 33910 0 17 0 17,.su 35167 0 17 0 17])),
 .dead,
 ms 149 2 ((uN .i64 8 2533309150593030))]]),35172⟩
end Go.Proofs.YtlmpjdionndncaaGreatDoor.RSeekNames
/-
 SeekNames: a state of its run (85).
-/
namespace Go.Proofs.YtlmpjdionndncaaGreatDoor.RSeekNames
open Go Go.RowKit Ev
set_option maxRecDepth 100000
noncomputable def st85 : ASt := ⟨⟨30,19,(patS .e [(0,vb true),(1,.ptr 29792 0),(2,.ptr 35172 0),(3,vi 0),(4,.ptr 29792 0),(5,.ptr 29792 0),(6,vb false),(7,.tup ([.agg ([.v (.string ⟨#[]⟩),vi 9,vi 1,.su 33959 0 1 0 1,vi 457,vi 1]),vi 0])),(8,.ptr 29792 0),(9,.agg ([vi 2,vi 2,vi 3,vb true])),(10,.tup ([.agg ([.v (.string ⟨#[]⟩),vi 9,vi 1,.su 33959 0 1 0 1,vi 457,vi 1]),vi 0])),(11,.agg ([.v (.string ⟨#[]⟩),vi 9,vi 1,.su 33959 0 1 0 1,vi 457,vi 1])),(12,vi 0),(13,.ptr 29792 0),(14,.agg ([.v (.string ⟨#[]⟩),vi 9,vi 1,.su 33959 0 1 0 1,vi 457,vi 1])),(15,vi 0),(16,.sl 35173 0 2 2),(17,.agg ([vi 1,.sl 35175 0 1 1,.su 35177 0 2 0 2])),(18,vb true)]),.no,[.code .ret],[],false,none,22125⟩,(cat2 [] (drN 0 st84.cs)),
 addL (patL (kilL st84.H [(22150,3),(28155,1),(29771,2),(29774,1),(29786,2),(29792,1),(29836,1),(30071,1),(30539,1),(30999,1),(31461,1),(31925,1),(32217,2),(32287,1),(32549,1),(32599,1),(32649,1),(32894,1),(32944,1),(33028,1),(33277,2),(33513,2),(33910,1),(33929,1),(33951,1),(33955,1),(33959,1),(34168,2),(34440,2),(34964,1),(35167,1),(35169,1),(35171,1)]) []) 35172 (catL [deadL 327]),35499⟩
end Go.Proofs.YtlmpjdionndncaaGreatDoor.RSeekNames
