/-
  Texts of this claim, laid together: Ros0, Ros1, Rop0.
-/
import Derived.Test.YtlmpjdionndncaaGreatDoorQac
import Derived.Test.YtlmpjdionndncaaGreatDoorProg

/-
 alive: a state of its run (0).
-/
namespace Go.Proofs.YtlmpjdionndncaaGreatDoor.Ralive
open Go Go.RowKit Ev
set_option maxRecDepth 100000
noncomputable def st0 : ASt := ⟨⟨7, 17, .e, .no, [.code (bodyC Tryz.prog 7)], [], false, none, 0⟩, [], .e, 0⟩
end Go.Proofs.YtlmpjdionndncaaGreatDoor.Ralive
/-
 alive: a state of its run (1).
-/
namespace Go.Proofs.YtlmpjdionndncaaGreatDoor.Ralive
open Go Go.RowKit Ev
set_option maxRecDepth 100000
noncomputable def st1 : ASt := ⟨⟨60, 39, (ofO 40 [some (.v (.int .i64 1200)), none, some (.v (.pointer none)), some (.v (.int .i64 0)), some (.ptr 21 0), some (.v (.int .i64 185)), some (.v (.int .i64 1200)), some (.v (.bool false)), some (.v (.bool false)), some (.v (.int .i64 1200)), some (.v (.bool false)), some (.v (.bool false)), some (.agg ([.v (.slice none 0 0), .v (.slice none 0 0), .v (.int .i64 0), .v (.slice none 0 0), .v (.int .i64 0), .v (.int .i64 0), .v (.int .i64 0), .v (.bool false)])), some (.ptr 21 0), some (.v (.int .i64 185)), some (.v (.int .i64 1200)), some (.v (.bool true)), some (.v (.int .i64 184)), some (.v (.int .i64 185)), some (.ptr 21 0), some (.ptr 21 0), some (.ptr 21 0), some (.ptr 21 0), some (.su 944 0 185 0 185), some (.sl 947 0 128 128), some (.sl 948 0 1 1), some (.su 949 0 186 0 186), some (.ptr 21 0), some (.ptr 21 0), some (.ptr 21 0), some (.ptr 21 0), some (.ptr 21 0), some (.ptr 21 1), some (.su 941 0 184 0 184), some (.sl 945 0 1 1), some (.su 946 0 185 0 185), some (.ptr 21 0), some (.ptr 21 1), none]), .no, [.code (subC (bodyC Tryz.prog 60) [1, 1, 1, 0, 1, 0, 0, 1, 0, 0, 1]), .inBlock 1, .code (subC (bodyC Tryz.prog 60) [1, 1, 1, 0, 1, 0, 0, 1, 1]), .inLoop (subC (bodyC Tryz.prog 60) [1, 1, 1, 0, 1, 0, 0]), .inBlock 0, .code (subC (bodyC Tryz.prog 60) [1, 1, 1, 1])], [], false, none, 21⟩, [⟨32, 117, (ofO 118 [some (.agg ([.v (.int .i64 8), .v (.int .i64 1), .v (.int .i64 2), .v (.bool false), .v (.int .i64 400), .v (.int .i64 1200)])), some (.sl 16 0 3 3), some (.ptr 17 0), none, some (.v (.pointer none)), some (.ptr 20 0), some (.v (.int .i64 0)), none, none, none, none, none, none, none, none, none, none, none, none, none, none, none, some (.tup ([.ptr 20 0, .v (.int .i64 0)])), some (.ptr 17 5), some (.v (.int .i64 1200)), some (.tup ([.ptr 20 0, .v (.int .i64 0)])), some (.ptr 20 0), some (.v (.int .i64 0)), none, some (.ptr 17 5), some (.v (.int .i64 1200)), none, none, none, none, none, none, none, none, none, none, none, none, none, none, none, none, none, none, none, none, none, none, none, none, none, none, none, none, none, none, none, none, none, none, none, none, none, none, none, none, none, none, none, none, none, none, none, none, none, none, none, none, none, none, none, none, none, none, none, none, none, none, none, none, none, none, none, none, none, none, none, none, none, none, none, none, none, none, none, none, none, none, none, none, none, none]), (plC (subC (bodyC Tryz.prog 32) [1, 1, 0]) 2), [.code (subC (bodyC Tryz.prog 32) [1, 1, 1])], [], false, none, 17⟩,
 ⟨9, 15, (ofO 16 [some (.v (.pointer none)), none, some (.agg ([.v (.int .i64 8), .v (.int .i64 1), .v (.int .i64 2), .v (.bool false), .v (.int .i64 400), .v (.int .i64 1200)])), some (.sl 1 0 5 5), some (.agg ([.v (.int .i64 1), .sl 3 0 1 1, .su 5 0 5 0 5])), some (.agg ([.v (.int .i64 2), .sl 13 0 1 1, .su 12 0 2 0 2])), some (.agg ([.v (.int .i64 1), .sl 15 0 1 1, .v (.slice none 0 0)])), some (.sl 16 0 3 3), none, none, none, none, none, none, none]), (plC (subC (bodyC Tryz.prog 9) [1, 0]) 6), [.code (subC (bodyC Tryz.prog 9) [1, 1])], [], false, none, 0⟩,
 ⟨7, 17, (ofO 18 [some (.v (.bool false)), none, none, none, none, none, none, none, none, none, none, none, none, none, none, none, none]), (plC (subC (bodyC Tryz.prog 7) [1, 0]) 0), [.code (subC (bodyC Tryz.prog 7) [1, 1])], [], false, none, 0⟩],
 ofL 951 (catL [[.dead,
 .dead,
 .dead,
 .mem 3 none (.leaf ([.v (.int .i64 5)])),
 .dead,
 .mem 2 (some 1) (.leaf (uN .i64 5 21491745027))], deadL 6, [.mem 2 (some 1) (.leaf ([.v (.int .i64 98), .v (.int .i64 97)])),
 .mem 3 none (.leaf ([.v (.int .i64 2)])),
 .dead,
 .mem 3 none (.leaf ([.v (.int .i64 0)])),
 .mem 36 none (.leaf ([.v (.int .i64 1), .sl 3 0 1 1, .su 5 0 5 0 5, .v (.int .i64 2), .sl 13 0 1 1, .su 12 0 2 0 2, .v (.int .i64 1), .sl 15 0 1 1, .v (.slice none 0 0)])),
 .mem 64 none (.leaf ([.v (.int .i64 8), .v (.int .i64 1), .v (.int .i64 2), .v (.bool false), .v (.int .i64 400), .v (.int .i64 1200)])),
 .mem 349 none (.rep (.v (.int .u8 0)) 153600),
 .map [] 0,
 .mem 179 none (.leaf ([.sl 18 0 1200 1200, .mp 19, .v (.int .i64 0), .v (.slice none 0 0), .v (.int .i64 0), .v (.int .i64 0), .v (.int .i64 0), .v (.bool false)])),
 .mem 182 none (.leaf ([.su 949 0 186 0 186, .su 946 0 185 0 185, .v (.int .i64 0), .v (.slice none 0 0), .v (.int .i64 0), .v (.int .i64 0), .v (.int .i64 0), .v (.bool false)]))], repL [.mem 5 none (.rep (.v (.int .u8 0)) 128), .dead, .dead, .dead, .dead] 184, [.mem 5 none (.rep (.v (.int .u8 0)) 128),
 .dead,
 .dead,
 .dead,
 .mem 183 (some 1) (.node 128 (.node 64 (.node 32 (.node 16 (.leaf (zN (.v (.slice none 0 0)) 16)) (.leaf (zN (.v (.slice none 0 0)) 16))) (.node 16 (.leaf (zN (.v (.slice none 0 0)) 16)) (.leaf (zN (.v (.slice none 0 0)) 16)))) (.node 32 (.node 16 (.leaf (zN (.v (.slice none 0 0)) 16)) (.leaf (zN (.v (.slice none 0 0)) 16))) (.node 16 (.leaf (zN (.v (.slice none 0 0)) 16)) (.leaf (zN (.v (.slice none 0 0)) 16))))) (.node 32 (.node 16 (.leaf (zN (.v (.slice none 0 0)) 16)) (.leaf (zN (.v (.slice none 0 0)) 16))) (.node 16 (.leaf (zN (.v (.slice none 0 0)) 16)) (.leaf (zN (.v (.slice none 0 0)) 9))))),
 .mem 5 none (.rep (.v (.int .u8 0)) 128),
 .dead,
 .mem 183 (some 1) (.node 128 (.node 64 (.node 32 (.node 16 (.leaf (slP 5 0 128 128 16 22)) (.leaf (slP 5 0 128 128 16 102))) (.node 16 (.leaf (slP 5 0 128 128 16 182)) (.leaf (slP 5 0 128 128 16 262)))) (.node 32 (.node 16 (.leaf (slP 5 0 128 128 16 342)) (.leaf (slP 5 0 128 128 16 422))) (.node 16 (.leaf (slP 5 0 128 128 16 502)) (.leaf (slP 5 0 128 128 16 582))))) (.node 32 (.node 16 (.leaf (slP 5 0 128 128 16 662)) (.leaf (slP 5 0 128 128 16 742))) (.node 16 (.leaf (slP 5 0 128 128 16 822)) (.leaf (slP 5 0 128 128 10 902)))))]]), 950⟩
end Go.Proofs.YtlmpjdionndncaaGreatDoor.Ralive
namespace Go.Proofs.YtlmpjdionndncaaGreatDoor.Ralive
open Go Go.RowKit Ev
theorem start : startE (tabOf Tryz.prog) 7 = some st0 := by kernel_rfl
set_option maxRecDepth 1000000 in
theorem part0 : Ev.Reach Tryz.prog st0 st1 :=
 Ev.Reach.segG (Ev.tab_ok Ev.tab) Ev.runsHook_ok Tryz.checked.mixed (HK := Ev.runsHook) (FT := tabOf Tryz.prog) (k := 2451) (bits := 6581249027198446329544973378908592156451899989279642573627480616069259940722821937109583637060408106481302738839176642016850615989960034293835546958943501376045922558367467571126986304169859661245058634236729586602338552341407908003069483052123738354492018982848662736755503414758060072) 6581249027198446329544973378908592156451899989279642573627480616069259940722821937109583637060408106481302738839176642016850615989960034293835546958943501376045922558367467571126986304169859661245058634236729586602338552341407908003069483052123738354492018982848662736755503414758060072 (by kernel_rfl)
end Go.Proofs.YtlmpjdionndncaaGreatDoor.Ralive
