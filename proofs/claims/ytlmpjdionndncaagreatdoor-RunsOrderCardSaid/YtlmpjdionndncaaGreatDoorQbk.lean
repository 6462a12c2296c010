/-
  Texts of this claim, laid together: Rn.
-/
import Derived.Test.YtlmpjdionndncaaGreatDoorQbg
import Derived.Test.YtlmpjdionndncaaGreatDoorQbh
import Derived.Test.YtlmpjdionndncaaGreatDoorQbj
import Derived.Test.YtlmpjdionndncaaGreatDoorQac
import Derived.Test.YtlmpjdionndncaaGreatDoorCards
import Derived.Test.YtlmpjdionndncaaGreatDoorTie
import Derived.ProofKit
import Derived.OpenShut
import Derived.LaidMore
import Derived.Lay
import Derived.SevenTiedAt
import Derived.Stop.Joined

namespace Go.Proofs.YtlmpjdionndncaaGreatDoor.RRunsOrder
open Go.ChangeShapes Go.WideShapes Go.ChangeAt Go.RowKit
theorem own : ownKnob Tryz.prog.godebug = none := by kernel_rfl
theorem laidOut : laidOutB Tryz.prog = true := by kernel_rfl
theorem readable : (Tryz.f3.params.toList.all fun t => Tryz.prog.readableRec t && decide (t < Tryz.prog.types.size)) = true := by kernel_rfl
set_option maxRecDepth 100000 in
set_option maxHeartbeats 800000 in
theorem lifted (os : Os) (started : os.Started) (H : Type) (enc : TypeId × Value → H) :
   ReturnsInHanded {} Tryz.checked os 3 .any (fun w args => (Rows.runsOrderSpec.pre enc Tryz.prog Tryz.f3 Rows.runsOrderRow.domain false w args ∧ laidMetH Tryz.prog Rows.runsOrderRow.laid w) ∧ sizedMet enc Tryz.prog Tryz.f3 (OpenSpec.ofChange Rows.runsOrderSpec) false w args)
     (Rows.runsOrderSpec.post enc Tryz.prog Tryz.f3 false true false false) := by
 refine returnsInHanded_of_change_and (C := Tryz.checked) (X := fun w _ => laidMetH Tryz.prog Rows.runsOrderRow.laid w) (fun _ _ _ hh h => h.of_heap hh) own started (by kernel_rfl) Tryz.func3
   (ChangeSpec.witness_shaped (enc := enc) (C := Tryz.checked) (os := os) (X := fun w _ => laidMetH Tryz.prog Rows.runsOrderRow.laid w) false (World.laidAll Tryz.prog os Rows.runsOrderRow.laid) #[.int .i64 0, .int .i64 0, .int .i64 0, .int .i64 0, .int .i64 0, .int .i64 0, .bool false] 8 (World.laidAll_os _ _ _)
     (World.shaped_of_ZipB (by kernel_rfl) (by kernel_rfl)) (by kernel_rfl) (by kernel_rfl) (by kernel_rfl)
     (by rw [MakeChecks.laidMetH_plain _ _ _ (by kernel_rfl)]; exact laidMet_laidAll _ (by kernel_rfl) (by kernel_rfl))) ?_
 intro W base args ds gs before hval0 hW hc _ hL _
 have hval : ∀ (j : Nat) t v, Tryz.f3.params[j]? = some t → args[j]? = some v → Value.okWide Tryz.prog W .any base t v := hval0
 have hW' := hW
 obtain ⟨p, q, hA0, hV, rfl, _, _⟩ := hW
 have hA : DataW.TrodAll enc Tryz.prog W 0 (fun _ => true) true Tryz.f3.params.toList args.toList ds p := hA0
 have hlt : ∀ x ∈ p, x.block < W.heap.size := fun x hx => by simpa using hW'.lt x (by simpa using List.mem_append.2 (.inl hx))
 have hall := fun W' (hb : Below W.heap.size W W') => again_all laidOut hb readable hA hlt
 obtain ⟨rfl, rfl⟩ := trodVars_none hV
 rw [Tryz.params3] at hval
 have hA' := hA
 rw [Tryz.params3] at hA'
 obtain ⟨v0, vs0, d0, ds0, p0, q0, e0, rfl, rfl, h0, r0⟩ := trodAll_cons hA'
 obtain ⟨v1, vs1, d1, ds1, p1, q1, e1, rfl, rfl, h1, r1⟩ := trodAll_cons r0
 obtain ⟨v2, vs2, d2, ds2, p2, q2, e2, rfl, rfl, h2, r2⟩ := trodAll_cons r1
 obtain ⟨v3, vs3, d3, ds3, p3, q3, e3, rfl, rfl, h3, r3⟩ := trodAll_cons r2
 obtain ⟨v4, vs4, d4, ds4, p4, q4, e4, rfl, rfl, h4, r4⟩ := trodAll_cons r3
 obtain ⟨v5, vs5, d5, ds5, p5, q5, e5, rfl, rfl, h5, r5⟩ := trodAll_cons r4
 obtain ⟨v6, vs6, d6, ds6, p6, q6, e6, rfl, rfl, h6, r6⟩ := trodAll_cons r5
 obtain ⟨en, rfl, rfl⟩ := trodAll_nil r6
 obtain rfl : args = #[v0, v1, v2, v3, v4, v5, v6] := by
   apply Array.ext'
   rw [e0]
   try rw [e1]
   try rw [e2]
   try rw [e3]
   try rw [e4]
   try rw [e5]
   try rw [e6]
   rw [en]
 clear hA' e0 e1 e2 e3 e4 e5 e6 en
 obtain ⟨a0, rfl, w0⟩ := arg_int Tryz.underlying2 (hval 0 2 v0 rfl rfl) h0
 obtain ⟨a1, rfl, w1⟩ := arg_int Tryz.underlying2 (hval 1 2 v1 rfl rfl) h1
 obtain ⟨a2, rfl, w2⟩ := arg_int Tryz.underlying2 (hval 2 2 v2 rfl rfl) h2
 obtain ⟨a3, rfl, w3⟩ := arg_int Tryz.underlying2 (hval 3 2 v3 rfl rfl) h3
 obtain ⟨a4, rfl, w4⟩ := arg_int Tryz.underlying2 (hval 4 2 v4 rfl rfl) h4
 obtain ⟨a5, rfl, w5⟩ := arg_int Tryz.underlying2 (hval 5 2 v5 rfl rfl) h5
 obtain ⟨a6, rfl⟩ := arg_bool Tryz.underlying4 (hval 6 4 v6 rfl rfl) h6
 simp only [List.append_nil] at hW'
 have hwalk := order_walk Ralive.walk a0 a1 a2 a3 a4 a5 a6 W
 refine hwalk.mono fun e W' ⟨he, hf⟩ => ?_
 subst he
 have hbel : Below W.heap.size W W' := hf.below
 refine ⟨_, rfl, _, _, _, [], _, [], hW', ?_, hall W' hbel, rfl, hbel.frame _, fun h => by cases h⟩
 exact trodAll_mk1 (shut_bool Tryz.underlying4 _)
theorem holds : Rows.RunsOrderSaid :=
 OpenClaim.holds_of_wide 3 Tryz.f3 rfl rfl rfl rfl rfl rfl rfl ⟨rfl, rfl, rfl, rfl, rfl⟩ rfl rfl rfl rfl rfl (by kernel_rfl) Tryz.func3 jf
   (of_decide_eq_true (by kernel_rfl)) (by unfold Func.isWrapper; first | (rw [if_pos (by decide +kernel)]; kernel_rfl) | (rw [if_neg (by decide +kernel)]; exact ⟨rfl, rfl⟩))
   (fun os started H enc _ => lifted os started H enc)
theorem said : Rows.RunsOrderCardSaid :=
 Claim7.holds_tied_plain_at .later [] [.data, .pinned] true (true, "958f70530007b389710de9c1b407bb97ab38853ba0222182a722152f40baa8d1") false holds (fun _ h => by cases h) cw (fun _ h => by cases h) runsOrder_row_tie rfl ⟨rfl, rfl⟩ cm rfl
   (fun f fn hf hfn => by
     obtain rfl : f = 3 := Option.some.inj (cn.symm.trans hf) |>.symm
     obtain rfl : fn = Tryz.f3 := (Option.some.inj (Tryz.func3.symm.trans hfn)).symm
     exact ⟨ck, fun j t ht => by
       have h := List.all_eq_true.1 nostand t (List.mem_of_getElem? (by simpa using ht))
       exact (by simpa using h : Tryz.prog.wantsStandIn t = false)⟩)
   cg
#print axioms said
end Go.Proofs.YtlmpjdionndncaaGreatDoor.RRunsOrder
