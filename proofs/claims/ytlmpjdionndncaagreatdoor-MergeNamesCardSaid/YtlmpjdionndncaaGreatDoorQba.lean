/-
  Texts of this claim, laid together: Mzn.
-/
import Derived.Test.YtlmpjdionndncaaGreatDoorQax
import Derived.Test.YtlmpjdionndncaaGreatDoorQaz
import Derived.Test.YtlmpjdionndncaaGreatDoorQac
import Derived.Test.YtlmpjdionndncaaGreatDoorCards
import Derived.Test.YtlmpjdionndncaaGreatDoorTie
import Derived.ProofKit
import Derived.OpenShut
import Derived.LaidMore
import Derived.Lay
import Derived.SevenTiedAt
import Derived.Stop.Joined

namespace Go.Proofs.YtlmpjdionndncaaGreatDoor.RMergeNames
open Go.ChangeShapes Go.WideShapes Go.ChangeAt Go.RowKit
theorem own : ownKnob Tryz.prog.godebug = none := by kernel_rfl
theorem laidOut : laidOutB Tryz.prog = true := by kernel_rfl
theorem readable : (Tryz.f5.params.toList.all fun t => Tryz.prog.readableRec t && decide (t < Tryz.prog.types.size)) = true := by kernel_rfl
set_option maxRecDepth 100000 in
set_option maxHeartbeats 800000 in
theorem lifted (os : Os) (started : os.Started) (H : Type) (enc : TypeId × Value → H) :
   ReturnsInHanded {} Tryz.checked os 5 .any (fun w args => (Rows.mergeNamesSpec.pre enc Tryz.prog Tryz.f5 Rows.mergeNamesRow.domain false w args ∧ laidMetH Tryz.prog Rows.mergeNamesRow.laid w) ∧ sizedMet enc Tryz.prog Tryz.f5 (OpenSpec.ofChange Rows.mergeNamesSpec) false w args)
     (Rows.mergeNamesSpec.post enc Tryz.prog Tryz.f5 false true false false) := by
 refine returnsInHanded_of_change_and (C := Tryz.checked) (X := fun w _ => laidMetH Tryz.prog Rows.mergeNamesRow.laid w) (fun _ _ _ hh h => h.of_heap hh) own started (by kernel_rfl) Tryz.func5
   (ChangeSpec.witness_shaped (enc := enc) (C := Tryz.checked) (os := os) (X := fun w _ => laidMetH Tryz.prog Rows.mergeNamesRow.laid w) false (World.laidAll Tryz.prog os Rows.mergeNamesRow.laid) #[] 8 (World.laidAll_os _ _ _)
     (World.shaped_of_ZipB (by kernel_rfl) (by kernel_rfl)) (by kernel_rfl) (by kernel_rfl) (by kernel_rfl)
     (by rw [MakeChecks.laidMetH_plain _ _ _ (by kernel_rfl)]; exact laidMet_laidAll _ (by kernel_rfl) (by kernel_rfl))) ?_
 intro W base args ds gs before hval0 hW hc _ hL _
 have hval : ∀ (j : Nat) t v, Tryz.f5.params[j]? = some t → args[j]? = some v → Value.okWide Tryz.prog W .any base t v := hval0
 have hW' := hW
 obtain ⟨p, q, hA0, hV, rfl, _, _⟩ := hW
 have hA : DataW.TrodAll enc Tryz.prog W 0 (fun _ => true) true Tryz.f5.params.toList args.toList ds p := hA0
 have hlt : ∀ x ∈ p, x.block < W.heap.size := fun x hx => by simpa using hW'.lt x (by simpa using List.mem_append.2 (.inl hx))
 have hall := fun W' (hb : Below W.heap.size W W') => again_all laidOut hb readable hA hlt
 obtain ⟨rfl, rfl⟩ := trodVars_none hV
 rw [Tryz.params5] at hval
 have hA' := hA
 rw [Tryz.params5] at hA'
 obtain ⟨en, rfl, rfl⟩ := trodAll_nil hA'
 obtain rfl : args = #[] := Array.toList_inj.1 en
 clear hA'
 simp only [List.append_nil] at hW'
 have hwalk := walk W
 refine hwalk.mono fun e W' ⟨he, hf⟩ => ?_
 subst he
 have hbel : Below W.heap.size W W' := hf.below
 refine ⟨_, rfl, _, _, _, [], _, [], hW', ?_, hall W' hbel, rfl, hbel.frame _, fun h => by cases h⟩
 exact trodAll_mk1 (shut_bool Tryz.underlying4 _)
theorem holds : Rows.MergeNamesSaid :=
 OpenClaim.holds_of_wide 5 Tryz.f5 rfl rfl rfl rfl rfl rfl rfl ⟨rfl, rfl, rfl, rfl, rfl⟩ rfl rfl rfl rfl rfl (by kernel_rfl) Tryz.func5 jf
   (of_decide_eq_true (by kernel_rfl)) (by unfold Func.isWrapper; first | (rw [if_pos (by decide +kernel)]; kernel_rfl) | (rw [if_neg (by decide +kernel)]; exact ⟨rfl, rfl⟩))
   (fun os started H enc _ => lifted os started H enc)
theorem said : Rows.MergeNamesCardSaid :=
 Claim7.holds_tied_plain_at .later [] [.data, .pinned] true (true, "958f70530007b389710de9c1b407bb97ab38853ba0222182a722152f40baa8d1") false holds (fun _ h => by cases h) cw (fun _ h => by cases h) mergeNames_row_tie rfl ⟨rfl, rfl⟩ cm rfl
   (fun f fn hf hfn => by
     obtain rfl : f = 5 := Option.some.inj (cn.symm.trans hf) |>.symm
     obtain rfl : fn = Tryz.f5 := (Option.some.inj (Tryz.func5.symm.trans hfn)).symm
     exact ⟨ck, fun j t ht => by
       rw [Tryz.params5] at ht
       simp at ht⟩)
   cg
#print axioms said
end Go.Proofs.YtlmpjdionndncaaGreatDoor.RMergeNames
