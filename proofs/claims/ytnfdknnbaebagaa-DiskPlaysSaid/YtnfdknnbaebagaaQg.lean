/-
  Texts of this claim, laid together: Kh.
-/
import Derived.Test.YtnfdknnbaebagaaQf
import Derived.Test.YtnfdknnbaebagaaQd

/-
 DiskPlays returns true, whatever is handed to it, and what it read reads as it did.
-/
namespace Go.Proofs.Ytnfdknnbaebagaa.Sm
open Go Go.RowKit
theorem plays3_walk (s : Int) (hs : fits .i64 s) (l : List OpD) (hl : ∀ o ∈ l, o.Wf) {w : World} {v : Value} (hv : VR0 (imOf w) (.im 7 l.length (opsF l)) v) :
   Calls Try.prog 4 #[.int .i64 s, v] w (fun e w' => e = .returned (.bool true) ∧ Fr No w w') :=
 law_calls (args := [ivA s, .im 7 l.length (opsF l)]) s30_ok (by kernel_rfl) (plays3_to s30_ok s hs l hl) (.cons (.sy _) (.cons (bare_VR (ρ := envOf w) hv) .nil))
end Go.Proofs.Ytnfdknnbaebagaa.Sm
namespace Go.Proofs.Ytnfdknnbaebagaa.RDiskPlays
open Go.ChangeShapes Go.WideShapes Go.ChangeAt Go.RowKit
theorem own : ownKnob Try.prog.godebug = none := by kernel_rfl
theorem laidOut : laidOutB Try.prog = true := by kernel_rfl
theorem readable : (Try.f4.params.toList.all fun t => Try.prog.readableRec t && decide (t < Try.prog.types.size)) = true := by kernel_rfl
set_option maxHeartbeats 800000 in
set_option maxRecDepth 100000 in
theorem lifted (os : Os) (started : os.Started) (H : Type) (enc : TypeId × Value → H) :
   ReturnsInHanded {} Try.checked os 4 .any (Rows.diskPlaysSpec.pre6 enc Try.prog Try.f4 Rows.diskPlaysRow.domain false) (Rows.diskPlaysSpec.post enc Try.prog Try.f4 false true false false) := by
 refine returnsInHanded_of_change (C := Try.checked) own started (by kernel_rfl) Try.func4
   (ChangeSpec.witness6 (enc := enc) (C := Try.checked) false ⟨#[], #[.int .i64 0, .slice none 0 0], []⟩ 8 (by kernel_rfl) (by kernel_rfl) (by kernel_rfl) (by kernel_rfl)) ?_
 intro W base args ds gs before hval0 hW _ _
 have hval : ∀ (j : Nat) t v, Try.f4.params[j]? = some t → args[j]? = some v → Value.okWide Try.prog W .any base t v := hval0
 have hW' := hW
 obtain ⟨p, q, hA0, hV, rfl, _, _⟩ := hW
 have hA : DataW.TrodAll enc Try.prog W 0 (fun _ => true) true Try.f4.params.toList args.toList ds p := hA0
 have hlt : ∀ x ∈ p, x.block < W.heap.size := fun x hx => by simpa using hW'.lt x (by simpa using List.mem_append.2 (.inl hx))
 have hall := fun W' (hb : Below W.heap.size W W') => again_all laidOut hb readable hA hlt
 obtain ⟨rfl, rfl⟩ := trodVars_none hV
 rw [Try.params4] at hval
 have hA' := hA
 rw [Try.params4] at hA'
 obtain ⟨v0, vs0, d0, ds0, p0, q0, e0, rfl, rfl, h0, r0⟩ := trodAll_cons hA'
 obtain ⟨v1, vs1, d1, ds1, p1, q1, e1, rfl, rfl, h1, r1⟩ := trodAll_cons r0
 obtain ⟨en, rfl, rfl⟩ := trodAll_nil r1
 obtain rfl : args = #[v0, v1] := by
   apply Array.ext'
   rw [e0]
   try rw [e1]
   rw [en]
 clear hA' e0 e1 en
 obtain ⟨a0, rfl, w0⟩ := arg_int Try.underlying3 (hval 0 3 v0 rfl rfl) h0
 obtain ⟨a1, n1, c1, rfl⟩ := arg_slice Try.underlying43 (hval 1 43 v1 rfl rfl)
 simp only [List.append_nil] at hW'
 obtain ⟨l, hn, hl1, hl2⟩ := Sm.ops_open (Rd.of h1)
 have hwalk := Sm.plays3_walk a0 (Sm.i64_bd w0) l hl2 hl1
 refine hwalk.mono fun e W' ⟨he, hf⟩ => ?_
 subst he
 have hbel : Below W.heap.size W W' := hf.below
 refine ⟨_, rfl, _, _, _, [], _, [], hW', ?_, hall W' hbel, rfl, hbel.frame _, fun h => by cases h⟩
 exact trodAll_mk1 (shut_bool Try.underlying4 _)
theorem said : Rows.DiskPlaysSaid :=
 OpenClaim.holds_of_wide 4 Try.f4 rfl rfl rfl rfl rfl rfl rfl ⟨rfl, rfl, rfl, rfl, rfl⟩ rfl rfl rfl rfl rfl (by kernel_rfl) Try.func4 (by kernel_rfl)
   (of_decide_eq_true (by kernel_rfl)) (by unfold Func.isWrapper; first | (rw [if_pos (by decide +kernel)]; kernel_rfl) | (rw [if_neg (by decide +kernel)]; exact ⟨rfl, rfl⟩))
   (fun os started H enc _ => lifted os started H enc)
#print axioms said
end Go.Proofs.Ytnfdknnbaebagaa.RDiskPlays
