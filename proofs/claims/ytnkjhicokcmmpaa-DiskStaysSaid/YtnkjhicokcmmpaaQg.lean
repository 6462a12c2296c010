/-
  Texts of this claim, laid together: Vg.
-/
import Derived.Test.YtnkjhicokcmmpaaQf
import Derived.Test.YtnkjhicokcmmpaaQd

/-
  DiskStays returns true, whatever is handed to it, and what it read reads as it did.
-/
namespace Go.Proofs.Ytnkjhicokcmmpaa.RDiskStays
open Go.ChangeShapes Go.WideShapes Go.ChangeAt Go.RowKit

theorem crashFields : fieldsOk Try.prog 54 [(0, 3), (1, 52), (2, 3), (3, 3)] = true := by kernel_rfl
theorem own : ownKnob Try.prog.godebug = none := by kernel_rfl
theorem laidOut : laidOutB Try.prog = true := by kernel_rfl
theorem readable : (Try.f14.params.toList.all fun t => Try.prog.readableRec t && decide (t < Try.prog.types.size)) = true := by kernel_rfl

set_option maxHeartbeats 800000 in
set_option maxRecDepth 100000 in
theorem lifted (os : Os) (started : os.Started) (H : Type) (enc : TypeId × Value → H) :
    ReturnsInHanded {} Try.checked os 14 .any (Rows.diskStaysSpec.pre6 enc Try.prog Try.f14 Rows.diskStaysRow.domain false) (Rows.diskStaysSpec.post enc Try.prog Try.f14 false true false false) := by
  refine returnsInHanded_of_change (C := Try.checked) own started (by kernel_rfl) Try.func14
    (ChangeSpec.witness6 (enc := enc) (C := Try.checked) false ⟨#[], #[.slice none 0 0, .slice none 0 0, .agg #[.int .i64 0, .slice none 0 0, .int .i64 0, .int .i64 0]], []⟩ 8 (by kernel_rfl) (by kernel_rfl) (by kernel_rfl) (by kernel_rfl)) ?_
  intro W base args ds gs before hval0 hW _ _
  have hval : ∀ (j : Nat) t v, Try.f14.params[j]? = some t → args[j]? = some v → Value.okWide Try.prog W .any base t v := hval0
  have hW' := hW
  obtain ⟨p, q, hA0, hV, rfl, _, _⟩ := hW
  have hA : DataW.TrodAll enc Try.prog W 0 (fun _ => true) true Try.f14.params.toList args.toList ds p := hA0
  have hlt : ∀ x ∈ p, x.block < W.heap.size := fun x hx => by simpa using hW'.lt x (by simpa using List.mem_append.2 (.inl hx))
  have hall := fun W' (hb : Below W.heap.size W W') => again_all laidOut hb readable hA hlt
  obtain ⟨rfl, rfl⟩ := trodVars_none hV
  rw [Try.params14] at hval
  have hA' := hA
  rw [Try.params14] at hA'
  obtain ⟨v0, vs0, d0, ds0, p0, q0, e0, rfl, rfl, h0, r0⟩ := trodAll_cons hA'
  obtain ⟨v1, vs1, d1, ds1, p1, q1, e1, rfl, rfl, h1, r1⟩ := trodAll_cons r0
  obtain ⟨v2, vs2, d2, ds2, p2, q2, e2, rfl, rfl, h2, r2⟩ := trodAll_cons r1
  obtain ⟨en, rfl, rfl⟩ := trodAll_nil r2
  obtain rfl : args = #[v0, v1, v2] := by
    apply Array.ext'
    rw [e0]
    try rw [e1]
    try rw [e2]
    rw [en]
  clear hA' e0 e1 e2 en
  obtain ⟨a0, n0, c0, rfl⟩ := arg_slice Try.underlying79 (hval 0 79 v0 rfl rfl)
  obtain ⟨a1, n1, c1, rfl⟩ := arg_slice Try.underlying79 (hval 1 79 v1 rfl rfl)
  obtain ⟨a2, rfl⟩ := arg_struct crashFields (hval 2 54 v2 rfl rfl)
  simp only [List.append_nil] at hW'
  obtain ⟨l, rfl, hl1, hl2⟩ := Sm.ops_open (Rd.of h0)
  obtain ⟨m, rfl, hm1, hm2⟩ := Sm.ops_open (Rd.of h1)
  obtain ⟨c, hc1, hc2⟩ := Sm.crash_open (Rd.of h2)
  have hv1 : Sm.VR0 (Sm.imOf W) (.agg (Sm.crashF c)) (.agg a2) := by simpa [Value.cells] using Sm.VR0.agg hc1
  have hwalk := Sm.stays_walk l m c hl2 hm2 hc2 hl1 hm1 hv1
  refine hwalk.mono fun e W' ⟨he, hf⟩ => ?_
  subst he
  have hbel : Below W.heap.size W W' := hf.below
  refine ⟨_, rfl, _, _, _, [], _, [], hW', ?_, hall W' hbel, rfl, hbel.frame _, fun h => by cases h⟩
  exact trodAll_mk1 (shut_bool Try.underlying4 _)

theorem said : Rows.DiskStaysSaid :=
  OpenClaim.holds_of_wide 14 Try.f14 rfl rfl rfl rfl rfl rfl rfl ⟨rfl, rfl, rfl, rfl, rfl⟩ rfl rfl rfl rfl rfl (by kernel_rfl) Try.func14 (by kernel_rfl)
    (of_decide_eq_true (by kernel_rfl)) (by unfold Func.isWrapper; first | (rw [if_pos (by decide +kernel)]; kernel_rfl) | (rw [if_neg (by decide +kernel)]; exact ⟨rfl, rfl⟩))
    (fun os started H enc _ => lifted os started H enc)

#print axioms said
end Go.Proofs.Ytnkjhicokcmmpaa.RDiskStays
