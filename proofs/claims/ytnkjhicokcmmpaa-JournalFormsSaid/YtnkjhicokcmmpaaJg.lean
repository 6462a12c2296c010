/-
  JournalForms returns true, whatever is handed to it, and what it read reads as it did.
-/
import Derived.Test.YtnkjhicokcmmpaaJf
import Derived.Test.YtnkjhicokcmmpaaOpen
namespace Go.Proofs.Ytnkjhicokcmmpaa.RJournalForms
open Go.ChangeShapes Go.WideShapes Go.ChangeAt Go.RowKit

theorem own : ownKnob Try.prog.godebug = none := by kernel_rfl
theorem laidOut : laidOutB Try.prog = true := by kernel_rfl
theorem readable : (Try.f7.params.toList.all fun t => Try.prog.readableRec t && decide (t < Try.prog.types.size)) = true := by kernel_rfl

set_option maxHeartbeats 800000 in
set_option maxRecDepth 100000 in
theorem lifted (os : Os) (started : os.Started) (H : Type) (enc : TypeId × Value → H) :
    ReturnsInHanded {} Try.checked os 7 .any (Rows.journalFormsSpec.pre6 enc Try.prog Try.f7 Rows.journalFormsRow.domain false) (Rows.journalFormsSpec.post enc Try.prog Try.f7 false true false false) := by
  refine returnsInHanded_of_change (C := Try.checked) own started (by kernel_rfl) Try.func7
    (ChangeSpec.witness6 (enc := enc) (C := Try.checked) false ⟨#[], #[.int .u64 0, .int .u64 0, .slice none 0 0, .slice none 0 0], []⟩ 8 (by kernel_rfl) (by kernel_rfl) (by kernel_rfl) (by kernel_rfl)) ?_
  intro W base args ds gs before hval0 hW _ _
  have hval : ∀ (j : Nat) t v, Try.f7.params[j]? = some t → args[j]? = some v → Value.okWide Try.prog W .any base t v := hval0
  have hW' := hW
  obtain ⟨p, q, hA0, hV, rfl, _, _⟩ := hW
  have hA : DataW.TrodAll enc Try.prog W 0 (fun _ => true) true Try.f7.params.toList args.toList ds p := hA0
  have hlt : ∀ x ∈ p, x.block < W.heap.size := fun x hx => by simpa using hW'.lt x (by simpa using List.mem_append.2 (.inl hx))
  have hall := fun W' (hb : Below W.heap.size W W') => again_all laidOut hb readable hA hlt
  obtain ⟨rfl, rfl⟩ := trodVars_none hV
  rw [Try.params7] at hval
  have hA' := hA
  rw [Try.params7] at hA'
  obtain ⟨v0, vs0, d0, ds0, p0, q0, e0, rfl, rfl, h0, r0⟩ := trodAll_cons hA'
  obtain ⟨v1, vs1, d1, ds1, p1, q1, e1, rfl, rfl, h1, r1⟩ := trodAll_cons r0
  obtain ⟨v2, vs2, d2, ds2, p2, q2, e2, rfl, rfl, h2, r2⟩ := trodAll_cons r1
  obtain ⟨v3, vs3, d3, ds3, p3, q3, e3, rfl, rfl, h3, r3⟩ := trodAll_cons r2
  obtain ⟨en, rfl, rfl⟩ := trodAll_nil r3
  obtain rfl : args = #[v0, v1, v2, v3] := by
    apply Array.ext'
    rw [e0]
    try rw [e1]
    try rw [e2]
    try rw [e3]
    rw [en]
  clear hA' e0 e1 e2 e3 en
  obtain ⟨a0, rfl, w0⟩ := arg_int Try.underlying22 (hval 0 22 v0 rfl rfl) h0
  obtain ⟨a1, rfl, w1⟩ := arg_int Try.underlying22 (hval 1 22 v1 rfl rfl) h1
  obtain ⟨a2, n2, c2, rfl⟩ := arg_slice Try.underlying26 (hval 2 26 v2 rfl rfl)
  obtain ⟨a3, n3, c3, rfl⟩ := arg_slice Try.underlying26 (hval 3 26 v3 rfl rfl)
  simp only [List.append_nil] at hW'
  obtain ⟨p, hp⟩ := bytes_open Try.underlying26 Try.underlying5 (by kernel_rfl) (Rd.of h2)
  obtain ⟨b, hb⟩ := bytes_open Try.underlying26 Try.underlying5 (by kernel_rfl) (Rd.of h3)
  have hb0 := u64_bd w0
  have hb1 := u64_bd w1
  obtain ⟨x0, rfl⟩ : ∃ x : Nat, a0 = (x : Int) := ⟨a0.toNat, by omega⟩
  obtain ⟨x1, rfl⟩ : ∃ x : Nat, a1 = (x : Int) := ⟨a1.toNat, by omega⟩
  have hwalk := jforms_walk x0 x1 (by omega) (by omega) a2 n2 c2 p a3 n3 c3 b W hp hb
  refine hwalk.mono fun e W' ⟨he, hf⟩ => ?_
  subst he
  have hbel : Below W.heap.size W W' := hf.below
  refine ⟨_, rfl, _, _, _, [], _, [], hW', ?_, hall W' hbel, rfl, hbel.frame _, fun h => by cases h⟩
  exact trodAll_mk1 (shut_bool Try.underlying4 _)

theorem said : Rows.JournalFormsSaid :=
  OpenClaim.holds_of_wide 7 Try.f7 rfl rfl rfl rfl rfl rfl rfl ⟨rfl, rfl, rfl, rfl, rfl⟩ rfl rfl rfl rfl rfl (by kernel_rfl) Try.func7 (by kernel_rfl)
    (of_decide_eq_true (by kernel_rfl)) (by unfold Func.isWrapper; first | (rw [if_pos (by decide +kernel)]; kernel_rfl) | (rw [if_neg (by decide +kernel)]; exact ⟨rfl, rfl⟩))
    (fun os started H enc _ => lifted os started H enc)

#print axioms said
end Go.Proofs.Ytnkjhicokcmmpaa.RJournalForms
