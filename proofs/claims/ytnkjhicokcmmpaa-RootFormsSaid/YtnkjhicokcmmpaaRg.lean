/-
  RootForms returns true, whatever is handed to it, and what it read reads as it did.
-/
import Derived.Test.YtnkjhicokcmmpaaRf
import Derived.Test.YtnkjhicokcmmpaaOpen
namespace Go.Proofs.Ytnkjhicokcmmpaa.RRootForms
open Go.ChangeShapes Go.WideShapes Go.ChangeAt Go.RowKit

theorem rootFields : fieldsOk Try.prog 25 [(0, 22), (1, 3), (2, 23)] = true := by kernel_rfl
theorem cellsRoot : Try.prog.cellsOf 25 = 3 := by kernel_rfl
theorem cellsU64 : Try.prog.cellsOf 22 = 1 := by kernel_rfl
theorem cellsU32 : Try.prog.cellsOf 23 = 1 := by kernel_rfl
theorem cellsU8 : Try.prog.cellsOf 5 = 1 := by kernel_rfl
theorem cellsInt : Try.prog.cellsOf 3 = 1 := by kernel_rfl
set_option maxRecDepth 100000 in
theorem rootRd {w : World} {cs : List Value} (h : Rd Try.prog w 25 cs) : ∃ r : RootD, cs = r.cells ∧ r.Fits := by
  obtain ⟨hl, hf⟩ := h.struct rootFields
  rw [cellsRoot] at hl
  match cs, hl with
  | [x, y, z], _ =>
    have h0 := hf 0 0 22 rfl
    have h1 := hf 1 1 3 rfl
    have h2 := hf 2 2 23 rfl
    rw [cellsU64] at h0
    rw [cellsInt] at h1
    rw [cellsU32] at h2
    obtain ⟨n, e0, w0⟩ := h0.int Try.underlying22
    obtain ⟨l, e1, w1⟩ := h1.int Try.underlying3
    obtain ⟨s, e2, w2⟩ := h2.int Try.underlying23
    have b0 := u64_bd w0
    have b2 := u32_bd w2
    simp at e0 e1 e2
    refine ⟨⟨n.toNat, l, s.toNat⟩, ?_, ⟨by show n.toNat < _; omega, by show s.toNat < _; omega⟩⟩
    rw [e0, e1, e2]
    show _ = [Value.int .u64 (n.toNat : Int), .int .i64 l, .int .u32 (s.toNat : Int)]
    rw [Int.toNat_of_nonneg b0.1, Int.toNat_of_nonneg b2.1]

theorem own : ownKnob Try.prog.godebug = none := by kernel_rfl
theorem laidOut : laidOutB Try.prog = true := by kernel_rfl
theorem readable : (Try.f3.params.toList.all fun t => Try.prog.readableRec t && decide (t < Try.prog.types.size)) = true := by kernel_rfl

set_option maxHeartbeats 800000 in
set_option maxRecDepth 100000 in
theorem lifted (os : Os) (started : os.Started) (H : Type) (enc : TypeId × Value → H) :
    ReturnsInHanded {} Try.checked os 3 .any (Rows.rootFormsSpec.pre6 enc Try.prog Try.f3 Rows.rootFormsRow.domain false) (Rows.rootFormsSpec.post enc Try.prog Try.f3 false true false false) := by
  refine returnsInHanded_of_change (C := Try.checked) own started (by kernel_rfl) Try.func3
    (ChangeSpec.witness6 (enc := enc) (C := Try.checked) false ⟨#[], #[.agg #[.int .u64 0, .int .i64 0, .int .u32 0], .slice none 0 0, .int .u64 0], []⟩ 8 (by kernel_rfl) (by kernel_rfl) (by kernel_rfl) (by kernel_rfl)) ?_
  intro W base args ds gs before hval0 hW _ _
  have hval : ∀ (j : Nat) t v, Try.f3.params[j]? = some t → args[j]? = some v → Value.okWide Try.prog W .any base t v := hval0
  have hW' := hW
  obtain ⟨p, q, hA0, hV, rfl, _, _⟩ := hW
  have hA : DataW.TrodAll enc Try.prog W 0 (fun _ => true) true Try.f3.params.toList args.toList ds p := hA0
  have hlt : ∀ x ∈ p, x.block < W.heap.size := fun x hx => by simpa using hW'.lt x (by simpa using List.mem_append.2 (.inl hx))
  have hall := fun W' (hb : Below W.heap.size W W') => again_all laidOut hb readable hA hlt
  obtain ⟨rfl, rfl⟩ := trodVars_none hV
  rw [Try.params3] at hval
  have hA' := hA
  rw [Try.params3] at hA'
  obtain ⟨v0, vs0, d0, ds0, p0, q0, e0, rfl, rfl, h0, r0⟩ := trodAll_cons hA'
  obtain ⟨v1, vs1, d1, ds1, p1, q1, e1, rfl, rfl, h1, r1⟩ := trodAll_cons r0
  obtain ⟨v2, vs2, d2, ds2, p2, q2, e2, rfl, rfl, h2, r2⟩ := trodAll_cons r1
  obtain ⟨en, rfl, rfl⟩ := trodAll_nil r2
  obtain rfl : args = #[v0, v1, v2] := by
    apply Array.ext'
    rw [e0]
    try rw [e1]
    try rw [e2]
    rw [en]
  clear hA' e0 e1 e2 en
  obtain ⟨a0, rfl⟩ := arg_struct rootFields (hval 0 25 v0 rfl rfl)
  obtain ⟨a1, n1, c1, rfl⟩ := arg_slice Try.underlying26 (hval 1 26 v1 rfl rfl)
  obtain ⟨a2, rfl, w2⟩ := arg_int Try.underlying22 (hval 2 22 v2 rfl rfl) h2
  simp only [List.append_nil] at hW'
  obtain ⟨r, hr, hfr⟩ := rootRd (Rd.of h0)
  obtain rfl : a0 = r.cells.toArray := Array.ext' hr
  obtain ⟨b, hb⟩ := bytes_open Try.underlying26 Try.underlying5 cellsU8 (Rd.of h1)
  obtain ⟨q, rfl⟩ : ∃ q : Nat, a2 = (q : Int) := ⟨a2.toNat, by have := u64_bd w2; omega⟩
  have hwalk := forms_walk r hfr a1 n1 c1 b q (by have := u64_bd w2; omega) W hb
  refine hwalk.mono fun e W' ⟨he, hf⟩ => ?_
  subst he
  have hbel : Below W.heap.size W W' := hf.below
  refine ⟨_, rfl, _, _, _, [], _, [], hW', ?_, hall W' hbel, rfl, hbel.frame _, fun h => by cases h⟩
  exact trodAll_mk1 (shut_bool Try.underlying4 _)

theorem said : Rows.RootFormsSaid :=
  OpenClaim.holds_of_wide 3 Try.f3 rfl rfl rfl rfl rfl rfl rfl ⟨rfl, rfl, rfl, rfl, rfl⟩ rfl rfl rfl rfl rfl (by kernel_rfl) Try.func3 (by kernel_rfl)
    (of_decide_eq_true (by kernel_rfl)) (by unfold Func.isWrapper; first | (rw [if_pos (by decide +kernel)]; kernel_rfl) | (rw [if_neg (by decide +kernel)]; exact ⟨rfl, rfl⟩))
    (fun os started H enc _ => lifted os started H enc)

#print axioms said
end Go.Proofs.Ytnkjhicokcmmpaa.RRootForms
