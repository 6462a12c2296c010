/-
  PoolOrder returns true, whatever is handed to it, and what it read reads as it did.
-/
import Derived.Test.YthjejgepdbonpaaXd
import Derived.ProofKit
import Derived.OpenShut
import Derived.Deep.SlicePairs
import Derived.Carry
namespace Go.Proofs.Ythjejgepdbonpaa
open Go.ChangeShapes Go.WideShapes Go.ChangeAt Go.RowKit

theorem own : ownKnob Try.prog.godebug = none := by kernel_rfl
theorem laidOut : laidOutB Try.prog = true := by kernel_rfl
noncomputable def isI64 : Option TypeDesc → Bool | some (.int .i64) => true | _ => false
theorem isI64_eq {o : Option TypeDesc} (h : isI64 o = true) : o = some (.int .i64) := by
  unfold isI64 at h
  split at h
  · rfl
  · cases h
noncomputable def keyOk : Option TypeDesc → Bool
  | some (.struct l) => (match l.toList with | [f0, f1] => f0.offset == 0 && f1.offset == 1 && Try.prog.cellsOf f0.type == 1 && Try.prog.cellsOf f1.type == 1 && isI64 (Try.prog.underlying f0.type) && isI64 (Try.prog.underlying f1.type) | _ => false)
  | _ => false
theorem keyOk_eq : keyOk (Try.prog.underlying 31) = true := by kernel_rfl
theorem underKey : ∃ f0 f1 : Field, Try.prog.underlying 31 = some (.struct #[f0, f1]) ∧ f0.offset = 0 ∧ f1.offset = 1 ∧ Try.prog.cellsOf f0.type = 1 ∧ Try.prog.cellsOf f1.type = 1 ∧ Try.prog.underlying f0.type = some (.int .i64) ∧ Try.prog.underlying f1.type = some (.int .i64) := by
  have h := keyOk_eq
  generalize Try.prog.underlying 31 = o at h ⊢
  unfold keyOk at h
  split at h
  · rename_i l
    split at h
    · rename_i f0 f1 hl
      simp only [Bool.and_eq_true, beq_iff_eq] at h
      obtain ⟨⟨⟨⟨⟨h1, h2⟩, h3⟩, h4⟩, h5⟩, h6⟩ := h
      refine ⟨f0, f1, ?_, h1, h2, h3, h4, isI64_eq h5, isI64_eq h6⟩
      congr 2
      apply Array.ext'
      rw [hl]
    · cases h
  · cases h
theorem cellsKey : Try.prog.cellsOf 31 = 2 := by kernel_rfl

/-- A slice of keys, opened. -/
theorem keys_open {H : Type} {enc : TypeId × Value → H} {W : World} {a0 : Option Addr} {len cap : Nat} {d0 : DataW H} {p : List MemPlace}
    (h0 : DataW.Trod enc Try.prog W 0 (fun _ => true) true 22 (.slice a0 len cap) d0 p) :
    ∃ Z : Nat → Int × Int, len ≤ maxLen ∧ KeysIn W (.slice a0 len cap) len Z := by
  obtain ⟨fuel, hf⟩ := h0
  obtain ⟨f0, f1, he, o0, o1, c0, c1, u0, u1⟩ := underKey
  rcases Go.Deep.open_slice_pairs Try.underlying22 he cellsKey o0 o1 c0 c1 hf with ⟨hcs, _⟩ | ⟨a, len', cap', m, n, V0, V1, D0, D1, P0, P1, hcs, _, hl, hmx, hm, _, hc⟩
  · simp [Value.cells] at hcs
    obtain ⟨rfl, rfl, rfl⟩ := hcs
    exact ⟨fun _ => (0, 0), Nat.zero_le _, .inl ⟨rfl, rfl⟩⟩
  · simp [Value.cells] at hcs
    obtain ⟨rfl, rfl, rfl⟩ := hcs
    simp only [if_true] at hm
    subst hm
    have hint : ∀ i, i < len → ∃ x y : Int, V0 i = .int .i64 x ∧ V1 i = .int .i64 y := by
      intro i hi
      obtain ⟨_, _, h0, h1⟩ := hc i (by omega)
      obtain ⟨x, hx, _⟩ := DataW.trod_int u0 h0
      obtain ⟨y, hy, _⟩ := DataW.trod_int u1 h1
      exact ⟨x, y, by simpa using hx, by simpa using hy⟩
    refine ⟨fun i => ((match V0 i with | .int _ x => x | _ => 0), (match V1 i with | .int _ y => y | _ => 0)), by omega, .inr ⟨a, _, rfl, fun i hi => ?_⟩⟩
    obtain ⟨h0, h1, _, _⟩ := hc i (by omega)
    obtain ⟨x, y, hx, hy⟩ := hint i hi
    rw [hx] at h0
    rw [hy] at h1
    simp only [hx, hy]
    exact ⟨h0, h1⟩

set_option maxHeartbeats 800000 in
set_option maxRecDepth 100000 in
theorem order_lifted (os : Os) (started : os.Started) (H : Type) (enc : TypeId × Value → H) :
    ReturnsInHanded {} Try.checked os 3 .any (Rows.poolOrderSpec.pre6 enc Try.prog Try.f3 Rows.poolOrderRow.domain false) (Rows.poolOrderSpec.post enc Try.prog Try.f3 false true false false) := by
  refine returnsInHanded_of_change (C := Try.checked) own started (by kernel_rfl) Try.func3
    (ChangeSpec.witness6 (enc := enc) (C := Try.checked) false ⟨#[], #[.int .u8 0, .slice none 0 0], []⟩ 8 (by kernel_rfl) (by kernel_rfl) (by kernel_rfl) (by kernel_rfl)) ?_
  intro W base args ds gs before hval0 hW _ _
  have hval : ∀ (j : Nat) t v, Try.f3.params[j]? = some t → args[j]? = some v → Value.okWide Try.prog W .any base t v := hval0
  have hW' := hW
  obtain ⟨p, q, hA0, hV, rfl, _, _⟩ := hW
  have hA : DataW.TrodAll enc Try.prog W 0 (fun _ => true) true Try.f3.params.toList args.toList ds p := hA0
  rw [Try.params3] at hA hval
  obtain ⟨v0, v1, d0, d1, p0, p1, rfl, rfl, rfl, h0, h1⟩ := trodAll_two hA
  obtain ⟨rfl, rfl⟩ := trodVars_none hV
  obtain ⟨a0, rfl, rfl, rfl, w0⟩ := open_int Try.underlying5 (hval 0 5 v0 rfl rfl) h0
  obtain ⟨a1, len1, cap1, rfl⟩ := okWide_slice Try.underlying22 (hval 1 22 v1 rfl rfl)
  clear hA0 hval0
  simp only [List.append_nil] at hW'
  have hlt : ∀ x ∈ p1, x.block < W.heap.size := fun x hx => by simpa using hW'.lt x (by simpa using hx)
  obtain ⟨Z, hz, hk⟩ := keys_open h1
  have hb : 0 ≤ a0 ∧ a0 < 256 := by
    simp [Lit.wf, IntKind.min, IntKind.max, IntKind.signed, IntKind.bits] at w0
    omega
  refine (order_walk a0 hb.1 hb.2 _ len1 hz Z W hk).mono fun e W' ⟨he, hf⟩ => ?_
  subst he
  have hbel : Below W.heap.size W W' := hf.below
  have harg1 : DataW.Trod enc Try.prog W' 0 (fun b => decide (b < W.heap.size)) true 22 (.slice a1 len1 cap1) d1 p1 :=
    Below.trod laidOut (by kernel_rfl) (of_decide_eq_true (by kernel_rfl)) h1 hbel hlt
  refine ⟨_, rfl, _, _, _, [], _, [], hW', ?_, trodAll_mk2 (shut_int Try.underlying5 w0) harg1, rfl, hbel.frame _, fun h => by cases h⟩
  exact trodAll_mk1 (shut_bool Try.underlying4 _)

theorem order_said : Rows.PoolOrderSaid :=
  OpenClaim.holds_of_wide 3 Try.f3 rfl rfl rfl rfl rfl rfl rfl ⟨rfl, rfl, rfl, rfl, rfl⟩ rfl rfl rfl rfl rfl (by kernel_rfl) Try.func3 (by kernel_rfl)
    (of_decide_eq_true (by kernel_rfl)) (by unfold Func.isWrapper; first | (rw [if_pos (by decide +kernel)]; kernel_rfl) | (rw [if_neg (by decide +kernel)]; exact ⟨rfl, rfl⟩))
    (fun os started H enc _ => order_lifted os started H enc)

#print axioms order_said
end Go.Proofs.Ythjejgepdbonpaa
