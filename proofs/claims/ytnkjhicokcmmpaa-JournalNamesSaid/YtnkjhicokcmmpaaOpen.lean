/-
  What is handed in, opened: a type's reading as a predicate; a slice, a struct taken apart. No program in sight.
-/
import Derived.Test.YtnkjhicokcmmpaaHeap
import Derived.Test.YtnkjhicokcmmpaaBytes
import Derived.Deep.SlicePairs
import Derived.ProofKit
import Derived.OpenShut
import Derived.Carry
import Derived.Lib.SmallJoins
namespace Go.Proofs.Ytnkjhicokcmmpaa
open Go.RowKit

/-- These cells read by that type. -/
def Rd (P : Program) (w : World) (t : TypeId) (cs : List Value) : Prop :=
  ∃ (H : Type) (enc : TypeId × Value → H) (fuel : Nat) (x : DataW H × List MemPlace), DataW.trod enc P w 0 (fun _ => true) true fuel t cs = some x

section
variable {P : Program} {w : World} {t : TypeId} {cs : List Value}
theorem Rd.of {H : Type} {enc : TypeId × Value → H} {v : Value} {d : DataW H} {p : List MemPlace} (h : DataW.Trod enc P w 0 (fun _ => true) true t v d p) : Rd P w t v.cells.toList := by
  obtain ⟨fuel, hf⟩ := h
  exact ⟨H, enc, fuel, _, hf⟩
theorem Rd.int {k : IntKind} (ht : P.underlying t = some (.int k)) (h : Rd P w t cs) : ∃ n, cs = [.int k n] ∧ (Lit.int k n).wf = true := by
  obtain ⟨H, enc, fuel, x, hf⟩ := h
  obtain ⟨n, h1, _, h2⟩ := DataW.trod_int ht hf
  exact ⟨n, h1, h2⟩
theorem Rd.bool (ht : P.underlying t = some .bool) (h : Rd P w t cs) : ∃ b, cs = [.bool b] := by
  obtain ⟨H, enc, fuel, x, hf⟩ := h
  obtain ⟨n, h1, _⟩ := DataW.trod_bool ht hf
  exact ⟨n, h1⟩
/-- An element of a slice: its cells, and that they read. -/
structure ElemAt (P : Program) (w : World) (e : TypeId) (size : Nat) (ad : Addr) (i : Nat) (cs : List Value) : Prop where
  len : cs.length = size
  rd : Rd P w e cs
  cell : ∀ (j : Nat) (u : Value), cs[j]? = some u → w.cell? ((ad.add (i * size)).add j) = some u
theorem Rd.slice {e : TypeId} {size : Nat} (ht : P.underlying t = some (.slice e)) (hs : P.cellsOf e = size) (h : Rd P w t cs) :
    ∃ a len cap, cs = [.slice a len cap] ∧ len ≤ cap ∧ cap ≤ maxLen ∧ (a = none → len = 0 ∧ cap = 0) ∧ ∀ ad, a = some ad → ∀ i, i < len → ∃ cs', ElemAt P w e size ad i cs' := by
  subst hs
  obtain ⟨H, enc, fuel, x, hf⟩ := h
  rcases Go.Deep.open_slice ht hf with ⟨h1, _⟩ | ⟨a, len, cap, m, n, D, Pl, h1, _, h2, h3, h4, _, h5⟩
  · exact ⟨none, 0, 0, h1, Nat.le_refl _, Nat.zero_le _, fun _ => ⟨rfl, rfl⟩, fun ad hd => (nomatch hd)⟩
  · refine ⟨some a, len, cap, h1, h2, h3, fun hd => (nomatch hd), ?_⟩
    rintro ad hd i hi
    cases hd
    obtain ⟨cs', h6, h7⟩ := h5 i (by simp only [if_true] at h4; omega)
    obtain ⟨_, h8, h9⟩ := World.cells?_some h6
    refine ⟨cs', h8, ⟨H, enc, n, _, h7⟩, fun j u hu => ?_⟩
    rw [h9 j (by have := (List.getElem?_eq_some_iff.1 hu).1; omega), hu]

/-- The fields of a struct: where each begins, and its type. -/
def fieldsOk (P : Program) (t : TypeId) (l : List (Nat × TypeId)) : Bool :=
  match P.underlying t with
  | some (.struct fs) => fs.toList.map (fun f => (f.offset, f.type)) == l
  | _ => false
theorem Rd.struct {l : List (Nat × TypeId)} (hok : fieldsOk P t l = true) (h : Rd P w t cs) : cs.length = P.cellsOf t ∧ ∀ (j o : Nat) (ft : TypeId), l[j]? = some (o, ft) → Rd P w ft ((cs.drop o).take (P.cellsOf ft)) := by
  unfold fieldsOk at hok
  split at hok
  · rename_i fs ht
    obtain ⟨H, enc, fuel, x, hf⟩ := h
    obtain ⟨xs, n, _, _, h1, h2, h3⟩ := DataW.trod_struct ht hf
    refine ⟨h1, fun j o ft hj => ?_⟩
    rw [beq_iff_eq] at hok
    rw [← hok, List.getElem?_map] at hj
    cases hfj : fs.toList[j]? with
    | none => rw [hfj] at hj; cases hj
    | some f =>
      rw [hfj] at hj
      simp only [Option.map_some, Option.some.injEq, Prod.mk.injEq] at hj
      obtain ⟨rfl, rfl⟩ := hj
      have hfj' : fs[j]? = some f := by simpa using hfj
      have h4 := h3 j f hfj'
      have hlt : j < xs.length := by rw [h2]; exact (Array.getElem?_eq_some_iff.1 hfj').1
      rw [List.getElem?_eq_getElem hlt] at h4
      exact ⟨H, enc, n, _, h4⟩
  · cases hok
end

theorem int64_of {cs : List Value} {P : Program} {w : World} {t : TypeId} (ht : P.underlying t = some (.int .i64)) (h : Rd P w t cs) {v : Value} (e : cs = [v]) : ∃ n : Int, v = .int .i64 n := by
  obtain ⟨n, h1, _⟩ := h.int ht
  rw [e] at h1
  cases h1
  exact ⟨n, rfl⟩

theorem u64_bd {n : Int} (h : (Lit.int .u64 n).wf = true) : 0 ≤ n ∧ n < 2 ^ 64 := by
  simp [Lit.wf, IntKind.min, IntKind.max, IntKind.signed, IntKind.bits] at h
  omega
theorem u32_bd {n : Int} (h : (Lit.int .u32 n).wf = true) : 0 ≤ n ∧ n < 2 ^ 32 := by
  simp [Lit.wf, IntKind.min, IntKind.max, IntKind.signed, IntKind.bits] at h
  omega
theorem u8_bd {n : Int} (h : (Lit.int .u8 n).wf = true) : 0 ≤ n ∧ n < 256 := by
  simp [Lit.wf, IntKind.min, IntKind.max, IntKind.signed, IntKind.bits] at h
  omega

/-- Bytes that are handed in. -/
theorem bytes_open {P : Program} {w : World} {t e : TypeId} (ht : P.underlying t = some (.slice e)) (he : P.underlying e = some (.int .u8)) (hc : P.cellsOf e = 1) {a : Option Addr} {n c : Nat} (h : Rd P w t [.slice a n c]) : ∃ bs : List UInt8, Win w a n c (bs.map byt) := by
  obtain ⟨a', n', c', e1, h1, h2, h3, h4⟩ := h.slice ht hc
  injection e1 with e1 _
  injection e1 with e1 e2 e3
  subst e1
  subst e2
  subst e3
  cases a with
  | none =>
    obtain ⟨rfl, rfl⟩ := h3 rfl
    exact ⟨[], Win.nilw w⟩
  | some ad =>
    have each : ∀ i, i < n → ∃ x : UInt8, w.cell? (ad.add i) = some (byt x) := by
      intro i hi
      obtain ⟨cs, he'⟩ := h4 ad rfl i hi
      obtain ⟨m, rfl, hw⟩ := he'.rd.int he
      have hb := u8_bd hw
      refine ⟨UInt8.ofNat m.toNat, ?_⟩
      have hcell := he'.cell 0 _ rfl
      rw [Nat.mul_one, add_zero] at hcell
      rw [hcell]
      unfold byt
      congr 2
      simp
      omega
    obtain ⟨f, hf⟩ := Go.Deep.choose_lt each
    refine ⟨(List.range n).map f, by simp, h1, h2, fun hd => (nomatch hd), fun ad' hd j u hu => ?_⟩
    cases hd
    simp only [List.map_map, List.getElem?_map] at hu
    cases hr : (List.range n)[j]? with
    | none => rw [hr] at hu; cases hu
    | some i =>
      rw [hr] at hu
      obtain ⟨hj, rfl⟩ := List.getElem?_eq_some_iff.1 hr
      simp only [List.length_range] at hj
      simp only [List.getElem_range] at hu
      cases hu
      exact hf j hj

/-! Arguments by their types. -/
section
open Go.ChangeShapes Go.WideShapes Go.ChangeAt
variable {P : Program} {w : World} {t : TypeId} {r : Reach} {b0 : Nat} {v : Value}
theorem arg_struct {l : List (Nat × TypeId)} (hok : fieldsOk P t l = true) (hv : Value.okWide P w r b0 t v) : ∃ cs, v = .agg cs := by
  unfold fieldsOk at hok
  split at hok
  · rename_i fs ht
    obtain ⟨cs, h, _⟩ := okWide_struct ht hv
    exact ⟨cs, h⟩
  · cases hok
theorem arg_int {H : Type} {enc : TypeId × Value → H} {d : DataW H} {p : List MemPlace} {k : IntKind} (ht : P.underlying t = some (.int k)) (hv : Value.okWide P w r b0 t v) (h : DataW.Trod enc P w 0 (fun _ => true) true t v d p) : ∃ n, v = .int k n ∧ (Lit.int k n).wf = true := by
  obtain ⟨a, h1, _, _, h2⟩ := open_int ht hv h
  exact ⟨a, h1, h2⟩
theorem arg_bool {H : Type} {enc : TypeId × Value → H} {d : DataW H} {p : List MemPlace} (ht : P.underlying t = some .bool) (hv : Value.okWide P w r b0 t v) (h : DataW.Trod enc P w 0 (fun _ => true) true t v d p) : ∃ b, v = .bool b := by
  obtain ⟨a, h1, _⟩ := open_bool ht hv h
  exact ⟨a, h1⟩
theorem arg_slice {e : TypeId} (ht : P.underlying t = some (.slice e)) (hv : Value.okWide P w r b0 t v) : ∃ a n c, v = .slice a n c := okWide_slice ht hv
/-- What was read reads as it did. -/
theorem again_all {H : Type} {enc : TypeId × Value → H} (hl : laidOutB P = true) {W W' : World} (hb : Below W.heap.size W W') : ∀ {ts : List TypeId} {vs : List Value} {ds : List (DataW H)} {ps : List MemPlace}, (ts.all fun t => P.readableRec t && decide (t < P.types.size)) = true → DataW.TrodAll enc P W 0 (fun _ => true) true ts vs ds ps → (∀ x ∈ ps, x.block < W.heap.size) →
    DataW.TrodAll enc P W' 0 (fun b => decide (b < W.heap.size)) true ts vs ds ps := by
  intro ts
  induction ts with
  | nil =>
    intro vs ds ps _ h _
    obtain ⟨rfl, rfl, rfl⟩ := trodAll_nil h
    exact trodAll_mk0
  | cons t ts ih =>
    intro vs ds ps hr h hlt
    obtain ⟨v, vs', d, ds', p, q, rfl, rfl, rfl, h1, h2⟩ := trodAll_cons h
    simp only [List.all_cons, Bool.and_eq_true, decide_eq_true_eq] at hr
    exact trodAll_cons_mk (Below.trod hl hr.1.1 hr.1.2 h1 hb (fun x hx => hlt x (List.mem_append.2 (.inl hx)))) (ih (by simpa using hr.2) h2 (fun x hx => hlt x (List.mem_append.2 (.inr hx))))
end

end Go.Proofs.Ytnkjhicokcmmpaa
