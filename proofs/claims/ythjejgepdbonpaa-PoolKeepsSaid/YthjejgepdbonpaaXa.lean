/-
  Pinning and unpinning, whole, in the plain machine.
-/
import Derived.Test.YthjejgepdbonpaaWy
namespace Go.Proofs.Ythjejgepdbonpaa
open Go.RowKit Go.Shelf

/-- The machine pins a tile: the answer, and the state. -/
def AS.pin (A : AS) (p q : Int) : Int × AS :=
  match A.fs.findIdx? (AF.is p q) with
  | some i => (0, A.bump i 1)
  | none => if A.room.1 = 0 then ((if (A.ts.findIdx? (AT.is p q)).isSome then 0 else 50), A.room.2.load p q) else (101, A.room.2)
def AS.unpin (A : AS) (p q : Int) : Int × AS :=
  match A.pinned p q with
  | some i => (0, A.bump i (-1))
  | none => (100, A)
/-- Within the bounds. -/
structure AS.Ok (A : AS) : Prop where
  pins : ∀ x ∈ A.fs, -1000000 ≤ x.pins ∧ x.pins ≤ 1000000
  log : A.l.length ≤ 999900
theorem AS.Ok.of {s : St} (h : s.a.Ok) : ∀ x ∈ s.fs, -1000000 ≤ x.pins ∧ x.pins ≤ 1000000 := fun x hx => h.pins x.a (List.mem_map.2 ⟨x, hx, rfl⟩)

theorem room_cases (A : AS) : A.room.1 = 0 ∨ A.room.1 = 101 := by
  unfold AS.room
  split
  · exact .inl rfl
  · split
    · exact .inr rfl
    · exact .inl rfl

theorem pin_st (s : St) (p q : Int) (w : World) (h : PoolAt w s) (ho : s.a.Ok) :
    Calls Try.prog 10 #[.pointer (some ⟨s.pb, 0, none⟩), .agg #[.int .i64 p, .int .i64 q]] w (Did w s (s.a.pin p q).1 (s.a.pin p q).2) := by
  unfold AS.pin
  cases hf : s.a.fs.findIdx? (AF.is p q) with
  | some i => exact pin_hit s p q i w h hf ho.of
  | none =>
    dsimp only
    rcases room_cases s.a with hr | hr
    · rw [if_pos hr]
      cases hj : s.a.ts.findIdx? (AT.is p q) with
      | none => exact pin_miss s p q w h ho.log hf hr hj
      | some j => exact pin_load s p q w h ho.log hf hr j (first_of_a hj)
    · rw [if_neg (by rw [hr]; decide)]
      exact pin_full s p q w h (by have := ho.log; have e : s.a.l = s.l := rfl; rw [e] at this; omega) hf hr

theorem unpin_st (s : St) (p q : Int) (w : World) (h : PoolAt w s) (ho : s.a.Ok) :
    Calls Try.prog 12 #[.pointer (some ⟨s.pb, 0, none⟩), .agg #[.int .i64 p, .int .i64 q]] w (Did w s (s.a.unpin p q).1 (s.a.unpin p q).2) := by
  unfold AS.unpin
  cases hf : s.a.pinned p q with
  | some i => exact unpin_yes s p q i w h hf ho.of
  | none => exact unpin_no s p q w h hf

/-- The keys, the last one first. -/
def AS.keys (A : AS) : List (Int × Int) := (A.fs.map fun x => (x.f, x.n)).reverse
theorem keys_a (s : St) : keysOf s.fs (downTo s.fs.length s.fs.length) = s.a.keys := by
  have e1 : s.a.fs = s.fs.map Frm.a := rfl
  unfold AS.keys keysOf downTo
  rw [e1]
  apply List.ext_getElem
  · simp
  · intro i h1 h2
    have hi : i < s.fs.length := by simpa using h1
    simp only [List.getElem_map, List.getElem_range, List.getElem_reverse, List.length_map]
    rw [List.getElem?_eq_getElem (by omega)]
    rfl
theorem keys_len (s : St) : s.a.keys.length = s.fs.length := by simp [AS.keys, St.a]

/-- What Keys comes to. -/
theorem keys_do (s : St) (w : World) (h : PoolAt w s) :
    Calls Try.prog 13 #[.pointer (some ⟨s.pb, 0, none⟩)] w fun e w' => ∃ v, e = .returned v ∧ Own w' 31 2 v s.a.keys.length (keyCells s.a.keys) ∧ Fr No w w' ∧ (∀ k, v.ownBlock = some k → w.heap.size ≤ k) := by
  have := keys_st s w h
  rw [keys_a] at this
  rw [keys_len]
  exact this

/-- A block that is none of the pool's. -/
def Out (w : World) (s : St) (b : Nat) : Prop := b < w.heap.size ∧ ¬ Foot s b
theorem Out.evo {w w' : World} {s s' : St} {b : Nat} (h : Out w s b) (he : Evo w s w' s') : Out w' s' b :=
  ⟨Nat.lt_of_lt_of_le h.1 he.fr.size, fun hf => (he.ft b hf).elim h.2 (fun q => by have := h.1; omega)⟩
theorem Out.no {w w' : World} {s : St} {b : Nat} (h : Out w s b) (hf : Fr No w w') : Out w' s b := ⟨Nat.lt_of_lt_of_le h.1 hf.size, h.2⟩
theorem Out.new {w : World} {s : St} {b : Nat} (h : PoolAt w s) {w' : World} (hb : w.heap.size ≤ b) (hb' : b < w'.heap.size) : Out w' s b := ⟨hb', fun hf => by have := h.footLt hf; omega⟩
theorem Blk.out {w w' : World} {s s' : St} {b : Nat} {T : TypeId} {l : List Value} (hB : Blk w b T l) (h : Out w s b) (he : Evo w s w' s') : Blk w' b T l := hB.fr he.fr h.2

end Go.Proofs.Ythjejgepdbonpaa
