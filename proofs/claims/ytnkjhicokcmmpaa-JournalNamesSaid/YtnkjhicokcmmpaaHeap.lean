/-
  Plain lemmas on the model's memory: a block known whole ('Blk'), what a step may have changed ('Fr'). No program in sight.
-/
import Derived.Test.YtnkjhicokcmmpaaRows
import Derived.WalkKit
import Derived.WalkSpells
import Derived.WalkLawsBesides
namespace Go.Proofs.Ytnkjhicokcmmpaa
open Go.RowKit

/-- Block b holds just these cells, of element type T; none is frozen. -/
def Blk (w : World) (b : Nat) (T : TypeId) (l : List Value) : Prop := w.heap[b]? = some (.cells l.toArray T (0, 0))

/-- Of what was there only the blocks in S may have changed. -/
structure Fr (S : Nat → Prop) (w w' : World) : Prop where
  os : w'.os = w.os
  tape : w'.tape = w.tape
  output : w'.output = w.output
  size : w.heap.size ≤ w'.heap.size
  block : ∀ k, k < w.heap.size → ¬ S k → w'.heap[k]? = w.heap[k]?

def No : Nat → Prop := fun _ => False
theorem No.no (k : Nat) : ¬ No k := fun h => h

theorem Fr.refl (S : Nat → Prop) (w : World) : Fr S w w := ⟨rfl, rfl, rfl, Nat.le_refl _, fun _ _ _ => rfl⟩
theorem Fr.trans {S S' : Nat → Prop} {a b c : World} (h : Fr S a b) (k : Fr S' b c) (hs : ∀ x, S' x → S x ∨ a.heap.size ≤ x) : Fr S a c :=
  ⟨k.os.trans h.os, k.tape.trans h.tape, k.output.trans h.output, Nat.le_trans h.size k.size, fun i hi hn =>
    (k.block i (Nat.lt_of_lt_of_le hi h.size) (fun hx => (hs i hx).elim hn (fun q => by omega))).trans (h.block i hi hn)⟩
theorem Fr.mono {S S' : Nat → Prop} {a b : World} (h : Fr S a b) (hs : ∀ x, S x → S' x) : Fr S' a b :=
  ⟨h.os, h.tape, h.output, h.size, fun i hi hn => h.block i hi (fun hx => hn (hs i hx))⟩
theorem Fr.alloc {S : Nat → Prop} {a w : World} (h : Fr S a w) (o : Obj) : Fr S a (w.alloc o) :=
  h.trans (S' := S) ⟨rfl, rfl, rfl, by simp, fun k hk _ => Below.heap_alloc _ _ _ hk⟩ (fun _ hx => .inl hx)
theorem Fr.drew {S : Nat → Prop} {a w : World} (h : Fr S a w) : Fr S a w.drew := ⟨h.os, h.tape, h.output, h.size, h.block⟩
theorem Fr.drewN {S : Nat → Prop} {a w : World} (h : Fr S a w) (n : Nat) : Fr S a (w.drewN n) := ⟨h.os, h.tape, h.output, h.size, h.block⟩
theorem Fr.setCell {S : Nat → Prop} {a w : World} (h : Fr S a w) {p : Addr} (hp : S p.block ∨ a.heap.size ≤ p.block) (u : Value) : Fr S a (w.setCell p u) :=
  h.trans (S' := fun k => k = p.block) ⟨rfl, rfl, rfl, by simp [World.setCell], fun k _ hn => Below.heap_setCell _ _ _ _ hn⟩ (fun _ hx => by subst hx; exact hp)
theorem Fr.grown {S : Nat → Prop} {a w w' : World} {row : Option Nat} (h : Fr S a w) (hg : w.grownBy w' row) (hr : ∀ k, row = some k → S k ∨ a.heap.size ≤ k) : Fr S a w' :=
  h.trans (S' := fun k => row = some k) ⟨hg.os, hg.tape, hg.output, hg.size, fun k hk hn => hg.block k hk (fun e => hn e.symm)⟩ (fun _ hx => hr _ hx)
theorem Fr.setRow {S : Nat → Prop} {a w : World} (h : Fr S a w) {g : Nat} (hp : S g ∨ a.heap.size ≤ g) (l : Array Value) : Fr S a (w.setRow g l) :=
  h.trans (S' := fun k => k = g) ⟨rfl, rfl, rfl, by simp [World.setRow], fun k _ hn => setRow_other w g k _ hn⟩ (fun _ hx => by subst hx; exact hp)
theorem Fr.heap {S : Nat → Prop} {w w' : World} (h : Fr S w w') {k : Nat} (hk : k < w.heap.size) (hn : ¬ S k) : w'.heap[k]? = w.heap[k]? := h.block k hk hn
theorem Fr.cell {S : Nat → Prop} {w w' : World} (h : Fr S w w') {p : Addr} (hk : p.block < w.heap.size) (hn : ¬ S p.block) : w'.cell? p = w.cell? p := World.cell?_of_block (w := w) (h.block _ hk hn)
theorem Fr.frozen {S : Nat → Prop} {w w' : World} (h : Fr S w w') {p : Addr} (hk : p.block < w.heap.size) (hn : ¬ S p.block) : w'.frozen? p = w.frozen? p := World.frozen?_of_block (w := w) (h.block _ hk hn)
/-- Nothing that was there has changed: the kit's word. -/
theorem Fr.below {w w' : World} (h : Fr No w w') : Below w.heap.size w w' := ⟨h.os, h.tape, h.output, h.size, fun k hk => h.block k hk (No.no k)⟩
theorem Fr.of_below {w w' : World} (h : Below w.heap.size w w') : Fr No w w' := ⟨h.os, h.tape, h.output, h.size, fun k hk _ => h.block k hk⟩
theorem Fr.grownBy {w w' : World} (h : Fr No w w') (row : Option Nat) : w.grownBy w' row := ⟨h.os, h.tape, h.output, h.size, fun k hk _ => h.block k hk (No.no k)⟩

section
variable {w w' : World} {b : Nat} {T : TypeId} {l : List Value}
theorem Blk.lt (h : Blk w b T l) : b < w.heap.size := (Array.getElem?_eq_some_iff.1 h).1
theorem Blk.cell (h : Blk w b T l) {j : Nat} {v : Value} (hj : l[j]? = some v) : w.cell? ⟨b, j, none⟩ = some v := by
  have := cell_of_row w b j l.toArray T (0, 0) h
  rw [this]; simpa using hj
theorem Blk.free (h : Blk w b T l) (j : Nat) : w.frozen? ⟨b, j, none⟩ = false := by
  have h' : w.heap[b]? = some (.cells l.toArray T (0, 0)) := h
  simp [World.frozen?, h']
theorem Blk.inj {T' : TypeId} {l' : List Value} (h : Blk w b T l) (h' : Blk w b T' l') : T = T' ∧ l = l' := by
  have e := h.symm.trans h'
  simp at e
  exact ⟨e.2, e.1⟩
theorem Blk.alloc (h : Blk w b T l) (o : Obj) : Blk (w.alloc o) b T l := (Below.heap_alloc w o b h.lt).trans h
theorem Blk.drew (h : Blk w b T l) : Blk w.drew b T l := h
theorem Blk.drewN (h : Blk w b T l) (n : Nat) : Blk (w.drewN n) b T l := h
theorem Blk.new (w : World) (T : TypeId) (l : List Value) : Blk (w.alloc (.cells l.toArray T)) w.heap.size T l := heap_alloc_new w _
theorem Blk.fr {S : Nat → Prop} (h : Blk w b T l) (hf : Fr S w w') (hn : ¬ S b) : Blk w' b T l := (hf.block b h.lt hn).trans h
theorem Blk.other (h : Blk w b T l) {a : Addr} (hn : b ≠ a.block) (v : Value) : Blk (w.setCell a v) b T l := (Below.heap_setCell w a v b hn).trans h
theorem Blk.set (h : Blk w b T l) (j : Nat) (v : Value) : Blk (w.setCell ⟨b, j, none⟩ v) b T (l.set j v) := by
  have h' : w.heap[b]? = some (.cells l.toArray T (0, 0)) := h
  have hb := h.lt
  unfold Blk
  simp only [World.setCell, Array.getElem?_modify]
  rw [h']
  simp
theorem Blk.setRow (h : Blk w b T l) (l' : List Value) : Blk (w.setRow b l'.toArray) b T l' := setRow_heap w b l.toArray l'.toArray T (0, 0) h
theorem Blk.otherRow (h : Blk w b T l) {g : Nat} (hn : b ≠ g) (l' : Array Value) : Blk (w.setRow g l') b T l := (setRow_other w g b l' hn).trans h
end

/-- A slice value of n elements (type T, 'size' cells each) that begins at the head of a block, or nil: its cells are xs. -/
abbrev Own (w : World) (T : TypeId) (size : Nat) (v : Value) (n : Nat) (xs : List Value) : Prop := w.ownsRow 0 T size v n xs

theorem Own.blk {w : World} {T : TypeId} {size : Nat} {g n cap : Nat} {xs : List Value} (h : Own w T size (.slice (some ⟨g, 0, none⟩) n cap) n xs) :
    ∃ sp, Blk w g T (xs ++ sp) ∧ xs.length = n * size ∧ (xs ++ sp).length = cap * size ∧ n ≤ cap ∧ cap ≤ maxLen := by
  obtain ⟨h1, h2⟩ := h
  rcases h2 with ⟨h2, _⟩ | ⟨g', cap', cur, hv, _, hh, hn, hc, hs, ht⟩
  · cases h2
  · cases hv
    refine ⟨cur.toList.drop (n * size), ?_, h1, ?_, hn, hc⟩
    · unfold Blk
      rw [← ht, List.take_append_drop, Array.toArray_toList]
      exact hh
    · rw [← ht, List.take_append_drop]
      simpa using hs

theorem Own.of_blk {w : World} {T : TypeId} {size : Nat} {g n cap : Nat} {xs sp : List Value} (h : Blk w g T (xs ++ sp)) (h1 : xs.length = n * size) (h2 : (xs ++ sp).length = cap * size) (h3 : n ≤ cap) (h4 : cap ≤ maxLen) :
    Own w T size (.slice (some ⟨g, 0, none⟩) n cap) n xs := by
  refine ⟨h1, .inr ⟨g, cap, (xs ++ sp).toArray, rfl, Nat.zero_le _, h, h3, h4, by simpa using h2, ?_⟩⟩
  simp [← h1]

theorem Own.nil_inv {w : World} {T : TypeId} {size n : Nat} {xs : List Value} (h : Own w T size (.slice none 0 0) n xs) : n = 0 ∧ xs = [] := by
  obtain ⟨h1, h2⟩ := h
  rcases h2 with ⟨_, h2⟩ | ⟨g', cap', cur, hv, _⟩
  · subst h2; exact ⟨rfl, List.eq_nil_of_length_eq_zero (by simpa using h1)⟩
  · cases hv

theorem Own.cases {w : World} {T : TypeId} {size n : Nat} {v : Value} {xs : List Value} (h : Own w T size v n xs) :
    (v = .slice none 0 0 ∧ n = 0 ∧ xs = []) ∨ ∃ g cap, v = .slice (some ⟨g, 0, none⟩) n cap := by
  rcases h.2 with ⟨h2, h3⟩ | ⟨g', cap', cur, hv, _⟩
  · subst h2; exact .inl ⟨rfl, h.nil_inv⟩
  · exact .inr ⟨g', cap', hv⟩

theorem Own.fr {S : Nat → Prop} {w w' : World} {T : TypeId} {size n : Nat} {v : Value} {xs : List Value} (h : Own w T size v n xs) (hf : Fr S w w') (hn : ∀ k, v.ownBlock = some k → ¬ S k) : Own w' T size v n xs := by
  refine ⟨h.1, ?_⟩
  rcases h.2 with h2 | ⟨g, cap, cur, hv, hb, hg, r⟩
  · exact .inl h2
  · refine .inr ⟨g, cap, cur, hv, hb, ?_, r⟩
    rw [hf.block g (Array.getElem?_eq_some_iff.1 hg).1 (hn g (by rw [hv]; rfl))]
    exact hg

theorem Fr.thn {S : Nat → Prop} {a b c : World} (h : Fr S a b) (k : Fr No b c) : Fr S a c := h.trans k (fun _ hx => hx.elim)
theorem Fr.no_any {S : Nat → Prop} {a b : World} (h : Fr No a b) : Fr S a b := h.mono (fun _ hx => hx.elim)
theorem Own.weak {w : World} {B : Nat} {T : TypeId} {size n : Nat} {v : Value} {xs : List Value} (h : w.ownsRow B T size v n xs) : Own w T size v n xs := by
  refine ⟨h.1, ?_⟩
  rcases h.2 with h2 | ⟨g, cap, cur, hv, _, r⟩
  · exact .inl h2
  · exact .inr ⟨g, cap, cur, hv, Nat.zero_le _, r⟩
theorem Own.other {w : World} {T : TypeId} {size n : Nat} {v : Value} {xs : List Value} (h : Own w T size v n xs) {p : Addr} (hp : v.ownBlock ≠ some p.block) (u : Value) : Own (w.setCell p u) T size v n xs :=
  h.fr (S := fun k => k = p.block) ((Fr.refl (fun k => k = p.block) w).setCell (.inl rfl) u) (fun k hk e => hp (by rw [hk, e]))
theorem Own.drew {w : World} {T : TypeId} {size n : Nat} {v : Value} {xs : List Value} (h : Own w T size v n xs) : Own w.drew T size v n xs := h.fr ((Fr.refl No _).drew) (fun _ _ => No.no _)
theorem Own.lt {w : World} {T : TypeId} {size n : Nat} {v : Value} {xs : List Value} (h : Own w T size v n xs) {k : Nat} (hk : v.ownBlock = some k) : k < w.heap.size := (World.ownsRow.lt h k hk).2
theorem Own.ltg {w : World} {T : TypeId} {size n g c : Nat} {xs : List Value} (h : Own w T size (.slice (some ⟨g, 0, none⟩) n c) n xs) : g < w.heap.size := h.lt rfl

theorem splice_step (l : List Value) (o : Nat) (v : Value) (vs : List Value) (h : o + (vs.length + 1) ≤ l.length) :
    (l.set o v).take (o + 1) ++ vs ++ (l.set o v).drop (o + 1 + vs.length) = l.take o ++ (v :: vs) ++ l.drop (o + (v :: vs).length) := by
  have e1 : (l.set o v).take (o + 1) = l.take o ++ [v] := by
    rw [List.take_succ_eq_append_getElem (by simp; omega), List.take_set_of_le (Nat.le_refl _)]
    simp
  have e2 : (l.set o v).drop (o + 1 + vs.length) = l.drop (o + (v :: vs).length) := by
    rw [List.drop_set_of_lt (by omega)]
    congr 1
    simp; omega
  rw [e1, e2]
  simp

theorem Blk.setCells {b : Nat} {T : TypeId} (vs : List Value) : ∀ {w : World} {l : List Value} (o : Nat), Blk w b T l → o + vs.length ≤ l.length → Blk (w.setCells b o vs) b T (l.take o ++ vs ++ l.drop (o + vs.length)) := by
  induction vs with
  | nil => intro w l o h _; simpa [World.setCells] using h
  | cons v vs ih =>
    intro w l o h hl
    have h1 := ih (o + 1) (h.set o v) (by simp at hl ⊢; omega)
    rw [splice_step l o v vs (by simpa using hl)] at h1
    exact h1

theorem Fr.setCells {S : Nat → Prop} {a : World} {b : Nat} (vs : List Value) : ∀ {w : World} (o : Nat), Fr S a w → (S b ∨ a.heap.size ≤ b) → Fr S a (w.setCells b o vs) := by
  induction vs with
  | nil => intro w o h _; exact h
  | cons v vs ih => intro w o h hb; exact ih (o + 1) (h.setCell hb v) hb

theorem Own.drewN {w : World} {T : TypeId} {size n : Nat} {v : Value} {xs : List Value} (h : Own w T size v n xs) (k : Nat) : Own (w.drewN k) T size v n xs := h.fr ((Fr.refl No _).drewN k) (fun _ _ => No.no _)
theorem Own.alloc {w : World} {T : TypeId} {size n : Nat} {v : Value} {xs : List Value} (h : Own w T size v n xs) (o : Obj) : Own (w.alloc o) T size v n xs := h.fr ((Fr.refl No _).alloc o) (fun _ _ => No.no _)
/-- Where a value's row may lie now: where it lay, or in new memory. -/
def AtOr (w : World) (v v' : Value) : Prop := ∀ k, v'.ownBlock = some k → v.ownBlock = some k ∨ w.heap.size ≤ k
theorem AtOr.refl (w : World) (v : Value) : AtOr w v v := fun _ h => .inl h
theorem AtOr.trans {w w' : World} {v v' v'' : Value} (h : AtOr w v v') (h' : AtOr w' v' v'') (hs : w.heap.size ≤ w'.heap.size) : AtOr w v v'' := fun k hk => (h' k hk).elim (h k) (fun q => .inr (Nat.le_trans hs q))
/-- A block of another type is another block. -/
theorem Blk.ne {w : World} {b b' : Nat} {T T' : TypeId} {l l' : List Value} (h : Blk w b T l) (h' : Blk w b' T' l') (hT : T ≠ T') : b ≠ b' := fun e => by subst e; exact hT (h.inj h').1
theorem Blk.neOwn {w : World} {b : Nat} {T T' : TypeId} {l xs : List Value} {size n : Nat} {v : Value} (h : Blk w b T l) (h' : Own w T' size v n xs) (hT : T ≠ T') : ∀ k, v.ownBlock = some k → k ≠ b := by
  intro k hk e
  subst e
  rcases h'.cases with ⟨rfl, _⟩ | ⟨g, c, rfl⟩
  · simp [Value.ownBlock] at hk
  · simp [Value.ownBlock] at hk
    subst hk
    obtain ⟨sp, hB, _⟩ := h'.blk
    exact hT (h.inj hB).1
theorem Own.neOwn {w : World} {T T' : TypeId} {xs xs' : List Value} {size n size' n' : Nat} {v v' : Value} (h : Own w T size v n xs) (h' : Own w T' size' v' n' xs') (hT : T ≠ T') : ∀ k, v.ownBlock = some k → v'.ownBlock ≠ some k := by
  intro k hk hk'
  rcases h.cases with ⟨rfl, _⟩ | ⟨g, c, rfl⟩
  · simp [Value.ownBlock] at hk
  · simp [Value.ownBlock] at hk
    subst hk
    obtain ⟨sp, hB, _⟩ := h.blk
    exact hB.neOwn h' hT _ hk' rfl

/-- What an append comes to: the same cells and the new ones; in the same block (there was room) or in a new one. -/
structure Appended (w : World) (T : TypeId) (size : Nat) (v : Value) (n m : Nat) (l : List Value) (v' : Value) (w' : World) : Prop where
  own : Own w' T size v' (n + m) l
  fr : Fr (fun k => v.ownBlock = some k) w w'
  blk : v'.ownBlock = v.ownBlock ∨ ∃ k, v'.ownBlock = some k ∧ w.heap.size ≤ k
  isNil : v' = .slice none 0 0 ↔ v = .slice none 0 0 ∧ m = 0

theorem Appended.some {w w' : World} {T size n m : Nat} {v v' : Value} {l : List Value} (h : Appended w T size v n m l v' w') (hm : 0 < n + m) : ∃ g c, v' = .slice (some ⟨g, 0, none⟩) (n + m) c := by
  rcases h.own.cases with ⟨_, h, _⟩ | h
  · omega
  · exact h

theorem Appended.atOr {w w0 w' : World} {T size n m : Nat} {v v' : Value} {l : List Value} (h : Appended w T size v n m l v' w') (hs : w0.heap.size ≤ w.heap.size) : AtOr w0 v v' := by
  intro k hk
  rcases h.blk with e | ⟨k', e, hk'⟩
  · exact .inl (by rw [← e]; exact hk)
  · rw [e] at hk; cases hk; exact .inr (Nat.le_trans hs hk')

section
variable {P : Program} (w : World)
theorem run_app (t ty e : TypeId) (i : TypeInfo) (z : Value) (size bytes : Nat) (ht : P.underlying t = some (.slice e)) (hi : P.info? e = some i) (hz : i.zero = some z)
    (hsize : i.size = size) (hby : i.bytes = bytes) (hzs : z.cells.size = size)
    (v : Value) (n : Nat) (xs : List Value) (hown : Own w e size v n xs)
    (a : Addr) (m c : Nat) (news : List Value) (hl : news.length = m * size) (hnews : ∀ j u, news[j]? = some u → w.cell? (a.add j) = some u) (h1 : ∀ u ∈ news, u.oneCell' = true)
    (hm : n + m ≤ maxLen) (hbytes : (n + m) * bytes ≤ 140737488355328) :
    ∃ v' w', (Builtin.append_ #[t, t] ty #[v, .slice (some a) m c]).run P w = .ok v' w' ∧ Appended w e size v n m (xs ++ news) v' w' := by
  subst hsize
  subst hby
  have hsmall : n + m ≤ 9223372036854775807 := by simp only [maxLen] at hm; omega
  have grown : ∀ (old : Nat), old < n + m → 
      Blk (w.drew.alloc (.cells (xs.toArray ++ news.toArray ++ Builtin.zeroCells z.cells (grownCap w (n + m) old e - (n + m))) e)) w.heap.size e ((xs ++ news) ++ (Builtin.zeroCells z.cells (grownCap w (n + m) old e - (n + m))).toList) := by
    intro old ho
    have h := Blk.new w.drew e ((xs ++ news) ++ (Builtin.zeroCells z.cells (grownCap w (n + m) old e - (n + m))).toList)
    have e1 : ((xs ++ news) ++ (Builtin.zeroCells z.cells (grownCap w (n + m) old e - (n + m))).toList).toArray = xs.toArray ++ news.toArray ++ Builtin.zeroCells z.cells (grownCap w (n + m) old e - (n + m)) := by
      apply Array.ext'
      simp
    rw [e1] at h
    exact h
  have own : ∀ (old : Nat), old < n + m → 
      Own (w.drew.alloc (.cells (xs.toArray ++ news.toArray ++ Builtin.zeroCells z.cells (grownCap w (n + m) old e - (n + m))) e)) e i.size (.slice (some ⟨w.heap.size, 0, none⟩) (n + m) (grownCap w (n + m) old e)) (n + m) (xs ++ news) := by
    intro old ho
    have hge := grownCap_ge w (n + m) old e
    refine Own.of_blk (grown old ho) (by rw [List.length_append, hown.1, hl, Nat.add_mul]) ?_ hge (grownCap_le_maxLen w _ old e hm)
    rw [List.length_append, List.length_append, hown.1, hl, Array.length_toList, size_zeroCells, hzs, ← Nat.add_mul, ← Nat.add_mul]
    congr 1
    omega
  have fr : ∀ o, Fr (fun k => v.ownBlock = some k) w (w.drew.alloc o) := fun o => ((Fr.refl _ w).drew).alloc o
  rcases hown.cases with ⟨rfl, rfl, rfl⟩ | ⟨g, cap, rfl⟩
  · by_cases h0 : m = 0
    · subst h0
      have hn : news = [] := List.eq_nil_of_length_eq_zero (by simpa using hl)
      subst hn
      refine ⟨.slice none 0 0, w, ?_, ⟨hown, Fr.refl _ _, .inl rfl, by simp⟩⟩
      simp [Builtin.append_, run_underlying ht, sizeOf, typeInfo, hi, Builtin.lenOf, Builtin.firstCells, loadCells, loadCellsFrom]
    · have hr := run_append_nil (P := P) w t ty e i z ht hi hz a m c news hl hnews (by omega) (by omega) (by have hb := hbytes; simp only [Nat.zero_add] at hb; omega)
      have hg := own 0 (by omega)
      simp only [Nat.zero_add, List.nil_append, Array.empty_append] at hg
      refine ⟨_, _, hr, ⟨by simpa using hg, fr _, .inr ⟨_, rfl, Nat.le_refl _⟩, by simp [h0]⟩⟩
  · obtain ⟨sp, hB, hx1, hx2, hn, hc⟩ := hown.blk
    by_cases hroom : n + m ≤ cap
    · have hfit : n * i.size + news.length ≤ (xs ++ sp).length := by rw [hx2, hl, ← Nat.add_mul]; exact Nat.mul_le_mul_right _ hroom
      have hr := run_append_room (P := P) w t ty e i ht hi g n cap (xs ++ sp).toArray hB a m c news hl hnews h1 hroom (by simpa using hfit)
      refine ⟨_, _, hr, ⟨?_, (Fr.refl (fun k => (Value.slice (some ⟨g, 0, none⟩) n cap).ownBlock = some k) w).setRow (g := g) (.inl rfl) _, .inl rfl, by simp⟩⟩
      have e1 : (((xs ++ sp).toArray.toList.take (n * i.size) ++ news ++ (xs ++ sp).toArray.toList.drop (n * i.size + news.length)) : List Value) = (xs ++ news) ++ sp.drop news.length := by
        rw [← hx1]
        simp [List.drop_append]
      rw [e1]
      refine Own.of_blk (hB.setRow _) (by rw [List.length_append, hx1, hl, Nat.add_mul]) ?_ hroom hc
      rw [← hx2]
      simp at hfit ⊢
      omega
    · have hr := run_append_grow (P := P) w t ty e i z ht hi hz ⟨g, 0, none⟩ n cap xs hx1 (hown.cells (g := g) rfl) a m c news hl hnews (by omega) (by omega) (growslice_fits (by omega) hbytes)
      refine ⟨_, _, hr, ⟨own cap (by omega), fr _, .inr ⟨_, rfl, Nat.le_refl _⟩, by simp⟩⟩

theorem wp_app {o : Oper} {a : Act} {K : Act → World → Prop} {Q : Exit → Act → World → Prop} (s x : Operand) (t : TypeId)
    (ho : o.op = .call { callee := .builtin .append, args := #[s, x], argTypes := #[t, t] })
    (e : TypeId) (i : TypeInfo) (z : Value) (size bytes : Nat) (ht : P.underlying t = some (.slice e)) (hi : P.info? e = some i) (hz : i.zero = some z)
    (hsize : i.size = size) (hby : i.bytes = bytes) (hzs : z.cells.size = size)
    (v : Value) (n : Nat) (xs : List Value) (hs : a.eval s = v) (hown : Own w e size v n xs)
    (ad : Addr) (m c : Nat) (news : List Value) (hx : a.eval x = .slice (some ad) m c) (hl : news.length = m * size) (hnews : ∀ j u, news[j]? = some u → w.cell? (ad.add j) = some u) (h1 : ∀ u ∈ news, u.oneCell' = true)
    (hm : n + m ≤ maxLen) (hbytes : (n + m) * bytes ≤ 140737488355328)
    (h : ∀ v' w', Appended w e size v n m (xs ++ news) v' w' → K (a.put o.dst v') w') : o.wp P a w K Q := by
  obtain ⟨v', w', hr, h2⟩ := run_app (P := P) w t o.type e i z size bytes ht hi hz hsize hby hzs v n xs hown ad m c news hl hnews h1 hm hbytes
  unfold Oper.wp execOp
  simp only [ho, resolve, invoke, builtin, Sem.run_bind, Sem.run_pure, Result.andThen_ok, List.map_toArray, List.map_cons, List.map_nil, hs, hx, hr]
  exact h v' w' h2

theorem wpList_app {ops : Array Oper} {rest : List Oper} {o : Oper} {a : Act} {Q : Exit → Act → World → Prop} (hgd : o.guard = none) (s x : Operand) (t : TypeId)
    (ho : o.op = .call { callee := .builtin .append, args := #[s, x], argTypes := #[t, t] })
    (e : TypeId) (i : TypeInfo) (z : Value) (size bytes : Nat) (ht : P.underlying t = some (.slice e)) (hi : P.info? e = some i) (hz : i.zero = some z)
    (hsize : i.size = size) (hby : i.bytes = bytes) (hzs : z.cells.size = size)
    (v : Value) (n : Nat) (xs : List Value) (hs : a.eval s = v) (hown : Own w e size v n xs)
    (ad : Addr) (m c : Nat) (news : List Value) (hx : a.eval x = .slice (some ad) m c) (hl : news.length = m * size) (hnews : ∀ j u, news[j]? = some u → w.cell? (ad.add j) = some u) (h1 : ∀ u ∈ news, u.oneCell' = true)
    (hm : n + m ≤ maxLen) (hbytes : (n + m) * bytes ≤ 140737488355328)
    (h : ∀ v' w', Appended w e size v n m (xs ++ news) v' w' → wpList P ops Q rest (a.put o.dst v') w') : wpList P ops Q (o :: rest) a w :=
  wpList_plain hgd fun _ hK => wp_app w s x t ho e i z size bytes ht hi hz hsize hby hzs v n xs hs hown ad m c news hx hl hnews h1 hm hbytes fun v' w' h2 => hK _ _ (h v' w' h2)

/-- The same, for a region that draws its order ('go_region_law'). -/
theorem step_app {ops : Array Oper} {o : Oper} {a : Act} {K : Act → World → Prop} {Q : Exit → Act → World → Prop} {E : Prop} (hgd : o.guard = none) (s x : Operand) (t : TypeId)
    (ho : o.op = .call { callee := .builtin .append, args := #[s, x], argTypes := #[t, t] })
    (e : TypeId) (i : TypeInfo) (z : Value) (size bytes : Nat) (ht : P.underlying t = some (.slice e)) (hi : P.info? e = some i) (hz : i.zero = some z)
    (hsize : i.size = size) (hby : i.bytes = bytes) (hzs : z.cells.size = size)
    (v : Value) (n : Nat) (xs : List Value) (hs : a.eval s = v) (hown : Own w e size v n xs)
    (ad : Addr) (m c : Nat) (news : List Value) (hx : a.eval x = .slice (some ad) m c) (hl : news.length = m * size) (hnews : ∀ j u, news[j]? = some u → w.cell? (ad.add j) = some u) (h1 : ∀ u ∈ news, u.oneCell' = true)
    (hm : n + m ≤ maxLen) (hbytes : (n + m) * bytes ≤ 140737488355328)
    (h : ∀ v' w', Appended w e size v n m (xs ++ news) v' w' → K (a.put o.dst v') w') :
    if Region.wanted o (yielded ops a.tmps) = true then Oper.wp P o a w K Q else E := by
  have hw : Region.wanted o (yielded ops a.tmps) = true := by simp [Region.wanted, hgd]
  rw [if_pos hw]
  exact wp_app w s x t ho e i z size bytes ht hi hz hsize hby hzs v n xs hs hown ad m c news hx hl hnews h1 hm hbytes h
end

end Go.Proofs.Ytnkjhicokcmmpaa
