/-
  Bytes as cells; a slice that is read: whoever owns it. No program in sight.
-/
import Derived.Test.YtnkjhicokcmmpaaHeap
import Derived.Laws.BytesArg
import Derived.Laws.BytesString
import Derived.Laws.OwnMore
import Derived.Lib.Hide
namespace Go.Proofs.Ytnkjhicokcmmpaa
open Go.RowKit

/-- A byte as a cell. -/
def byt (c : UInt8) : Value := .int .u8 (c.toNat : Int)
theorem byt_one (l : List UInt8) : ∀ u ∈ l.map byt, u.oneCell' = true := by
  intro u hu
  obtain ⟨x, _, rfl⟩ := List.mem_map.1 hu
  rfl
/-- Bytes as a string. -/
def str (l : List UInt8) : ByteArray := ⟨l.toArray⟩
theorem str_list (l : List UInt8) : (str l).toList = l := ByteArray.toList_mk l
theorem str_inj {l l' : List UInt8} (h : str l = str l') : l = l' := by
  have := congrArg (fun s : ByteArray => s.data.toList) h
  simpa [str] using this

theorem add_add (a : Addr) (i j : Nat) : (a.add i).add j = a.add (i + j) := by
  unfold Addr.add
  by_cases hi : i = 0 <;> by_cases hj : j = 0 <;> simp [hi, hj, Nat.add_assoc]
theorem add_block (a : Addr) (n : Nat) : (a.add n).block = a.block := by unfold Addr.add; split <;> rfl
theorem add_zero (a : Addr) : a.add 0 = a := by simp [Addr.add]

/-- A slice value of n one-cell elements that read xs. -/
structure Win (w : World) (a : Option Addr) (n c : Nat) (xs : List Value) : Prop where
  len : xs.length = n
  cap : n ≤ c
  max : c ≤ maxLen
  nil : a = none → c = 0
  cell : ∀ ad, a = some ad → ∀ (j : Nat) (u : Value), xs[j]? = some u → w.cell? (ad.add j) = some u

section
variable {w w' : World} {a : Option Addr} {n c : Nat} {xs : List Value}
theorem Win.nil_inv (h : Win w none n c xs) : n = 0 ∧ c = 0 ∧ xs = [] := by
  have h1 := h.nil rfl
  have h2 := h.cap
  have h3 : n = 0 := by omega
  exact ⟨h3, h1, List.eq_nil_of_length_eq_zero (by rw [h.len, h3])⟩
theorem Win.nilw (w : World) : Win w none 0 0 [] := ⟨rfl, Nat.le_refl _, Nat.zero_le _, fun _ => rfl, fun _ h => by cases h⟩
theorem Win.fr {S : Nat → Prop} (h : Win w a n c xs) (hf : Fr S w w') (hn : ∀ ad, a = some ad → ¬ S ad.block) : Win w' a n c xs :=
  ⟨h.len, h.cap, h.max, h.nil, fun ad hd j u hu => by
    have h1 := h.cell ad hd j u hu
    exact (hf.cell (World.block_lt_of_cell? w _ h1) (by rw [add_block]; exact hn ad hd)).trans h1⟩
theorem Win.old {S : Nat → Prop} (h : Win w a n c xs) (hf : Fr S w w') (hn : ∀ k, k < w.heap.size → ¬ S k) : Win w' a n c xs :=
  ⟨h.len, h.cap, h.max, h.nil, fun ad hd j u hu => by
    have h1 := h.cell ad hd j u hu
    have h2 := World.block_lt_of_cell? w _ h1
    exact (hf.cell h2 (hn _ h2)).trans h1⟩
theorem Win.no (h : Win w a n c xs) (hf : Fr No w w') : Win w' a n c xs := h.fr hf (fun _ _ => No.no _)
theorem Win.at {k : Nat} (h : Win w a n c xs) (hk : k < n) : ∃ ad u, a = some ad ∧ xs[k]? = some u ∧ w.cell? (ad.add k) = some u := by
  cases a with
  | none => have := h.nil_inv; omega
  | some ad =>
    have hl : k < xs.length := by rw [h.len]; exact hk
    exact ⟨ad, xs[k], rfl, List.getElem?_eq_getElem hl, h.cell ad rfl k _ (List.getElem?_eq_getElem hl)⟩
theorem Win.of_own {T : TypeId} {v : Value} (h : Own w T 1 v n xs) : ∃ a c, v = .slice a n c ∧ Win w a n c xs := by
  have hl : xs.length = n := by have := h.1; simpa using this
  rcases h.cases with ⟨rfl, rfl, rfl⟩ | ⟨g, cap, rfl⟩
  · exact ⟨none, 0, rfl, Win.nilw w⟩
  · obtain ⟨sp, _, _, _, h1, h2⟩ := h.blk
    refine ⟨_, _, rfl, hl, h1, h2, fun h => (nomatch h), fun ad hd j u hu => ?_⟩
    cases hd
    exact h.cells (g := g) rfl j u hu
/-- The first of a row that is owned. -/
theorem Win.of_own' {T : TypeId} {g : Nat} (h : Own w T 1 (.slice (some ⟨g, 0, none⟩) n c) n xs) : Win w (some ⟨g, 0, none⟩) n c xs := by
  obtain ⟨a, c', e, h1⟩ := Win.of_own h
  cases e
  exact h1
theorem Win.take {k : Nat} (h : Win w a n c xs) (hk : k ≤ n) : Win w a k c (xs.take k) :=
  ⟨by rw [List.length_take, h.len]; omega, by have := h.cap; omega, h.max, h.nil, fun ad hd j u hu => h.cell ad hd j u (by
    rw [List.getElem?_take] at hu
    split at hu
    · exact hu
    · cases hu)⟩
theorem Win.drop {k : Nat} (h : Win w a n c xs) (hk : k ≤ n) : Win w (if c = k then a else a.map (·.add k)) (n - k) (c - k) (xs.drop k) := by
  refine ⟨by rw [List.length_drop, h.len], by have := h.cap; omega, by have := h.max; omega, fun e => ?_, fun ad hd j u hu => ?_⟩
  · split at e
    · have := h.nil e; omega
    · cases a with
      | none => have := h.nil rfl; omega
      | some ad => cases e
  · split at hd
    · rename_i hck
      have h1 := h.cap
      have h2 := (List.getElem?_eq_some_iff.1 hu).1
      rw [List.length_drop, h.len] at h2
      omega
    · cases a with
      | none => cases hd
      | some ad' =>
        cases hd
        rw [add_add]
        refine h.cell ad' rfl _ u ?_
        rw [List.getElem?_drop] at hu
        exact hu
end

section
variable {P : Program} {w : World} {src dst e : TypeId}
theorem run_str (hs : P.underlying src = some (.slice e)) (he : P.underlying e = some (.int .u8)) (hd : P.underlying dst = some .string) {a : Option Addr} {n c : Nat} {bs : List UInt8} (h : Win w a n c (bs.map byt)) :
    (convert src dst (.slice a n c)).run P w = .ok (.string (str bs)) w := by
  cases a with
  | none =>
    obtain ⟨_, _, hx⟩ := h.nil_inv
    have : bs = [] := by simpa using hx
    subst this
    exact run_convert_bytes_nil w src e hs he n c dst hd
  | some ad =>
    have hl : bs.length = n := by have := h.len; simpa using this
    have hload : (loadCells ad n).run P w = .ok ((bs.map fun c => (c.toNat : Int)).map (Value.int .u8)).toArray w := by
      have := run_loadCells_list (P := P) w ad (bs.map byt) (fun j v hj => h.cell ad rfl j v hj)
      rw [List.length_map, hl] at this
      rw [this]
      simp [byt, Function.comp_def]
    rw [run_convert_bytes_string w src dst e _ n c hs he hd, run_bytesToString w ad n c _ hload, foldl_push_bytes]
    simp [str, ByteArray.empty, ByteArray.emptyWithCapacity, Function.comp_def]
    rfl
end

section
variable {P : Program} (w : World)
theorem wp_appW {o : Oper} {a : Act} {K : Act → World → Prop} {Q : Exit → Act → World → Prop} (s x : Operand) (t : TypeId)
    (ho : o.op = .call { callee := .builtin .append, args := #[s, x], argTypes := #[t, t] })
    (e : TypeId) (i : TypeInfo) (z : Value) (bytes : Nat) (ht : P.underlying t = some (.slice e)) (hi : P.info? e = some i) (hz : i.zero = some z)
    (hsize : i.size = 1) (hby : i.bytes = bytes) (hzs : z.cells.size = 1)
    (v : Value) (n : Nat) (xs : List Value) (hs : a.eval s = v) (hown : Own w e 1 v n xs)
    (ax : Option Addr) (m c : Nat) (news : List Value) (hx : a.eval x = .slice ax m c) (hw : Win w ax m c news) (h1 : ∀ u ∈ news, u.oneCell' = true)
    (hm : n + m ≤ maxLen) (hbytes : (n + m) * bytes ≤ 140737488355328)
    (h : ∀ v' w', Appended w e 1 v n m (xs ++ news) v' w' → K (a.put o.dst v') w') : o.wp P a w K Q := by
  cases ax with
  | some ad =>
    exact wp_app w s x t ho e i z 1 bytes ht hi hz hsize hby hzs v n xs hs hown ad m c news hx (by rw [hw.len, Nat.mul_one]) (fun j u hu => hw.cell ad rfl j u hu) h1 hm hbytes h
  | none =>
    obtain ⟨rfl, rfl, rfl⟩ := hw.nil_inv
    have hr := run_append_owned_none (P := P) (w := w) 0 t o.type e i 1 ht hi v n xs hown
    unfold Oper.wp execOp
    simp only [ho, resolve, invoke, builtin, Sem.run_bind, Sem.run_pure, Result.andThen_ok, List.map_toArray, List.map_cons, List.map_nil, hs, hx, hr]
    exact h v w ⟨by simpa using hown, Fr.refl _ _, .inl rfl, by simp⟩
theorem wpList_appW {ops : Array Oper} {rest : List Oper} {o : Oper} {a : Act} {Q : Exit → Act → World → Prop} (hgd : o.guard = none) (s x : Operand) (t : TypeId)
    (ho : o.op = .call { callee := .builtin .append, args := #[s, x], argTypes := #[t, t] })
    (e : TypeId) (i : TypeInfo) (z : Value) (bytes : Nat) (ht : P.underlying t = some (.slice e)) (hi : P.info? e = some i) (hz : i.zero = some z)
    (hsize : i.size = 1) (hby : i.bytes = bytes) (hzs : z.cells.size = 1)
    (v : Value) (n : Nat) (xs : List Value) (hs : a.eval s = v) (hown : Own w e 1 v n xs)
    (ax : Option Addr) (m c : Nat) (news : List Value) (hx : a.eval x = .slice ax m c) (hw : Win w ax m c news) (h1 : ∀ u ∈ news, u.oneCell' = true)
    (hm : n + m ≤ maxLen) (hbytes : (n + m) * bytes ≤ 140737488355328)
    (h : ∀ v' w', Appended w e 1 v n m (xs ++ news) v' w' → wpList P ops Q rest (a.put o.dst v') w') : wpList P ops Q (o :: rest) a w :=
  wpList_plain hgd fun _ hK => wp_appW w s x t ho e i z bytes ht hi hz hsize hby hzs v n xs hs hown ax m c news hx hw h1 hm hbytes fun v' w' h2 => hK _ _ (h v' w' h2)
theorem step_appW {ops : Array Oper} {o : Oper} {a : Act} {K : Act → World → Prop} {Q : Exit → Act → World → Prop} {E : Prop} (hgd : o.guard = none) (s x : Operand) (t : TypeId)
    (ho : o.op = .call { callee := .builtin .append, args := #[s, x], argTypes := #[t, t] })
    (e : TypeId) (i : TypeInfo) (z : Value) (bytes : Nat) (ht : P.underlying t = some (.slice e)) (hi : P.info? e = some i) (hz : i.zero = some z)
    (hsize : i.size = 1) (hby : i.bytes = bytes) (hzs : z.cells.size = 1)
    (v : Value) (n : Nat) (xs : List Value) (hs : a.eval s = v) (hown : Own w e 1 v n xs)
    (ax : Option Addr) (m c : Nat) (news : List Value) (hx : a.eval x = .slice ax m c) (hw : Win w ax m c news) (h1 : ∀ u ∈ news, u.oneCell' = true)
    (hm : n + m ≤ maxLen) (hbytes : (n + m) * bytes ≤ 140737488355328)
    (h : ∀ v' w', Appended w e 1 v n m (xs ++ news) v' w' → K (a.put o.dst v') w') :
    if Region.wanted o (yielded ops a.tmps) = true then Oper.wp P o a w K Q else E := by
  have hw' : Region.wanted o (yielded ops a.tmps) = true := by simp [Region.wanted, hgd]
  rw [if_pos hw']
  exact wp_appW w s x t ho e i z bytes ht hi hz hsize hby hzs v n xs hs hown ax m c news hx hw h1 hm hbytes h
end

/-- A constant's row, with the run-time's mark behind it. -/
theorem win_const (w : World) (T : TypeId) (l : List Value) (hm : l.length ≤ maxLen) : Win (w.alloc (.cells l.toArray T (l.length, l.length + 1))) (some ⟨w.heap.size, 0, none⟩) l.length l.length l := by
  refine ⟨rfl, Nat.le_refl _, hm, fun h => (nomatch h), fun ad hd j u hu => ?_⟩
  cases hd
  rw [Addr.add_lit, Nat.zero_add, cell_of_row _ w.heap.size j l.toArray T (l.length, l.length + 1) (heap_alloc_new w _)]
  simpa using hu
theorem own_slice {w : World} {T : TypeId} {size n : Nat} {v : Value} {xs : List Value} (h : Own w T size v n xs) : ∃ a c, v = .slice a n c := by
  rcases h.cases with ⟨e, h1, _⟩ | ⟨g, c, e⟩
  · exact ⟨none, 0, by rw [e, h1]⟩
  · exact ⟨_, _, e⟩
theorem app_slice {w w' : World} {T : TypeId} {size n m : Nat} {v v' : Value} {l : List Value} (h : Appended w T size v n m l v' w') : ∃ a c, v' = .slice a (n + m) c := own_slice h.own

/-- A cloned row: new memory that holds the same; nil just if nil came. -/
structure IsClone (T : TypeId) (w : World) (a : Option Addr) (n : Nat) (xs : List Value) (v : Value) (w' : World) : Prop where
  own : Own w' T 1 v n xs
  new : ∀ k, v.ownBlock = some k → w.heap.size ≤ k
  nil : v = .slice none 0 0 ↔ a = none
  fr : Fr No w w'
theorem IsClone.pre {T : TypeId} {w0 w w' : World} {a : Option Addr} {n : Nat} {xs : List Value} {v : Value} (h : IsClone T w a n xs v w') (hf : Fr No w0 w) : IsClone T w0 a n xs v w' :=
  ⟨h.own, fun k hk => Nat.le_trans hf.size (h.new k hk), h.nil, hf.thn h.fr⟩

end Go.Proofs.Ytnkjhicokcmmpaa
