/-
  What the memory answers when a tile is loaded that it has.
-/
import Derived.Test.YthjejgepdbonpaaWd
namespace Go.Proofs.Ythjejgepdbonpaa
open Go.RowKit

set_option maxHeartbeats 400000 in
theorem ready_any (mb : Nat) (lv logv : Value) (l : List NoteD) (n : Int) (w : World) (hM : Blk w mb 47 [lv, logv, .int .i64 0]) (ho : Own w 54 4 logv l.length (noteCells l)) (hm : l.length ≤ 1000000) :
    Calls Try.prog 54 #[.pointer (some ⟨mb, 0, none⟩), .int .i64 n] w (Counted mb lv logv l ⟨2, n, 0⟩ w) := by
  go_enter Try.func54, Try.ntmps54
  go_wp2_with fail
  refine (count_any mb lv logv l ⟨2, n, 0⟩ w hM ho hm).mono ?_
  rintro e w1 ⟨v, rfl, h1, h2, h3, h4⟩
  go_wp2
  go_ret
  exact ⟨v, rfl, h1, h2, h3, h4⟩

/-- A tile of the back's: its key, kind, elements; where these lie. -/
structure TilM where
  f : Int
  n : Int
  k : Int
  g : Nat
  c : Nat
  el : List Int
def TilM.sl (t : TilM) : Value := .slice (some ⟨t.g, 0, none⟩) t.el.length t.c
def TilM.cells (t : TilM) : List Value := [.int .i64 t.f, .int .i64 t.n, .int .i64 t.k, t.sl]
def tilCells (l : List TilM) : List Value := l.flatMap TilM.cells
def TilM.is (p q : Int) (t : TilM) : Bool := t.f == p && t.n == q

theorem tilCells_get (l : List TilM) : ∀ (i : Nat) (hi : i < l.length) (r : Nat), r < 4 → (tilCells l)[i * 4 + r]? = l[i].cells[r]? := by
  induction l with
  | nil => intro i hi; simp at hi
  | cons t l ih =>
    intro i hi r hr
    have e : tilCells (t :: l) = t.cells ++ tilCells l := rfl
    rw [e]
    have hc : t.cells.length = 4 := rfl
    cases i with
    | zero => rw [List.getElem?_append_left (by omega)]; simp
    | succ i =>
      rw [List.getElem?_append_right (by omega), hc, show (i + 1) * 4 + r - 4 = i * 4 + r by omega]
      simpa using ih i (by simpa using hi) r hr
theorem tilCells_length (l : List TilM) : (tilCells l).length = l.length * 4 := by
  induction l with
  | nil => rfl
  | cons t l ih => simp [tilCells] at ih ⊢; rw [ih]; simp [TilM.cells]; omega

/-- The back's memory: its block, the tiles' row, each tile's elements. -/
structure MemAt (w : World) (mb lb lc : Nat) (logv : Value) (ts : List TilM) (l : List NoteD) : Prop where
  blk : Blk w mb 47 [.slice (some ⟨lb, 0, none⟩) ts.length lc, logv, .int .i64 0]
  row : Own w 43 4 (.slice (some ⟨lb, 0, none⟩) ts.length lc) ts.length (tilCells ts)
  log : Own w 54 4 logv l.length (noteCells l)
  els : ∀ t ∈ ts, Own w 2 1 t.sl t.el.length (t.el.map (Value.int .i64))

theorem MemAt.fr {S : Nat → Prop} {w w' : World} {mb lb lc : Nat} {logv : Value} {ts : List TilM} {l : List NoteD} (h : MemAt w mb lb lc logv ts l) (hf : Fr S w w')
    (h1 : ¬ S mb) (h2 : ¬ S lb) (h3 : ∀ k, logv.ownBlock = some k → ¬ S k) (h4 : ∀ t ∈ ts, ¬ S t.g) : MemAt w' mb lb lc logv ts l :=
  ⟨h.blk.fr hf h1, h.row.fr hf (fun k hk => by simp [Value.ownBlock] at hk; subst hk; exact h2), h.log.fr hf h3, fun t ht => (h.els t ht).fr hf (fun k hk => by simp [TilM.sl, Value.ownBlock] at hk; subst hk; exact h4 t ht)⟩
theorem MemAt.no {w w' : World} {mb lb lc : Nat} {logv : Value} {ts : List TilM} {l : List NoteD} (h : MemAt w mb lb lc logv ts l) (hf : Fr No w w') : MemAt w' mb lb lc logv ts l :=
  h.fr hf (No.no _) (No.no _) (fun _ _ => No.no _) (fun _ _ => No.no _)
theorem MemAt.counted {w w' : World} {mb lb lc : Nat} {logv logv' : Value} {ts : List TilM} {l : List NoteD} {x : NoteD} (h : MemAt w mb lb lc logv ts l)
    (h1 : Blk w' mb 47 [.slice (some ⟨lb, 0, none⟩) ts.length lc, logv', .int .i64 0]) (h2 : Own w' 54 4 logv' (l ++ [x]).length (noteCells (l ++ [x]))) (hf : Fr (fun k => k = mb ∨ logv.ownBlock = some k) w w') :
    MemAt w' mb lb lc logv' ts (l ++ [x]) := by
  refine ⟨h1, h.row.fr hf ?_, h2, fun t ht => (h.els t ht).fr hf ?_⟩
  · rintro k hk (rfl | h')
    · exact h.blk.neOwn h.row (by decide) _ hk rfl
    · exact h.row.neOwn h.log (by decide) _ hk h'
  · rintro k hk (rfl | h')
    · exact h.blk.neOwn (h.els t ht) (by decide) _ hk rfl
    · exact (h.els t ht).neOwn h.log (by decide) _ hk h'

/-- What a load comes to: the tile with elements in new memory; the log has a note more. -/
def Loaded (mb lb lc : Nat) (logv : Value) (ts : List TilM) (l : List NoteD) (p q : Int) (t : TilM) (w : World) (e : Ending) (w' : World) : Prop :=
  ∃ logv' g c, e = .returned (.tuple #[.agg #[.int .i64 t.f, .int .i64 t.n, .int .i64 t.k, .slice (some ⟨g, 0, none⟩) t.el.length c], .int .i64 0]) ∧
    MemAt w' mb lb lc logv' ts (l ++ [⟨1, q, p⟩]) ∧ Own w' 2 1 (.slice (some ⟨g, 0, none⟩) t.el.length c) t.el.length (t.el.map (Value.int .i64)) ∧
    w.heap.size ≤ g ∧ Fr (fun k => k = mb ∨ logv.ownBlock = some k) w w' ∧ AtOr w logv logv'

set_option maxHeartbeats 1600000 in
theorem load_hit (mb lb lc : Nat) (logv : Value) (ts : List TilM) (l : List NoteD) (p q : Int) (i : Nat) (hi : i < ts.length) (w : World) (hM : MemAt w mb lb lc logv ts l) (hm : l.length ≤ 1000000) (ht : ts.length ≤ 1000000)
    (hno : ∀ j (hj : j < i), (ts[j]'(by omega)).is p q = false) (hhit : ts[i].is p q = true) (hel : 0 < ts[i].el.length ∧ ts[i].el.length ≤ 1000000) :
    Calls Try.prog 53 #[.pointer (some ⟨mb, 0, none⟩), .agg #[.int .i64 p, .int .i64 q]] w (Loaded mb lb lc logv ts l p q ts[i] w) := by
  have HNO := Lib.hid hno
  have HH := Lib.hid hhit
  clear hno hhit
  go_enter Try.func53, Try.ntmps53
  go_wp2_with fail
  refine (count_any mb _ logv l ⟨1, q, p⟩ _ ((hM.blk.alloc _).alloc _) ((hM.log.alloc _).alloc _) hm).mono ?_
  rintro e w1 ⟨logv', rfl, h1, h2, h3, h4⟩
  have hM1 : MemAt w1 mb lb lc logv' ts (l ++ [⟨1, q, p⟩]) := ((hM.no (((Fr.refl No w).alloc _).alloc _))).counted h1 h2 h3
  have k0 : Blk w1 w.heap.size 31 [.int .i64 p, .int .i64 q] := ((Blk.new w 31 [.int .i64 p, .int .i64 q]).alloc _).fr h3 (by rintro (h | h); have := hM.blk.lt; omega; have := hM.log.lt h; omega)
  have r0 : Blk w1 (w.heap.size + 1) 43 [.int .i64 0, .int .i64 0, .int .i64 0, .slice none 0 0] := by
    have := Blk.new (w.alloc (.cells #[.int .i64 p, .int .i64 q] 31)) 43 [.int .i64 0, .int .i64 0, .int .i64 0, .slice none 0 0]
    rw [World.size_alloc] at this
    exact this.fr h3 (by rintro (h | h); have := hM.blk.lt; omega; have := hM.log.lt h; omega)
  have hz := h3.size
  simp at hz
  clear h1 h2
  go_wp2
  go_loopw [7] (fun s wr => ∃ k : Nat, k ≤ i ∧ s = .int .i64 k ∧ Fr No w1 wr) (fun s _ => ts.length - (intOf s).toNat)
  case atStart => exact ⟨0, Nat.zero_le _, rfl, Fr.refl _ _⟩
  case round =>
    obtain ⟨k, hk, rfl, hfr⟩ := hrel
    have hMr := hM1.no hfr
    have hkt : k < ts.length := by omega
    have b0 := hMr.blk.cell (j := 0) rfl
    have e0 : wr.cell? ⟨lb, k * 4, none⟩ = some (.int .i64 (ts[k]'hkt).f) := by
      have := hMr.row.cells (g := lb) rfl (k * 4) (.int .i64 (ts[k]'hkt).f) (by simpa [TilM.cells] using tilCells_get ts k hkt 0 (by omega))
      rwa [Addr.add_lit, Nat.zero_add] at this
    have e1 : wr.cell? ⟨lb, k * 4 + 1, none⟩ = some (.int .i64 (ts[k]'hkt).n) := by
      have := hMr.row.cells (g := lb) rfl (k * 4 + 1) (.int .i64 (ts[k]'hkt).n) (by simpa [TilM.cells] using tilCells_get ts k hkt 1 (by omega))
      rwa [Addr.add_lit, Nat.zero_add] at this
    have e2 : wr.cell? ⟨lb, k * 4 + 2, none⟩ = some (.int .i64 (ts[k]'hkt).k) := by
      have := hMr.row.cells (g := lb) rfl (k * 4 + 2) (.int .i64 (ts[k]'hkt).k) (by simpa [TilM.cells] using tilCells_get ts k hkt 2 (by omega))
      rwa [Addr.add_lit, Nat.zero_add] at this
    have e3 : wr.cell? ⟨lb, k * 4 + 3, none⟩ = some (ts[k]'hkt).sl := by
      have := hMr.row.cells (g := lb) rfl (k * 4 + 3) (ts[k]'hkt).sl (by simpa [TilM.cells] using tilCells_get ts k hkt 3 (by omega))
      rwa [Addr.add_lit, Nat.zero_add] at this
    have k1 := k0.fr hfr (No.no _)
    have k10 := k1.cell (j := 0) rfl
    have k11 := k1.cell (j := 1) rfl
    by_cases hki : k < i
    · have hx := HNO.out k hki
      unfold TilM.is at hx
      by_cases hf : ((ts[k]'hkt).f == p) = true
      · have hn : ((ts[k]'hkt).n == q) = false := by rw [hf] at hx; simpa using hx
        clear hx
        go_wp2_with fail
        go_quiet (fail)
        go_wp2
        go_roundw
        case rel => exact ⟨k + 1, by omega, by go_num, hfr.drewN _⟩
        case measure => simp [intOf]; omega
      · have hf' : ((ts[k]'hkt).f == p) = false := by simpa using hf
        clear hf hx
        go_wp2_with fail
        go_quiet (fail)
        go_wp2
        go_roundw
        case rel => exact ⟨k + 1, by omega, by go_num, hfr.drewN _⟩
        case measure => simp [intOf]; omega
    · obtain rfl : k = i := by omega
      have hx := HH.out
      unfold TilM.is at hx
      have hf : ((ts[k]'hkt).f == p) = true := by simp at hx ⊢; exact hx.1
      have hn : ((ts[k]'hkt).n == q) = true := by simp at hx ⊢; exact hx.2
      clear hx
      obtain ⟨t, htt⟩ : ∃ t, t = ts[k]'hkt := ⟨_, rfl⟩
      have hels := hMr.els (ts[k]'hkt) (List.getElem_mem hkt)
      rw [← htt] at hf hn e0 e1 e2 e3 hels hel
      have HT := Lib.hid htt
      clear htt
      go_wp2_with fail
      go_quiet (fail)
      go_wp2_with fail
      refine (rtwin_some t.f t.n t.k t.g t.el.length t.c t.el _ (hels.drewN _) (by omega) hel.1).mono ?_
      rintro e w2 ⟨g', c', rfl, o2, hg2, hf2⟩
      have r2 := ((r0.fr hfr (No.no _)).drewN nq).fr hf2 (No.no _)
      have r20 := r2.cell (j := 0) rfl
      have r21 := r2.cell (j := 1) rfl
      have r22 := r2.cell (j := 2) rfl
      have r23 := r2.cell (j := 3) rfl
      have r2f := r2.free
      have r2l := r2.lt
      have hz2 := hf2.size
      have hz3 := hfr.size
      have hz4 : (wr.drewN nq).heap.size = wr.heap.size := rfl
      go_wp2
      refine bodyPost_ret (v := .tuple #[.agg #[.int .i64 t.f, .int .i64 t.n, .int .i64 t.k, .slice (some ⟨g', 0, none⟩) t.el.length c'], .int .i64 0]) (by simp [results, Try.results53, go_sem, r2l, r20, r21, r22, r23]) rfl ?_
      rw [← HT.out]
      have hall : Fr (fun k => k = mb ∨ logv.ownBlock = some k) w w2 := ((((((Fr.refl _ w).alloc _).alloc _).trans h3 (fun k hk => .inl hk)).thn hfr).drewN nq).thn hf2
      have hmb := hM.blk.lt
      refine ⟨logv', g', c', rfl, ?_, ?_, by omega, ?_, ?_⟩
      · refine (((hMr.no ((Fr.refl No _).drewN nq)).no hf2).fr (((((Fr.refl (fun k => k = w.heap.size + 1) w2).setCell (p := ⟨w.heap.size + 1, 0, none⟩) (.inl rfl) _).setCell (p := ⟨w.heap.size + 1, 1, none⟩) (.inl rfl) _).setCell (p := ⟨w.heap.size + 1, 2, none⟩) (.inl rfl) _).setCell (p := ⟨w.heap.size + 1, 3, none⟩) (.inl rfl) _) ?_ ?_ ?_ ?_)
        · omega
        · have := hM.row.ltg; omega
        · intro k' hk'
          rcases h4 k' hk' with h | h
          · have := hM.log.lt h; omega
          · simp at h; omega
        · intro t' ht'
          have := (hM.els t' ht').lt (k := t'.g) rfl
          omega
      · exact (((o2.other (by simp [Value.ownBlock]; omega) _).other (by simp [Value.ownBlock]; omega) _).other (by simp [Value.ownBlock]; omega) _).other (by simp [Value.ownBlock]; omega) _
      · exact (((hall.setCell (p := ⟨w.heap.size + 1, 0, none⟩) (.inr (by simp)) _).setCell (p := ⟨w.heap.size + 1, 1, none⟩) (.inr (by simp)) _).setCell (p := ⟨w.heap.size + 1, 2, none⟩) (.inr (by simp)) _).setCell (p := ⟨w.heap.size + 1, 3, none⟩) (.inr (by simp)) _
      · intro k' hk'
        rcases h4 k' hk' with h | h
        · exact .inl h
        · exact .inr (by simp at h; omega)

end Go.Proofs.Ythjejgepdbonpaa
