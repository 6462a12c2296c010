/-
  What the memory answers when a tile is loaded that it has not.
-/
import Derived.Test.YthjejgepdbonpaaWe
namespace Go.Proofs.Ythjejgepdbonpaa
open Go.RowKit

/-- No tile has that key: the error; the log has a note more. -/
def Unloaded (mb lb lc : Nat) (logv : Value) (ts : List TilM) (l : List NoteD) (p q : Int) (w : World) (e : Ending) (w' : World) : Prop :=
  ∃ logv', e = .returned (.tuple #[.agg #[.int .i64 0, .int .i64 0, .int .i64 0, .slice none 0 0], .int .i64 50]) ∧
    MemAt w' mb lb lc logv' ts (l ++ [⟨1, q, p⟩]) ∧ Fr (fun k => k = mb ∨ logv.ownBlock = some k) w w' ∧ AtOr w logv logv'

set_option maxHeartbeats 1600000 in
theorem load_miss (mb lb lc : Nat) (logv : Value) (ts : List TilM) (l : List NoteD) (p q : Int) (w : World) (hM : MemAt w mb lb lc logv ts l) (hm : l.length ≤ 1000000) (ht : ts.length ≤ 1000000)
    (hno : ∀ j (hj : j < ts.length), (ts[j]'(by omega)).is p q = false) :
    Calls Try.prog 53 #[.pointer (some ⟨mb, 0, none⟩), .agg #[.int .i64 p, .int .i64 q]] w (Unloaded mb lb lc logv ts l p q w) := by
  have HNO := Lib.hid hno
  clear hno
  go_enter Try.func53, Try.ntmps53
  go_wp2_with fail
  refine (count_any mb _ logv l ⟨1, q, p⟩ _ ((hM.blk.alloc _).alloc _) ((hM.log.alloc _).alloc _) hm).mono ?_
  rintro e w1 ⟨logv', rfl, h1, h2, h3, h4⟩
  have hM1 : MemAt w1 mb lb lc logv' ts (l ++ [⟨1, q, p⟩]) := ((hM.no (((Fr.refl No w).alloc _).alloc _))).counted h1 h2 h3
  have k0 : Blk w1 w.heap.size 31 [.int .i64 p, .int .i64 q] := ((Blk.new w 31 [.int .i64 p, .int .i64 q]).alloc _).fr h3 (by rintro (h | h); have := hM.blk.lt; omega; have := hM.log.lt h; omega)
  have r0 : Blk w1 (w.heap.size + 1) 43 [.int .i64 0, .int .i64 0, .int .i64 0, .slice none 0 0] := by
    have := Blk.new (w.alloc (.cells #[.int .i64 p, .int .i64 q] 31)) 43 [.int .i64 0, .int .i64 0, .int .i64 0, .slice none 0 0]
    rw [World.size_alloc] at this
    exact this.fr h3 (by rintro (h | h); have := hM.blk.lt; omega; have := hM.log.lt h; omega)
  have hz := h3.size
  simp at hz
  clear h1 h2
  go_wp2
  go_loopw [7] (fun s wr => ∃ k : Nat, k ≤ ts.length ∧ s = .int .i64 k ∧ Fr No w1 wr) (fun s _ => ts.length - (intOf s).toNat)
  case atStart => exact ⟨0, Nat.zero_le _, rfl, Fr.refl _ _⟩
  case round =>
    obtain ⟨k, hk, rfl, hfr⟩ := hrel
    have hMr := hM1.no hfr
    have b0 := hMr.blk.cell (j := 0) rfl
    have k1 := k0.fr hfr (No.no _)
    have k10 := k1.cell (j := 0) rfl
    have k11 := k1.cell (j := 1) rfl
    by_cases hkt : k < ts.length
    · have e0 : wr.cell? ⟨lb, k * 4, none⟩ = some (.int .i64 (ts[k]'hkt).f) := by
        have := hMr.row.cells (g := lb) rfl (k * 4) (.int .i64 (ts[k]'hkt).f) (by simpa [TilM.cells] using tilCells_get ts k hkt 0 (by omega))
        rwa [Addr.add_lit, Nat.zero_add] at this
      have e1 : wr.cell? ⟨lb, k * 4 + 1, none⟩ = some (.int .i64 (ts[k]'hkt).n) := by
        have := hMr.row.cells (g := lb) rfl (k * 4 + 1) (.int .i64 (ts[k]'hkt).n) (by simpa [TilM.cells] using tilCells_get ts k hkt 1 (by omega))
        rwa [Addr.add_lit, Nat.zero_add] at this
      have e2 : wr.cell? ⟨lb, k * 4 + 2, none⟩ = some (.int .i64 (ts[k]'hkt).k) := by
        have := hMr.row.cells (g := lb) rfl (k * 4 + 2) (.int .i64 (ts[k]'hkt).k) (by simpa [TilM.cells] using tilCells_get ts k hkt 2 (by omega))
        rwa [Addr.add_lit, Nat.zero_add] at this
      have e3 : wr.cell? ⟨lb, k * 4 + 3, none⟩ = some (ts[k]'hkt).sl := by
        have := hMr.row.cells (g := lb) rfl (k * 4 + 3) (ts[k]'hkt).sl (by simpa [TilM.cells] using tilCells_get ts k hkt 3 (by omega))
        rwa [Addr.add_lit, Nat.zero_add] at this
      have hx := HNO.out k hkt
      unfold TilM.is at hx
      by_cases hf : ((ts[k]'hkt).f == p) = true
      · have hn : ((ts[k]'hkt).n == q) = false := by rw [hf] at hx; simpa using hx
        clear hx
        go_wp2_with fail
        go_quiet (fail)
        go_wp2
        go_roundw
        case rel => exact ⟨k + 1, by omega, by go_num, hfr.drewN _⟩
        case measure => simp [intOf]; omega
      · have hf' : ((ts[k]'hkt).f == p) = false := by simpa using hf
        clear hf hx
        go_wp2_with fail
        go_quiet (fail)
        go_wp2
        go_roundw
        case rel => exact ⟨k + 1, by omega, by go_num, hfr.drewN _⟩
        case measure => simp [intOf]; omega
    · have r2 := r0.fr hfr (No.no _)
      have r20 := r2.cell (j := 0) rfl
      have r21 := r2.cell (j := 1) rfl
      have r22 := r2.cell (j := 2) rfl
      have r23 := r2.cell (j := 3) rfl
      have r2f := r2.free
      have r2l := r2.lt
      have hz3 := hfr.size
      go_wp2
      refine bodyPost_ret (v := .tuple #[.agg #[.int .i64 0, .int .i64 0, .int .i64 0, .slice none 0 0], .int .i64 50]) (by simp [results, Try.results53, go_sem, r2l, r20, r21, r22, r23]) rfl ?_
      have hall : Fr (fun k => k = mb ∨ logv.ownBlock = some k) w wr := ((((Fr.refl _ w).alloc _).alloc _).trans h3 (fun k hk => .inl hk)).thn hfr
      have hmb := hM.blk.lt
      refine ⟨logv', rfl, ?_, ?_, ?_⟩
      · refine hMr.fr (((((Fr.refl (fun k => k = w.heap.size + 1) wr).setCell (p := ⟨w.heap.size + 1, 0, none⟩) (.inl rfl) _).setCell (p := ⟨w.heap.size + 1, 1, none⟩) (.inl rfl) _).setCell (p := ⟨w.heap.size + 1, 2, none⟩) (.inl rfl) _).setCell (p := ⟨w.heap.size + 1, 3, none⟩) (.inl rfl) _) ?_ ?_ ?_ ?_
        · omega
        · have := hM.row.ltg; omega
        · intro k' hk'
          rcases h4 k' hk' with h | h
          · have := hM.log.lt h; omega
          · simp at h; omega
        · intro t' ht'
          have := (hM.els t' ht').lt (k := t'.g) rfl
          omega
      · exact (((hall.setCell (p := ⟨w.heap.size + 1, 0, none⟩) (.inr (by simp)) _).setCell (p := ⟨w.heap.size + 1, 1, none⟩) (.inr (by simp)) _).setCell (p := ⟨w.heap.size + 1, 2, none⟩) (.inr (by simp)) _).setCell (p := ⟨w.heap.size + 1, 3, none⟩) (.inr (by simp)) _
      · intro k' hk'
        rcases h4 k' hk' with h | h
        · exact .inl h
        · exact .inr (by simp at h; omega)

end Go.Proofs.Ythjejgepdbonpaa
