/-
  What storing a tile in the memory comes to.
-/
import Derived.Test.YthjejgepdbonpaaWf
namespace Go.Proofs.Ythjejgepdbonpaa
open Go.RowKit

/-- What a store comes to: tile i's elements lie in new memory; the log has a note more. -/
def Stored (mb lb lc : Nat) (logv : Value) (ts : List TilM) (l : List NoteD) (i : Nat) (t : TilM) (w : World) (e : Ending) (w' : World) : Prop :=
  ∃ logv' g c, e = .returned (.int .i64 0) ∧ MemAt w' mb lb lc logv' (ts.set i { t with g := g, c := c }) (l ++ [⟨3, t.n, t.f⟩]) ∧
    w.heap.size ≤ g ∧ Fr (fun k => k = mb ∨ k = lb ∨ logv.ownBlock = some k) w w' ∧ AtOr w logv logv'

theorem tilCells_set (l : List TilM) (t : TilM) : ∀ (i : Nat), i < l.length → tilCells (l.set i t) = ((((tilCells l).set (i * 4) (.int .i64 t.f)).set (i * 4 + 1) (.int .i64 t.n)).set (i * 4 + 2) (.int .i64 t.k)).set (i * 4 + 3) t.sl := by
  induction l with
  | nil => intro i hi; simp at hi
  | cons u l ih =>
    intro i hi
    have e : ∀ u l, tilCells (u :: l) = u.cells ++ tilCells l := fun _ _ => rfl
    cases i with
    | zero => simp [e, TilM.cells]
    | succ i =>
      have h := ih i (by simpa using hi)
      rw [List.set_cons_succ, e, e, h]
      have hc : u.cells.length = 4 := rfl
      rw [List.set_append_right _ _ (by omega), List.set_append_right _ _ (by omega), List.set_append_right _ _ (by omega), List.set_append_right _ _ (by omega), hc]
      congr 1
      simp only [show (i + 1) * 4 - 4 = i * 4 by omega, show (i + 1) * 4 + 1 - 4 = i * 4 + 1 by omega, show (i + 1) * 4 + 2 - 4 = i * 4 + 2 by omega, show (i + 1) * 4 + 3 - 4 = i * 4 + 3 by omega]

theorem tile_cell {w : World} {mb lb lc : Nat} {logv : Value} {ts : List TilM} {l : List NoteD} (hM : MemAt w mb lb lc logv ts l) {i : Nat} (hi : i < ts.length) {r : Nat} {v : Value} (hr : (ts[i]'hi).cells[r]? = some v) : w.cell? ⟨lb, i * 4 + r, none⟩ = some v := by
  have h4 : r < 4 := (List.getElem?_eq_some_iff.1 hr).1
  have := hM.row.cells (g := lb) rfl (i * 4 + r) v (by rw [tilCells_get ts i hi r h4]; exact hr)
  rwa [Addr.add_lit, Nat.zero_add] at this

theorem stored_end {w2 : World} {mb lb lc g' c' : Nat} {logv' : Value} {ts : List TilM} {l' : List NoteD} (t : TilM) {k : Nat} (hk : k < ts.length) (hM2 : MemAt w2 mb lb lc logv' ts l')
    (o2 : Own w2 2 1 (.slice (some ⟨g', 0, none⟩) t.el.length c') t.el.length (t.el.map (Value.int .i64))) :
    MemAt ((((w2.setCell ⟨lb, k * 4, none⟩ (.int .i64 t.f)).setCell ⟨lb, k * 4 + 1, none⟩ (.int .i64 t.n)).setCell ⟨lb, k * 4 + 2, none⟩ (.int .i64 t.k)).setCell ⟨lb, k * 4 + 3, none⟩ (.slice (some ⟨g', 0, none⟩) t.el.length c'))
      mb lb lc logv' (ts.set k { t with g := g', c := c' }) l' := by
  obtain ⟨sp, hBl, h1, h2, h3, h4⟩ := hM2.row.blk
  have hfr : Fr (fun k => k = lb) w2 ((((w2.setCell ⟨lb, k * 4, none⟩ (.int .i64 t.f)).setCell ⟨lb, k * 4 + 1, none⟩ (.int .i64 t.n)).setCell ⟨lb, k * 4 + 2, none⟩ (.int .i64 t.k)).setCell ⟨lb, k * 4 + 3, none⟩ (.slice (some ⟨g', 0, none⟩) t.el.length c')) :=
    ((((Fr.refl (fun k => k = lb) w2).setCell (p := ⟨lb, k * 4, none⟩) (.inl rfl) _).setCell (p := ⟨lb, k * 4 + 1, none⟩) (.inl rfl) _).setCell (p := ⟨lb, k * 4 + 2, none⟩) (.inl rfl) _).setCell (p := ⟨lb, k * 4 + 3, none⟩) (.inl rfl) _
  have hB := (((hBl.set (k * 4) (.int .i64 t.f)).set (k * 4 + 1) (.int .i64 t.n)).set (k * 4 + 2) (.int .i64 t.k)).set (k * 4 + 3) (.slice (some ⟨g', 0, none⟩) t.el.length c')
  have hl := tilCells_length ts
  rw [List.set_append_left _ _ (by omega), List.set_append_left _ _ (by simp; omega), List.set_append_left _ _ (by simp; omega), List.set_append_left _ _ (by simp; omega)] at hB
  have e := tilCells_set ts { t with g := g', c := c' } k hk
  refine ⟨?_, ?_, hM2.log.fr hfr (fun k' hk' e' => by subst e'; exact hBl.neOwn hM2.log (by decide) _ hk' rfl), ?_⟩
  · rw [List.length_set]; exact hM2.blk.fr hfr (hM2.blk.ne hBl (by decide))
  · rw [List.length_set, e]
    refine Own.of_blk hB (by simp; omega) ?_ h3 h4
    simp at h2 ⊢
    omega
  · intro u hu
    rcases List.mem_or_eq_of_mem_set hu with hu | rfl
    · exact (hM2.els u hu).fr hfr (fun k' hk' e' => by subst e'; exact hBl.neOwn (hM2.els u hu) (by decide) _ hk' rfl)
    · exact o2.fr hfr (fun k' hk' e' => by subst e'; exact hBl.neOwn o2 (by decide) _ hk' rfl)

set_option maxHeartbeats 1600000 in
theorem store_hit (mb lb lc : Nat) (logv : Value) (ts : List TilM) (l : List NoteD) (t : TilM) (i : Nat) (hi : i < ts.length) (w : World) (hM : MemAt w mb lb lc logv ts l) (hm : l.length ≤ 1000000) (ht : ts.length ≤ 1000000)
    (hno : ∀ j (hj : j < i), (ts[j]'(by omega)).is t.f t.n = false) (hhit : ts[i].is t.f t.n = true) (ho : Own w 2 1 t.sl t.el.length (t.el.map (Value.int .i64))) (hel : 0 < t.el.length ∧ t.el.length ≤ 1000000) :
    Calls Try.prog 55 #[.pointer (some ⟨mb, 0, none⟩), .agg #[.int .i64 t.f, .int .i64 t.n, .int .i64 t.k, .slice (some ⟨t.g, 0, none⟩) t.el.length t.c]] w (Stored mb lb lc logv ts l i t w) := by
  have HNO := Lib.hid hno
  have HH := Lib.hid hhit
  clear hno hhit
  obtain ⟨tf, tn, tk, tg, tc, tel⟩ := t
  simp only [TilM.sl] at ho HH HNO hel ⊢
  go_enter Try.func55, Try.ntmps55
  go_wp2_with fail
  refine (count_any mb _ logv l ⟨3, tn, tf⟩ _ (hM.blk.alloc _) (hM.log.alloc _) hm).mono ?_
  rintro e w1 ⟨logv', rfl, h1, h2, h3, h4⟩
  have hM1 : MemAt w1 mb lb lc logv' ts (l ++ [⟨3, tn, tf⟩]) := ((hM.no ((Fr.refl No w).alloc _))).counted h1 h2 h3
  have k0 : Blk w1 w.heap.size 43 [.int .i64 tf, .int .i64 tn, .int .i64 tk, .slice (some ⟨tg, 0, none⟩) tel.length tc] := (Blk.new w 43 _).fr h3 (by rintro (h | h); have := hM.blk.lt; omega; have := hM.log.lt h; omega)
  have ho1 : Own w1 2 1 (.slice (some ⟨tg, 0, none⟩) tel.length tc) tel.length (tel.map (Value.int .i64)) := (ho.alloc _).fr h3 (by
    rintro k hk (rfl | h')
    · exact hM.blk.neOwn ho (by decide) _ hk rfl
    · exact ho.neOwn hM.log (by decide) _ hk h')
  have hz := h3.size
  simp at hz
  clear h1 h2
  go_wp2
  go_loopw [6] (fun s wr => ∃ k : Nat, k ≤ i ∧ s = .int .i64 k ∧ Fr No w1 wr) (fun s _ => ts.length - (intOf s).toNat)
  case atStart => exact ⟨0, Nat.zero_le _, rfl, Fr.refl _ _⟩
  case round =>
    obtain ⟨k, hk, rfl, hfr⟩ := hrel
    have hMr := hM1.no hfr
    have hkt : k < ts.length := by omega
    have b0 := hMr.blk.cell (j := 0) rfl
    have e0 : wr.cell? ⟨lb, k * 4, none⟩ = some (.int .i64 (ts[k]'hkt).f) := by
      have := hMr.row.cells (g := lb) rfl (k * 4) (.int .i64 (ts[k]'hkt).f) (by simpa [TilM.cells] using tilCells_get ts k hkt 0 (by omega))
      rwa [Addr.add_lit, Nat.zero_add] at this
    have e1 : wr.cell? ⟨lb, k * 4 + 1, none⟩ = some (.int .i64 (ts[k]'hkt).n) := by
      have := hMr.row.cells (g := lb) rfl (k * 4 + 1) (.int .i64 (ts[k]'hkt).n) (by simpa [TilM.cells] using tilCells_get ts k hkt 1 (by omega))
      rwa [Addr.add_lit, Nat.zero_add] at this
    have k1 := k0.fr hfr (No.no _)
    have k10 := k1.cell (j := 0) rfl
    have k11 := k1.cell (j := 1) rfl
    by_cases hki : k < i
    · have hx := HNO.out k hki
      unfold TilM.is at hx
      by_cases hf : ((ts[k]'hkt).f == tf) = true
      · have hn : ((ts[k]'hkt).n == tn) = false := by rw [hf] at hx; simpa using hx
        clear hx
        go_wp2_with fail
        go_quiet (fail)
        go_wp2
        go_roundw
        case rel => exact ⟨k + 1, by omega, by go_num, hfr.drewN _⟩
        case measure => simp [intOf]; omega
      · have hf' : ((ts[k]'hkt).f == tf) = false := by simpa using hf
        clear hf hx
        go_wp2_with fail
        go_quiet (fail)
        go_wp2
        go_roundw
        case rel => exact ⟨k + 1, by omega, by go_num, hfr.drewN _⟩
        case measure => simp [intOf]; omega
    · obtain rfl : k = i := by omega
      have hx := HH.out
      unfold TilM.is at hx
      have hf : ((ts[k]'hkt).f == tf) = true := by simp at hx ⊢; exact hx.1
      have hn : ((ts[k]'hkt).n == tn) = true := by simp at hx ⊢; exact hx.2
      clear hx
      have k12 := k1.cell (j := 2) rfl
      have k13 := k1.cell (j := 3) rfl
      have ho2 := ho1.fr hfr (fun _ _ => No.no _)
      have HM := Lib.hid hMr
      go_wp2_with fail
      go_quiet (fail)
      go_wp2_with fail
      go_region_with (go_at_call 57; refine (rtwin_some tf tn tk tg tel.length tc tel _ ?_ ?_ ?_).mono ?_; exact ho2.drewN _; omega; exact hel.1; rintro e w2 ⟨g', c', rfl, o2, hg2, hf2⟩; have hM2 := (HM.out.no ((Fr.refl No _).drewN (nq + 1))).no hf2; have b2 := hM2.blk.cell (j := 0) rfl; obtain ⟨sp, hBl, hBr⟩ := hM2.row.blk; have HBR := Lib.hid hBr; clear hBr; have hbf := hBl.free; have hbl := hBl.lt; have q0 := tile_cell hM2 hkt (r := 0) rfl; rw [Nat.add_zero] at q0; have q1 := tile_cell hM2 hkt (r := 1) rfl; have q2 := tile_cell hM2 hkt (r := 2) rfl; have q3 := tile_cell hM2 hkt (r := 3) rfl)
      all_goals go_wp2
      all_goals go_ret
      all_goals
        have hz3 := hfr.size
        have hz4 : (wr.drewN (nq + 1)).heap.size = wr.heap.size := rfl
        have hlb := hM.row.ltg
        refine ⟨logv', g', c', rfl, stored_end ⟨tf, tn, tk, tg, tc, tel⟩ hkt hM2 o2, by omega, ?_, ?_⟩
        · exact (((((((((Fr.refl (fun k => k = mb ∨ k = lb ∨ logv.ownBlock = some k) w).alloc _).trans h3 (fun k hk => .inl (hk.elim .inl (fun h => .inr (.inr h))))).thn hfr).drewN (nq + 1)).thn hf2).setCell (p := ⟨lb, _, none⟩) (.inl (.inr (.inl rfl))) _).setCell (p := ⟨lb, _, none⟩) (.inl (.inr (.inl rfl))) _).setCell (p := ⟨lb, _, none⟩) (.inl (.inr (.inl rfl))) _).setCell (p := ⟨lb, _, none⟩) (.inl (.inr (.inl rfl))) _
        · intro k' hk'
          rcases h4 k' hk' with h | h
          · exact .inl h
          · exact .inr (by simp at h; omega)

end Go.Proofs.Ythjejgepdbonpaa
