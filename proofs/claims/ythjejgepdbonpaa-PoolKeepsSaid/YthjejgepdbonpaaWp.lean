/-
  Unpinning a tile, in the plain machine.
-/
import Derived.Test.YthjejgepdbonpaaWn
namespace Go.Proofs.Ythjejgepdbonpaa
open Go.RowKit Go.Shelf

theorem FramesAt.get {w : World} {pb : Nat} {v0 v1 fv : Value} {fs : List Frm} (h : FramesAt w pb v0 v1 fv fs) {i : Nat} (hi : i < fs.length) :
    ∃ g c, fv = .slice (some ⟨g, 0, none⟩) fs.length c ∧ w.cell? ⟨g, i, none⟩ = some (.pointer (some ⟨(fs[i]).b, 0, none⟩)) := by
  rcases h.row.cases with ⟨_, e, _⟩ | ⟨g, c, rfl⟩
  · omega
  · refine ⟨g, c, rfl, ?_⟩
    have := h.row.cells (g := g) rfl i ((fs[i]'hi).ptr) (by simp [hi])
    rwa [Addr.add_lit, Nat.zero_add] at this

set_option maxHeartbeats 1000000 in
theorem pinned_yes (s : St) (p q : Int) (i : Nat) (w : World) (h : PoolAt w s) (hf : s.a.fs.findIdx? (AF.is p q) = some i) (hi : i < s.fs.length) (hp : 0 < (s.fs[i]).pins) :
    Calls Try.prog 28 #[.pointer (some ⟨s.pb, 0, none⟩), .agg #[.int .i64 p, .int .i64 q]] w fun e w' => e = .returned (.tuple #[.pointer (some ⟨(s.fs[i]).b, 0, none⟩), .int .i64 0]) ∧ Fr No w w' := by
  have HF := Lib.hid hf
  clear hf
  have hfr := (Fr.refl No w).alloc (.cells #[.int .i64 p, .int .i64 q] 31)
  have hl := h.fine.len
  have hl2 := h.fine.most2
  have hx0 := (h.F.frm _ (List.getElem_mem hi))
  obtain ⟨g, c, hv, hc⟩ := h.F.get hi
  have hP : Blk w s.pb 64 [.int .i64 s.most, backV s.mb, .slice (some ⟨g, 0, none⟩) s.fs.length c] := by rw [← hv]; exact h.F.blk
  have hgb : g < w.heap.size := World.block_lt_of_cell? w _ hc
  obtain ⟨pp, hpp⟩ : ∃ pp, pp = (s.fs[i]).pins := ⟨_, rfl⟩
  obtain ⟨bb, hbb⟩ : ∃ bb, bb = (s.fs[i]).b := ⟨_, rfl⟩
  have c4 := hx0.blk.cell (j := 4) rfl
  have hbl := hx0.blk.lt
  rw [← hpp] at c4 hp
  rw [← hbb] at c4 hc hbl ⊢
  clear hpp hbb hx0 hv
  go_enter Try.func28, Try.ntmps28
  go_wp2_with (first | (go_at_call 22; refine (none_st s _ (h.no hfr)).mono ?_; rintro e w1 ⟨rfl, rfl⟩) | (go_at_call 23; refine (at_hit s p q i _ (h.no hfr) HF.out).mono ?_; rintro e w1 ⟨rfl, hf1⟩; have hfr1 := hfr.thn hf1; have c40 := (hfr1.cell (p := ⟨bb, 4, none⟩) hbl (No.no _)).trans c4; have hc1 := (hfr1.cell (p := ⟨g, i, none⟩) hgb (No.no _)).trans hc; have hP1 := hP.fr hfr1 (No.no _); have p2 := hP1.cell (j := 2) rfl))
  go_ret2
  exact ⟨rfl, hfr1⟩

set_option maxHeartbeats 1000000 in
theorem pinned_none (s : St) (p q : Int) (w : World) (h : PoolAt w s) (hf : s.a.fs.findIdx? (AF.is p q) = none) :
    Calls Try.prog 28 #[.pointer (some ⟨s.pb, 0, none⟩), .agg #[.int .i64 p, .int .i64 q]] w fun e w' => e = .returned (.tuple #[.pointer none, .int .i64 100]) ∧ Fr No w w' := by
  have HF := Lib.hid hf
  clear hf
  have hfr := (Fr.refl No w).alloc (.cells #[.int .i64 p, .int .i64 q] 31)
  go_enter Try.func28, Try.ntmps28
  go_wp2_with (first | (go_at_call 22; refine (none_st s _ (h.no hfr)).mono ?_; rintro e w1 ⟨rfl, rfl⟩) | (go_at_call 23; refine (at_miss s p q _ (h.no hfr) HF.out).mono ?_; rintro e w1 ⟨rfl, hf1⟩))
  go_ret2
  exact ⟨rfl, hfr.thn hf1⟩

set_option maxHeartbeats 1000000 in
theorem pinned_loose (s : St) (p q : Int) (i : Nat) (w : World) (h : PoolAt w s) (hf : s.a.fs.findIdx? (AF.is p q) = some i) (hi : i < s.fs.length) (hp : ¬ 0 < (s.fs[i]).pins) :
    Calls Try.prog 28 #[.pointer (some ⟨s.pb, 0, none⟩), .agg #[.int .i64 p, .int .i64 q]] w fun e w' => e = .returned (.tuple #[.pointer none, .int .i64 100]) ∧ Fr No w w' := by
  have HF := Lib.hid hf
  clear hf
  have hfr := (Fr.refl No w).alloc (.cells #[.int .i64 p, .int .i64 q] 31)
  have hl := h.fine.len
  have hl2 := h.fine.most2
  have hx0 := (h.F.frm _ (List.getElem_mem hi))
  obtain ⟨g, c, hv, hc⟩ := h.F.get hi
  have hP : Blk w s.pb 64 [.int .i64 s.most, backV s.mb, .slice (some ⟨g, 0, none⟩) s.fs.length c] := by rw [← hv]; exact h.F.blk
  have hgb : g < w.heap.size := World.block_lt_of_cell? w _ hc
  obtain ⟨pp, hpp⟩ : ∃ pp, pp = (s.fs[i]).pins := ⟨_, rfl⟩
  obtain ⟨bb, hbb⟩ : ∃ bb, bb = (s.fs[i]).b := ⟨_, rfl⟩
  have c4 := hx0.blk.cell (j := 4) rfl
  have hbl := hx0.blk.lt
  rw [← hpp] at c4 hp
  rw [← hbb] at c4 hc hbl
  clear hpp hbb hx0 hv
  go_enter Try.func28, Try.ntmps28
  go_wp2_with (first | (go_at_call 22; refine (none_st s _ (h.no hfr)).mono ?_; rintro e w1 ⟨rfl, rfl⟩) | (go_at_call 23; refine (at_hit s p q i _ (h.no hfr) HF.out).mono ?_; rintro e w1 ⟨rfl, hf1⟩; have hfr1 := hfr.thn hf1; have c40 := (hfr1.cell (p := ⟨bb, 4, none⟩) hbl (No.no _)).trans c4; have hc1 := (hfr1.cell (p := ⟨g, i, none⟩) hgb (No.no _)).trans hc; have hP1 := hP.fr hfr1 (No.no _); have p2 := hP1.cell (j := 2) rfl))
  go_ret2
  exact ⟨rfl, hfr1⟩

/-- The frame of a pinned tile, in the machine. -/
def AS.pinned (s : AS) (p q : Int) : Option Nat := match s.fs.findIdx? (AF.is p q) with | some i => (match s.fs[i]? with | some x => if 0 < x.pins then some i else none | none => none) | none => none

theorem pinned_cases (s : St) (p q : Int) : (s.a.pinned p q = none ∧ (s.a.fs.findIdx? (AF.is p q) = none ∨ ∃ i, s.a.fs.findIdx? (AF.is p q) = some i ∧ ∃ hi : i < s.fs.length, ¬ 0 < (s.fs[i]).pins)) ∨
    ∃ i, s.a.pinned p q = some i ∧ s.a.fs.findIdx? (AF.is p q) = some i ∧ ∃ hi : i < s.fs.length, 0 < (s.fs[i]).pins := by
  cases h : s.a.fs.findIdx? (AF.is p q) with
  | none => exact .inl ⟨by simp [AS.pinned, h], .inl rfl⟩
  | some i =>
    have hi := find_lt h
    have e : s.a.fs[i]? = some (s.fs[i]).a := by simp [St.a, hi]
    by_cases hp : 0 < (s.fs[i]).pins
    · exact .inr ⟨i, by simp [AS.pinned, h, e, Frm.a, hp], rfl, hi, hp⟩
    · exact .inl ⟨by simp [AS.pinned, h, e, Frm.a, hp], .inr ⟨i, rfl, hi, hp⟩⟩

theorem pinned_no (s : St) (p q : Int) (w : World) (h : PoolAt w s) (hf : s.a.pinned p q = none) :
    Calls Try.prog 28 #[.pointer (some ⟨s.pb, 0, none⟩), .agg #[.int .i64 p, .int .i64 q]] w fun e w' => e = .returned (.tuple #[.pointer none, .int .i64 100]) ∧ Fr No w w' := by
  rcases pinned_cases s p q with ⟨_, h1 | ⟨i, h1, hi, h2⟩⟩ | ⟨i, h1, _⟩
  · exact pinned_none s p q w h h1
  · exact pinned_loose s p q i w h h1 hi h2
  · rw [hf] at h1; cases h1
theorem pinned_in {s : St} {p q : Int} {i : Nat} (hf : s.a.pinned p q = some i) : s.a.fs.findIdx? (AF.is p q) = some i ∧ ∃ hi : i < s.fs.length, 0 < (s.fs[i]).pins := by
  rcases pinned_cases s p q with ⟨h1, _⟩ | ⟨j, h1, h2, h3⟩
  · rw [hf] at h1; cases h1
  · rw [hf] at h1; cases h1; exact ⟨h2, h3⟩

set_option maxHeartbeats 1000000 in
theorem unpin_no (s : St) (p q : Int) (w : World) (h : PoolAt w s) (hf : s.a.pinned p q = none) :
    Calls Try.prog 12 #[.pointer (some ⟨s.pb, 0, none⟩), .agg #[.int .i64 p, .int .i64 q]] w (Did w s 100 s.a) := by
  have HF := Lib.hid hf
  clear hf
  have hfr := (Fr.refl No w).alloc (.cells #[.int .i64 p, .int .i64 q] 31)
  go_enter Try.func12, Try.ntmps12
  go_wp2_with (go_at_call 28; refine (pinned_no s p q _ (h.no hfr) HF.out).mono ?_; rintro e w1 ⟨rfl, hf1⟩)
  go_ret
  exact ⟨s, rfl, Evo.refl h (hfr.thn hf1), rfl⟩

set_option maxHeartbeats 1000000 in
theorem unpin_yes (s : St) (p q : Int) (i : Nat) (w : World) (h : PoolAt w s) (hf : s.a.pinned p q = some i) (hp : ∀ x ∈ s.fs, -1000000 ≤ x.pins ∧ x.pins ≤ 1000000) :
    Calls Try.prog 12 #[.pointer (some ⟨s.pb, 0, none⟩), .agg #[.int .i64 p, .int .i64 q]] w (Did w s 0 (s.a.bump i (-1))) := by
  obtain ⟨h1, hi, h2⟩ := pinned_in hf
  have HF := Lib.hid h1
  have hb := hp _ (List.getElem_mem hi)
  clear hf hp h1
  have hfr := (Fr.refl No w).alloc (.cells #[.int .i64 p, .int .i64 q] 31)
  have hbx := Blk.new w 31 [.int .i64 p, .int .i64 q]
  go_enter Try.func12, Try.ntmps12
  go_wp2_with (first | (go_at_call 28; refine (pinned_yes s p q i _ (h.no hfr) HF.out hi h2).mono ?_; rintro e w1 ⟨rfl, hf1⟩; have hbx1 := hbx.fr hf1 (No.no _); have b0 := hbx1.cell (j := 0) rfl; have b1 := hbx1.cell (j := 1) rfl) | (go_at_call 23; refine (at_hit s p q i _ ((h.no hfr).no hf1) HF.out).mono ?_; rintro e w2 ⟨rfl, hf2⟩) | (go_at_call 24; refine (used_st s i hi _ (((h.no hfr).no hf1).no hf2)).mono ?_; rintro e w3 ⟨fv', rfl, he⟩; have hl := he.pool.F.frm (s.fs[i]) (by simp); have c4 := hl.blk.cell (j := 4) rfl; have hlt := hl.blk.lt; have hff := hl.blk.free))
  go_ret
  obtain ⟨s', h1, h2⟩ := bump_evo hi he (-1) rfl
  exact ⟨s', rfl, ((h1.pre hf2).pre hf1).pre hfr, h2⟩

end Go.Proofs.Ythjejgepdbonpaa
