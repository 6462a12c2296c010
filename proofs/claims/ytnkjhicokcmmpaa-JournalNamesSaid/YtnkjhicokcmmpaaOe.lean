/-
  The reader of bytes: numbers, raw bytes, a new reader.
-/
import Derived.Test.YtnkjhicokcmmpaaOd
namespace Go.Proofs.Ytnkjhicokcmmpaa
open Go.RowKit Go.Shelf
attribute [local go_sem] Oper.semAt_some

theorem rnone_no (rb pos : Nat) (v : Value) (bs : List UInt8) (w : World) (h : RdAt w rb v bs pos) :
    Calls Try.prog 107 #[.pointer (some ⟨rb, 0, none⟩)] w fun e w' => e = .returned (.bool false) ∧ w = w' := by
  have r2 := h.blk.cell (j := 2) rfl
  go_enter Try.func107, Try.ntmps107
  go_wp2
  go_ret
  exact ⟨rfl, rfl⟩

theorem rleft_any (rb pos : Nat) (v : Value) (bs : List UInt8) (hpos : pos ≤ bs.length) (hl : bs.length ≤ 1000000) (w : World) (h : RdAt w rb v bs pos) :
    Calls Try.prog 108 #[.pointer (some ⟨rb, 0, none⟩)] w fun e w' => e = .returned (.int .i64 ((bs.length - pos : Nat) : Int)) ∧ Fr No w w' := by
  have r0 := h.blk.cell (j := 0) rfl
  have r1 := h.blk.cell (j := 1) rfl
  obtain ⟨a, c, rfl⟩ := own_slice h.own
  have hw : IntKind.i64.wrap ((bs.length : Int) - (pos : Int)) = ((bs.length - pos : Nat) : Int) := by rw [IntKind.wrap_i64]; omega
  have hrl := h.blk.lt
  go_enter Try.func108, Try.ntmps108
  go_wp2_with (go_at_call 107; refine (rnone_no rb pos _ bs _ h).mono ?_; rintro e w1 ⟨rfl, rfl⟩)
  go_quiet (fail)
  go_wp2
  go_ret
  exact ⟨rfl, (Fr.refl No w).drewN _⟩

/-- A reader's place has moved. -/
theorem RdAt.moved {w : World} {rb pos : Nat} {v : Value} {bs : List UInt8} (h : RdAt w rb v bs pos) (q : Nat) : RdAt (w.setCell ⟨rb, 1, none⟩ (.int .i64 q)) rb v bs q :=
  ⟨h.blk.set 1 _, h.own.other (fun e => h.ne _ e rfl) _⟩

set_option maxHeartbeats 1000000 in
theorem rnum_yes (rb pos size : Nat) (v : Value) (bs : List UInt8) (hpos : pos + size ≤ bs.length) (hl : bs.length ≤ 1000000) (hs : size = 1 ∨ size = 2 ∨ size = 4 ∨ size = 8) (w : World) (h : RdAt w rb v bs pos) :
    Calls Try.prog 73 #[.pointer (some ⟨rb, 0, none⟩), .int .i64 size] w fun e w' => e = .returned (.tuple #[.int .u64 (wh ((bs.drop pos).take size) : Nat), .int .i64 0]) ∧ RdAt w' rb v bs (pos + size) ∧ Fr (fun k => k = rb) w w' := by
  have hd : decide (pos + size ≤ bs.length) = true := decide_eq_true hpos
  have hw : IntKind.i64.wrap ((pos : Int) + (size : Int)) = ((pos + size : Nat) : Int) := by rw [IntKind.wrap_i64]; omega
  have HP := Lib.hid hpos
  clear hpos
  go_enter Try.func73, Try.ntmps73
  go_wp2_with (first | (go_at_call 107; refine (rnone_no rb pos _ bs _ h).mono ?_; rintro e w1 ⟨rfl, rfl⟩) | (go_at_call 103; refine (sized_yes _ hs _).mono ?_; rintro e w1 ⟨rfl, rfl⟩) | (go_at_call 109; refine (number_any rb pos size v bs (by have := HP.out; omega) hl (by omega) (by omega) _ h).mono ?_; rintro e w1 ⟨⟨x, rfl, hx⟩, hf1⟩; rw [hd]; have h1 := h.no hf1; have r1 := h1.blk.cell (j := 1) rfl; have rl := h1.blk.lt; have rf := h1.blk.free))
  go_ret2
  exact ⟨by rw [hx HP.out]; rfl, h1.moved (pos + size), (hf1.no_any (S := fun k => k = rb)).setCell (p := ⟨rb, 1, none⟩) (.inl rfl) _⟩

set_option maxHeartbeats 1000000 in
theorem rnum_no (rb pos size : Nat) (v : Value) (bs : List UInt8) (hpos : pos ≤ bs.length) (hno : ¬ pos + size ≤ bs.length) (hl : bs.length ≤ 1000000) (hs : size = 1 ∨ size = 2 ∨ size = 4 ∨ size = 8) (w : World) (h : RdAt w rb v bs pos) :
    Calls Try.prog 73 #[.pointer (some ⟨rb, 0, none⟩), .int .i64 size] w fun e w' => e = .returned (.tuple #[.int .u64 0, .int .i64 10]) ∧ Fr No w w' := by
  have hd : decide (pos + size ≤ bs.length) = false := decide_eq_false hno
  have HN := Lib.hid hno
  clear hno
  go_enter Try.func73, Try.ntmps73
  go_wp2_with (first | (go_at_call 107; refine (rnone_no rb pos _ bs _ h).mono ?_; rintro e w1 ⟨rfl, rfl⟩) | (go_at_call 103; refine (sized_yes _ hs _).mono ?_; rintro e w1 ⟨rfl, rfl⟩) | (go_at_call 109; refine (number_any rb pos size v bs hpos hl (by omega) (by omega) _ h).mono ?_; rintro e w1 ⟨⟨x, rfl, hx⟩, hf1⟩; rw [hd]))
  go_ret2
  exact ⟨rfl, hf1⟩

set_option maxHeartbeats 1000000 in
theorem rraw_yes (rb pos n : Nat) (v : Value) (bs : List UInt8) (hpos : pos + n ≤ bs.length) (hl : bs.length ≤ 1000000) (w : World) (h : RdAt w rb v bs pos) :
    Calls Try.prog 72 #[.pointer (some ⟨rb, 0, none⟩), .int .i64 n] w fun e w' => ∃ v', e = .returned (.tuple #[v', .int .i64 0]) ∧ Own w' 5 1 v' n (((bs.drop pos).take n).map byt) ∧ (∀ k, v'.ownBlock = some k → w.heap.size ≤ k) ∧ RdAt w' rb v bs (pos + n) ∧ Fr (fun k => k = rb) w w' := by
  have hw : IntKind.i64.wrap ((pos : Int) + (n : Int)) = ((pos + n : Nat) : Int) := by rw [IntKind.wrap_i64]; omega
  have hgt : decide (bs.length - pos < n) = false := by simp; omega
  obtain ⟨a, c, rfl, hwin⟩ := Win.of_own h.own
  have hcap := hwin.cap
  have hmax := hwin.max
  unfold maxLen at hmax
  have hp0 : pos ≤ bs.length := by omega
  have hwd := (hwin.drop hp0).take (k := n) (by omega)
  rw [← List.map_drop, ← List.map_take] at hwd
  obtain ⟨a', ha'⟩ : ∃ a', a' = (if c = pos then a else Option.map (fun x => x.add pos) a) := ⟨_, rfl⟩
  have HA := Lib.hid ha'
  have hwd : Win w a' n (c - pos) (((bs.drop pos).take n).map byt) := by rw [ha']; exact hwd
  have HW := Lib.hid hwd
  have hle1 : (pos : Int) ≤ ((pos + n : Nat) : Int) := by omega
  have hle2 : ((pos + n : Nat) : Int) ≤ (c : Int) := by omega
  have hsub : pos + n - pos = n := by omega
  have r0 := h.blk.cell (j := 0) rfl
  have r1 := h.blk.cell (j := 1) rfl
  have rl := h.blk.lt
  have rf := h.blk.free
  have HH := Lib.hid h
  have hnl : n ≤ 1000000 := by omega
  clear hwd ha' hwin hpos h
  go_enter Try.func72, Try.ntmps72
  go_wp2_with (first | (go_at_call 107; refine (rnone_no rb pos _ bs _ HH.out).mono ?_; rintro e w1 ⟨rfl, rfl⟩) | (go_at_call 108; refine (rleft_any rb pos _ bs hp0 hl _ HH.out).mono ?_; rintro e w1 ⟨rfl, hf1⟩; have h1 := HH.out.no hf1; have s0 := h1.blk.cell (j := 0) rfl; have s1 := h1.blk.cell (j := 1) rfl; have sl := h1.blk.lt; have sf := h1.blk.free))
  go_quiet (fail)
  rw [← HA.out]
  rename Nat => nq
  obtain ⟨w2, hw2⟩ : ∃ w2, w2 = w1.drewN nq := ⟨_, rfl⟩
  rw [← hw2]
  have hf2 : Fr No w w2 := by rw [hw2]; exact hf1.drewN _
  clear hw2 h1 s0 s1 sl sf
  have h2 := HH.out.no hf2
  have s0 := h2.blk.cell (j := 0) rfl
  have s1 := h2.blk.cell (j := 1) rfl
  have sl := h2.blk.lt
  have sf := h2.blk.free
  have hf3 : Fr (fun k => k = rb) w (w2.setCell ⟨rb, 1, none⟩ (.int .i64 ((pos + n : Nat) : Int))) := (hf2.no_any (S := fun k => k = rb)).setCell (p := ⟨rb, 1, none⟩) (.inl rfl) _
  have hb' : ∀ ad, a' = some ad → ad.block ≠ rb := by
    intro ad hd
    rw [HA.out] at hd
    split at hd
    · exact HH.out.ne ad.block (by rw [hd]; rfl)
    · cases a with
      | none => cases hd
      | some ad0 => cases hd; rw [add_block]; exact HH.out.ne ad0.block rfl
  go_wp2_with (go_at_call 89; refine (cloneB_any a' n (c - pos) ((bs.drop pos).take n) _ ?_ hnl).mono ?_; exact HW.out.fr hf3 hb'; rintro e w3 ⟨v3, rfl, hc3⟩)
  go_ret2
  exact ⟨v3, rfl, hc3.own, fun k hk => Nat.le_trans hf3.size (hc3.new k hk), (h2.moved (pos + n)).no hc3.fr, hf3.thn hc3.fr⟩

set_option maxHeartbeats 1000000 in
theorem rraw_no (rb pos n : Nat) (v : Value) (bs : List UInt8) (hpos : pos ≤ bs.length) (hno : ¬ pos + n ≤ bs.length) (hl : bs.length ≤ 1000000) (w : World) (h : RdAt w rb v bs pos) :
    Calls Try.prog 72 #[.pointer (some ⟨rb, 0, none⟩), .int .i64 n] w fun e w' => e = .returned (.tuple #[.slice none 0 0, .int .i64 10]) ∧ Fr No w w' := by
  have hgt : decide (bs.length - pos < n) = true := by simp; omega
  have HH := Lib.hid h
  clear h
  go_enter Try.func72, Try.ntmps72
  go_wp2_with (first | (go_at_call 107; refine (rnone_no rb pos _ bs _ HH.out).mono ?_; rintro e w1 ⟨rfl, rfl⟩) | (go_at_call 108; refine (rleft_any rb pos _ bs hpos hl _ HH.out).mono ?_; rintro e w1 ⟨rfl, hf1⟩))
  go_ret2
  exact ⟨rfl, hf1⟩

set_option maxHeartbeats 1000000 in
/-- A new reader. -/
theorem read_any (a : Option Addr) (n c : Nat) (bs : List UInt8) (w : World) (h : Win w a n c (bs.map byt)) (hb : n ≤ 1000000) :
    Calls Try.prog 71 #[.slice a n c] w fun e w' => ∃ rb v, e = .returned (.pointer (some ⟨rb, 0, none⟩)) ∧ RdAt w' rb v bs 0 ∧ w.heap.size ≤ rb ∧ (∀ k, v.ownBlock = some k → w.heap.size ≤ k) ∧ Fr No w w' := by
  have hl : bs.length = n := by have := h.len; simpa using this
  have HL := Lib.hid hl
  clear hl
  go_enter Try.func71, Try.ntmps71
  go_wp2_with (go_at_call 89; refine (cloneB_any a n c bs _ ?_ hb).mono ?_; exact h; rintro e w1 ⟨v1, rfl, hc⟩; obtain ⟨a1, c1, rfl⟩ := own_slice hc.own)
  go_ret
  have hf := hc.fr.thn ((Fr.refl No w1).alloc (.cells #[.slice a1 n c1, .int .i64 0, .bool true] 149))
  refine ⟨w1.heap.size, _, rfl, ⟨Blk.new w1 _ _, ?_⟩, hc.fr.size, hc.new, hf⟩
  rw [HL.out]
  exact hc.own.alloc _

end Go.Proofs.Ytnkjhicokcmmpaa
