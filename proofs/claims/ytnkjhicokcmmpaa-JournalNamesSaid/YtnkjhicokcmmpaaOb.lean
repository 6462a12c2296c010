/-
  The writer of bytes: raw bytes, how many there are, what they are; copies of bytes.
-/
import Derived.Test.YtnkjhicokcmmpaaOa
namespace Go.Proofs.Ytnkjhicokcmmpaa
open Go.RowKit

theorem Try.eqU8 (w : World) (a : Option Addr) (n c n' c' : Nat) : (binOp .eql 26 (.slice a n c) (.slice none n' c')).run Try.prog w = .ok (.bool a.isNone) w :=
  Lib.run_eql_slice_nil w 26 5 a n c n' c' Try.underlying26

set_option maxRecDepth 100000 in
set_option maxHeartbeats 400000 in
theorem cloneB_any (a : Option Addr) (n c : Nat) (bs : List UInt8) (w : World) (h : Win w a n c (bs.map byt)) (hb : n ≤ 1000000) :
    Calls Try.prog 89 #[.slice a n c] w fun e w' => ∃ v, e = .returned v ∧ IsClone 5 w a n (bs.map byt) v w' := by
  have hnil := Try.eqU8
  obtain ⟨i0, hi, hz0, hz1, hz2⟩ := info_parts Try.infoU8
  cases a with
  | none =>
    obtain ⟨rfl, rfl, hx⟩ := h.nil_inv
    rw [hx]
    clear hx
    go_enter Try.func89, Try.ntmps89
    go_wp2
    go_ret
    exact ⟨_, rfl, World.ownsRow_nil _ _ _ _, fun k hk => by simp [Value.ownBlock] at hk, by simp, Fr.refl _ _⟩
  | some ad =>
    have hm : Hid (Own (w.alloc (.cells #[] 5)) 5 1 (.slice (some ⟨w.heap.size, 0, none⟩) 0 0) 0 []) := Own.weak (World.ownsRow_made w #[] 0 (Nat.le_refl _) (Nat.zero_le _) rfl)
    have hw : Hid (Win (w.alloc (.cells #[] 5)) (some ad) n c (bs.map byt)) := h.no ((Fr.refl No w).alloc _)
    have HK : Hid (∀ u ∈ bs.map byt, u.oneCell' = true) := byt_one bs
    have hm1 : 0 + n ≤ maxLen := by unfold maxLen; omega
    have hm2 : (0 + n) * 1 ≤ 140737488355328 := by omega
    go_enter Try.func89, Try.ntmps89
    go_wp2_with (at_builtin; refine wpList_appW _ rfl (.tmp 5) (.tmp 6) 26 rfl 5 i0 (.int .u8 0) 1 Try.underlying26 hi hz0 hz1 hz2 rfl (.slice (some ⟨w.heap.size, 0, none⟩) 0 0) 0 [] rfl hm.out (some ad) n c (bs.map byt) rfl hw.out HK.out hm1 hm2 ?_; intro v' w' hap)
    go_ret
    have ho := hap.own
    rw [Nat.zero_add, List.nil_append] at ho
    refine ⟨v', rfl, ho, fun k hk => ?_, ?_, ((Fr.refl No w).alloc _).trans hap.fr (fun k hk => .inr ?_)⟩
    · rcases hap.blk with e | ⟨k', e, hk'⟩
      · rw [e] at hk
        simp [Value.ownBlock] at hk
        omega
      · rw [e] at hk
        cases hk
        simp at hk'
        omega
    · rw [hap.isNil]; simp
    · simp [Value.ownBlock] at hk; omega

set_option maxRecDepth 100000 in
set_option maxHeartbeats 400000 in
/-- The document's copy of bytes: nil of nothing. -/
theorem twin_any (a : Option Addr) (n c : Nat) (bs : List UInt8) (w : World) (h : Win w a n c (bs.map byt)) (hb : n ≤ 1000000) :
    Calls Try.prog 17 #[.slice a n c] w fun e w' => ∃ v, e = .returned v ∧ Own w' 5 1 v n (bs.map byt) ∧ (∀ k, v.ownBlock = some k → w.heap.size ≤ k) ∧ (v = .slice none 0 0 ↔ n = 0) ∧ Fr No w w' := by
  obtain ⟨i0, hi, hz0, hz1, hz2⟩ := info_parts Try.infoU8
  have hw := Lib.hid h
  have HK : Hid (∀ u ∈ bs.map byt, u.oneCell' = true) := byt_one bs
  have hm1 : 0 + n ≤ maxLen := by unfold maxLen; omega
  have hm2 : (0 + n) * 1 ≤ 140737488355328 := by omega
  have hm : Hid (Own w 5 1 (.slice none 0 0) 0 []) := World.ownsRow_nil _ _ _ _
  clear h
  go_enter Try.func17, Try.ntmps17
  go_wp2_with (at_builtin; refine wpList_appW _ rfl (.tmp 4) (.tmp 5) 26 rfl 5 i0 (.int .u8 0) 1 Try.underlying26 hi hz0 hz1 hz2 rfl (.slice none 0 0) 0 [] rfl hm.out a n c (bs.map byt) rfl hw.out HK.out hm1 hm2 ?_; intro v' w' hap)
  go_ret
  have ho := hap.own
  rw [Nat.zero_add, List.nil_append] at ho
  refine ⟨v', rfl, ho, fun k hk => ?_, ?_, (Fr.refl No w).trans hap.fr (fun k hk => ?_)⟩
  · rcases hap.blk with e | ⟨k', e, hk'⟩
    · rw [e] at hk
      simp [Value.ownBlock] at hk
    · rw [e] at hk
      cases hk
      exact hk'
  · rw [hap.isNil]; simp
  · simp [Value.ownBlock] at hk

set_option maxRecDepth 100000 in
set_option maxHeartbeats 400000 in
theorem wraw_any (b : Nat) (v : Value) (bs cs : List UInt8) (a : Option Addr) (n c : Nat) (hl : bs.length + n ≤ 1000000) (w : World) (h : WrAt w b v bs) (hw : Win w a n c (cs.map byt)) :
    Calls Try.prog 64 #[.pointer (some ⟨b, 0, none⟩), .slice a n c] w fun e w' => ∃ v', e = .returned (.int .i64 0) ∧ WrAt w' b v' (bs ++ cs) ∧ Fr (fun k => k = b ∨ v.ownBlock = some k) w w' ∧ AtOr w v v' := by
  obtain ⟨i0, hi, hz0, hz1, hz2⟩ := info_parts Try.infoU8
  have hB := h.blk
  have c0 := hB.cell (j := 0) rfl
  have hBl := hB.lt
  have hBf := hB.free
  have HW := Lib.hid hw
  have HO := Lib.hid h.own
  have HK : Hid (∀ u ∈ cs.map byt, u.oneCell' = true) := byt_one cs
  have hm1 : bs.length + n ≤ maxLen := by unfold maxLen; omega
  have hm2 : (bs.length + n) * 1 ≤ 140737488355328 := by omega
  have hcl : cs.length = n := by have := hw.len; simpa using this
  have HCL := Lib.hid hcl
  have HH := Lib.hid h
  clear hw hcl h
  go_enter Try.func64, Try.ntmps64
  go_wp2_with (at_builtin; refine wpList_appW _ rfl (.tmp 11) (.tmp 12) 26 rfl 5 i0 (.int .u8 0) 1 Try.underlying26 hi hz0 hz1 hz2 rfl v _ _ rfl HO.out a n c (cs.map byt) rfl HW.out HK.out hm1 hm2 ?_; intro v2 w2 hap; obtain ⟨a2, c2, rfl⟩ := app_slice hap; have hB2 := app_keep hap (w0 := w) (Fr.refl No w) hB HH.out.ne; have d0 := hB2.cell (j := 0) rfl; have dl := hB2.lt; have df := hB2.free)
  go_ret
  have hfin := HH.out.app (Fr.refl No w) hap HCL.out
  exact ⟨_, rfl, hfin.1, hfin.2.1, hfin.2.2⟩

set_option maxRecDepth 100000 in
set_option maxHeartbeats 400000 in
theorem wlen_any (b : Nat) (v : Value) (bs : List UInt8) (w : World) (h : WrAt w b v bs) :
    Calls Try.prog 66 #[.pointer (some ⟨b, 0, none⟩)] w fun e w' => e = .returned (.int .i64 (bs.length : Nat)) ∧ w = w' := by
  have hB := h.blk
  have c0 := hB.cell (j := 0) rfl
  have hBl := hB.lt
  obtain ⟨a, c, rfl⟩ := own_slice h.own
  clear h hB
  go_enter Try.func66, Try.ntmps66
  go_wp2
  go_ret
  exact ⟨rfl, rfl⟩

set_option maxRecDepth 100000 in
set_option maxHeartbeats 400000 in
theorem wbytes_any (b : Nat) (v : Value) (bs : List UInt8) (w : World) (h : WrAt w b v bs) (hl : bs.length ≤ 1000000) :
    Calls Try.prog 68 #[.pointer (some ⟨b, 0, none⟩)] w fun e w' => ∃ v', e = .returned v' ∧ Own w' 5 1 v' bs.length (bs.map byt) ∧ (∀ k, v'.ownBlock = some k → w.heap.size ≤ k) ∧ (v' = .slice none 0 0 ↔ v = .slice none 0 0) ∧ Fr No w w' := by
  have hB := h.blk
  have c0 := hB.cell (j := 0) rfl
  have hBl := hB.lt
  obtain ⟨a, c, rfl, hw⟩ := Win.of_own h.own
  clear h hB
  go_enter Try.func68, Try.ntmps68
  go_wp2_with (go_at_call 89; refine (cloneB_any a _ c bs _ hw hl).mono ?_; rintro e w1 ⟨v1, rfl, hc⟩)
  go_ret
  refine ⟨v1, rfl, hc.own, hc.new, ?_, hc.fr⟩
  rw [hc.nil]
  constructor
  · rintro rfl
    obtain ⟨h1, h2, _⟩ := hw.nil_inv
    rw [h1, h2]
  · intro e
    injection e

end Go.Proofs.Ytnkjhicokcmmpaa
