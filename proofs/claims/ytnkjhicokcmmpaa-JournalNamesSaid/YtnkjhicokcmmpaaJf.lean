/-
  The walk through JournalForms.
-/
import Derived.Test.YtnkjhicokcmmpaaJe
import Derived.Test.YtnkjhicokcmmpaaOpen
namespace Go.Proofs.Ytnkjhicokcmmpaa
open Go.RowKit Go.Shelf

def jB (e n : Nat) (p : List UInt8) : List UInt8 := if recOk n p.length then recBytes e n p else []
def jE (n : Nat) (p : List UInt8) : Int := if recOk n p.length then 0 else 80
theorem recOk_of {n m : Nat} (h : recOk n m = true) : n ≠ 0 ∧ m ≤ 64 := by
  refine ⟨fun h0 => by simp [recOk, h0] at h, by simp [recOk] at h; omega⟩
theorem jencode_any (e n : Nat) (he : e < 2 ^ 64) (hn : n < 2 ^ 64) (a : Option Addr) (m c : Nat) (p : List UInt8) (w : World) (h : Win w a m c (p.map byt)) :
    Calls Try.prog 33 #[.int .u64 e, .int .u64 n, .slice a m c] w fun o w' => ∃ a m c, o = .returned (.tuple #[.slice a m c, .int .i64 (jE n p)]) ∧ Win w' a m c ((jB e n p).map byt) ∧ Fr No w w' := by
  obtain rfl : m = p.length := by have := h.len; simpa using this.symm
  unfold jB jE
  rcases Bool.eq_false_or_eq_true (recOk n p.length) with hk | hk
  · obtain ⟨h1, h2⟩ := recOk_of hk
    refine (jencode_ok e n he hn h1 a c p h2 w h).mono ?_
    rintro o w' ⟨g, c, rfl, h1, _, h2⟩
    rw [hk]
    exact ⟨_, _, _, rfl, Win.of_own' h1, h2⟩
  · refine (jencode_bad e n a p.length c hk w).mono ?_
    rintro o w' ⟨rfl, h2⟩
    rw [hk]
    exact ⟨_, _, _, rfl, Win.nilw _, h2⟩
theorem jrefEncode_any (e n : Nat) (he : e < 2 ^ 64) (hn : n < 2 ^ 64) (a : Option Addr) (m c : Nat) (p : List UInt8) (w : World) (h : Win w a m c (p.map byt)) :
    Calls Try.prog 34 #[.int .u64 e, .int .u64 n, .slice a m c] w fun o w' => ∃ a m c, o = .returned (.tuple #[.slice a m c, .int .i64 (jE n p)]) ∧ Win w' a m c ((jB e n p).map byt) ∧ Fr No w w' := by
  obtain rfl : m = p.length := by have := h.len; simpa using this.symm
  unfold jB jE
  rcases Bool.eq_false_or_eq_true (recOk n p.length) with hk | hk
  · obtain ⟨h1, h2⟩ := recOk_of hk
    refine (jrefEncode_ok e n he hn h1 a c p h2 w h).mono ?_
    rintro o w' ⟨v, rfl, h1, h2⟩
    rw [hk]
    obtain ⟨a, c, rfl, h3⟩ := Win.of_own h1.own
    exact ⟨_, _, _, rfl, h3, h2⟩
  · refine (jrefEncode_bad e n a p.length c hk w).mono ?_
    rintro o w' ⟨rfl, h2⟩
    rw [hk]
    exact ⟨_, _, _, rfl, Win.nilw _, h2⟩
theorem jrefDecode_any (a : Option Addr) (n c : Nat) (b : List UInt8) (w : World) (h : Win w a n c (b.map byt)) :
    Calls Try.prog 36 #[.slice a n c] w fun o w' => ∃ v, o = .returned (.tuple #[.int .u64 (decRecOf b).e, .int .u64 (decRecOf b).n, v, .int .i64 (decRecE b)]) ∧ OIn w.heap.size w' v (decRecOf b).p ∧ Fr No w w' := by
  by_cases hn : n = 128
  · subst hn
    obtain ⟨ad, u, rfl, _⟩ := h.at (k := 0) (by decide)
    exact jrefDecode_128 ad c b w h
  · exact jrefDecode_short a n c b w h hn

set_option maxRecDepth 100000 in
set_option maxHeartbeats 2000000 in
theorem jforms_walk (e n : Nat) (he : e < 2 ^ 64) (hn : n < 2 ^ 64) (a : Option Addr) (m c : Nat) (p : List UInt8) (a' : Option Addr) (m' c' : Nat) (b : List UInt8) (w : World) (hp : Win w a m c (p.map byt)) (hb : Win w a' m' c' (b.map byt)) :
    Calls Try.prog 7 #[.int .u64 e, .int .u64 n, .slice a m c, .slice a' m' c'] w fun o w' => o = .returned (.bool true) ∧ Fr No w w' := by
  by_cases h1 : 200 < m
  · go_enter Try.func7, Try.ntmps7
    go_wp2
    go_ret
    exact ⟨rfl, Fr.refl No w⟩
  by_cases h2 : 500 < m'
  · go_enter Try.func7, Try.ntmps7
    go_wp2
    go_ret
    exact ⟨rfl, Fr.refl No w⟩
  obtain ⟨D, hD⟩ : ∃ D, D = decRecOf b := ⟨_, rfl⟩
  obtain ⟨de, dn, P⟩ := D
  obtain ⟨E, hE⟩ : ∃ E, E = decRecE b := ⟨_, rfl⟩
  obtain ⟨B, hB⟩ : ∃ B, B = jB e n p := ⟨_, rfl⟩
  obtain ⟨F, hF⟩ : ∃ F, F = jE n p := ⟨_, rfl⟩
  have HWP := Lib.hid hp
  have HWB := Lib.hid hb
  have HD := Lib.hid hD
  have HE := Lib.hid hE
  have HB := Lib.hid hB
  have HF := Lib.hid hF
  clear hp hb hD hE hB hF
  go_enter Try.func7, Try.ntmps7
  go_wp2_with fail
  refine (twin_any a m c p _ HWP.out (by omega)).mono ?_
  rintro o w1 ⟨v1, rfl, o1, n1, _, f1⟩
  go_wp2_with fail
  refine (twin_any a' m' c' b _ (HWB.out.no f1) (by omega)).mono ?_
  rintro o w2 ⟨v2, rfl, o2, n2, _, f2⟩
  obtain ⟨a1, c1, rfl, W1⟩ := Win.of_own o1
  obtain ⟨a2, c2, rfl, W2⟩ := Win.of_own o2
  have W1 := W1.no f2
  have H1 := Lib.hid W1
  have H2 := Lib.hid W2
  clear o1 o2 W1 W2 n1 n2
  go_wp2_with fail
  refine (jencode_any e n he hn a1 m c1 p _ H1.out).mono ?_
  rintro o w3 ⟨a3, m3, c3, rfl, W3, f3⟩
  rw [← HF.out]
  rw [← HB.out] at W3
  go_wp2_with fail
  refine (jrefEncode_any e n he hn a m c p _ (HWP.out.no ((f1.thn f2).thn f3))).mono ?_
  rintro o w4 ⟨a4, m4, c4, rfl, W4, f4⟩
  rw [← HF.out]
  rw [← HB.out] at W4
  go_wp2_with fail
  refine (jdecode_any a2 m' c2 b _ ((H2.out.no f3).no f4) (by omega)).mono ?_
  rintro o w5 ⟨v5, rfl, o5, f5⟩
  rw [← HD.out, ← HE.out]
  rw [← HD.out] at o5
  obtain ⟨a5, c5, rfl⟩ := own_slice o5.own
  go_wp2_with fail
  refine (jrefDecode_any a' m' c' b _ (HWB.out.no ((((f1.thn f2).thn f3).thn f4).thn f5))).mono ?_
  rintro o w6 ⟨v6, rfl, o6, f6⟩
  rw [← HD.out, ← HE.out]
  rw [← HD.out] at o6
  obtain ⟨a6, c6, rfl⟩ := own_slice o6.own
  have o5 : OIn w4.heap.size w5 (.slice a5 P.length c5) P := o5
  have o6 : OIn w5.heap.size w6 (.slice a6 P.length c6) P := o6
  obtain ⟨_, _, ev5, W5⟩ := Win.of_own o5.own
  injection ev5 with ev1 ev2 ev3
  subst ev1
  subst ev3
  obtain ⟨_, _, ev6, W6⟩ := Win.of_own o6.own
  injection ev6 with ev1 ev2 ev3
  subst ev1
  subst ev3
  have hLm : P.length ≤ maxLen := Nat.le_trans W5.cap W5.max
  have fw4 := ((f1.thn f2).thn f3).thn f4
  have fw6 := (fw4.thn f5).thn f6
  have s1 := run_str (P := Try.prog) (src := 26) (dst := 9) Try.underlying26 Try.underlying5 Try.underlying9 (((W3.no f4).no f5).no f6)
  have s2 := run_str (P := Try.prog) (src := 26) (dst := 9) Try.underlying26 Try.underlying5 Try.underlying9 ((W4.no f5).no f6)
  have s3 := run_str (P := Try.prog) (src := 26) (dst := 9) Try.underlying26 Try.underlying5 Try.underlying9 (W5.no f6)
  have s4 := run_str (P := Try.prog) (src := 26) (dst := 9) Try.underlying26 Try.underlying5 Try.underlying9 W6
  have t1 : (F == F) = true := by simp
  have t2 : (E == E) = true := by simp
  have t3 : (((de : Nat) : Int) == ((de : Nat) : Int)) = true := by simp
  have t4 : (((dn : Nat) : Int) == ((dn : Nat) : Int)) = true := by simp
  have t5 : ((str B).toList == (str B).toList) = true := by simp
  have t6 : ((str P).toList == (str P).toList) = true := by simp
  have hsz4 := fw4.size
  have H1' := Lib.hid (H1.out.no (f3.thn f4))
  have H2' := Lib.hid (H2.out.no (f3.thn f4))
  have HP4 := Lib.hid (HWP.out.no fw4)
  have HB4 := Lib.hid (HWB.out.no fw4)
  have O5 := Lib.hid (o5.no f6)
  have F46 := Lib.hid (f5.thn f6)
  obtain ⟨L, hL⟩ : ∃ L, L = P.length := ⟨_, rfl⟩
  have HL := Lib.hid hL
  clear W3 W4 W5 W6 o5 o6 f1 f2 f3 f4 f5 f6 H1 H2 HWP HWB
  rw [← hL] at s3 s4 hLm
  unfold maxLen at hLm
  dsimp only
  rw [← hL]
  clear hL
  go_wp2_with fail
  rcases O5.out.own.cases with ⟨ev, h0, _⟩ | ⟨g, cap, ev⟩
  · rw [← HL.out] at h0
    injection ev with ev1 ev2 ev3
    subst ev1
    subst ev3
    subst h0
    go_loopw [98] (fun t wr => t = .int .i64 0 ∧ Fr No w6 wr) (fun _ _ => 0)
    case atStart => exact ⟨rfl, Fr.refl _ _⟩
    case round =>
      obtain ⟨rfl, hfr⟩ := hrel
      have fX : Fr (fun k => w4.heap.size ≤ k) w4 wr := F46.out.no_any.trans hfr (fun k hk => (No.no k hk).elim)
      have r1 := run_str (P := Try.prog) (src := 26) (dst := 9) Try.underlying26 Try.underlying5 Try.underlying9 (H1'.out.old fX (fun k hk => by omega))
      have r2 := run_str (P := Try.prog) (src := 26) (dst := 9) Try.underlying26 Try.underlying5 Try.underlying9 (HP4.out.old fX (fun k hk => by omega))
      have r3 := run_str (P := Try.prog) (src := 26) (dst := 9) Try.underlying26 Try.underlying5 Try.underlying9 (H2'.out.old fX (fun k hk => by omega))
      have r4 := run_str (P := Try.prog) (src := 26) (dst := 9) Try.underlying26 Try.underlying5 Try.underlying9 (HB4.out.old fX (fun k hk => by omega))
      have u1 : ((str p).toList == (str p).toList) = true := by simp
      have u2 : ((str b).toList == (str b).toList) = true := by simp
      clear s1 s2 s3 s4
      go_wp2_with fail
      go_ret
      exact ⟨rfl, fw4.trans fX (fun k hk => .inr (by omega))⟩
  · injection ev with ev1 ev2 ev3
    subst ev1
    subst ev3
    have hg : w4.heap.size ≤ g := O5.out.new g rfl
    obtain ⟨sp, hBk, hl1, _, _, _⟩ := Own.blk (show Own w6 5 1 (.slice (some ⟨g, 0, none⟩) P.length c5) P.length (P.map byt) from O5.out.own)
    have hBk0 : Hid (Blk w6 g 5 (P.map byt ++ sp)) := hBk
    have hpl : Hid (∀ j, j < L → ∃ x : Int, (P.map byt ++ sp)[j]? = some (.int .u8 x)) := by
      intro j hj
      have hj' : j < P.length := by rw [← HL.out]; exact hj
      refine ⟨((P[j]).toNat : Int), ?_⟩
      rw [List.getElem?_append_left (by simpa using hj'), List.getElem?_map, List.getElem?_eq_getElem hj']
      rfl
    clear hBk hl1
    go_loopw [98] (fun t wr => ∃ k : Nat, k ≤ L ∧ t = .int .i64 k ∧ ∃ cells, Blk wr g 5 cells ∧ (∀ j, j < L → ∃ x : Int, cells[j]? = some (.int .u8 x)) ∧ Fr (fun k => k = g) w6 wr) (fun t _ => L - (intOf t).toNat)
    case atStart => exact ⟨0, Nat.zero_le _, rfl, _, hBk0.out, hpl.out, Fr.refl _ _⟩
    case round =>
      obtain ⟨k, hk, rfl, cells, hC, hcs, hfr⟩ := hrel
      by_cases hlt : k < L
      · obtain ⟨x, hx⟩ := hcs k hlt
        have e0 := hC.cell hx
        have el := hC.lt
        have ef := hC.free k
        have HC := Lib.hid hC
        have HCS := Lib.hid hcs
        have HX := Lib.hid hx
        have hltI : (k : Int) < (L : Int) := by omega
        clear hC hcs hx s1 s2 s3 s4
        go_wp2_with fail
        go_roundw
        case rel =>
          refine ⟨k + 1, by omega, by go_num, _, HC.out.set k _, fun j hj => ?_, hfr.setCell (p := ⟨g, k, none⟩) (.inl rfl) _⟩
          rw [List.getElem?_set]
          obtain ⟨y, hy⟩ := HCS.out j hj
          obtain ⟨hjl, _⟩ := List.getElem?_eq_some_iff.1 hy
          split
          · rename_i ek
            subst ek
            rw [if_pos hjl]
            exact ⟨_, rfl⟩
          · exact ⟨y, hy⟩
        case measure => (simp [intOf]; omega)
      · obtain rfl : k = L := by omega
        have fX : Fr (fun k => w4.heap.size ≤ k) w4 wr := F46.out.no_any.trans hfr (fun k hk => .inl (by rw [hk]; exact hg))
        have r1 := run_str (P := Try.prog) (src := 26) (dst := 9) Try.underlying26 Try.underlying5 Try.underlying9 (H1'.out.old fX (fun k hk => by omega))
        have r2 := run_str (P := Try.prog) (src := 26) (dst := 9) Try.underlying26 Try.underlying5 Try.underlying9 (HP4.out.old fX (fun k hk => by omega))
        have r3 := run_str (P := Try.prog) (src := 26) (dst := 9) Try.underlying26 Try.underlying5 Try.underlying9 (H2'.out.old fX (fun k hk => by omega))
        have r4 := run_str (P := Try.prog) (src := 26) (dst := 9) Try.underlying26 Try.underlying5 Try.underlying9 (HB4.out.old fX (fun k hk => by omega))
        have u1 : ((str p).toList == (str p).toList) = true := by simp
        have u2 : ((str b).toList == (str b).toList) = true := by simp
        clear s1 s2 s3 s4
        go_wp2_with fail
        go_ret
        exact ⟨rfl, fw4.trans fX (fun k hk => .inr (by omega))⟩

end Go.Proofs.Ytnkjhicokcmmpaa
