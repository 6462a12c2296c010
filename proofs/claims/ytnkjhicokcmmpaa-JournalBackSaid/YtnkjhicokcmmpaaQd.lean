/-
  Texts of this claim, laid together: Jf, Rf, Tx, Jk, Uj, Jl, Jm.
-/
import Derived.Test.YtnkjhicokcmmpaaQc
import Derived.Test.YtnkjhicokcmmpaaQb

/-
  The walk through JournalForms.
-/
namespace Go.Proofs.Ytnkjhicokcmmpaa
open Go.RowKit Go.Shelf

def jB (e n : Nat) (p : List UInt8) : List UInt8 := if recOk n p.length then recBytes e n p else []
def jE (n : Nat) (p : List UInt8) : Int := if recOk n p.length then 0 else 80
theorem recOk_of {n m : Nat} (h : recOk n m = true) : n ≠ 0 ∧ m ≤ 64 := by
  refine ⟨fun h0 => by simp [recOk, h0] at h, by simp [recOk] at h; omega⟩
theorem jencode_any (e n : Nat) (he : e < 2 ^ 64) (hn : n < 2 ^ 64) (a : Option Addr) (m c : Nat) (p : List UInt8) (w : World) (h : Win w a m c (p.map byt)) :
    Calls Try.prog 33 #[.int .u64 e, .int .u64 n, .slice a m c] w fun o w' => ∃ a m c, o = .returned (.tuple #[.slice a m c, .int .i64 (jE n p)]) ∧ Win w' a m c ((jB e n p).map byt) ∧ Fr No w w' := by
  obtain rfl : m = p.length := by have := h.len; simpa using this.symm
  unfold jB jE
  rcases Bool.eq_false_or_eq_true (recOk n p.length) with hk | hk
  · obtain ⟨h1, h2⟩ := recOk_of hk
    refine (jencode_ok e n he hn h1 a c p h2 w h).mono ?_
    rintro o w' ⟨g, c, rfl, h1, _, h2⟩
    rw [hk]
    exact ⟨_, _, _, rfl, Win.of_own' h1, h2⟩
  · refine (jencode_bad e n a p.length c hk w).mono ?_
    rintro o w' ⟨rfl, h2⟩
    rw [hk]
    exact ⟨_, _, _, rfl, Win.nilw _, h2⟩
theorem jrefEncode_any (e n : Nat) (he : e < 2 ^ 64) (hn : n < 2 ^ 64) (a : Option Addr) (m c : Nat) (p : List UInt8) (w : World) (h : Win w a m c (p.map byt)) :
    Calls Try.prog 34 #[.int .u64 e, .int .u64 n, .slice a m c] w fun o w' => ∃ a m c, o = .returned (.tuple #[.slice a m c, .int .i64 (jE n p)]) ∧ Win w' a m c ((jB e n p).map byt) ∧ Fr No w w' := by
  obtain rfl : m = p.length := by have := h.len; simpa using this.symm
  unfold jB jE
  rcases Bool.eq_false_or_eq_true (recOk n p.length) with hk | hk
  · obtain ⟨h1, h2⟩ := recOk_of hk
    refine (jrefEncode_ok e n he hn h1 a c p h2 w h).mono ?_
    rintro o w' ⟨v, rfl, h1, h2⟩
    rw [hk]
    obtain ⟨a, c, rfl, h3⟩ := Win.of_own h1.own
    exact ⟨_, _, _, rfl, h3, h2⟩
  · refine (jrefEncode_bad e n a p.length c hk w).mono ?_
    rintro o w' ⟨rfl, h2⟩
    rw [hk]
    exact ⟨_, _, _, rfl, Win.nilw _, h2⟩
theorem jrefDecode_any (a : Option Addr) (n c : Nat) (b : List UInt8) (w : World) (h : Win w a n c (b.map byt)) :
    Calls Try.prog 36 #[.slice a n c] w fun o w' => ∃ v, o = .returned (.tuple #[.int .u64 (decRecOf b).e, .int .u64 (decRecOf b).n, v, .int .i64 (decRecE b)]) ∧ OIn w.heap.size w' v (decRecOf b).p ∧ Fr No w w' := by
  by_cases hn : n = 128
  · subst hn
    obtain ⟨ad, u, rfl, _⟩ := h.at (k := 0) (by decide)
    exact jrefDecode_128 ad c b w h
  · exact jrefDecode_short a n c b w h hn

set_option maxRecDepth 100000 in
set_option maxHeartbeats 2000000 in
theorem jforms_walk (e n : Nat) (he : e < 2 ^ 64) (hn : n < 2 ^ 64) (a : Option Addr) (m c : Nat) (p : List UInt8) (a' : Option Addr) (m' c' : Nat) (b : List UInt8) (w : World) (hp : Win w a m c (p.map byt)) (hb : Win w a' m' c' (b.map byt)) :
    Calls Try.prog 7 #[.int .u64 e, .int .u64 n, .slice a m c, .slice a' m' c'] w fun o w' => o = .returned (.bool true) ∧ Fr No w w' := by
  by_cases h1 : 200 < m
  · go_enter Try.func7, Try.ntmps7
    go_wp2
    go_ret
    exact ⟨rfl, Fr.refl No w⟩
  by_cases h2 : 500 < m'
  · go_enter Try.func7, Try.ntmps7
    go_wp2
    go_ret
    exact ⟨rfl, Fr.refl No w⟩
  obtain ⟨D, hD⟩ : ∃ D, D = decRecOf b := ⟨_, rfl⟩
  obtain ⟨de, dn, P⟩ := D
  obtain ⟨E, hE⟩ : ∃ E, E = decRecE b := ⟨_, rfl⟩
  obtain ⟨B, hB⟩ : ∃ B, B = jB e n p := ⟨_, rfl⟩
  obtain ⟨F, hF⟩ : ∃ F, F = jE n p := ⟨_, rfl⟩
  have HWP := Lib.hid hp
  have HWB := Lib.hid hb
  have HD := Lib.hid hD
  have HE := Lib.hid hE
  have HB := Lib.hid hB
  have HF := Lib.hid hF
  clear hp hb hD hE hB hF
  go_enter Try.func7, Try.ntmps7
  go_wp2_with fail
  refine (twin_any a m c p _ HWP.out (by omega)).mono ?_
  rintro o w1 ⟨v1, rfl, o1, n1, _, f1⟩
  go_wp2_with fail
  refine (twin_any a' m' c' b _ (HWB.out.no f1) (by omega)).mono ?_
  rintro o w2 ⟨v2, rfl, o2, n2, _, f2⟩
  obtain ⟨a1, c1, rfl, W1⟩ := Win.of_own o1
  obtain ⟨a2, c2, rfl, W2⟩ := Win.of_own o2
  have W1 := W1.no f2
  have H1 := Lib.hid W1
  have H2 := Lib.hid W2
  clear o1 o2 W1 W2 n1 n2
  go_wp2_with fail
  refine (jencode_any e n he hn a1 m c1 p _ H1.out).mono ?_
  rintro o w3 ⟨a3, m3, c3, rfl, W3, f3⟩
  rw [← HF.out]
  rw [← HB.out] at W3
  go_wp2_with fail
  refine (jrefEncode_any e n he hn a m c p _ (HWP.out.no ((f1.thn f2).thn f3))).mono ?_
  rintro o w4 ⟨a4, m4, c4, rfl, W4, f4⟩
  rw [← HF.out]
  rw [← HB.out] at W4
  go_wp2_with fail
  refine (jdecode_any a2 m' c2 b _ ((H2.out.no f3).no f4) (by omega)).mono ?_
  rintro o w5 ⟨v5, rfl, o5, f5⟩
  rw [← HD.out, ← HE.out]
  rw [← HD.out] at o5
  obtain ⟨a5, c5, rfl⟩ := own_slice o5.own
  go_wp2_with fail
  refine (jrefDecode_any a' m' c' b _ (HWB.out.no ((((f1.thn f2).thn f3).thn f4).thn f5))).mono ?_
  rintro o w6 ⟨v6, rfl, o6, f6⟩
  rw [← HD.out, ← HE.out]
  rw [← HD.out] at o6
  obtain ⟨a6, c6, rfl⟩ := own_slice o6.own
  have o5 : OIn w4.heap.size w5 (.slice a5 P.length c5) P := o5
  have o6 : OIn w5.heap.size w6 (.slice a6 P.length c6) P := o6
  obtain ⟨_, _, ev5, W5⟩ := Win.of_own o5.own
  injection ev5 with ev1 ev2 ev3
  subst ev1
  subst ev3
  obtain ⟨_, _, ev6, W6⟩ := Win.of_own o6.own
  injection ev6 with ev1 ev2 ev3
  subst ev1
  subst ev3
  have hLm : P.length ≤ maxLen := Nat.le_trans W5.cap W5.max
  have fw4 := ((f1.thn f2).thn f3).thn f4
  have fw6 := (fw4.thn f5).thn f6
  have s1 := run_str (P := Try.prog) (src := 26) (dst := 9) Try.underlying26 Try.underlying5 Try.underlying9 (((W3.no f4).no f5).no f6)
  have s2 := run_str (P := Try.prog) (src := 26) (dst := 9) Try.underlying26 Try.underlying5 Try.underlying9 ((W4.no f5).no f6)
  have s3 := run_str (P := Try.prog) (src := 26) (dst := 9) Try.underlying26 Try.underlying5 Try.underlying9 (W5.no f6)
  have s4 := run_str (P := Try.prog) (src := 26) (dst := 9) Try.underlying26 Try.underlying5 Try.underlying9 W6
  have t1 : (F == F) = true := by simp
  have t2 : (E == E) = true := by simp
  have t3 : (((de : Nat) : Int) == ((de : Nat) : Int)) = true := by simp
  have t4 : (((dn : Nat) : Int) == ((dn : Nat) : Int)) = true := by simp
  have t5 : ((str B).toList == (str B).toList) = true := by simp
  have t6 : ((str P).toList == (str P).toList) = true := by simp
  have hsz4 := fw4.size
  have H1' := Lib.hid (H1.out.no (f3.thn f4))
  have H2' := Lib.hid (H2.out.no (f3.thn f4))
  have HP4 := Lib.hid (HWP.out.no fw4)
  have HB4 := Lib.hid (HWB.out.no fw4)
  have O5 := Lib.hid (o5.no f6)
  have F46 := Lib.hid (f5.thn f6)
  obtain ⟨L, hL⟩ : ∃ L, L = P.length := ⟨_, rfl⟩
  have HL := Lib.hid hL
  clear W3 W4 W5 W6 o5 o6 f1 f2 f3 f4 f5 f6 H1 H2 HWP HWB
  rw [← hL] at s3 s4 hLm
  unfold maxLen at hLm
  dsimp only
  rw [← hL]
  clear hL
  go_wp2_with fail
  rcases O5.out.own.cases with ⟨ev, h0, _⟩ | ⟨g, cap, ev⟩
  · rw [← HL.out] at h0
    injection ev with ev1 ev2 ev3
    subst ev1
    subst ev3
    subst h0
    go_loopw [98] (fun t wr => t = .int .i64 0 ∧ Fr No w6 wr) (fun _ _ => 0)
    case atStart => exact ⟨rfl, Fr.refl _ _⟩
    case round =>
      obtain ⟨rfl, hfr⟩ := hrel
      have fX : Fr (fun k => w4.heap.size ≤ k) w4 wr := F46.out.no_any.trans hfr (fun k hk => (No.no k hk).elim)
      have r1 := run_str (P := Try.prog) (src := 26) (dst := 9) Try.underlying26 Try.underlying5 Try.underlying9 (H1'.out.old fX (fun k hk => by omega))
      have r2 := run_str (P := Try.prog) (src := 26) (dst := 9) Try.underlying26 Try.underlying5 Try.underlying9 (HP4.out.old fX (fun k hk => by omega))
      have r3 := run_str (P := Try.prog) (src := 26) (dst := 9) Try.underlying26 Try.underlying5 Try.underlying9 (H2'.out.old fX (fun k hk => by omega))
      have r4 := run_str (P := Try.prog) (src := 26) (dst := 9) Try.underlying26 Try.underlying5 Try.underlying9 (HB4.out.old fX (fun k hk => by omega))
      have u1 : ((str p).toList == (str p).toList) = true := by simp
      have u2 : ((str b).toList == (str b).toList) = true := by simp
      clear s1 s2 s3 s4
      go_wp2_with fail
      go_ret
      exact ⟨rfl, fw4.trans fX (fun k hk => .inr (by omega))⟩
  · injection ev with ev1 ev2 ev3
    subst ev1
    subst ev3
    have hg : w4.heap.size ≤ g := O5.out.new g rfl
    obtain ⟨sp, hBk, hl1, _, _, _⟩ := Own.blk (show Own w6 5 1 (.slice (some ⟨g, 0, none⟩) P.length c5) P.length (P.map byt) from O5.out.own)
    have hBk0 : Hid (Blk w6 g 5 (P.map byt ++ sp)) := hBk
    have hpl : Hid (∀ j, j < L → ∃ x : Int, (P.map byt ++ sp)[j]? = some (.int .u8 x)) := by
      intro j hj
      have hj' : j < P.length := by rw [← HL.out]; exact hj
      refine ⟨((P[j]).toNat : Int), ?_⟩
      rw [List.getElem?_append_left (by simpa using hj'), List.getElem?_map, List.getElem?_eq_getElem hj']
      rfl
    clear hBk hl1
    go_loopw [98] (fun t wr => ∃ k : Nat, k ≤ L ∧ t = .int .i64 k ∧ ∃ cells, Blk wr g 5 cells ∧ (∀ j, j < L → ∃ x : Int, cells[j]? = some (.int .u8 x)) ∧ Fr (fun k => k = g) w6 wr) (fun t _ => L - (intOf t).toNat)
    case atStart => exact ⟨0, Nat.zero_le _, rfl, _, hBk0.out, hpl.out, Fr.refl _ _⟩
    case round =>
      obtain ⟨k, hk, rfl, cells, hC, hcs, hfr⟩ := hrel
      by_cases hlt : k < L
      · obtain ⟨x, hx⟩ := hcs k hlt
        have e0 := hC.cell hx
        have el := hC.lt
        have ef := hC.free k
        have HC := Lib.hid hC
        have HCS := Lib.hid hcs
        have HX := Lib.hid hx
        have hltI : (k : Int) < (L : Int) := by omega
        clear hC hcs hx s1 s2 s3 s4
        go_wp2_with fail
        go_roundw
        case rel =>
          refine ⟨k + 1, by omega, by go_num, _, HC.out.set k _, fun j hj => ?_, hfr.setCell (p := ⟨g, k, none⟩) (.inl rfl) _⟩
          rw [List.getElem?_set]
          obtain ⟨y, hy⟩ := HCS.out j hj
          obtain ⟨hjl, _⟩ := List.getElem?_eq_some_iff.1 hy
          split
          · rename_i ek
            subst ek
            rw [if_pos hjl]
            exact ⟨_, rfl⟩
          · exact ⟨y, hy⟩
        case measure => (simp [intOf]; omega)
      · obtain rfl : k = L := by omega
        have fX : Fr (fun k => w4.heap.size ≤ k) w4 wr := F46.out.no_any.trans hfr (fun k hk => .inl (by rw [hk]; exact hg))
        have r1 := run_str (P := Try.prog) (src := 26) (dst := 9) Try.underlying26 Try.underlying5 Try.underlying9 (H1'.out.old fX (fun k hk => by omega))
        have r2 := run_str (P := Try.prog) (src := 26) (dst := 9) Try.underlying26 Try.underlying5 Try.underlying9 (HP4.out.old fX (fun k hk => by omega))
        have r3 := run_str (P := Try.prog) (src := 26) (dst := 9) Try.underlying26 Try.underlying5 Try.underlying9 (H2'.out.old fX (fun k hk => by omega))
        have r4 := run_str (P := Try.prog) (src := 26) (dst := 9) Try.underlying26 Try.underlying5 Try.underlying9 (HB4.out.old fX (fun k hk => by omega))
        have u1 : ((str p).toList == (str p).toList) = true := by simp
        have u2 : ((str b).toList == (str b).toList) = true := by simp
        clear s1 s2 s3 s4
        go_wp2_with fail
        go_ret
        exact ⟨rfl, fw4.trans fX (fun k hk => .inr (by omega))⟩

end Go.Proofs.Ytnkjhicokcmmpaa

/-
  The walk through RootForms.
-/
namespace Go.Proofs.Ytnkjhicokcmmpaa
open Go.RowKit Go.Shelf

def encB (r : RootD) : List UInt8 := if r.ok then rootBytes r else []
def encE (r : RootD) : Int := if r.ok then 0 else 60
theorem encode_any (r : RootD) (hf : r.Fits) (w : World) :
    Calls Try.prog 18 #[.agg r.cells.toArray] w fun e w' => ∃ a m c, e = .returned (.tuple #[.slice a m c, .int .i64 (encE r)]) ∧ Win w' a m c ((encB r).map byt) ∧ Fr No w w' := by
  unfold encB encE
  rcases Bool.eq_false_or_eq_true r.ok with h | h
  · refine (encode_ok r hf h w).mono ?_
    rintro e w' ⟨g, c, rfl, h1, _, h2⟩
    rw [h]
    exact ⟨_, _, _, rfl, Win.of_own' h1, h2⟩
  · refine (encode_bad r h w).mono ?_
    rintro e w' ⟨rfl, h2⟩
    rw [h]
    exact ⟨_, _, _, rfl, Win.nilw _, h2⟩
theorem refEncode_any (r : RootD) (hf : r.Fits) (w : World) :
    Calls Try.prog 19 #[.agg r.cells.toArray] w fun e w' => ∃ a m c, e = .returned (.tuple #[.slice a m c, .int .i64 (encE r)]) ∧ Win w' a m c ((encB r).map byt) ∧ Fr No w w' := by
  unfold encB encE
  rcases Bool.eq_false_or_eq_true r.ok with h | h
  · refine (refEncode_ok r hf h w).mono ?_
    rintro e w' ⟨v, rfl, h1, h2⟩
    rw [h]
    obtain ⟨a, c, rfl, h3⟩ := Win.of_own h1.own
    exact ⟨_, _, _, rfl, h3, h2⟩
  · refine (refEncode_bad r h w).mono ?_
    rintro e w' ⟨rfl, h2⟩
    rw [h]
    exact ⟨_, _, _, rfl, Win.nilw _, h2⟩
theorem refDecode_any (a : Option Addr) (n c : Nat) (b : List UInt8) (w : World) (h : Win w a n c (b.map byt)) :
    Calls Try.prog 21 #[.slice a n c] w fun e w' => e = .returned (.tuple #[decV b, .int .i64 (decE b)]) ∧ Fr No w w' := by
  by_cases hn : n = 128
  · subst hn
    obtain ⟨ad, u, rfl, _⟩ := h.at (k := 0) (by decide)
    exact refDecode_128 ad c b w h
  · exact refDecode_short a n c b w h hn

theorem root_eq (x : Int) (y : Int) (z : Int) (w : World) : (binOp .eql 25 (.agg #[.int .u64 x, .int .i64 y, .int .u32 z]) (.agg #[.int .u64 x, .int .i64 y, .int .u32 z])).run Try.prog w = .ok (.bool true) w := by
  have h1 : (x == x) = true := by simp
  have h2 : (y == y) = true := by simp
  have h3 : (z == z) = true := by simp
  go_simp

set_option maxRecDepth 100000 in
set_option maxHeartbeats 1000000 in
theorem forms_walk (r : RootD) (hf : r.Fits) (a : Option Addr) (n c : Nat) (b : List UInt8) (q : Nat) (hq : q < 2 ^ 64) (w : World) (h : Win w a n c (b.map byt)) :
    Calls Try.prog 3 #[.agg r.cells.toArray, .slice a n c, .int .u64 q] w fun e w' => e = .returned (.bool true) ∧ Fr No w w' := by
  obtain ⟨rn, rl, rs⟩ := r
  have HF := Lib.hid hf
  have HQ := Lib.hid hq
  clear hf hq
  show Calls _ _ #[.agg #[.int .u64 rn, .int .i64 rl, .int .u32 rs], _, _] _ _
  have kB : Blk (w.alloc (.cells #[.int .u64 rn, .int .i64 rl, .int .u32 rs] 25)) w.heap.size 25 [.int .u64 rn, .int .i64 rl, .int .u32 rs] := Blk.new w _ _
  have f0 : Fr No w (w.alloc (.cells #[.int .u64 rn, .int .i64 rl, .int .u32 rs] 25)) := (Fr.refl No w).alloc _
  by_cases hn : 500 < n
  · go_enter Try.func3, Try.ntmps3
    go_wp2
    go_ret
    exact ⟨rfl, f0⟩
  · obtain ⟨X, Y, Z, hdv⟩ : ∃ X Y Z : Int, decV b = .agg #[.int .u64 X, .int .i64 Y, .int .u32 Z] := ⟨_, _, _, rfl⟩
    have hreq := root_eq X Y Z
    have HW := Lib.hid h
    have HDV := Lib.hid hdv
    clear h hdv
    go_enter Try.func3, Try.ntmps3
    go_wp2_with fail
    generalize w.alloc (.cells #[.int .u64 rn, .int .i64 rl, .int .u32 rs] 25) = w0 at *
    refine (twin_any a n c b _ (HW.out.no f0) (by omega)).mono ?_
    rintro e w1 ⟨v1, rfl, o1, n1, _, f1⟩
    obtain ⟨a1, c1, rfl, W1⟩ := Win.of_own o1
    have k1 := kB.fr f1 (No.no _)
    have q0 := k1.cell (j := 0) rfl
    have q1 := k1.cell (j := 1) rfl
    have q2 := k1.cell (j := 2) rfl
    clear o1
    go_wp2_with fail
    refine (encode_any ⟨rn, rl, rs⟩ HF.out _).mono ?_
    rintro e w2 ⟨a2, m2, c2, rfl, W2, f2⟩
    have k2 := k1.fr f2 (No.no _)
    have q0 := k2.cell (j := 0) rfl
    have q1 := k2.cell (j := 1) rfl
    have q2 := k2.cell (j := 2) rfl
    go_wp2_with fail
    refine (refEncode_any ⟨rn, rl, rs⟩ HF.out _).mono ?_
    rintro e w3 ⟨a3, m3, c3, rfl, W3, f3⟩
    go_wp2_with fail
    refine (decode_any a1 n c1 b _ ((W1.no f2).no f3) (by omega)).mono ?_
    rintro e w4 ⟨rfl, f4⟩
    rw [HDV.out]
    go_wp2_with fail
    have fA : Fr No w4 (w4.alloc (.cells #[.int .u64 X, .int .i64 Y, .int .u32 Z] 25)) := (Fr.refl No w4).alloc _
    have kA : Blk (w4.alloc (.cells #[.int .u64 X, .int .i64 Y, .int .u32 Z] 25)) w4.heap.size 25 [.int .u64 X, .int .i64 Y, .int .u32 Z] := Blk.new w4 _ _
    have f4A : Fr No w (w4.alloc (.cells #[.int .u64 X, .int .i64 Y, .int .u32 Z] 25)) := ((((f0.thn f1).thn f2).thn f3).thn f4).thn fA
    refine (refDecode_any a n c b _ (HW.out.no f4A)).mono ?_
    rintro e w5 ⟨rfl, f5⟩
    rw [HDV.out]
    have fB : Fr No w5 (w5.alloc (.cells #[.int .u64 X, .int .i64 Y, .int .u32 Z] 25)) := (Fr.refl No w5).alloc _
    have kC : Blk (w5.alloc (.cells #[.int .u64 X, .int .i64 Y, .int .u32 Z] 25)) w5.heap.size 25 [.int .u64 X, .int .i64 Y, .int .u32 Z] := Blk.new w5 _ _
    have kA5 := (kA.fr f5 (No.no _)).fr fB (No.no _)
    have f6 := (f4A.thn f5).thn fB
    have W2' := ((((W2.no f3).no f4).no fA).no f5).no fB
    have W3' := (((W3.no f4).no fA).no f5).no fB
    have W1' := (((((W1.no f2).no f3).no f4).no fA).no f5).no fB
    have Wb := HW.out.no f6
    have s1 := run_str (P := Try.prog) (src := 26) (dst := 9) Try.underlying26 Try.underlying5 Try.underlying9 W2'
    have s2 := run_str (P := Try.prog) (src := 26) (dst := 9) Try.underlying26 Try.underlying5 Try.underlying9 W3'
    have a0 := kA5.cell (j := 0) rfl
    have a1' := kA5.cell (j := 1) rfl
    have a2' := kA5.cell (j := 2) rfl
    have b0 := kC.cell (j := 0) rfl
    have b1 := kC.cell (j := 1) rfl
    have b2 := kC.cell (j := 2) rfl
    have hee : (encE ⟨rn, rl, rs⟩ == encE ⟨rn, rl, rs⟩) = true := by simp
    have hdd : (decE b == decE b) = true := by simp
    have hss : ((str (encB ⟨rn, rl, rs⟩)).toList == (str (encB ⟨rn, rl, rs⟩)).toList) = true := by simp
    have hbb : ((str b).toList == (str b).toList) = true := by simp
    have haa : (((areaOf q : Nat) : Int) == ((areaOf q : Nat) : Int)) = true := by simp
    have W1H := Lib.hid W1'
    have WBH := Lib.hid Wb
    clear W1 W2 W3 W1' Wb W2' W3' k1 k2 kA kA5 kC q0 q1 q2 kB
    go_wp2_with (first
      | (go_at_call 22; refine (area_any q HQ.out _).mono ?_; rintro e w7 ⟨rfl, f7⟩; have s3 := run_str (P := Try.prog) (src := 26) (dst := 9) Try.underlying26 Try.underlying5 Try.underlying9 (W1H.out.no f7); have s4 := run_str (P := Try.prog) (src := 26) (dst := 9) Try.underlying26 Try.underlying5 Try.underlying9 (WBH.out.no f7))
      | (go_at_call 23; refine (refArea_any q _).mono ?_; rintro e w8 ⟨rfl, rfl⟩))
    go_ret
    exact ⟨rfl, f6.thn f7⟩

end Go.Proofs.Ytnkjhicokcmmpaa

/-
  Records and roots, their sectors, and the sum of bytes, as hooks of the small machine.
-/
namespace Go.Proofs.Ytnkjhicokcmmpaa
open Go Go.RowKit
namespace Sm

theorem hook_if {P : Program} {F : FuncId} {fn : Func} (ht : (P.funcs.toList.all fun fn => !(fn.name == "runtime.NumGoroutine")) = true) (hF : P.funcs[F]? = some fn) (hb : fn.body.isSome = true) {K : List AV → Tr AB → Nat → Option (AV × Tr AB × Nat)}
    (h : ∀ {args H n x H' n'}, K args H n = some (x, H', n') → ∀ {w0 ρ w vs}, HR w0 ρ H n w → VRs ρ args vs → Calls P F vs.toArray w (fun e w' => ∃ ρ' v, e = .returned v ∧ VR ρ' x v ∧ HR w0 ρ' H' n' w' ∧ Ext ρ ρ' H H' n n')) :
    HKo P (fun f args H n => cond (Nat.beq f F) (K args H n) none) := by
  intro f args H n x H' n' hk
  simp only at hk
  cases hf : Nat.beq f F with
  | false => rw [hf] at hk; cases hk
  | true =>
    rw [hf, cond_true] at hk
    have hf' : f = F := by simpa using hf
    subst hf'
    exact ⟨fun xs w => hook_call ht hF hb xs w, fun hr hvs => h hk hr hvs⟩

def jencK (args : List AV) (H : Tr AB) (n : Nat) : Option (AV × Tr AB × Nat) :=
  match args with
  | [x, y, p] => match natA .u64 18446744073709551616 x, natA .u64 18446744073709551616 y, winA p H with
    | some e, some k, some bs => cond (recOk k bs.length)
        (some (.tup [.su n 0 128 0 128, .v (.int .i64 0)], tput H n (.mem 5 (some 1) (cellsB (recBytes e k bs))), n + 1))
        (some (.tup [.v (.slice none 0 0), .v (.int .i64 80)], H, n))
    | _, _, _ => none
  | _ => none
def jencHook : Hook := fun f args H n => cond (Nat.beq f 33) (jencK args H n) none
theorem jencHook_ok : HKo Try.prog jencHook := by
  refine hook_if (K := jencK) tab Try.func33 (by kernel_rfl) ?_
  intro args H n x H' n' h w0 ρ w vs hr hvs
  unfold jencK at h
  split at h
  · rename_i ax ay ap
    split at h
    · rename_i e k bs he hk hp
      cases hvs with
      | cons e1 t1 =>
      cases t1 with
      | cons e2 t2 =>
      cases t2 with
      | cons e3 t3 =>
      cases t3
      obtain ⟨rfl, he'⟩ := natA_sound he e1
      obtain ⟨rfl, hk'⟩ := natA_sound hk e2
      obtain ⟨a, m, c, rfl, rfl, hw⟩ := winA_sound hr hp e3
      cases hc : recOk k bs.length with
      | true =>
        rw [hc, cond_true] at h
        simp only [Option.some.injEq, Prod.mk.injEq] at h
        obtain ⟨rfl, rfl, rfl⟩ := h
        obtain ⟨h1, h2⟩ := recOk_of hc
        refine (jencode_ok e k he' hk' h1 a c bs h2 w hw).mono ?_
        rintro o w' ⟨g, cg, rfl, hown, hg, hfr⟩
        obtain ⟨q1, q2, q3⟩ := hr.newOwn hfr hown hg (VRs.of_vals _)
        exact ⟨_, _, rfl, .tup (.cons q3 (.cons (.v _) .nil)), q1, q2⟩
      | false =>
        rw [hc, cond_false] at h
        simp only [Option.some.injEq, Prod.mk.injEq] at h
        obtain ⟨rfl, rfl, rfl⟩ := h
        refine (jencode_bad e k a bs.length c hc w).mono ?_
        rintro o w' ⟨rfl, hfr⟩
        exact ⟨ρ, _, rfl, .tup (.cons (.v _) (.cons (.v _) .nil)), hr.old hfr, Ext.refl _ _ _⟩
    · cases h
  · cases h

def jdecK (args : List AV) (H : Tr AB) (n : Nat) : Option (AV × Tr AB × Nat) :=
  match args with
  | [p] => match winA p H with
    | some bs => cond (Nat.ble bs.length 1000)
        (match (decRecOf bs).p with
          | [] => some (.tup [.v (.int .u64 (decRecOf bs).e), .v (.int .u64 (decRecOf bs).n), .s0, .v (.int .i64 (decRecE bs))], H, n)
          | b :: r => some (.tup [.v (.int .u64 (decRecOf bs).e), .v (.int .u64 (decRecOf bs).n), .su n 0 (b :: r).length 0 (b :: r).length, .v (.int .i64 (decRecE bs))], tput H n (.mem 5 (some 1) (cellsB (b :: r))), n + 1)) none
    | none => none
  | _ => none
def jdecHook : Hook := fun f args H n => cond (Nat.beq f 35) (jdecK args H n) none
theorem jdecHook_ok : HKo Try.prog jdecHook := by
  refine hook_if (K := jdecK) tab Try.func35 (by kernel_rfl) ?_
  intro args H n x H' n' h w0 ρ w vs hr hvs
  unfold jdecK at h
  split at h
  · rename_i ap
    split at h
    · rename_i bs hp
      cases hvs with
      | cons e1 t1 =>
      cases t1
      obtain ⟨a, m, c, rfl, rfl, hw⟩ := winA_sound hr hp e1
      cases hc : Nat.ble bs.length 1000 with
      | false => rw [hc] at h; cases h
      | true =>
        rw [hc, cond_true] at h
        refine (jdecode_any a bs.length c bs w hw (Nat.le_of_ble_eq_true hc)).mono ?_
        rintro o w' ⟨v, rfl, hin, hfr⟩
        have hown := hin.own
        have hnew := hin.new
        split at h
        · rename_i hr0
          simp only [Option.some.injEq, Prod.mk.injEq] at h
          obtain ⟨rfl, rfl, rfl⟩ := h
          rw [hr0] at hown
          have hv : ∃ a' c', v = .slice a' 0 c' := by
            rcases hown.cases with ⟨e, _⟩ | ⟨g, cg, e⟩
            · exact ⟨_, _, e⟩
            · exact ⟨_, _, e⟩
          obtain ⟨a', c', rfl⟩ := hv
          exact ⟨ρ, _, rfl, .tup (.cons (.v _) (.cons (.v _) (.cons (.s0 _ _) (.cons (.v _) .nil)))), hr.old hfr, Ext.refl _ _ _⟩
        · rename_i b r hr0
          simp only [Option.some.injEq, Prod.mk.injEq] at h
          obtain ⟨rfl, rfl, rfl⟩ := h
          rw [hr0] at hown
          rcases hown.cases with ⟨_, e, _⟩ | ⟨g, cg, rfl⟩
          · cases e
          · obtain ⟨q1, q2, q3⟩ := hr.newOwn hfr hown (hnew g rfl) (VRs.of_vals _)
            exact ⟨_, _, rfl, .tup (.cons (.v _) (.cons (.v _) (.cons q3 (.cons (.v _) .nil)))), q1, q2⟩
    · cases h
  · cases h

/-- A root's fields. -/
def rootA (x : AV) : Option RootD :=
  match x with
  | .agg [a, b, c] => match natA .u64 18446744073709551616 a, b, natA .u32 4294967296 c with
    | some n, .v (.int .i64 L), some s => some ⟨n, L, s⟩
    | _, _, _ => none
  | .v (.agg ⟨[.int .u64 (.ofNat n), .int .i64 L, .int .u32 (.ofNat s)]⟩) => cond (Nat.blt n 18446744073709551616 && Nat.blt s 4294967296) (some ⟨n, L, s⟩) none
  | _ => none
theorem rootA_sound {ρ : Env} {x : AV} {u : Value} {r : RootD} (h : rootA x = some r) (hx : VR ρ x u) : u = .agg r.cells.toArray ∧ r.Fits := by
  unfold rootA at h
  split at h
  · rename_i a b c
    split at h
    · rename_i n L s hn hs
      cases h
      cases hx with
      | agg e =>
      cases e with
      | cons e1 t1 =>
      cases t1 with
      | cons e2 t2 =>
      cases t2 with
      | cons e3 t3 =>
      cases t3
      cases e2
      obtain ⟨rfl, hn'⟩ := natA_sound hn e1
      obtain ⟨rfl, hs'⟩ := natA_sound hs e3
      exact ⟨rfl, ⟨hn', hs'⟩⟩
    · cases h
  · rename_i n L s
    cases hx
    cases hc : (Nat.blt n 18446744073709551616 && Nat.blt s 4294967296) with
    | false => rw [hc] at h; cases h
    | true =>
      rw [hc] at h
      cases h
      simp only [Bool.and_eq_true, Nat.blt_eq] at hc
      exact ⟨rfl, ⟨hc.1, hc.2⟩⟩
  · cases h
def rencK (args : List AV) (H : Tr AB) (n : Nat) : Option (AV × Tr AB × Nat) :=
  match args with
  | [x] => match rootA x with
    | some r => cond r.ok
        (some (.tup [.su n 0 128 0 128, .v (.int .i64 0)], tput H n (.mem 5 (some 1) (cellsB (rootBytes r))), n + 1))
        (some (.tup [.v (.slice none 0 0), .v (.int .i64 60)], H, n))
    | _ => none
  | _ => none
def rencHook : Hook := fun f args H n => cond (Nat.beq f 18) (rencK args H n) none
theorem rencHook_ok : HKo Try.prog rencHook := by
  refine hook_if (K := rencK) tab Try.func18 (by kernel_rfl) ?_
  intro args H n x H' n' h w0 ρ w vs hr hvs
  unfold rencK at h
  split at h
  · split at h
    · rename_i r hra
      cases hvs with
      | cons e1 t1 =>
      cases t1
      obtain ⟨rfl, hfit⟩ := rootA_sound hra e1
      cases hc : r.ok with
      | true =>
        rw [hc, cond_true] at h
        simp only [Option.some.injEq, Prod.mk.injEq] at h
        obtain ⟨rfl, rfl, rfl⟩ := h
        refine (encode_ok r hfit hc w).mono ?_
        rintro o w' ⟨g, cg, rfl, hown, hg, hfr⟩
        obtain ⟨q1, q2, q3⟩ := hr.newOwn hfr hown hg (VRs.of_vals _)
        exact ⟨_, _, rfl, .tup (.cons q3 (.cons (.v _) .nil)), q1, q2⟩
      | false =>
        rw [hc, cond_false] at h
        simp only [Option.some.injEq, Prod.mk.injEq] at h
        obtain ⟨rfl, rfl, rfl⟩ := h
        refine (encode_bad r hc w).mono ?_
        rintro o w' ⟨rfl, hfr⟩
        exact ⟨ρ, _, rfl, .tup (.cons (.v _) (.cons (.v _) .nil)), hr.old hfr, Ext.refl _ _ _⟩
    · cases h
  · cases h
def rdecK (args : List AV) (H : Tr AB) (n : Nat) : Option (AV × Tr AB × Nat) :=
  match args with
  | [p] => match winA p H with
    | some bs => cond (Nat.ble bs.length 1000) (some (.tup [ofV (decV bs), .v (.int .i64 (decE bs))], H, n)) none
    | none => none
  | _ => none
def rdecHook : Hook := fun f args H n => cond (Nat.beq f 20) (rdecK args H n) none
theorem rdecHook_ok : HKo Try.prog rdecHook := by
  refine hook_if (K := rdecK) tab Try.func20 (by kernel_rfl) ?_
  intro args H n x H' n' h w0 ρ w vs hr hvs
  unfold rdecK at h
  split at h
  · split at h
    · rename_i bs hp
      cases hvs with
      | cons e1 t1 =>
      cases t1
      obtain ⟨a, m, c, rfl, rfl, hw⟩ := winA_sound hr hp e1
      cases hc : Nat.ble bs.length 1000 with
      | false => rw [hc] at h; cases h
      | true =>
        rw [hc, cond_true] at h
        simp only [Option.some.injEq, Prod.mk.injEq] at h
        obtain ⟨rfl, rfl, rfl⟩ := h
        refine (decode_any a bs.length c bs w hw (Nat.le_of_ble_eq_true hc)).mono ?_
        rintro o w' ⟨rfl, hfr⟩
        exact ⟨ρ, _, rfl, .tup (.cons (ofV_VR _) (.cons (.v _) .nil)), hr.old hfr, Ext.refl _ _ _⟩
    · cases h
  · cases h
def crcK (args : List AV) (H : Tr AB) (n : Nat) : Option (AV × Tr AB × Nat) :=
  match args with
  | [p] => match winA p H with
    | some bs => cond (Nat.ble bs.length 1000000) (some (.v (.int .u32 (sumOf bs : Nat)), H, n)) none
    | none => none
  | _ => none
def crcHook : Hook := fun f args H n => cond (Nat.beq f 67) (crcK args H n) none
theorem crcHook_ok : HKo Try.prog crcHook := by
  refine hook_if (K := crcK) tab Try.func67 (by kernel_rfl) ?_
  intro args H n x H' n' h w0 ρ w vs hr hvs
  unfold crcK at h
  split at h
  · split at h
    · rename_i bs hp
      cases hvs with
      | cons e1 t1 =>
      cases t1
      obtain ⟨a, m, c, rfl, rfl, hw⟩ := winA_sound hr hp e1
      cases hc : Nat.ble bs.length 1000000 with
      | false => rw [hc] at h; cases h
      | true =>
        rw [hc, cond_true] at h
        simp only [Option.some.injEq, Prod.mk.injEq] at h
        obtain ⟨rfl, rfl, rfl⟩ := h
        refine (crcOf_any a bs.length c bs w hw (Nat.le_of_ble_eq_true hc)).mono ?_
        rintro o w' ⟨rfl, hfr⟩
        exact ⟨ρ, _, rfl, .v _, hr.old hfr, Ext.refl _ _ _⟩
    · cases h
  · cases h
/-- All of them. -/
def hkR : Hook := hkOr waitsHook (hkOr allHook (hkOr jencHook (hkOr jdecHook (hkOr rencHook (hkOr rdecHook crcHook)))))
theorem hkR_ok : HKo Try.prog hkR := hkOr_ok waitsHook_ok (hkOr_ok allHook_ok (hkOr_ok jencHook_ok (hkOr_ok jdecHook_ok (hkOr_ok rencHook_ok (hkOr_ok rdecHook_ok crcHook_ok)))))
end Sm
end Go.Proofs.Ytnkjhicokcmmpaa

/-
  A record is read from its sector as it was (plain).
-/
namespace Go.Proofs.Ytnkjhicokcmmpaa
open Go.RowKit

theorem wh_foldl (l : List UInt8) : ∀ x : Nat, l.foldl (fun n c => n * 256 + c.toNat) x = x * 256 ^ l.length + wh l := by
  induction l with
  | nil => intro x; simp [wh]
  | cons c l ih =>
    intro x
    have h0 : wh (c :: l) = c.toNat * 256 ^ l.length + wh l := by
      show l.foldl _ (0 * 256 + c.toNat) = _
      rw [ih]; simp
    rw [h0, List.foldl_cons, ih, List.length_cons, Nat.pow_succ]
    rw [Nat.add_mul, Nat.mul_assoc, Nat.mul_comm 256, Nat.add_assoc]
theorem wh_cons (c : UInt8) (l : List UInt8) : wh (c :: l) = c.toNat * 256 ^ l.length + wh l := by
  show l.foldl _ (0 * 256 + c.toNat) = _
  rw [wh_foldl]; simp
theorem wh_num : ∀ (s n : Nat), wh (num s n) = n % 256 ^ s
  | 0, n => by simp [num, numTo, wh, Nat.mod_one]
  | s + 1, n => by
    rw [num_succ, wh_cons, num_len, wh_num s n, Nat.pow_succ, Nat.mod_mul, Nat.mul_comm, Nat.add_comm]
    congr 2
    have e : (2 : Nat) ^ (8 * s) = 256 ^ s := by rw [Nat.pow_mul]
    rw [e]
    simp
theorem wh_num' {s n : Nat} (h : n < 256 ^ s) : wh (num s n) = n := by rw [wh_num, Nat.mod_eq_of_lt h]

theorem take_at (A B C : List UInt8) (k m : Nat) (hk : A.length = k) (hm : B.length = m) : ((A ++ (B ++ C)).drop k).take m = B := by
  subst hk hm
  simp
theorem dec_of_rec {e n : Nat} {p : List UInt8} (he : e < 2 ^ 64) (hn : n < 2 ^ 64) (h0 : n ≠ 0) (hp : p.length ≤ 64) : decRec (recBytes e n p) = some ⟨e, n, p⟩ := by
  have hl : (recBytes e n p).length = 128 := recBytes_len e n p hp
  have e1 : recBytes e n p = ([81, 74, 1] ++ num 1 p.length) ++ (num 8 e ++ (num 8 n ++ (p ++ (List.replicate (88 - p.length) 0 ++ (num 4 (sumOf (recFront e n p)) ++ (num 8 e ++ num 8 n)))))) := by
    unfold recBytes
    rw [show recFront e n p = [81, 74, 1] ++ num 1 p.length ++ (num 8 e ++ num 8 n) ++ p ++ List.replicate (88 - p.length) 0 from rfl]
    simp only [List.append_assoc]
  have l1 : ([81, 74, 1] ++ num 1 p.length : List UInt8).length = 4 := by simp [num_len]
  refine rec_some (s := p.length) (fun _ => ⟨(recSize_of e n p hp).symm, ?_, ?_⟩) (fun _ _ => ?_) h0 hp rfl
  · rw [e1, take_at _ _ _ 4 8 l1 (num_len _ _)]
    exact (wh_num' (by simpa using he)).symm
  · rw [e1, ← List.append_assoc ([81, 74, 1] ++ num 1 p.length) (num 8 e), take_at _ _ _ 12 8 (by rw [List.length_append, l1, num_len]) (num_len _ _)]
    exact (wh_num' (by simpa using hn)).symm
  · rw [e1, ← List.append_assoc ([81, 74, 1] ++ num 1 p.length) (num 8 e), ← List.append_assoc _ (num 8 n), take_at _ _ _ 20 p.length (by rw [List.length_append, List.length_append, l1, num_len, num_len]) rfl]
theorem wh_lt8 (l : List UInt8) (h : l.length ≤ 8) : wh l < 2 ^ 64 := by
  have h1 := wh_lt l
  have h2 : 256 ^ l.length ≤ 256 ^ 8 := Nat.pow_le_pow_right (by decide) h
  have h3 : (256 : Nat) ^ 8 = 2 ^ 64 := by decide
  omega
/-- What a sector of a record is. -/
theorem dec_rec_inv {b : List UInt8} {e n : Nat} {p : List UInt8} (h : decRec b = some ⟨e, n, p⟩) : recBytes e n p = b ∧ n ≠ 0 ∧ p.length ≤ 64 ∧ e < 2 ^ 64 ∧ n < 2 ^ 64 ∧ b.length = 128 := by
  unfold decRec at h
  split at h
  · rename_i hc
    obtain ⟨h1, h2, h3, h4⟩ := hc
    have hr : recAt b = ⟨e, n, p⟩ := by simpa using h
    rw [hr] at h3 h4
    have hp : p = (b.drop 20).take (recSize b) := by
      have := congrArg RecD.p hr
      exact this.symm
    have he : e = wh ((b.drop 4).take 8) := (congrArg RecD.e hr).symm
    have hn : n = wh ((b.drop 12).take 8) := (congrArg RecD.n hr).symm
    refine ⟨h4, h3, ?_, ?_, ?_, h1⟩
    · rw [hp, List.length_take]; omega
    · rw [he]; exact wh_lt8 _ (by rw [List.length_take]; omega)
    · rw [hn]; exact wh_lt8 _ (by rw [List.length_take]; omega)
  · cases h

/-- The chapter's first examples, by the small machine. -/
theorem alive8_run : @Sm.truth (Sm.hkF Sm.hkR) Try.prog (Sm.tabOf Try.prog) 37 3600 = true := by kernel_rfl
theorem alive8 (w : World) : Calls Try.prog 37 #[] w (fun e w' => e = .returned (.bool true) ∧ Fr No w w') := Sm.truth_calls Sm.hkR_ok Sm.tab Sm.mix alive8_run w
theorem alive6_run : @Sm.truth (Sm.hkF Sm.hkR) Try.prog (Sm.tabOf Try.prog) 24 2600 = true := by kernel_rfl
theorem alive6 (w : World) : Calls Try.prog 24 #[] w (fun e w' => e = .returned (.bool true) ∧ Fr No w w') := Sm.truth_calls Sm.hkR_ok Sm.tab Sm.mix alive6_run w
end Go.Proofs.Ytnkjhicokcmmpaa

/-
  The contracts of the record's forms, for the symbolic machine.
-/
namespace Go.Proofs.Ytnkjhicokcmmpaa.Sm
open Go Go.RowKit

def encB (e k : Nat) (bs : List UInt8) : List UInt8 := if recOk k bs.length = true then recBytes e k bs else []
def encE (k m : Nat) : Int := if recOk k m = true then 0 else 80
def jencF : CF := oneF 33 fun args H n => match args with
  | [x, y, p] => match intA x, intA y, bytesS p with
    | some (.u64, e), some (.u64, k), some bs => some ((.tup [.by8 (encB e.toNat k.toNat bs), .sy (.int .i64 (encE k.toNat bs.length))], H, n), 0 ≤ e ∧ e < 18446744073709551616 ∧ 0 ≤ k ∧ k < 18446744073709551616)
    | _, _, _ => none
  | _ => none
theorem jencF_ok : FOk Try.prog jencF := by
  refine oneF_ok tab Try.func33 (by kernel_rfl) ?_
  intro args H n r h hc w0 ρ w vs hr hvs
  split at h
  · rename_i ax ay ap
    split at h
    · rename_i e k bs he hk hp
      cases h
      obtain ⟨q1, q2, q3, q4⟩ := hc
      cases hvs with
      | cons e1 t1 =>
      cases t1 with
      | cons e2 t2 =>
      cases t2 with
      | cons e3 t3 =>
      cases t3
      obtain rfl := intA_sound he e1
      obtain rfl := intA_sound hk e2
      obtain ⟨a, m, c, rfl, rfl, hw⟩ := bytesS_win hr hp e3
      obtain ⟨e', rfl⟩ := Int.eq_ofNat_of_zero_le q1
      obtain ⟨k', rfl⟩ := Int.eq_ofNat_of_zero_le q3
      simp only [Int.toNat_natCast, encB, encE]
      by_cases hq : recOk k' bs.length = true
      · simp only [if_pos hq]
        obtain ⟨h1, h2⟩ := recOk_of hq
        refine (jencode_ok e' k' (by omega) (by omega) h1 a c bs h2 w hw).mono ?_
        rintro o w' ⟨g, cg, rfl, hown, hg, hfr⟩
        obtain ⟨ρ', r1, r2, r3⟩ := hr.newBy hfr hg hown
        exact ⟨ρ', _, rfl, .tup (.cons r3 (.cons (.sy _) .nil)), r1, r2⟩
      · simp only [if_neg hq]
        refine (jencode_bad e' k' a bs.length c (by simpa using hq) w).mono ?_
        rintro o w' ⟨rfl, hfr⟩
        exact ⟨ρ, _, rfl, .tup (.cons (by8_nil ρ) (.cons (.sy _) .nil)), hr.old hfr, Ext.refl _ _ _⟩
    · cases h
  · cases h
def jdecF : CF := oneF 35 fun args H n => match args with
  | [p] => match bytesS p with
    | some bs => some ((.tup [.sy (.int .u64 ((decRecOf bs).e : Int)), .sy (.int .u64 ((decRecOf bs).n : Int)), .by8 (decRecOf bs).p, .sy (.int .i64 (decRecE bs))], H, n), bs.length ≤ 1000)
    | none => none
  | _ => none
theorem jdecF_ok : FOk Try.prog jdecF := by
  refine oneF_ok tab Try.func35 (by kernel_rfl) ?_
  intro args H n r h hc w0 ρ w vs hr hvs
  split at h
  · rename_i ap
    split at h
    · rename_i bs hp
      cases h
      cases hvs with
      | cons e1 t1 =>
      cases t1
      obtain ⟨a, m, c, rfl, rfl, hw⟩ := bytesS_win hr hp e1
      refine (jdecode_any a bs.length c bs w hw hc).mono ?_
      rintro o w' ⟨v, rfl, hin, hfr⟩
      have hown := hin.own
      have hnew := hin.new
      rcases hown.cases with ⟨rfl, _, e⟩ | ⟨g, cg, rfl⟩
      · have hp0 : (decRecOf bs).p = [] := by simpa using e
        rw [hp0]
        exact ⟨ρ, _, rfl, .tup (.cons (.sy _) (.cons (.sy _) (.cons (by8_nil ρ) (.cons (.sy _) .nil)))), hr.old hfr, Ext.refl _ _ _⟩
      · obtain ⟨ρ', r1, r2, r3⟩ := hr.newBy hfr (hnew g rfl) hown
        exact ⟨ρ', _, rfl, .tup (.cons (.sy _) (.cons (.sy _) (.cons r3 (.cons (.sy _) .nil)))), r1, r2⟩
    · cases h
  · cases h
end Go.Proofs.Ytnkjhicokcmmpaa.Sm

/-
  JournalBack: a record is read from its sector as it was.
-/
namespace Go.Proofs.Ytnkjhicokcmmpaa.Sm
open Go Go.RowKit
noncomputable abbrev SJ : Sy := sym Try.prog (orF (trueF 37) (orF jencF jdecF)) noG
theorem encE_ok {k m : Nat} (h : encE k m = 0) : k ≠ 0 ∧ m ≤ 64 := by
  unfold encE at h
  split at h
  · rename_i hq; exact recOk_of hq
  · cases h
theorem recOk_mk {k m : Nat} (h1 : k ≠ 0) (h2 : m ≤ 64) : recOk k m = true := by simp [recOk, h1, h2]
theorem encB_ok {e k : Nat} {p : List UInt8} (h1 : k ≠ 0) (h2 : p.length ≤ 64) : encB e k p = recBytes e k p := by simp [encB, recOk_mk h1 h2]
theorem decRecE_some {b : List UInt8} {r : RecD} (h : decRec b = some r) : decRecE b = 0 ∧ decRecOf b = r := by simp [decRecE, decRecOf, h]
theorem decRecE_none {b : List UInt8} (h : decRecE b ≠ 0) : decRecE b = 80 ∧ decRecOf b = .zero := by
  unfold decRecE decRecOf at *
  cases hd : decRec b with
  | none => simp
  | some r => simp [hd] at h
theorem decRecE_zero {b : List UInt8} (h : decRecE b = 0) : ∃ e k p, decRecOf b = ⟨e, k, p⟩ ∧ encE k p.length = 0 ∧ encB e k p = b ∧ e < 2 ^ 64 ∧ k < 2 ^ 64 := by
  unfold decRecE at h
  cases hd : decRec b with
  | none => simp [hd] at h
  | some r =>
    obtain ⟨e, k, p⟩ := r
    obtain ⟨h1, h2, h3, h4, h5, _⟩ := dec_rec_inv hd
    exact ⟨e, k, p, (decRecE_some hd).2, by simp [encE, recOk_mk h2 h3], by rw [encB_ok h2 h3, h1], h4, h5⟩
set_option maxRecDepth 100000 in
theorem jback_to (hok : SJ.Ok Try.prog) (e n : Nat) (p b : List UInt8) (he : e < 2 ^ 64) (hn : n < 2 ^ 64) : To SJ Try.prog 8 (startOf Try.prog 8 [.sy (.int .u64 e), .sy (.int .u64 n), .by8 p, .by8 b] .e 0) (fun x _ _ => x = .v (.bool true)) := by
  refine To.run hok 5000 (C := True ∧ True) (by kernel_rfl) (by (and_intros <;> first | exact True.intro | omega | with_reducible assumption)) ?_
  refine To.brd hok ((200 : Int) < (↑(List.length p) : Int)) (C := True) (by kernel_rfl) (by kernel_rfl) (by (and_intros <;> first | exact True.intro | omega | with_reducible assumption)) ?_ ?_
  · intro h1
    refine To.run hok 5000 (C := True) (by kernel_rfl) (by (and_intros <;> first | exact True.intro | omega | with_reducible assumption)) ?_
    refine To.end (AV.v (Value.bool true)) (by kernel_rfl) ?_
    rfl
  intro h1
  refine To.run hok 5000 (C := True) (by kernel_rfl) (by (and_intros <;> first | exact True.intro | omega | with_reducible assumption)) ?_
  refine To.brd hok ((500 : Int) < (↑(List.length b) : Int)) (C := True) (by kernel_rfl) (by kernel_rfl) (by (and_intros <;> first | exact True.intro | omega | with_reducible assumption)) ?_ ?_
  · intro h2
    refine To.run hok 5000 (C := True) (by kernel_rfl) (by (and_intros <;> first | exact True.intro | omega | with_reducible assumption)) ?_
    refine To.end (AV.v (Value.bool true)) (by kernel_rfl) ?_
    rfl
  intro h2
  refine To.run hok 5000 (C := (0 : Int) ≤ (↑e : Int) ∧ (↑e : Int) < (18446744073709551616 : Int) ∧ (0 : Int) ≤ (↑n : Int) ∧ (↑n : Int) < (18446744073709551616 : Int)) (by kernel_rfl) (by (and_intros <;> first | exact True.intro | omega | with_reducible assumption)) ?_
  refine To.brd hok (encE (Int.toNat (↑n : Int)) (List.length p) = (0 : Int)) (C := True) (by kernel_rfl) (by kernel_rfl) (by (and_intros <;> first | exact True.intro | omega | with_reducible assumption)) ?_ ?_
  · intro h3
    simp only [Int.toNat_natCast] at h3
    obtain ⟨q1, q2⟩ := encE_ok h3
    have q3 := encB_ok (e := e) q1 q2
    have q4 := dec_of_rec he hn q1 q2
    obtain ⟨q5, q6⟩ := decRecE_some q4
    have q7 := recBytes_len e n p q2
    refine To.run hok 5000 (C := List.length (encB (Int.toNat (↑e : Int)) (Int.toNat (↑n : Int)) p) ≤ (1000 : Nat)) (by kernel_rfl) ?_ ?_
    · simp only [Int.toNat_natCast, q3, q7]; omega
    refine To.non hok (decRecE (encB (Int.toNat (↑e : Int)) (Int.toNat (↑n : Int)) p) = (0 : Int)) ?_ (C := True) (by kernel_rfl) (by (and_intros <;> first | exact True.intro | omega | with_reducible assumption)) ?_
    · simp only [Int.toNat_natCast, q3, q5]
    refine To.run hok 5000 (C := True) (by kernel_rfl) (by (and_intros <;> first | exact True.intro | omega | with_reducible assumption)) ?_
    refine To.non hok ((↑(RecD.e (decRecOf (encB (Int.toNat (↑e : Int)) (Int.toNat (↑n : Int)) p))) : Int) = (↑e : Int)) ?_ (C := True) (by kernel_rfl) (by (and_intros <;> first | exact True.intro | omega | with_reducible assumption)) ?_
    · simp only [Int.toNat_natCast, q3, q6]
    refine To.run hok 5000 (C := True) (by kernel_rfl) (by (and_intros <;> first | exact True.intro | omega | with_reducible assumption)) ?_
    refine To.non hok ((↑(RecD.n (decRecOf (encB (Int.toNat (↑e : Int)) (Int.toNat (↑n : Int)) p))) : Int) = (↑n : Int)) ?_ (C := True) (by kernel_rfl) (by (and_intros <;> first | exact True.intro | omega | with_reducible assumption)) ?_
    · simp only [Int.toNat_natCast, q3, q6]
    refine To.run hok 5000 (C := True ∧ True) (by kernel_rfl) (by (and_intros <;> first | exact True.intro | omega | with_reducible assumption)) ?_
    refine To.non hok (Array.toList (ByteArray.data (str (RecD.p (decRecOf (encB (Int.toNat (↑e : Int)) (Int.toNat (↑n : Int)) p))))) = Array.toList (ByteArray.data (str p))) ?_ (C := True) (by kernel_rfl) (by (and_intros <;> first | exact True.intro | omega | with_reducible assumption)) ?_
    · simp only [Int.toNat_natCast, q3, q6]
    refine To.run hok 5000 (C := True) (by kernel_rfl) (by (and_intros <;> first | exact True.intro | omega | with_reducible assumption)) ?_
    refine To.non hok ((↑(List.length (encB (Int.toNat (↑e : Int)) (Int.toNat (↑n : Int)) p)) : Int) = (128 : Int)) ?_ (C := True) (by kernel_rfl) (by (and_intros <;> first | exact True.intro | omega | with_reducible assumption)) ?_
    · simp only [Int.toNat_natCast, q3, q7]; rfl
    refine To.run hok 5000 (C := List.length b ≤ (1000 : Nat)) (by kernel_rfl) (by (and_intros <;> first | exact True.intro | omega | with_reducible assumption)) ?_
    refine To.brn hok (decRecE b = (0 : Int)) (C := True) (by kernel_rfl) (by kernel_rfl) (by (and_intros <;> first | exact True.intro | omega | with_reducible assumption)) ?_ ?_
    · intro h4
      obtain ⟨q5', q6'⟩ := decRecE_none h4
      refine To.run hok 5000 (C := True) (by kernel_rfl) (by (and_intros <;> first | exact True.intro | omega | with_reducible assumption)) ?_
      refine To.yesd hok (decRecE b = (80 : Int)) (by (and_intros <;> first | exact True.intro | omega | with_reducible assumption)) (C := True) (by kernel_rfl) (by (and_intros <;> first | exact True.intro | omega | with_reducible assumption)) ?_
      refine To.run hok 5000 (C := True) (by kernel_rfl) (by (and_intros <;> first | exact True.intro | omega | with_reducible assumption)) ?_
      refine To.yesd hok ((↑(RecD.e (decRecOf b)) : Int) = (0 : Int)) ?_ (C := True) (by kernel_rfl) (by (and_intros <;> first | exact True.intro | omega | with_reducible assumption)) ?_
      · simp [q6', RecD.zero]
      refine To.run hok 5000 (C := True) (by kernel_rfl) (by (and_intros <;> first | exact True.intro | omega | with_reducible assumption)) ?_
      refine To.yesd hok ((↑(RecD.n (decRecOf b)) : Int) = (0 : Int)) ?_ (C := True) (by kernel_rfl) (by (and_intros <;> first | exact True.intro | omega | with_reducible assumption)) ?_
      · simp [q6', RecD.zero]
      refine To.run hok 5000 (C := True) (by kernel_rfl) (by (and_intros <;> first | exact True.intro | omega | with_reducible assumption)) ?_
      refine To.yesd hok ((↑(List.length (RecD.p (decRecOf b))) : Int) = (0 : Int)) ?_ (C := True) (by kernel_rfl) (by (and_intros <;> first | exact True.intro | omega | with_reducible assumption)) ?_
      · simp [q6', RecD.zero]
      refine To.run hok 5000 (C := True) (by kernel_rfl) (by (and_intros <;> first | exact True.intro | omega | with_reducible assumption)) ?_
      refine To.end (AV.v (Value.bool true)) (by kernel_rfl) ?_
      rfl
    · intro h4
      obtain ⟨e', k', p', g1, g2, g3, g4, g5⟩ := decRecE_zero h4
      refine To.run hok 5000 (C := (0 : Int) ≤ (↑(RecD.e (decRecOf b)) : Int) ∧ (↑(RecD.e (decRecOf b)) : Int) < (18446744073709551616 : Int) ∧ (0 : Int) ≤ (↑(RecD.n (decRecOf b)) : Int) ∧ (↑(RecD.n (decRecOf b)) : Int) < (18446744073709551616 : Int)) (by kernel_rfl) ?_ ?_
      · simp only [g1]; omega
      refine To.yesd hok (encE (Int.toNat (↑(RecD.n (decRecOf b)) : Int)) (List.length (RecD.p (decRecOf b))) = (0 : Int)) ?_ (C := True) (by kernel_rfl) (by (and_intros <;> first | exact True.intro | omega | with_reducible assumption)) ?_
      · simp only [g1, Int.toNat_natCast, g2]
      refine To.run hok 5000 (C := True ∧ True) (by kernel_rfl) (by (and_intros <;> first | exact True.intro | omega | with_reducible assumption)) ?_
      refine To.yesd hok (Array.toList (ByteArray.data (str (encB (Int.toNat (↑(RecD.e (decRecOf b)) : Int)) (Int.toNat (↑(RecD.n (decRecOf b)) : Int)) (RecD.p (decRecOf b))))) = Array.toList (ByteArray.data (str b))) ?_ (C := True) (by kernel_rfl) (by (and_intros <;> first | exact True.intro | omega | with_reducible assumption)) ?_
      · simp only [g1, Int.toNat_natCast, g3]
      refine To.run hok 5000 (C := True) (by kernel_rfl) (by (and_intros <;> first | exact True.intro | omega | with_reducible assumption)) ?_
      refine To.end (AV.v (Value.bool true)) (by kernel_rfl) ?_
      rfl
  · intro h3
    refine To.run hok 5000 (C := List.length b ≤ (1000 : Nat)) (by kernel_rfl) (by (and_intros <;> first | exact True.intro | omega | with_reducible assumption)) ?_
    refine To.brn hok (decRecE b = (0 : Int)) (C := True) (by kernel_rfl) (by kernel_rfl) (by (and_intros <;> first | exact True.intro | omega | with_reducible assumption)) ?_ ?_
    · intro h4
      obtain ⟨q5, q6⟩ := decRecE_none h4
      refine To.run hok 5000 (C := True) (by kernel_rfl) (by (and_intros <;> first | exact True.intro | omega | with_reducible assumption)) ?_
      refine To.yesd hok (decRecE b = (80 : Int)) (by (and_intros <;> first | exact True.intro | omega | with_reducible assumption)) (C := True) (by kernel_rfl) (by (and_intros <;> first | exact True.intro | omega | with_reducible assumption)) ?_
      refine To.run hok 5000 (C := True) (by kernel_rfl) (by (and_intros <;> first | exact True.intro | omega | with_reducible assumption)) ?_
      refine To.yesd hok ((↑(RecD.e (decRecOf b)) : Int) = (0 : Int)) ?_ (C := True) (by kernel_rfl) (by (and_intros <;> first | exact True.intro | omega | with_reducible assumption)) ?_
      · simp [q6, RecD.zero]
      refine To.run hok 5000 (C := True) (by kernel_rfl) (by (and_intros <;> first | exact True.intro | omega | with_reducible assumption)) ?_
      refine To.yesd hok ((↑(RecD.n (decRecOf b)) : Int) = (0 : Int)) ?_ (C := True) (by kernel_rfl) (by (and_intros <;> first | exact True.intro | omega | with_reducible assumption)) ?_
      · simp [q6, RecD.zero]
      refine To.run hok 5000 (C := True) (by kernel_rfl) (by (and_intros <;> first | exact True.intro | omega | with_reducible assumption)) ?_
      refine To.yesd hok ((↑(List.length (RecD.p (decRecOf b))) : Int) = (0 : Int)) ?_ (C := True) (by kernel_rfl) (by (and_intros <;> first | exact True.intro | omega | with_reducible assumption)) ?_
      · simp [q6, RecD.zero]
      refine To.run hok 5000 (C := True) (by kernel_rfl) (by (and_intros <;> first | exact True.intro | omega | with_reducible assumption)) ?_
      refine To.end (AV.v (Value.bool true)) (by kernel_rfl) ?_
      rfl
    · intro h4
      obtain ⟨e', k', p', g1, g2, g3, g4, g5⟩ := decRecE_zero h4
      refine To.run hok 5000 (C := (0 : Int) ≤ (↑(RecD.e (decRecOf b)) : Int) ∧ (↑(RecD.e (decRecOf b)) : Int) < (18446744073709551616 : Int) ∧ (0 : Int) ≤ (↑(RecD.n (decRecOf b)) : Int) ∧ (↑(RecD.n (decRecOf b)) : Int) < (18446744073709551616 : Int)) (by kernel_rfl) ?_ ?_
      · simp only [g1]; omega
      refine To.yesd hok (encE (Int.toNat (↑(RecD.n (decRecOf b)) : Int)) (List.length (RecD.p (decRecOf b))) = (0 : Int)) ?_ (C := True) (by kernel_rfl) (by (and_intros <;> first | exact True.intro | omega | with_reducible assumption)) ?_
      · simp only [g1, Int.toNat_natCast, g2]
      refine To.run hok 5000 (C := True ∧ True) (by kernel_rfl) (by (and_intros <;> first | exact True.intro | omega | with_reducible assumption)) ?_
      refine To.yesd hok (Array.toList (ByteArray.data (str (encB (Int.toNat (↑(RecD.e (decRecOf b)) : Int)) (Int.toNat (↑(RecD.n (decRecOf b)) : Int)) (RecD.p (decRecOf b))))) = Array.toList (ByteArray.data (str b))) ?_ (C := True) (by kernel_rfl) (by (and_intros <;> first | exact True.intro | omega | with_reducible assumption)) ?_
      · simp only [g1, Int.toNat_natCast, g3]
      refine To.run hok 5000 (C := True) (by kernel_rfl) (by (and_intros <;> first | exact True.intro | omega | with_reducible assumption)) ?_
      refine To.end (AV.v (Value.bool true)) (by kernel_rfl) ?_
      rfl
theorem SJ_ok : SJ.Ok Try.prog := sym_ok (orF_ok (trueF_ok tab Try.func37 (by kernel_rfl) alive8) (orF_ok jencF_ok jdecF_ok)) (noG_ok _) tab mix
theorem jback_walk (e n : Nat) (he : e < 2 ^ 64) (hn : n < 2 ^ 64) (a : Option Addr) (m c : Nat) (p : List UInt8) (a' : Option Addr) (m' c' : Nat) (b : List UInt8) (w : World) (hp : Win w a m c (p.map byt)) (hb : Win w a' m' c' (b.map byt)) :
    Calls Try.prog 8 #[.int .u64 e, .int .u64 n, .slice a m c, .slice a' m' c'] w (fun e w' => e = .returned (.bool true) ∧ Fr No w w') := by
  exact law_calls (vs := [.int .u64 e, .int .u64 n, .slice a m c, .slice a' m' c']) SJ_ok (by kernel_rfl) (jback_to SJ_ok e n p b he hn) (.cons (.sy _) (.cons (.sy _) (.cons (Win.by8 hp) (.cons (Win.by8 hb) .nil))))
end Go.Proofs.Ytnkjhicokcmmpaa.Sm

/-
  JournalBack returns true, whatever is handed to it, and what it read reads as it did.
-/
namespace Go.Proofs.Ytnkjhicokcmmpaa.RJournalBack
open Go.ChangeShapes Go.WideShapes Go.ChangeAt Go.RowKit

theorem own : ownKnob Try.prog.godebug = none := by kernel_rfl
theorem laidOut : laidOutB Try.prog = true := by kernel_rfl
theorem readable : (Try.f8.params.toList.all fun t => Try.prog.readableRec t && decide (t < Try.prog.types.size)) = true := by kernel_rfl

set_option maxHeartbeats 800000 in
set_option maxRecDepth 100000 in
theorem lifted (os : Os) (started : os.Started) (H : Type) (enc : TypeId × Value → H) :
    ReturnsInHanded {} Try.checked os 8 .any (Rows.journalBackSpec.pre6 enc Try.prog Try.f8 Rows.journalBackRow.domain false) (Rows.journalBackSpec.post enc Try.prog Try.f8 false true false false) := by
  refine returnsInHanded_of_change (C := Try.checked) own started (by kernel_rfl) Try.func8
    (ChangeSpec.witness6 (enc := enc) (C := Try.checked) false ⟨#[], #[.int .u64 0, .int .u64 0, .slice none 0 0, .slice none 0 0], []⟩ 8 (by kernel_rfl) (by kernel_rfl) (by kernel_rfl) (by kernel_rfl)) ?_
  intro W base args ds gs before hval0 hW _ _
  have hval : ∀ (j : Nat) t v, Try.f8.params[j]? = some t → args[j]? = some v → Value.okWide Try.prog W .any base t v := hval0
  have hW' := hW
  obtain ⟨p, q, hA0, hV, rfl, _, _⟩ := hW
  have hA : DataW.TrodAll enc Try.prog W 0 (fun _ => true) true Try.f8.params.toList args.toList ds p := hA0
  have hlt : ∀ x ∈ p, x.block < W.heap.size := fun x hx => by simpa using hW'.lt x (by simpa using List.mem_append.2 (.inl hx))
  have hall := fun W' (hb : Below W.heap.size W W') => again_all laidOut hb readable hA hlt
  obtain ⟨rfl, rfl⟩ := trodVars_none hV
  rw [Try.params8] at hval
  have hA' := hA
  rw [Try.params8] at hA'
  obtain ⟨v0, vs0, d0, ds0, p0, q0, e0, rfl, rfl, h0, r0⟩ := trodAll_cons hA'
  obtain ⟨v1, vs1, d1, ds1, p1, q1, e1, rfl, rfl, h1, r1⟩ := trodAll_cons r0
  obtain ⟨v2, vs2, d2, ds2, p2, q2, e2, rfl, rfl, h2, r2⟩ := trodAll_cons r1
  obtain ⟨v3, vs3, d3, ds3, p3, q3, e3, rfl, rfl, h3, r3⟩ := trodAll_cons r2
  obtain ⟨en, rfl, rfl⟩ := trodAll_nil r3
  obtain rfl : args = #[v0, v1, v2, v3] := by
    apply Array.ext'
    rw [e0]
    try rw [e1]
    try rw [e2]
    try rw [e3]
    rw [en]
  clear hA' e0 e1 e2 e3 en
  obtain ⟨a0, rfl, w0⟩ := arg_int Try.underlying22 (hval 0 22 v0 rfl rfl) h0
  obtain ⟨a1, rfl, w1⟩ := arg_int Try.underlying22 (hval 1 22 v1 rfl rfl) h1
  obtain ⟨a2, n2, c2, rfl⟩ := arg_slice Try.underlying26 (hval 2 26 v2 rfl rfl)
  obtain ⟨a3, n3, c3, rfl⟩ := arg_slice Try.underlying26 (hval 3 26 v3 rfl rfl)
  simp only [List.append_nil] at hW'
  obtain ⟨p, hp⟩ := bytes_open Try.underlying26 Try.underlying5 (by kernel_rfl) (Rd.of h2)
  obtain ⟨b, hb⟩ := bytes_open Try.underlying26 Try.underlying5 (by kernel_rfl) (Rd.of h3)
  have hb0 := u64_bd w0
  have hb1 := u64_bd w1
  obtain ⟨x0, rfl⟩ : ∃ x : Nat, a0 = (x : Int) := ⟨a0.toNat, by omega⟩
  obtain ⟨x1, rfl⟩ : ∃ x : Nat, a1 = (x : Int) := ⟨a1.toNat, by omega⟩
  have hwalk := Sm.jback_walk x0 x1 (by omega) (by omega) a2 n2 c2 p a3 n3 c3 b W hp hb
  refine hwalk.mono fun e W' ⟨he, hf⟩ => ?_
  subst he
  have hbel : Below W.heap.size W W' := hf.below
  refine ⟨_, rfl, _, _, _, [], _, [], hW', ?_, hall W' hbel, rfl, hbel.frame _, fun h => by cases h⟩
  exact trodAll_mk1 (shut_bool Try.underlying4 _)

theorem said : Rows.JournalBackSaid :=
  OpenClaim.holds_of_wide 8 Try.f8 rfl rfl rfl rfl rfl rfl rfl ⟨rfl, rfl, rfl, rfl, rfl⟩ rfl rfl rfl rfl rfl (by kernel_rfl) Try.func8 (by kernel_rfl)
    (of_decide_eq_true (by kernel_rfl)) (by unfold Func.isWrapper; first | (rw [if_pos (by decide +kernel)]; kernel_rfl) | (rw [if_neg (by decide +kernel)]; exact ⟨rfl, rfl⟩))
    (fun os started H enc _ => lifted os started H enc)

#print axioms said
end Go.Proofs.Ytnkjhicokcmmpaa.RJournalBack
