/-
  The walk through RootForms.
-/
import Derived.Test.YtnkjhicokcmmpaaRe
import Derived.Test.YtnkjhicokcmmpaaOpen
namespace Go.Proofs.Ytnkjhicokcmmpaa
open Go.RowKit Go.Shelf

def encB (r : RootD) : List UInt8 := if r.ok then rootBytes r else []
def encE (r : RootD) : Int := if r.ok then 0 else 60
theorem encode_any (r : RootD) (hf : r.Fits) (w : World) :
    Calls Try.prog 18 #[.agg r.cells.toArray] w fun e w' => ∃ a m c, e = .returned (.tuple #[.slice a m c, .int .i64 (encE r)]) ∧ Win w' a m c ((encB r).map byt) ∧ Fr No w w' := by
  unfold encB encE
  rcases Bool.eq_false_or_eq_true r.ok with h | h
  · refine (encode_ok r hf h w).mono ?_
    rintro e w' ⟨g, c, rfl, h1, _, h2⟩
    rw [h]
    exact ⟨_, _, _, rfl, Win.of_own' h1, h2⟩
  · refine (encode_bad r h w).mono ?_
    rintro e w' ⟨rfl, h2⟩
    rw [h]
    exact ⟨_, _, _, rfl, Win.nilw _, h2⟩
theorem refEncode_any (r : RootD) (hf : r.Fits) (w : World) :
    Calls Try.prog 19 #[.agg r.cells.toArray] w fun e w' => ∃ a m c, e = .returned (.tuple #[.slice a m c, .int .i64 (encE r)]) ∧ Win w' a m c ((encB r).map byt) ∧ Fr No w w' := by
  unfold encB encE
  rcases Bool.eq_false_or_eq_true r.ok with h | h
  · refine (refEncode_ok r hf h w).mono ?_
    rintro e w' ⟨v, rfl, h1, h2⟩
    rw [h]
    obtain ⟨a, c, rfl, h3⟩ := Win.of_own h1.own
    exact ⟨_, _, _, rfl, h3, h2⟩
  · refine (refEncode_bad r h w).mono ?_
    rintro e w' ⟨rfl, h2⟩
    rw [h]
    exact ⟨_, _, _, rfl, Win.nilw _, h2⟩
theorem refDecode_any (a : Option Addr) (n c : Nat) (b : List UInt8) (w : World) (h : Win w a n c (b.map byt)) :
    Calls Try.prog 21 #[.slice a n c] w fun e w' => e = .returned (.tuple #[decV b, .int .i64 (decE b)]) ∧ Fr No w w' := by
  by_cases hn : n = 128
  · subst hn
    obtain ⟨ad, u, rfl, _⟩ := h.at (k := 0) (by decide)
    exact refDecode_128 ad c b w h
  · exact refDecode_short a n c b w h hn

theorem root_eq (x : Int) (y : Int) (z : Int) (w : World) : (binOp .eql 25 (.agg #[.int .u64 x, .int .i64 y, .int .u32 z]) (.agg #[.int .u64 x, .int .i64 y, .int .u32 z])).run Try.prog w = .ok (.bool true) w := by
  have h1 : (x == x) = true := by simp
  have h2 : (y == y) = true := by simp
  have h3 : (z == z) = true := by simp
  go_simp

set_option maxRecDepth 100000 in
set_option maxHeartbeats 1000000 in
theorem forms_walk (r : RootD) (hf : r.Fits) (a : Option Addr) (n c : Nat) (b : List UInt8) (q : Nat) (hq : q < 2 ^ 64) (w : World) (h : Win w a n c (b.map byt)) :
    Calls Try.prog 3 #[.agg r.cells.toArray, .slice a n c, .int .u64 q] w fun e w' => e = .returned (.bool true) ∧ Fr No w w' := by
  obtain ⟨rn, rl, rs⟩ := r
  have HF := Lib.hid hf
  have HQ := Lib.hid hq
  clear hf hq
  show Calls _ _ #[.agg #[.int .u64 rn, .int .i64 rl, .int .u32 rs], _, _] _ _
  have kB : Blk (w.alloc (.cells #[.int .u64 rn, .int .i64 rl, .int .u32 rs] 25)) w.heap.size 25 [.int .u64 rn, .int .i64 rl, .int .u32 rs] := Blk.new w _ _
  have f0 : Fr No w (w.alloc (.cells #[.int .u64 rn, .int .i64 rl, .int .u32 rs] 25)) := (Fr.refl No w).alloc _
  by_cases hn : 500 < n
  · go_enter Try.func3, Try.ntmps3
    go_wp2
    go_ret
    exact ⟨rfl, f0⟩
  · obtain ⟨X, Y, Z, hdv⟩ : ∃ X Y Z : Int, decV b = .agg #[.int .u64 X, .int .i64 Y, .int .u32 Z] := ⟨_, _, _, rfl⟩
    have hreq := root_eq X Y Z
    have HW := Lib.hid h
    have HDV := Lib.hid hdv
    clear h hdv
    go_enter Try.func3, Try.ntmps3
    go_wp2_with fail
    generalize w.alloc (.cells #[.int .u64 rn, .int .i64 rl, .int .u32 rs] 25) = w0 at *
    refine (twin_any a n c b _ (HW.out.no f0) (by omega)).mono ?_
    rintro e w1 ⟨v1, rfl, o1, n1, _, f1⟩
    obtain ⟨a1, c1, rfl, W1⟩ := Win.of_own o1
    have k1 := kB.fr f1 (No.no _)
    have q0 := k1.cell (j := 0) rfl
    have q1 := k1.cell (j := 1) rfl
    have q2 := k1.cell (j := 2) rfl
    clear o1
    go_wp2_with fail
    refine (encode_any ⟨rn, rl, rs⟩ HF.out _).mono ?_
    rintro e w2 ⟨a2, m2, c2, rfl, W2, f2⟩
    have k2 := k1.fr f2 (No.no _)
    have q0 := k2.cell (j := 0) rfl
    have q1 := k2.cell (j := 1) rfl
    have q2 := k2.cell (j := 2) rfl
    go_wp2_with fail
    refine (refEncode_any ⟨rn, rl, rs⟩ HF.out _).mono ?_
    rintro e w3 ⟨a3, m3, c3, rfl, W3, f3⟩
    go_wp2_with fail
    refine (decode_any a1 n c1 b _ ((W1.no f2).no f3) (by omega)).mono ?_
    rintro e w4 ⟨rfl, f4⟩
    rw [HDV.out]
    go_wp2_with fail
    have fA : Fr No w4 (w4.alloc (.cells #[.int .u64 X, .int .i64 Y, .int .u32 Z] 25)) := (Fr.refl No w4).alloc _
    have kA : Blk (w4.alloc (.cells #[.int .u64 X, .int .i64 Y, .int .u32 Z] 25)) w4.heap.size 25 [.int .u64 X, .int .i64 Y, .int .u32 Z] := Blk.new w4 _ _
    have f4A : Fr No w (w4.alloc (.cells #[.int .u64 X, .int .i64 Y, .int .u32 Z] 25)) := ((((f0.thn f1).thn f2).thn f3).thn f4).thn fA
    refine (refDecode_any a n c b _ (HW.out.no f4A)).mono ?_
    rintro e w5 ⟨rfl, f5⟩
    rw [HDV.out]
    have fB : Fr No w5 (w5.alloc (.cells #[.int .u64 X, .int .i64 Y, .int .u32 Z] 25)) := (Fr.refl No w5).alloc _
    have kC : Blk (w5.alloc (.cells #[.int .u64 X, .int .i64 Y, .int .u32 Z] 25)) w5.heap.size 25 [.int .u64 X, .int .i64 Y, .int .u32 Z] := Blk.new w5 _ _
    have kA5 := (kA.fr f5 (No.no _)).fr fB (No.no _)
    have f6 := (f4A.thn f5).thn fB
    have W2' := ((((W2.no f3).no f4).no fA).no f5).no fB
    have W3' := (((W3.no f4).no fA).no f5).no fB
    have W1' := (((((W1.no f2).no f3).no f4).no fA).no f5).no fB
    have Wb := HW.out.no f6
    have s1 := run_str (P := Try.prog) (src := 26) (dst := 9) Try.underlying26 Try.underlying5 Try.underlying9 W2'
    have s2 := run_str (P := Try.prog) (src := 26) (dst := 9) Try.underlying26 Try.underlying5 Try.underlying9 W3'
    have a0 := kA5.cell (j := 0) rfl
    have a1' := kA5.cell (j := 1) rfl
    have a2' := kA5.cell (j := 2) rfl
    have b0 := kC.cell (j := 0) rfl
    have b1 := kC.cell (j := 1) rfl
    have b2 := kC.cell (j := 2) rfl
    have hee : (encE ⟨rn, rl, rs⟩ == encE ⟨rn, rl, rs⟩) = true := by simp
    have hdd : (decE b == decE b) = true := by simp
    have hss : ((str (encB ⟨rn, rl, rs⟩)).toList == (str (encB ⟨rn, rl, rs⟩)).toList) = true := by simp
    have hbb : ((str b).toList == (str b).toList) = true := by simp
    have haa : (((areaOf q : Nat) : Int) == ((areaOf q : Nat) : Int)) = true := by simp
    have W1H := Lib.hid W1'
    have WBH := Lib.hid Wb
    clear W1 W2 W3 W1' Wb W2' W3' k1 k2 kA kA5 kC q0 q1 q2 kB
    go_wp2_with (first
      | (go_at_call 22; refine (area_any q HQ.out _).mono ?_; rintro e w7 ⟨rfl, f7⟩; have s3 := run_str (P := Try.prog) (src := 26) (dst := 9) Try.underlying26 Try.underlying5 Try.underlying9 (W1H.out.no f7); have s4 := run_str (P := Try.prog) (src := 26) (dst := 9) Try.underlying26 Try.underlying5 Try.underlying9 (WBH.out.no f7))
      | (go_at_call 23; refine (refArea_any q _).mono ?_; rintro e w8 ⟨rfl, rfl⟩))
    go_ret
    exact ⟨rfl, f6.thn f7⟩

end Go.Proofs.Ytnkjhicokcmmpaa
