/-
  A sector's root: what the program's Decode comes to.
-/
import Derived.Test.YtnkjhicokcmmpaaRc
namespace Go.Proofs.Ytnkjhicokcmmpaa
open Go.RowKit Go.Shelf

/-- The root that a sector could be. -/
def rootAt (b : List UInt8) : RootD := ⟨wh ((b.drop 4).take 8), (wh ((b.drop 12).take 4) : Nat), wh ((b.drop 16).take 4)⟩
/-- A sector's root. -/
def decRoot (b : List UInt8) : Option RootD := if b.length = 128 ∧ (rootAt b).ok = true ∧ rootBytes (rootAt b) = b then some (rootAt b) else none
def RootD.zero : RootD := ⟨0, 0, 0⟩
def decV (b : List UInt8) : Value := .agg ((decRoot b).getD .zero).cells.toArray
def decE (b : List UInt8) : Int := if (decRoot b).isSome then 0 else 60
theorem dec_some {b : List UInt8} {r : RootD} (hX : b.length = 128 → r = rootAt b) (hok : r.ok = true) (h : rootBytes r = b) : decRoot b = some r := by
  have hl : b.length = 128 := by rw [← h]; exact rootBytes_len r
  have := hX hl
  subst this
  unfold decRoot
  rw [if_pos ⟨hl, hok, h⟩]
theorem dec_none {b : List UInt8} {r : RootD} (hX : b.length = 128 → r = rootAt b) (h : r.ok = false ∨ rootBytes r ≠ b) : decRoot b = none := by
  unfold decRoot
  refine if_neg (fun ⟨h1, h2, h3⟩ => ?_)
  rw [← hX h1] at h2 h3
  rcases h with h | h
  · rw [h] at h2; cases h2
  · exact h h3

/-- What changes the block just behind the heap alone changes nothing that was there. -/
theorem Fr.fresh {w w' : World} (h : Fr (fun k => k = w.heap.size) w w') : Fr No w w' := ⟨h.os, h.tape, h.output, h.size, fun k hk _ => h.block k hk (by omega)⟩

set_option maxRecDepth 100000 in
set_option maxHeartbeats 1000000 in
theorem decode_any (a : Option Addr) (n c : Nat) (b : List UInt8) (w : World) (h : Win w a n c (b.map byt)) (hb : n ≤ 1000) :
    Calls Try.prog 20 #[.slice a n c] w fun e w' => e = .returned (.tuple #[decV b, .int .i64 (decE b)]) ∧ Fr No w w' := by
  have hbl : b.length = n := by have := h.len; simpa using this
  have hbm : b.length ≤ 1000000 := by omega
  have kB : Blk (w.alloc (.cells #[.int .u64 0, .int .i64 0, .int .u32 0] 25)) w.heap.size 25 [.int .u64 0, .int .i64 0, .int .u32 0] := Blk.new w _ _
  have f0 : Fr No w (w.alloc (.cells #[.int .u64 0, .int .i64 0, .int .u32 0] 25)) := (Fr.refl No w).alloc _
  have hz0 : w.heap.size < (w.alloc (.cells #[.int .u64 0, .int .i64 0, .int .u32 0] 25)).heap.size := by simp
  have HBL := Lib.hid hbl
  clear hbl
  go_enter Try.func20, Try.ntmps20
  go_wp2_with fail
  generalize w.alloc (.cells #[.int .u64 0, .int .i64 0, .int .u32 0] 25) = w0 at *
  refine (readN a n c b _ (h.no f0) (by omega)).mono ?_
  rintro e w1 ⟨rb, v, rfl, h1, g1⟩
  go_wp2_with fail
  refine (rrawN w0.heap.size rb 0 4 v b hbm _ g1.size h1).mono ?_
  rintro e w2 ⟨u2, c2, m2, p2, cs2, rfl, _, _, _, e2, h2, g2⟩
  have E2 := Lib.hid e2
  clear e2 h1
  go_wp2_with fail
  refine (rnumN w0.heap.size rb p2 8 v b hbm (by omega) _ h2).mono ?_
  rintro e w3 ⟨x3, c3, p3, rfl, l3, e3, h3, g3⟩
  have E3 := Lib.hid e3
  clear e3 h2
  go_wp2_with fail
  refine (rnumN w0.heap.size rb p3 4 v b hbm (by omega) _ h3).mono ?_
  rintro e w4 ⟨x4, c4, p4, rfl, l4, e4, h4, g4⟩
  have E4 := Lib.hid e4
  clear e4 h3
  go_wp2_with fail
  refine (rnumN w0.heap.size rb p4 4 v b hbm (by omega) _ h4).mono ?_
  rintro e w5 ⟨x5, c5, p5, rfl, l5, e5, h5, g5⟩
  have E5 := Lib.hid e5
  clear e5 h4
  have hX : b.length = 128 → (⟨x3, (x4 : Int), x5⟩ : RootD) = rootAt b := by
    intro hl
    obtain ⟨-, -, hp2⟩ := E2.out (by omega)
    obtain ⟨hx3, hp3⟩ := E3.out (by omega)
    obtain ⟨hx4, hp4⟩ := E4.out (by omega)
    obtain ⟨hx5, hp5⟩ := E5.out (by omega)
    unfold rootAt
    rw [hx3, hx4, hx5, hp4, hp3, hp2]
  have hF : RootD.Fits ⟨x3, (x4 : Int), x5⟩ := ⟨by simpa using l3, by simpa using l5⟩
  have hall : From w0.heap.size w0 w5 := From.t (g1.no_any) ((From.t g2 g3).t (From.t g4 g5))
  have k5 := kB.from hall hz0
  have hw4 : wrap64 (x4 : Int) = (x4 : Int) := Go.IntWalk.wrap64_in _ (by simp at l4; omega)
  have hw5 : IntKind.u32.wrap (x5 : Int) = (x5 : Int) := wrap_u32 x5 (by simpa using l5)
  have HX := Lib.hid hX
  have HF := Lib.hid hF
  clear g1 g2 g3 g4 g5 h5 kB hX hF l3 l4 l5 E2 E3 E4 E5
  have hfa : Fr No w0 w0 := Fr.refl No w0
  have hfin : ∀ W : World, From w0.heap.size w0 W → Fr (fun k => k = w.heap.size) w W := fun W hW => (f0.no_any (S := fun k => k = w.heap.size)).trans hW (fun k hk => .inr (by omega))
  have HFIN := Lib.hid hfin
  clear hfin hfa
  obtain ⟨X, hXd⟩ : ∃ X : RootD, X = ⟨x3, (x4 : Int), x5⟩ := ⟨_, rfl⟩
  rcases Bool.eq_false_or_eq_true X.ok with hok | hok
  · go_wp2_with fail
    have fb : Fr No w5 (w5.alloc (.cells #[.int .u64 x3, .int .i64 x4, .int .u32 x5] 25)) := (Fr.refl No w5).alloc _
    have kX : Blk (w5.alloc (.cells #[.int .u64 x3, .int .i64 x4, .int .u32 x5] 25)) w5.heap.size 25 [.int .u64 x3, .int .i64 x4, .int .u32 x5] := Blk.new w5 _ _
    refine (encode_ok ⟨x3, (x4 : Int), x5⟩ HF.out (by rw [← hXd]; exact hok) _).mono ?_
    rintro e w6 ⟨g6, c6, rfl, o6, n6, f6⟩
    have k6 := (k5.fr fb (No.no _)).fr f6 (No.no _)
    have kX6 := kX.fr f6 (No.no _)
    have hw6 : Win w6 a n c (b.map byt) := h.old (S := fun k => w0.heap.size ≤ k) (f0.no_any.trans (hall.t ((fb.thn f6).no_any)) (fun k hk => .inl hk)) (fun k hk => by omega)
    rw [← hXd] at o6
    have HX2 := Lib.hid hXd
    clear hXd
    have q0 := kX6.cell (j := 0) rfl
    have q1 := kX6.cell (j := 1) rfl
    have q2 := kX6.cell (j := 2) rfl
    have rl := k6.lt
    have rf := k6.free
    have r0 := k6.cell (j := 0) rfl
    have r1 := k6.cell (j := 1) rfl
    have r2 := k6.cell (j := 2) rfl
    have hall6 : From w0.heap.size w0 w6 := hall.t ((fb.thn f6).no_any)
    by_cases heq : rootBytes X = b
    · have hd : decide (rootBytes X = b) = true := decide_eq_true heq
      have hdec : decRoot b = some X := dec_some (by rw [HX2.out]; exact HX.out) hok heq
      have HD := Lib.hid hdec
      clear hdec heq
      go_wp2_with (go_at_call 74; refine (equal_any _ _ 128 c6 n c (rootBytes X) b _ (Win.of_own' o6) hw6).mono ?_; rintro e w7 ⟨rfl, rfl⟩; rw [hd])
      have kE : Blk (((w6.setCell ⟨w.heap.size, 0, none⟩ (.int .u64 x3)).setCell ⟨w.heap.size, 1, none⟩ (.int .i64 x4)).setCell ⟨w.heap.size, 2, none⟩ (.int .u32 x5)) w.heap.size 25 [.int .u64 x3, .int .i64 x4, .int .u32 x5] := ((k6.set 0 _).set 1 _).set 2 _
      have z0 := kE.cell (j := 0) rfl
      have z1 := kE.cell (j := 1) rfl
      have z2 := kE.cell (j := 2) rfl
      refine bodyPost_ret (v := .tuple #[decV b, .int .i64 (decE b)]) ?_ rfl ⟨rfl, ?_⟩
      · unfold decV decE
        rw [HD.out, HX2.out]
        simp [results, Try.results20, go_sem, z0, z1, z2, RootD.cells]
      · exact (((HFIN.out w6 hall6).setCell (p := ⟨w.heap.size, 0, none⟩) (.inl rfl) _).setCell (p := ⟨w.heap.size, 1, none⟩) (.inl rfl) _).setCell (p := ⟨w.heap.size, 2, none⟩) (.inl rfl) _ |>.fresh
    · have hd : decide (rootBytes X = b) = false := decide_eq_false heq
      have hdec : decRoot b = none := dec_none (by rw [HX2.out]; exact HX.out) (.inr heq)
      have HD := Lib.hid hdec
      clear hdec heq
      go_wp2_with (go_at_call 74; refine (equal_any _ _ 128 c6 n c (rootBytes X) b _ (Win.of_own' o6) hw6).mono ?_; rintro e w7 ⟨rfl, rfl⟩; rw [hd])
      have kE : Blk (((w6.setCell ⟨w.heap.size, 0, none⟩ (.int .u64 0)).setCell ⟨w.heap.size, 1, none⟩ (.int .i64 0)).setCell ⟨w.heap.size, 2, none⟩ (.int .u32 0)) w.heap.size 25 [.int .u64 0, .int .i64 0, .int .u32 0] := ((k6.set 0 _).set 1 _).set 2 _
      have z0 := kE.cell (j := 0) rfl
      have z1 := kE.cell (j := 1) rfl
      have z2 := kE.cell (j := 2) rfl
      refine bodyPost_ret (v := .tuple #[decV b, .int .i64 (decE b)]) ?_ rfl ⟨rfl, ?_⟩
      · unfold decV decE
        rw [HD.out]
        simp [results, Try.results20, go_sem, z0, z1, z2, RootD.cells, RootD.zero]
      · exact (((HFIN.out w6 hall6).setCell (p := ⟨w.heap.size, 0, none⟩) (.inl rfl) _).setCell (p := ⟨w.heap.size, 1, none⟩) (.inl rfl) _).setCell (p := ⟨w.heap.size, 2, none⟩) (.inl rfl) _ |>.fresh
  · have hdec : decRoot b = none := dec_none (by rw [hXd]; exact HX.out) (.inl hok)
    have HD := Lib.hid hdec
    clear hdec
    go_wp2_with fail
    have fb : Fr No w5 (w5.alloc (.cells #[.int .u64 x3, .int .i64 x4, .int .u32 x5] 25)) := (Fr.refl No w5).alloc _
    refine (encode_bad ⟨x3, (x4 : Int), x5⟩ (by rw [← hXd]; exact hok) _).mono ?_
    rintro e w6 ⟨rfl, f6⟩
    have k6 := (k5.fr fb (No.no _)).fr f6 (No.no _)
    have hall6 : From w0.heap.size w0 w6 := hall.t ((fb.thn f6).no_any)
    have rl := k6.lt
    have rf := k6.free
    have r0 := k6.cell (j := 0) rfl
    have r1 := k6.cell (j := 1) rfl
    have r2 := k6.cell (j := 2) rfl
    clear hXd
    go_wp2
    have kE : Blk (((w6.setCell ⟨w.heap.size, 0, none⟩ (.int .u64 0)).setCell ⟨w.heap.size, 1, none⟩ (.int .i64 0)).setCell ⟨w.heap.size, 2, none⟩ (.int .u32 0)) w.heap.size 25 [.int .u64 0, .int .i64 0, .int .u32 0] := ((k6.set 0 _).set 1 _).set 2 _
    have z0 := kE.cell (j := 0) rfl
    have z1 := kE.cell (j := 1) rfl
    have z2 := kE.cell (j := 2) rfl
    refine bodyPost_ret (v := .tuple #[decV b, .int .i64 (decE b)]) ?_ rfl ⟨rfl, ?_⟩
    · unfold decV decE
      rw [HD.out]
      simp [results, Try.results20, go_sem, z0, z1, z2, RootD.cells, RootD.zero]
    · exact (((HFIN.out w6 hall6).setCell (p := ⟨w.heap.size, 0, none⟩) (.inl rfl) _).setCell (p := ⟨w.heap.size, 1, none⟩) (.inl rfl) _).setCell (p := ⟨w.heap.size, 2, none⟩) (.inl rfl) _ |>.fresh

end Go.Proofs.Ytnkjhicokcmmpaa
