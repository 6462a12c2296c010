/-
  A record's sector: what the program's Encode comes to.
-/
import Derived.Test.YtnkjhicokcmmpaaOg
import Derived.Test.YtnkjhicokcmmpaaCd
import Derived.Lib.SmallJoins
namespace Go.Proofs.Ytnkjhicokcmmpaa
open Go.RowKit Go.Shelf

/-- What is ahead of the sum. -/
def recFront (e n : Nat) (p : List UInt8) : List UInt8 := [81, 74, 1] ++ num 1 p.length ++ (num 8 e ++ num 8 n) ++ p ++ List.replicate (88 - p.length) 0
def recBytes (e n : Nat) (p : List UInt8) : List UInt8 := recFront e n p ++ num 4 (sumOf (recFront e n p)) ++ (num 8 e ++ num 8 n)
theorem recFront_len (e n : Nat) (p : List UInt8) (hp : p.length ≤ 64) : (recFront e n p).length = 108 := by simp [recFront, num_len]; omega
theorem recBytes_len (e n : Nat) (p : List UInt8) (hp : p.length ≤ 64) : (recBytes e n p).length = 128 := by simp [recBytes, recFront_len e n p hp, num_len]

set_option maxRecDepth 100000 in
set_option maxHeartbeats 1000000 in
/-- The marks. -/
theorem marks_any (N be bn : Nat) (e n : Nat) (he : e < 2 ^ 64) (hn : n < 2 ^ 64) (hbe : be < N) (hbn : bn < N) (v : Value) (bs : List UInt8) (hl : bs.length ≤ 1000) (w : World) (hz : N ≤ w.heap.size) (h : WIn N w N v bs) (k0 : w.cell? ⟨be, 0, none⟩ = some (.int .u64 e)) (k1 : w.cell? ⟨bn, 0, none⟩ = some (.int .u64 n)) :
    Calls Try.prog 84 #[.pointer (some ⟨N, 0, none⟩), .pointer (some ⟨be, 0, none⟩), .pointer (some ⟨bn, 0, none⟩)] w fun o w' => ∃ v', o = .returned (.tuple #[]) ∧ WIn N w' N v' (bs ++ (num 8 e ++ num 8 n)) ∧ From N w w' := by
  go_enter Try.func84, Try.ntmps84
  go_wp2_with fail
  refine (wnumN N N v bs 8 e (by omega) he (by omega) _ hz h).mono ?_
  rintro o w1 ⟨v1, rfl, h1, g1⟩
  have k1' := (g1.cell (p := ⟨bn, 0, none⟩) (World.block_lt_of_cell? w _ k1) (by simp; omega)).trans k1
  have z1 : N ≤ w1.heap.size := Nat.le_trans hz g1.size
  clear h k0 k1
  go_wp2_with fail
  refine (wnumN N N v1 _ 8 n (by omega) hn (by simp [num_len]; omega) _ z1 h1).mono ?_
  rintro o w2 ⟨v2, rfl, h2, g2⟩
  clear h1 k1'
  go_wp2
  refine bodyPost_end (results_none rfl _ _ _) rfl ?_
  exact ⟨v2, rfl, by rw [← List.append_assoc]; exact h2, g1.t g2⟩


set_option maxRecDepth 100000 in
set_option maxHeartbeats 2000000 in
theorem jencode_ok (e n : Nat) (he : e < 2 ^ 64) (hn : n < 2 ^ 64) (hn0 : n ≠ 0) (a : Option Addr) (c : Nat) (p : List UInt8) (hp : p.length ≤ 64) (w : World) (hw : Win w a p.length c (p.map byt)) :
    Calls Try.prog 33 #[.int .u64 e, .int .u64 n, .slice a p.length c] w fun o w' => ∃ g c, o = .returned (.tuple #[.slice (some ⟨g, 0, none⟩) 128 c, .int .i64 0]) ∧ Own w' 5 1 (.slice (some ⟨g, 0, none⟩) 128 c) 128 ((recBytes e n p).map byt) ∧ w.heap.size ≤ g ∧ Fr No w w' := by
  obtain ⟨m, hm⟩ : ∃ m, m = p.length := ⟨_, rfl⟩
  rw [← hm] at hw hp ⊢
  have h0 : ((n : Int) == 0) = false := by simp; omega
  have hd : decide (64 < (m : Int)) = false := by simp; omega
  have hmw : IntKind.u64.wrap (m : Int) = (m : Int) := wrap_u64 m (by omega)
  have kc := fun (w : World) (C : Array Value) (n c g : Nat) (hg : g = w.heap.size) => Joins.run_convert_bytes_const_at (P := Try.prog) w 26 5 C n c g hg Try.underlying26 Try.underlying5
  have HM := Lib.hid hm
  have HWP := Lib.hid hw
  clear hm hw
  go_enter Try.func33, Try.ntmps33
  go_wp2_with fail
  obtain ⟨N, hN⟩ : ∃ N, N = w.heap.size + 1 + 1 := ⟨_, rfl⟩
  have kE : Blk ((((w.alloc (.cells #[.int .u64 e] 22)).alloc (.cells #[.int .u64 n] 22)).alloc (.cells #[.slice none 0 0] 110)).alloc (.cells #[.int .u8 81, .int .u8 74, .int .u8 1] 5 (3, 4))) w.heap.size 22 [.int .u64 e] := (((Blk.new w _ _).alloc _).alloc _).alloc _
  have kM : Blk ((((w.alloc (.cells #[.int .u64 e] 22)).alloc (.cells #[.int .u64 n] 22)).alloc (.cells #[.slice none 0 0] 110)).alloc (.cells #[.int .u8 81, .int .u8 74, .int .u8 1] 5 (3, 4))) (w.heap.size + 1) 22 [.int .u64 n] := by
    have := Blk.new (w.alloc (.cells #[.int .u64 e] 22)) 22 [.int .u64 n]
    rw [World.size_alloc] at this
    exact (this.alloc _).alloc _
  have hW0 : WIn N ((((w.alloc (.cells #[.int .u64 e] 22)).alloc (.cells #[.int .u64 n] 22)).alloc (.cells #[.slice none 0 0] 110)).alloc (.cells #[.int .u8 81, .int .u8 74, .int .u8 1] 5 (3, 4))) N (.slice none 0 0) [] := by
    refine ⟨⟨?_, World.ownsRow_nil _ _ _ _⟩, Nat.le_refl _, fun k hk => by simp [Value.ownBlock] at hk⟩
    have := Blk.new ((w.alloc (.cells #[.int .u64 e] 22)).alloc (.cells #[.int .u64 n] 22)) 110 [.slice none 0 0]
    rw [World.size_alloc, World.size_alloc, ← hN] at this
    exact this.alloc _
  have hC : Win ((((w.alloc (.cells #[.int .u64 e] 22)).alloc (.cells #[.int .u64 n] 22)).alloc (.cells #[.slice none 0 0] 110)).alloc (.cells #[.int .u8 81, .int .u8 74, .int .u8 1] 5 (3, 4))) (some ⟨w.heap.size + 1 + 1 + 1, 0, none⟩) 3 3 (([81, 74, 1] : List UInt8).map byt) := by
    have := win_const (((w.alloc (.cells #[.int .u64 e] 22)).alloc (.cells #[.int .u64 n] 22)).alloc (.cells #[.slice none 0 0] 110)) 5 [.int .u8 81, .int .u8 74, .int .u8 1] (by unfold maxLen; simp)
    rw [World.size_alloc, World.size_alloc, World.size_alloc] at this
    exact this
  have f0 : Fr No w ((((w.alloc (.cells #[.int .u64 e] 22)).alloc (.cells #[.int .u64 n] 22)).alloc (.cells #[.slice none 0 0] 110)).alloc (.cells #[.int .u8 81, .int .u8 74, .int .u8 1] 5 (3, 4))) := ((((Fr.refl No w).alloc _).alloc _).alloc _).alloc _
  have hz0 : N ≤ ((((w.alloc (.cells #[.int .u64 e] 22)).alloc (.cells #[.int .u64 n] 22)).alloc (.cells #[.slice none 0 0] 110)).alloc (.cells #[.int .u8 81, .int .u8 74, .int .u8 1] 5 (3, 4))).heap.size := by simp; omega
  generalize (((w.alloc (.cells #[.int .u64 e] 22)).alloc (.cells #[.int .u64 n] 22)).alloc (.cells #[.slice none 0 0] 110)).alloc (.cells #[.int .u8 81, .int .u8 74, .int .u8 1] 5 (3, 4)) = w0 at *
  obtain ⟨be, hbe⟩ : ∃ be, be = w.heap.size := ⟨_, rfl⟩
  obtain ⟨bn, hbn⟩ : ∃ bn, bn = w.heap.size + 1 := ⟨_, rfl⟩
  rw [← hN]
  rw [← hN] at hC
  rw [← hbn, ← hbe]
  rw [← hbe] at kE
  rw [← hbn] at kM
  have leN : be < N := by omega
  have lnN : bn < N := by omega
  have HN := Lib.hid hN
  have HBE := Lib.hid hbe
  clear hN kc hbe hbn
  refine (wrawN N N _ [] [81, 74, 1] _ 3 3 (by simp) _ hz0 hW0 hC).mono ?_
  rintro o w1 ⟨v1, rfl, h1, g1⟩
  have k1 := kE.from g1 leN
  have l1 := kM.from g1 lnN
  have z1 : N ≤ w1.heap.size := Nat.le_trans hz0 g1.size
  clear hW0 hC kE kM
  go_wp2_with fail
  refine (wnumN N N v1 _ 1 m (by omega) (by omega) (by simp) _ z1 h1).mono ?_
  rintro o w2 ⟨v2, rfl, h2, g2⟩
  have k2 := k1.from g2 leN
  have l2 := l1.from g2 lnN
  have z2 : N ≤ w2.heap.size := Nat.le_trans z1 g2.size
  clear h1 k1 l1
  go_wp2_with fail
  refine (marks_any N be bn e n he hn leN lnN v2 _ (by simp [num_len]) _ z2 h2 (k2.cell (j := 0) rfl) (l2.cell (j := 0) rfl)).mono ?_
  rintro o w3 ⟨v3, rfl, h3, g3⟩
  have k3 := k2.from g3 leN
  have l3 := l2.from g3 lnN
  have z3 : N ≤ w3.heap.size := Nat.le_trans z2 g3.size
  have h03 : From N w0 w3 := (g1.t g2).t g3
  clear h2 k2 l2
  go_wp2_with fail
  refine (wrawN N N v3 _ p a m c (by simp [num_len]; omega) _ z3 h3 (HWP.out.old ((show From N w w0 from f0.no_any).t h03) (fun k hk => by have := HBE.out; omega))).mono ?_
  rintro o w4 ⟨v4, rfl, h4, g4⟩
  have k4 := k3.from g4 leN
  have l4 := l3.from g4 lnN
  have z4 : N ≤ w4.heap.size := Nat.le_trans z3 g4.size
  clear h3 k3 l3
  obtain ⟨q, hq⟩ : ∃ q, q = 20 + m := ⟨_, rfl⟩
  obtain ⟨z, hz⟩ : ∃ z, z = 88 - m := ⟨_, rfl⟩
  have hqz : IntKind.i64.wrap (108 - (q : Int)) = (z : Int) := by rw [IntKind.wrap_i64]; omega
  have HQ := Lib.hid hq
  have HZ := Lib.hid hz
  clear hq hz
  go_wp2_with fail
  refine (wlenN N N v4 _ q (by have := HM.out; have := HQ.out; simp [num_len]; omega) _ h4).mono ?_
  rintro o w5 ⟨rfl, rfl⟩
  have hmk : ∀ u : World, (Instr.makeSlice 26 (.int .i64 z) (.int .i64 z)).run Try.prog u = .ok (.slice (some ⟨u.heap.size, 0, none⟩) z z) (u.alloc (.cells ((List.replicate z (0 : UInt8)).map byt).toArray 5)) := Try.makeB z (by have := HZ.out; omega)
  obtain ⟨zz, hzz⟩ : ∃ zz : Array Value, zz = ((List.replicate z (0 : UInt8)).map byt).toArray := ⟨_, rfl⟩
  rw [← hzz] at hmk
  have HZZ := Lib.hid hzz
  clear hzz
  go_wp2_with fail
  have f4 : Fr No w4 (w4.alloc (.cells zz 5)) := (Fr.refl No w4).alloc _
  have hZ : Win (w4.alloc (.cells zz 5)) (some ⟨w4.heap.size, 0, none⟩) z z ((List.replicate z (0 : UInt8)).map byt) := by
    rw [HZZ.out]
    exact Win.of_own' (Own.of_blk (sp := []) (by rw [List.append_nil]; exact Blk.new w4 _ _) (by simp) (by simp) (Nat.le_refl _) (by have := HZ.out; unfold maxLen; omega))
  have z4' : N ≤ (w4.alloc (.cells zz 5)).heap.size := Nat.le_trans z4 f4.size
  have h4' := h4.no f4
  have hl4 : (([] : List UInt8) ++ [81, 74, 1] ++ num 1 m ++ (num 8 e ++ num 8 n) ++ p).length + z ≤ 1000000 := by have := HM.out; have := HZ.out; simp [num_len]; omega
  refine (wrawN N N v4 _ (List.replicate z 0) _ z z hl4 _ z4' h4' hZ).mono ?_
  rintro o w5 ⟨v5, rfl, h5, g5⟩
  have k5 := (k4.fr f4 (No.no _)).from g5 leN
  have l5 := (l4.fr f4 (No.no _)).from g5 lnN
  have z5 : N ≤ w5.heap.size := Nat.le_trans z4' g5.size
  have hfr5 : From N w0 w5 := ((h03.t g4).t (f4.no_any)).t g5
  have hfront : [] ++ [81, 74, 1] ++ num 1 m ++ (num 8 e ++ num 8 n) ++ p ++ List.replicate z 0 = recFront e n p := by rw [HZ.out, HM.out]; rfl
  rw [hfront] at h5
  clear h4 h4' hZ hmk k4 l4 g1 g2 g3 g4 g5 h03 hl4 hfront hqz
  obtain ⟨fr, hfrd⟩ : ∃ fr, fr = recFront e n p := ⟨_, rfl⟩
  have hfl : fr.length = 108 := by rw [hfrd]; exact recFront_len e n p (by rw [← HM.out]; exact hp)
  rw [← hfrd] at h5
  have HFR := Lib.hid hfrd
  clear hfrd
  go_wp2_with fail
  refine (wbytesN N N v5 fr 108 hfl (by decide) _ h5 (by decide)).mono ?_
  rintro o w6 ⟨ga, ca, rfl, o6, p6, g6⟩
  go_wp2_with fail
  refine (crcOf_any _ 108 ca fr _ (Win.of_own' o6) (by decide)).mono ?_
  rintro o w7 ⟨rfl, g7⟩
  have h7 := (h5.no g6).no g7
  have z7 : N ≤ w7.heap.size := Nat.le_trans z5 (Nat.le_trans g6.size g7.size)
  have k7 := (k5.fr g6 (No.no _)).fr g7 (No.no _)
  have l7 := (l5.fr g6 (No.no _)).fr g7 (No.no _)
  have hcw : IntKind.u64.wrap ((sumOf fr : Nat) : Int) = ((sumOf fr : Nat) : Int) := wrap_u64 _ (Nat.lt_trans (sumOf_lt fr) (by decide))
  clear h5 o6 k5 l5
  go_wp2_with fail
  refine (wnumN N N v5 fr 4 (sumOf fr) (by omega) (sumOf_lt fr) (by omega) _ z7 h7).mono ?_
  rintro o w8 ⟨v8, rfl, h8, g8⟩
  have k8 := k7.from g8 leN
  have l8 := l7.from g8 lnN
  have z8 : N ≤ w8.heap.size := Nat.le_trans z7 g8.size
  clear h7 hcw
  go_wp2_with fail
  refine (marks_any N be bn e n he hn leN lnN v8 _ (by simp [num_len, hfl]) _ z8 h8 (k8.cell (j := 0) rfl) (l8.cell (j := 0) rfl)).mono ?_
  rintro o w9 ⟨v9, rfl, h9, g9⟩
  clear h8
  go_wp2_with fail
  refine (wbytesN N N v9 _ 128 (by simp [num_len, hfl]) (by decide) _ h9 (by decide)).mono ?_
  rintro o w10 ⟨gb, cb, rfl, o10, p10, g10⟩
  go_wp2
  go_ret2
  have hall : From N w0 w10 := (((hfr5.t (g6.thn g7).no_any).t g8).t g9).t g10.no_any
  refine ⟨gb, cb, rfl, ?_, ?_, f0.trans hall (fun k hk => .inr (by have := HN.out; omega))⟩
  · rw [HFR.out] at o10
    exact o10
  · have := f0.size
    have := hall.size
    have := g9.size
    have := hfr5.size
    have := g6.size
    have := g7.size
    have := g8.size
    omega
end Go.Proofs.Ytnkjhicokcmmpaa
