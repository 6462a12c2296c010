/-
  A root's sector: what the program's Encode comes to.
-/
import Derived.Test.YtnkjhicokcmmpaaOg
import Derived.Test.YtnkjhicokcmmpaaCd
import Derived.Lib.SmallJoins
namespace Go.Proofs.Ytnkjhicokcmmpaa
open Go.RowKit Go.Shelf

/-- A root. -/
structure RootD where
  n : Nat
  len : Int
  sum : Nat
structure RootD.Fits (r : RootD) : Prop where
  n : r.n < 2 ^ 64
  sum : r.sum < 2 ^ 32
def RootD.cells (r : RootD) : List Value := [.int .u64 r.n, .int .i64 r.len, .int .u32 r.sum]
/-- May it be? -/
def RootD.ok (r : RootD) : Bool := !(r.n == 0) && !(decide (r.len < 0)) && !(decide (3072 < r.len))
/-- What is ahead of the sum. -/
def rootFront (r : RootD) : List UInt8 := [81, 82, 1, 0] ++ num 8 r.n ++ num 4 r.len.toNat ++ num 4 r.sum ++ List.replicate 96 0
def rootBytes (r : RootD) : List UInt8 := rootFront r ++ num 4 (sumOf (rootFront r)) ++ num 8 r.n
theorem rootFront_len (r : RootD) : (rootFront r).length = 116 := by simp [rootFront, num_len]
theorem rootBytes_len (r : RootD) : (rootBytes r).length = 128 := by simp [rootBytes, rootFront_len, num_len]

set_option maxRecDepth 100000 in
set_option maxHeartbeats 1000000 in
theorem encode_ok (r : RootD) (hf : r.Fits) (hr : r.ok = true) (w : World) :
    Calls Try.prog 18 #[.agg r.cells.toArray] w fun e w' => ∃ g c, e = .returned (.tuple #[.slice (some ⟨g, 0, none⟩) 128 c, .int .i64 0]) ∧ Own w' 5 1 (.slice (some ⟨g, 0, none⟩) 128 c) 128 ((rootBytes r).map byt) ∧ w.heap.size ≤ g ∧ Fr No w w' := by
  obtain ⟨n, len, sum⟩ := r
  simp only [RootD.ok, Bool.and_eq_true, Bool.not_eq_true', beq_eq_false_iff_ne, decide_eq_false_iff_not] at hr
  obtain ⟨⟨hr1, hr2⟩, hr3⟩ := hr
  obtain ⟨L, rfl⟩ : ∃ L : Nat, len = (L : Int) := ⟨len.toNat, by omega⟩
  have hL : L ≤ 3072 := by omega
  have hn0 : ((n : Int) == 0) = false := by simp; omega
  have hLw : IntKind.u64.wrap (L : Int) = (L : Int) := wrap_u64 L (by omega)
  have hsw : IntKind.u64.wrap (sum : Int) = (sum : Int) := wrap_u64 sum (Nat.lt_of_lt_of_le hf.sum (by decide))
  have kc := fun (w : World) (C : Array Value) (n c g : Nat) (hg : g = w.heap.size) => Joins.run_convert_bytes_const_at (P := Try.prog) w 26 5 C n c g hg Try.underlying26 Try.underlying5
  have hd1 : decide ((L : Int) < 0) = false := by simp
  have hd2 : decide (3072 < (L : Int)) = false := by simp; omega
  have HF := Lib.hid hf
  clear hf hr1 hr2 hr3
  show Calls _ _ #[.agg #[.int .u64 n, .int .i64 (L : Int), .int .u32 sum]] _ _
  go_enter Try.func18, Try.ntmps18
  go_wp2_with fail
  obtain ⟨N, hN⟩ : ∃ N, N = w.heap.size + 1 := ⟨_, rfl⟩
  have kR : Blk (((w.alloc (.cells #[.int .u64 n, .int .i64 L, .int .u32 sum] 25)).alloc (.cells #[.slice none 0 0] 110)).alloc (.cells #[.int .u8 81, .int .u8 82, .int .u8 1, .int .u8 0] 5 (4, 5))) w.heap.size 25 [.int .u64 n, .int .i64 L, .int .u32 sum] := ((Blk.new w _ _).alloc _).alloc _
  have hW0 : WIn N (((w.alloc (.cells #[.int .u64 n, .int .i64 L, .int .u32 sum] 25)).alloc (.cells #[.slice none 0 0] 110)).alloc (.cells #[.int .u8 81, .int .u8 82, .int .u8 1, .int .u8 0] 5 (4, 5))) N (.slice none 0 0) [] := by
    refine ⟨⟨?_, World.ownsRow_nil _ _ _ _⟩, Nat.le_refl _, fun k hk => by simp [Value.ownBlock] at hk⟩
    have := Blk.new (w.alloc (.cells #[.int .u64 n, .int .i64 L, .int .u32 sum] 25)) 110 [.slice none 0 0]
    rw [World.size_alloc, ← hN] at this
    exact this.alloc _
  have hC : Win (((w.alloc (.cells #[.int .u64 n, .int .i64 L, .int .u32 sum] 25)).alloc (.cells #[.slice none 0 0] 110)).alloc (.cells #[.int .u8 81, .int .u8 82, .int .u8 1, .int .u8 0] 5 (4, 5))) (some ⟨w.heap.size + 1 + 1, 0, none⟩) 4 4 (([81, 82, 1, 0] : List UInt8).map byt) := by
    have := win_const ((w.alloc (.cells #[.int .u64 n, .int .i64 L, .int .u32 sum] 25)).alloc (.cells #[.slice none 0 0] 110)) 5 [.int .u8 81, .int .u8 82, .int .u8 1, .int .u8 0] (by unfold maxLen; simp)
    rw [World.size_alloc, World.size_alloc] at this
    exact this
  have f0 : Fr No w (((w.alloc (.cells #[.int .u64 n, .int .i64 L, .int .u32 sum] 25)).alloc (.cells #[.slice none 0 0] 110)).alloc (.cells #[.int .u8 81, .int .u8 82, .int .u8 1, .int .u8 0] 5 (4, 5))) := (((Fr.refl No w).alloc _).alloc _).alloc _
  have hz0 : N ≤ (((w.alloc (.cells #[.int .u64 n, .int .i64 L, .int .u32 sum] 25)).alloc (.cells #[.slice none 0 0] 110)).alloc (.cells #[.int .u8 81, .int .u8 82, .int .u8 1, .int .u8 0] 5 (4, 5))).heap.size := by simp; omega
  generalize ((w.alloc (.cells #[.int .u64 n, .int .i64 L, .int .u32 sum] 25)).alloc (.cells #[.slice none 0 0] 110)).alloc (.cells #[.int .u8 81, .int .u8 82, .int .u8 1, .int .u8 0] 5 (4, 5)) = w0 at *
  have hbN : w.heap.size < N := by omega
  rw [← hN]
  rw [← hN] at hC
  have HN := Lib.hid hN
  clear hN kc
  refine (wrawN N N _ [] [81, 82, 1, 0] _ 4 4 (by simp) _ hz0 hW0 hC).mono ?_
  rintro e w1 ⟨v1, rfl, h1, g1⟩
  have k1 := kR.from g1 hbN
  have z1 : N ≤ w1.heap.size := Nat.le_trans hz0 g1.size
  have c1 := k1.cell (j := 0) rfl
  clear hW0 hC
  go_wp2_with fail
  refine (wnumN N N v1 _ 8 n (by omega) HF.out.n (by simp) _ z1 h1).mono ?_
  rintro e w2 ⟨v2, rfl, h2, g2⟩
  have k2 := k1.from g2 hbN
  have z2 : N ≤ w2.heap.size := Nat.le_trans z1 g2.size
  have c2 := k2.cell (j := 1) rfl
  clear c1 h1
  go_wp2_with fail
  refine (wnumN N N v2 _ 4 L (by omega) (by omega) (by simp [num_len]) _ z2 h2).mono ?_
  rintro e w3 ⟨v3, rfl, h3, g3⟩
  have k3 := k2.from g3 hbN
  have z3 : N ≤ w3.heap.size := Nat.le_trans z2 g3.size
  have c3 := k3.cell (j := 2) rfl
  clear c2 h2
  go_wp2_with fail
  refine (wnumN N N v3 _ 4 sum (by omega) HF.out.sum (by simp [num_len]) _ z3 h3).mono ?_
  rintro e w4 ⟨v4, rfl, h4, g4⟩
  have k4 := k3.from g4 hbN
  have z4 : N ≤ w4.heap.size := Nat.le_trans z3 g4.size
  clear c3 h3
  go_wp2_with fail
  refine (wlenN N N v4 _ 20 (by simp [num_len]) _ h4).mono ?_
  rintro e w5 ⟨rfl, rfl⟩
  have hmk : ∀ u : World, (Instr.makeSlice 26 (.int .i64 96) (.int .i64 96)).run Try.prog u = .ok (.slice (some ⟨u.heap.size, 0, none⟩) 96 96) (u.alloc (.cells ((List.replicate 96 (0 : UInt8)).map byt).toArray 5)) := Try.makeB 96 (by decide)
  obtain ⟨zz, hzz⟩ : ∃ zz : Array Value, zz = ((List.replicate 96 (0 : UInt8)).map byt).toArray := ⟨_, rfl⟩
  rw [← hzz] at hmk
  have HZZ := Lib.hid hzz
  clear hzz
  go_wp2_with fail
  have f4 : Fr No w4 (w4.alloc (.cells zz 5)) := (Fr.refl No w4).alloc _
  have hZ : Win (w4.alloc (.cells zz 5)) (some ⟨w4.heap.size, 0, none⟩) 96 96 ((List.replicate 96 (0 : UInt8)).map byt) := by
    rw [HZZ.out]
    exact Win.of_own' (Own.of_blk (sp := []) (by rw [List.append_nil]; exact Blk.new w4 _ _) (by simp) (by simp) (Nat.le_refl _) (by unfold maxLen; simp))
  have z4' : N ≤ (w4.alloc (.cells zz 5)).heap.size := Nat.le_trans z4 f4.size
  have h4' := h4.no f4
  refine (wrawN N N v4 _ (List.replicate 96 0) _ 96 96 (by simp [num_len]) _ z4' h4' hZ).mono ?_
  rintro e w5 ⟨v5, rfl, h5, g5⟩
  have k5 := (k4.fr f4 (No.no _)).from g5 hbN
  have z5 : N ≤ w5.heap.size := Nat.le_trans z4' g5.size
  have hfr5 : From N w0 w5 := ((((g1.t g2).t g3).t g4).t (f4.no_any)).t g5
  clear h4 h4' hZ hmk k4 k3 k2 k1 kR g1 g2 g3 g4 g5
  have hfront : [81, 82, 1, 0] ++ num 8 n ++ num 4 L ++ num 4 sum ++ List.replicate 96 0 = rootFront ⟨n, L, sum⟩ := rfl
  rw [List.nil_append, hfront] at h5
  clear hfront
  obtain ⟨fr, hfrd⟩ : ∃ fr, fr = rootFront ⟨n, (L : Int), sum⟩ := ⟨_, rfl⟩
  have hfl : fr.length = 116 := by rw [hfrd]; exact rootFront_len _
  rw [← hfrd] at h5
  have HFR := Lib.hid hfrd
  clear hfrd
  go_wp2_with fail
  refine (wbytesN N N v5 fr 116 hfl (by decide) _ h5 (by decide)).mono ?_
  rintro e w6 ⟨ga, ca, rfl, o6, p6, g6⟩
  go_wp2_with fail
  refine (crcOf_any _ 116 ca fr _ (Win.of_own' o6) (by decide)).mono ?_
  rintro e w7 ⟨rfl, g7⟩
  have h7 := (h5.no g6).no g7
  have z7 : N ≤ w7.heap.size := Nat.le_trans z5 (Nat.le_trans g6.size g7.size)
  have k7 := (k5.fr g6 (No.no _)).fr g7 (No.no _)
  have hcw : IntKind.u64.wrap ((sumOf fr : Nat) : Int) = ((sumOf fr : Nat) : Int) := wrap_u64 _ (Nat.lt_trans (sumOf_lt fr) (by decide))
  clear h5 o6 k5
  go_wp2_with fail
  refine (wnumN N N v5 fr 4 (sumOf fr) (by omega) (sumOf_lt fr) (by omega) _ z7 h7).mono ?_
  rintro e w8 ⟨v8, rfl, h8, g8⟩
  have k8 := k7.from g8 hbN
  have z8 : N ≤ w8.heap.size := Nat.le_trans z7 g8.size
  have c8 := k8.cell (j := 0) rfl
  clear h7 hcw
  go_wp2_with fail
  refine (wnumN N N v8 _ 8 n (by omega) HF.out.n (by simp [num_len, hfl]) _ z8 h8).mono ?_
  rintro e w9 ⟨v9, rfl, h9, g9⟩
  clear c8 h8
  go_wp2_with fail
  refine (wbytesN N N v9 _ 128 (by simp [num_len, hfl]) (by decide) _ h9 (by decide)).mono ?_
  rintro e w10 ⟨gb, cb, rfl, o10, p10, g10⟩
  go_wp2
  go_ret2
  have hall : From N w0 w10 := (((hfr5.t (g6.thn g7).no_any).t g8).t g9).t g10.no_any
  refine ⟨gb, cb, rfl, ?_, ?_, f0.trans hall (fun k hk => .inr (by omega))⟩
  · rw [HFR.out] at o10
    exact o10
  · have := f0.size
    have := hall.size
    have := g9.size
    have := hfr5.size
    have := g6.size
    have := g7.size
    have := g8.size
    omega

end Go.Proofs.Ytnkjhicokcmmpaa
