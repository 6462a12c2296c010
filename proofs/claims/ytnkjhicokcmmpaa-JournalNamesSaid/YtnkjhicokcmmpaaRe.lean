/-
  A sector's root: what the document's Decode comes to.
-/
import Derived.Test.YtnkjhicokcmmpaaRd
import Derived.Deep.RegionHeld3
import Derived.Deep.DeepCutAuto
namespace Go.Proofs.Ytnkjhicokcmmpaa
open Go.RowKit Go.Shelf

/-- A number in some bytes, wherever they lie. -/
theorem whole_part {w w' : World} {ad : Addr} {n c : Nat} {b : List UInt8} (h : Win w (some ad) n c (b.map byt)) (hf : Fr No w w') (k m : Nat) (hk : k + m ≤ n) (hm : m ≤ 8) (hc : c ≠ k) (hk0 : k ≠ 0) :
    Calls Try.prog 75 #[.slice (some ⟨ad.block, ad.off + k, none⟩) m (c - k)] w' fun e w'' => e = .returned (.int .u64 (wh ((b.drop k).take m) : Nat)) ∧ w' = w'' := by
  have h1 := ((h.no hf).drop (k := k) (by omega)).take (k := m) (by omega)
  rw [if_neg hc, ← List.map_drop, ← List.map_take] at h1
  have e : Option.map (·.add k) (some ad) = some ⟨ad.block, ad.off + k, none⟩ := by simp [Addr.add, hk0]
  rw [e] at h1
  exact refWhole_any _ m (c - k) _ hm w' h1

set_option maxRecDepth 100000 in
set_option maxHeartbeats 1000000 in
theorem refDecode_short (a : Option Addr) (n c : Nat) (b : List UInt8) (w : World) (h : Win w a n c (b.map byt)) (hn : n ≠ 128) :
    Calls Try.prog 21 #[.slice a n c] w fun e w' => e = .returned (.tuple #[decV b, .int .i64 (decE b)]) ∧ Fr No w w' := by
  have hbl : b.length = n := by have := h.len; simpa using this
  have hdec : decRoot b = none := by
    unfold decRoot
    refine if_neg (fun hc => hn (by rw [← hbl]; exact hc.1))
  have HD := Lib.hid hdec
  have kB : Blk (w.alloc (.cells #[.int .u64 0, .int .i64 0, .int .u32 0] 25)) w.heap.size 25 [.int .u64 0, .int .i64 0, .int .u32 0] := Blk.new w _ _
  have f0 : Fr No w (w.alloc (.cells #[.int .u64 0, .int .i64 0, .int .u32 0] 25)) := (Fr.refl No w).alloc _
  have hd : (n == 128) = false := by simp; exact hn
  have hd' : (n != 128) = true := by simp; exact hn
  clear hdec hbl
  go_enter Try.func21, Try.ntmps21
  have rf := kB.free
  go_wp2
  have z0 := kB.cell (j := 0) rfl
  have z1 := kB.cell (j := 1) rfl
  have z2 := kB.cell (j := 2) rfl
  refine bodyPost_ret (v := .tuple #[decV b, .int .i64 (decE b)]) ?_ rfl ⟨rfl, ?_⟩
  · unfold decV decE
    rw [HD.out]
    simp [results, Try.results21, go_sem, z0, z1, z2, RootD.cells, RootD.zero]
  · exact f0

set_option maxRecDepth 100000 in
set_option maxHeartbeats 1000000 in
theorem refDecode_128 (ad : Addr) (c : Nat) (b : List UInt8) (w : World) (h : Win w (some ad) 128 c (b.map byt)) :
    Calls Try.prog 21 #[.slice (some ad) 128 c] w fun e w' => e = .returned (.tuple #[decV b, .int .i64 (decE b)]) ∧ Fr No w w' := by
  have hbl : b.length = 128 := by have := h.len; simpa using this
  have hcap := h.cap
  have hmax := h.max
  unfold maxLen at hmax
  have m12 : (12 : Int) ≤ (c : Int) := by omega
  have m16 : (16 : Int) ≤ (c : Int) := by omega
  have m20 : (20 : Int) ≤ (c : Int) := by omega
  have n4 : ¬ c = 4 := by omega
  have n12 : ¬ c = 12 := by omega
  have n16 : ¬ c = 16 := by omega
  have HBL := Lib.hid hbl
  have hlo : ∀ k : Nat, wh ((b.drop k).take 4) < 2 ^ 32 := fun k => by
    refine Nat.lt_of_lt_of_le (wh_lt _) ?_
    have : ((b.drop k).take 4).length ≤ 4 := by simp; omega
    exact Nat.le_trans (Nat.pow_le_pow_right (by decide) this) (by decide)
  have hw4 : wrap64 ((wh ((b.drop 12).take 4) : Nat) : Int) = ((wh ((b.drop 12).take 4) : Nat) : Int) := Go.IntWalk.wrap64_in _ (by have := hlo 12; omega)
  have hw4' : IntKind.i64.wrap ((wh ((b.drop 12).take 4) : Nat) : Int) = ((wh ((b.drop 12).take 4) : Nat) : Int) := by rw [IntKind.wrap_i64]; have := hlo 12; omega
  have hw5 : IntKind.u32.wrap ((wh ((b.drop 16).take 4) : Nat) : Int) = ((wh ((b.drop 16).take 4) : Nat) : Int) := wrap_u32 _ (hlo 16)
  have kB : Blk (w.alloc (.cells #[.int .u64 0, .int .i64 0, .int .u32 0] 25)) w.heap.size 25 [.int .u64 0, .int .i64 0, .int .u32 0] := Blk.new w _ _
  have f0 : Fr No w (w.alloc (.cells #[.int .u64 0, .int .i64 0, .int .u32 0] 25)) := (Fr.refl No w).alloc _
  have HW := Lib.hid h
  have HLO := Lib.hid hlo
  clear hbl hlo h
  go_enter Try.func21, Try.ntmps21
  go_wp2_with fail
  generalize w.alloc (.cells #[.int .u64 0, .int .i64 0, .int .u32 0] 25) = w0 at *
  go_cut [4] (fun s4 wx => s4 = .pointer (some ⟨w0.heap.size, 0, none⟩) ∧ Blk wx w0.heap.size 25 (rootAt b).cells ∧ Fr No w0 wx)
  case first =>
   go_region_held3 (fun _ => True) (exact trivial) (first | ((with_reducible refine (whole_part HW.out ?_ 4 8 (by decide) (by decide) n4 (by decide)).mono ?_); (first | exact f0.thn ((Fr.refl No w0).drew) | exact f0.thn (((Fr.refl No w0).alloc _).drew)); rintro e w1 ⟨rfl, rfl⟩) | ((with_reducible refine (whole_part HW.out ?_ 12 4 (by decide) (by decide) n12 (by decide)).mono ?_); (first | exact f0.thn ((Fr.refl No w0).drew) | exact f0.thn (((Fr.refl No w0).alloc _).drew)); rintro e w1 ⟨rfl, rfl⟩) | ((with_reducible refine (whole_part HW.out ?_ 16 4 (by decide) (by decide) n16 (by decide)).mono ?_); (first | exact f0.thn ((Fr.refl No w0).drew) | exact f0.thn (((Fr.refl No w0).alloc _).drew)); rintro e w1 ⟨rfl, rfl⟩))
   all_goals go_wp2_with fail
   all_goals go_meet
   all_goals exact ⟨rfl, Blk.new w0 _ _, ((Fr.refl No w0).alloc _).drew⟩
  case rest =>
    rename World => w1
    obtain ⟨rfl, hX, f1⟩ := hcut
    have hF : (rootAt b).Fits := ⟨by
      have := wh_lt ((b.drop 4).take 8)
      refine Nat.lt_of_lt_of_le this (Nat.le_trans (Nat.pow_le_pow_right (by decide) (show _ ≤ 8 by simp; omega)) (by decide)), HLO.out 16⟩
    have hself : rootAt b = ⟨wh ((b.drop 4).take 8), ((wh ((b.drop 12).take 4) : Nat) : Int), wh ((b.drop 16).take 4)⟩ := rfl
    have hw : Win w1 (some ad) 128 c (b.map byt) := HW.out.no (f0.thn f1)
    have k1 := kB.fr f1 (No.no _)
    obtain ⟨x3, h3⟩ : ∃ x, x = wh ((b.drop 4).take 8) := ⟨_, rfl⟩
    obtain ⟨x4, h4⟩ : ∃ x, x = wh ((b.drop 12).take 4) := ⟨_, rfl⟩
    obtain ⟨x5, h5⟩ : ∃ x, x = wh ((b.drop 16).take 4) := ⟨_, rfl⟩
    rw [← h3, ← h4, ← h5] at hself
    rw [hself] at hX hF
    have q0 := hX.cell (j := 0) rfl
    have q1 := hX.cell (j := 1) rfl
    have q2 := hX.cell (j := 2) rfl
    have HS := Lib.hid hself
    have hfw : Fr No w w1 := f0.thn f1
    obtain ⟨X, hXd⟩ : ∃ X : RootD, X = ⟨x3, (x4 : Int), x5⟩ := ⟨_, rfl⟩
    have HXD := Lib.hid hXd
    clear hself h3 h4 h5 hw4 hw4' hw5 kB hXd
    rcases Bool.eq_false_or_eq_true X.ok with hok | hok
    · go_wp2_with fail
      refine (refEncode_ok ⟨x3, (x4 : Int), x5⟩ hF (by rw [← HXD.out]; exact hok) _).mono ?_
      rintro e w6 ⟨v6, rfl, o6, f6⟩
      have k6 := k1.fr f6 (No.no _)
      have kX6 := hX.fr f6 (No.no _)
      have hw6 := hw.no f6
      rw [← HXD.out] at o6
      have ho6 := o6.own
      rw [rootBytes_len] at ho6
      obtain ⟨a6, c6, rfl, wn6⟩ := Win.of_own ho6
      have q0 := kX6.cell (j := 0) rfl
      have q1 := kX6.cell (j := 1) rfl
      have q2 := kX6.cell (j := 2) rfl
      have rl := k6.lt
      have rf := k6.free
      have r0 := k6.cell (j := 0) rfl
      have r1 := k6.cell (j := 1) rfl
      have r2 := k6.cell (j := 2) rfl
      have s1 := run_str (P := Try.prog) (src := 26) (dst := 9) Try.underlying26 Try.underlying5 Try.underlying9 wn6
      have s2 := run_str (P := Try.prog) (src := 26) (dst := 9) Try.underlying26 Try.underlying5 Try.underlying9 hw6
      have hfin := (hfw.thn f6).no_any (S := fun k => k = w.heap.size)
      by_cases heq : rootBytes X = b
      · have hdec : decRoot b = some X := dec_some (fun _ => by rw [HXD.out, HS.out]) hok heq
        have HD := Lib.hid hdec
        have hd : ((str (rootBytes X)).toList == (str b).toList) = true := by rw [heq]; simp
        have hd' : ((str (rootBytes X)).toList != (str b).toList) = false := by rw [heq]; simp
        clear hdec heq
        go_wp2
        have kE : Blk (((w6.setCell ⟨w.heap.size, 0, none⟩ (.int .u64 x3)).setCell ⟨w.heap.size, 1, none⟩ (.int .i64 x4)).setCell ⟨w.heap.size, 2, none⟩ (.int .u32 x5)) w.heap.size 25 [.int .u64 x3, .int .i64 x4, .int .u32 x5] := ((k6.set 0 _).set 1 _).set 2 _
        have z0 := kE.cell (j := 0) rfl
        have z1 := kE.cell (j := 1) rfl
        have z2 := kE.cell (j := 2) rfl
        refine bodyPost_ret (v := .tuple #[decV b, .int .i64 (decE b)]) ?_ rfl ⟨rfl, ?_⟩
        · unfold decV decE
          rw [HD.out, HXD.out]
          simp [results, Try.results21, go_sem, z0, z1, z2, RootD.cells]
        · exact (((hfin).setCell (p := ⟨w.heap.size, 0, none⟩) (.inl rfl) _).setCell (p := ⟨w.heap.size, 1, none⟩) (.inl rfl) _).setCell (p := ⟨w.heap.size, 2, none⟩) (.inl rfl) _ |>.fresh
      · have hdec : decRoot b = none := dec_none (r := X) (fun _ => by rw [HXD.out, HS.out]) (.inr heq)
        have HD := Lib.hid hdec
        have hne : (str (rootBytes X)).toList ≠ (str b).toList := by rw [str_list, str_list]; exact heq
        have hd : ((str (rootBytes X)).toList == (str b).toList) = false := by simpa using hne
        have hd' : ((str (rootBytes X)).toList != (str b).toList) = true := by simpa using hne
        clear hdec heq hne
        go_wp2
        have kE : Blk (((w6.setCell ⟨w.heap.size, 0, none⟩ (.int .u64 0)).setCell ⟨w.heap.size, 1, none⟩ (.int .i64 0)).setCell ⟨w.heap.size, 2, none⟩ (.int .u32 0)) w.heap.size 25 [.int .u64 0, .int .i64 0, .int .u32 0] := ((k6.set 0 _).set 1 _).set 2 _
        have z0 := kE.cell (j := 0) rfl
        have z1 := kE.cell (j := 1) rfl
        have z2 := kE.cell (j := 2) rfl
        refine bodyPost_ret (v := .tuple #[decV b, .int .i64 (decE b)]) ?_ rfl ⟨rfl, ?_⟩
        · unfold decV decE
          rw [HD.out]
          simp [results, Try.results21, go_sem, z0, z1, z2, RootD.cells, RootD.zero]
        · exact (((hfin).setCell (p := ⟨w.heap.size, 0, none⟩) (.inl rfl) _).setCell (p := ⟨w.heap.size, 1, none⟩) (.inl rfl) _).setCell (p := ⟨w.heap.size, 2, none⟩) (.inl rfl) _ |>.fresh
    · have hdec : decRoot b = none := dec_none (r := X) (fun _ => by rw [HXD.out, HS.out]) (.inl hok)
      have HD := Lib.hid hdec
      clear hdec
      go_wp2_with fail
      refine (refEncode_bad ⟨x3, (x4 : Int), x5⟩ (by rw [← HXD.out]; exact hok) _).mono ?_
      rintro e w6 ⟨rfl, f6⟩
      have k6 := k1.fr f6 (No.no _)
      have rl := k6.lt
      have rf := k6.free
      have r0 := k6.cell (j := 0) rfl
      have r1 := k6.cell (j := 1) rfl
      have r2 := k6.cell (j := 2) rfl
      have hfin := (hfw.thn f6).no_any (S := fun k => k = w.heap.size)
      go_wp2
      have kE : Blk (((w6.setCell ⟨w.heap.size, 0, none⟩ (.int .u64 0)).setCell ⟨w.heap.size, 1, none⟩ (.int .i64 0)).setCell ⟨w.heap.size, 2, none⟩ (.int .u32 0)) w.heap.size 25 [.int .u64 0, .int .i64 0, .int .u32 0] := ((k6.set 0 _).set 1 _).set 2 _
      have z0 := kE.cell (j := 0) rfl
      have z1 := kE.cell (j := 1) rfl
      have z2 := kE.cell (j := 2) rfl
      refine bodyPost_ret (v := .tuple #[decV b, .int .i64 (decE b)]) ?_ rfl ⟨rfl, ?_⟩
      · unfold decV decE
        rw [HD.out]
        simp [results, Try.results21, go_sem, z0, z1, z2, RootD.cells, RootD.zero]
      · exact (((hfin).setCell (p := ⟨w.heap.size, 0, none⟩) (.inl rfl) _).setCell (p := ⟨w.heap.size, 1, none⟩) (.inl rfl) _).setCell (p := ⟨w.heap.size, 2, none⟩) (.inl rfl) _ |>.fresh

end Go.Proofs.Ytnkjhicokcmmpaa
