/-
  Numbers as bytes: what the document's functions come to.
-/
import Derived.Test.YtnkjhicokcmmpaaOd
namespace Go.Proofs.Ytnkjhicokcmmpaa
open Go.RowKit Go.Shelf

theorem rsized_yes (n : Nat) (hs : n = 1 ∨ n = 2 ∨ n = 4 ∨ n = 8) (w : World) : Calls Try.prog 105 #[.int .i64 n] w fun e w' => e = .returned (.bool true) ∧ w = w' := by
  rcases hs with rfl | rfl | rfl | rfl
  all_goals
    go_enter Try.func105, Try.ntmps105
    go_wp2
    go_ret
    exact ⟨rfl, rfl⟩

theorem num_succ (k n : Nat) : num (k + 1) n = UInt8.ofNat (n / 2 ^ (8 * k)) :: num k n := by
  unfold num numTo
  rw [List.range_succ_eq_map, List.map_cons, List.map_map]
  congr 1
  apply List.map_congr_left
  intro i hi
  have hi' : i < k := by simpa using hi
  show numByte (k + 1) n (i + 1) = numByte k n i
  unfold numByte
  congr 3
  omega

set_option maxRecDepth 100000 in
set_option maxHeartbeats 4000000 in
theorem refNum_any (size n : Nat) (hs : size = 1 ∨ size = 2 ∨ size = 4 ∨ size = 8) (hn : n < 2 ^ (8 * size)) (w : World) :
    Calls Try.prog 69 #[.int .i64 size, .int .u64 n] w fun e w' => ∃ v, e = .returned (.tuple #[v, .int .i64 0]) ∧ Own w' 5 1 v size ((num size n).map byt) ∧ (∀ k, v.ownBlock = some k → w.heap.size ≤ k) ∧ Fr No w w' := by
  obtain ⟨i0, hi0, hz0, hz1, hz2⟩ := info_parts Try.infoU8
  have hs8 : size ≤ 8 := by omega
  have HN := Lib.hid hn
  clear hn
  go_enter Try.func69, Try.ntmps69
  go_wp2_with (go_at_call 105; refine (rsized_yes _ hs _).mono ?_; rintro e w1 ⟨rfl, rfl⟩)
  go_loopw [1, 6, 7] (fun m v t wr => ∃ k : Nat, k ≤ size ∧ m = .int .u64 (n / 2 ^ (8 * k) : Nat) ∧ t = .int .i64 k ∧ Own wr 5 1 v k ((num k n).map byt) ∧ (∀ b, v.ownBlock = some b → w.heap.size ≤ b) ∧ Fr No w wr) (fun _ _ t _ => size - (intOf t).toNat)
  case atStart => exact ⟨0, Nat.zero_le _, by simp, rfl, World.ownsRow_nil _ _ _ _, by simp [Value.ownBlock], Fr.refl _ _⟩
  case round =>
    obtain ⟨k, hk, rfl, rfl, hO, hnew, hfr⟩ := hrel
    by_cases hlt : k < size
    · obtain ⟨a, c, rfl, hw⟩ := Win.of_own hO
      obtain ⟨m, hm⟩ : ∃ m, m = n / 2 ^ (8 * k) := ⟨_, rfl⟩
      rw [← hm]
      have HM := Lib.hid hm
      clear hm
      have hval : Hid (Value.int .u8 ((m : Int) % 256) = byt (UInt8.ofNat m)) := by
        show Value.int .u8 ((m : Int) % 256) = Value.int .u8 ((UInt8.ofNat m).toNat : Int)
        congr 1
      have hnew1 : Hid (Own (wr.alloc (.cells #[Value.int .u8 ((m : Int) % 256)] 5)) 5 1 (.slice (some ⟨wr.heap.size, 0, none⟩) 1 1) 1 [Value.int .u8 ((m : Int) % 256)]) :=
        Own.weak (B := 0) (World.ownsRow_lit (size := 1) wr #[Value.int .u8 ((m : Int) % 256)] 1 (Nat.zero_le _) (by unfold maxLen; omega) rfl)
      have HW := Lib.hid hw
      have hm1 : 1 + k ≤ maxLen := by unfold maxLen; omega
      have hm2 : (1 + k) * 1 ≤ 140737488355328 := by omega
      have h1c : Hid (∀ u ∈ (num k n).map byt, u.oneCell' = true) := byt_one _
      clear hw hO
      go_wp2_with (at_builtin; refine wpList_appW _ rfl (.tmp 19) (.tmp 20) 26 rfl 5 i0 (.int .u8 0) 1 Try.underlying26 hi0 hz0 hz1 hz2 rfl (.slice (some ⟨wr.heap.size, 0, none⟩) 1 1) 1 [Value.int .u8 ((m : Int) % 256)] rfl hnew1.out a k c ((num k n).map byt) rfl (HW.out.no ((Fr.refl No wr).alloc _)) h1c.out hm1 hm2 ?_; intro v2 w2 hap)
      go_roundw
      case rel =>
        have ho := hap.own
        rw [hval.out] at ho
        refine ⟨k + 1, by omega, ?_, by go_num, ?_, ?_, hfr.trans (((Fr.refl No wr).alloc _).trans hap.fr (fun x hx => .inr ?_)) (fun x hx => hx.elim)⟩
        · rw [show 8 * (k + 1) = 8 * k + 8 by omega, Nat.pow_add, ← Nat.div_div_eq_div_mul, ← HM.out]
          congr 1
          rw [show (m : Int) / 256 = ((m / 2 ^ 8 : Nat) : Int) by omega]
          refine wrap_u64 _ (Nat.lt_of_le_of_lt (Nat.div_le_self _ _) ?_)
          rw [HM.out]
          exact Nat.lt_of_le_of_lt (Nat.div_le_self _ _) (Nat.lt_of_lt_of_le HN.out (Nat.pow_le_pow_right (by decide) (by omega)))
        · rw [num_succ, ← HM.out, Nat.add_comm]
          exact ho
        · intro b hb
          have := hfr.size
          rcases hap.blk with e | ⟨k', e, hk'⟩
          · rw [e] at hb
            simp [Value.ownBlock] at hb
            omega
          · rw [e] at hb
            cases hb
            simp at hk'
            omega
        · simp [Value.ownBlock] at hx; omega
      case measure => (simp [intOf]; omega)
    · obtain rfl : k = size := by omega
      have h0 : n / 2 ^ (8 * k) = 0 := Nat.div_eq_of_lt HN.out
      rw [h0]
      clear h0
      go_wp2
      go_ret2
      exact ⟨_, rfl, hO, hnew, hfr⟩

def whTo (l : List UInt8) (k : Nat) : Nat := wh (l.take k)
theorem whTo_succ (l : List UInt8) (k : Nat) (hk : k < l.length) : whTo l (k + 1) = whTo l k * 256 + (l[k]).toNat := by
  unfold whTo
  rw [List.take_succ_eq_append_getElem hk, wh_snoc]
theorem whTo_lt (l : List UInt8) (k : Nat) (hk : k ≤ 7) : whTo l k < 2 ^ 56 := by
  unfold whTo
  refine Nat.lt_of_lt_of_le (wh_lt _) ?_
  have h1 : (l.take k).length ≤ 7 := by simp; omega
  exact Nat.le_trans (Nat.pow_le_pow_right (by decide) h1) (by decide)

set_option maxRecDepth 100000 in
set_option maxHeartbeats 4000000 in
theorem refWhole_any (a : Option Addr) (n c : Nat) (bs : List UInt8) (hn : n ≤ 8) (w : World) (h : Win w a n c (bs.map byt)) :
    Calls Try.prog 75 #[.slice a n c] w fun e w' => e = .returned (.int .u64 (wh bs : Nat)) ∧ w = w' := by
  have hl : bs.length = n := by have := h.len; simpa using this
  have HL := Lib.hid hl
  have hw := Lib.hid h
  clear hl h
  go_enter Try.func75, Try.ntmps75
  go_wp2
  go_loop [3, 4] (fun r t => ∃ k : Nat, k ≤ n ∧ r = .int .u64 (whTo bs k : Nat) ∧ t = .int .i64 k) (fun _ t => n - (intOf t).toNat)
  case atStart => exact ⟨0, Nat.zero_le _, rfl, rfl⟩
  case round =>
    obtain ⟨k, hk, rfl, rfl⟩ := hrel
    by_cases hlt : k < n
    · have hkb : k < bs.length := by rw [HL.out]; exact hlt
      obtain ⟨ad, u, rfl, hu, hcell⟩ := hw.out.at hlt
      have hc := whTo_lt bs k (by omega)
      have hsuc := whTo_succ bs k hkb
      have hx := (bs[k]).toNat_lt
      have hu' : u = .int .u8 ((bs[k]).toNat : Int) := by
        rw [List.getElem?_map, List.getElem?_eq_getElem hkb] at hu
        exact (Option.some.inj hu).symm
      subst hu'
      generalize (bs[k]).toNat = x at *
      obtain ⟨m, hm⟩ : ∃ m, m = whTo bs k := ⟨_, rfl⟩
      rw [← hm] at hc hsuc ⊢
      have HS := Lib.hid hsuc
      have hx1 : IntKind.u64.wrap (x : Int) = (x : Int) := wrap_u64 x (by omega)
      have hx2 : IntKind.u64.wrap (256 * (m : Int)) = 256 * (m : Int) := by
        rw [show 256 * (m : Int) = ((256 * m : Nat) : Int) by simp]
        exact wrap_u64 _ (by omega)
      have hx3 : IntKind.u64.wrap (256 * (m : Int) + (x : Int)) = 256 * (m : Int) + (x : Int) := by
        rw [show 256 * (m : Int) + (x : Int) = ((256 * m + x : Nat) : Int) by simp]
        exact wrap_u64 _ (by omega)
      have HX1 := Lib.hid hx1
      have HX2 := Lib.hid hx2
      have HX3 := Lib.hid hx3
      clear hsuc hm hu hc hx hx1 hx2 hx3
      have hx1 := HX1.out
      have hx2 := HX2.out
      have hx3 := HX3.out
      go_wp2
      go_round
      case rel => exact ⟨k + 1, by omega, (by rw [HS.out]; congr 1; simp [Int.mul_comm]), by go_num⟩
      case measure => (simp [intOf]; omega)
    · obtain rfl : k = n := by omega
      have hend : whTo bs k = wh bs := by unfold whTo; rw [List.take_of_length_le (by rw [HL.out]; exact Nat.le_refl _)]
      rw [hend]
      clear hend
      go_wp2
      go_ret
      exact ⟨rfl, rfl⟩

end Go.Proofs.Ytnkjhicokcmmpaa
