/-
  A root's sector: what the document's Encode comes to, where a root may be.
-/
import Derived.Test.YtnkjhicokcmmpaaRb
namespace Go.Proofs.Ytnkjhicokcmmpaa
open Go.RowKit Go.Shelf

/-- New bytes, in blocks from where the heap ended. -/
theorem OIn.of {w w' : World} {v : Value} {n : Nat} {bs : List UInt8} (h : Own w' 5 1 v n (bs.map byt)) (hn : bs.length = n) (h2 : ∀ k, v.ownBlock = some k → w.heap.size ≤ k) : OIn w.heap.size w' v bs := ⟨by rw [hn]; exact h, h2⟩

set_option maxRecDepth 100000 in
set_option maxHeartbeats 1000000 in
theorem refEncode_ok (r : RootD) (hf : r.Fits) (hr : r.ok = true) (w : World) :
    Calls Try.prog 19 #[.agg r.cells.toArray] w fun e w' => ∃ v, e = .returned (.tuple #[v, .int .i64 0]) ∧ OIn w.heap.size w' v (rootBytes r) ∧ Fr No w w' := by
  obtain ⟨i0, hi0, hz0, hz1, hz2⟩ := info_parts Try.infoU8
  obtain ⟨n, len, sum⟩ := r
  simp only [RootD.ok, Bool.and_eq_true, Bool.not_eq_true', beq_eq_false_iff_ne, decide_eq_false_iff_not] at hr
  obtain ⟨⟨hr1, hr2⟩, hr3⟩ := hr
  obtain ⟨L, rfl⟩ : ∃ L : Nat, len = (L : Int) := ⟨len.toNat, by omega⟩
  have hL : L ≤ 3072 := by omega
  have hn0 : ((n : Int) == 0) = false := by simp; omega
  have hLw : IntKind.u64.wrap (L : Int) = (L : Int) := wrap_u64 L (by omega)
  have hsw : IntKind.u64.wrap (sum : Int) = (sum : Int) := wrap_u64 sum (Nat.lt_of_lt_of_le hf.sum (by decide))
  have hd1 : decide ((L : Int) < 0) = false := by simp
  have hd2 : decide (3072 < (L : Int)) = false := by simp; omega
  have HF := Lib.hid hf
  clear hf hr1 hr2 hr3
  show Calls _ _ #[.agg #[.int .u64 n, .int .i64 (L : Int), .int .u32 sum]] _ _
  have kR : Blk (w.alloc (.cells #[.int .u64 n, .int .i64 L, .int .u32 sum] 25)) w.heap.size 25 [.int .u64 n, .int .i64 L, .int .u32 sum] := Blk.new w _ _
  have f0 : Fr No w (w.alloc (.cells #[.int .u64 n, .int .i64 L, .int .u32 sum] 25)) := (Fr.refl No w).alloc _
  have hz0' : w.heap.size < (w.alloc (.cells #[.int .u64 n, .int .i64 L, .int .u32 sum] 25)).heap.size := by simp
  go_enter Try.func19, Try.ntmps19
  go_wp2_with fail
  generalize w.alloc (.cells #[.int .u64 n, .int .i64 L, .int .u32 sum] 25) = w0 at *
  refine (refNum_any 8 n (by omega) HF.out.n _).mono ?_
  rintro e w1 ⟨vn, rfl, on, nn, g1⟩
  have k1 := kR.fr g1 (No.no _)
  have c1 := k1.cell (j := 1) rfl
  obtain ⟨an, cn, rfl, wn⟩ := Win.of_own on
  go_wp2_with fail
  refine (refNum_any 4 L (by omega) (by omega) _).mono ?_
  rintro e w2 ⟨vl, rfl, ol, nl, g2⟩
  obtain ⟨al, cl, rfl, wl⟩ := Win.of_own ol
  have k2 := k1.fr g2 (No.no _)
  have c2 := k2.cell (j := 2) rfl
  have hz2' : w.heap.size < w2.heap.size := Nat.lt_of_lt_of_le hz0' (Nat.le_trans g1.size g2.size)
  have fz : Fr No w2 (w2.alloc (.cells #[.int .u8 81, .int .u8 82, .int .u8 1, .int .u8 0] 5)) := (Fr.refl No w2).alloc _
  have hB0 : OIn w2.heap.size (w2.alloc (.cells #[.int .u8 81, .int .u8 82, .int .u8 1, .int .u8 0] 5)) (.slice (some ⟨w2.heap.size, 0, none⟩) 4 4) [81, 82, 1, 0] :=
    ⟨Own.of_blk (n := 4) (cap := 4) (xs := ([81, 82, 1, 0] : List UInt8).map byt) (sp := []) (Blk.new w2 5 (([81, 82, 1, 0] : List UInt8).map byt)) rfl rfl (Nat.le_refl _) (by unfold maxLen; decide), fun k hk => by simp [Value.ownBlock] at hk; omega⟩
  have HB0 := Lib.hid hB0
  have WN := Lib.hid ((wn.no g2).no fz)
  have WL := Lib.hid wl
  have HK : Hid (∀ l : List UInt8, ∀ u ∈ l.map byt, u.oneCell' = true) := byt_one
  have hmx : ∀ a : Nat, a ≤ 1000 → a ≤ maxLen := fun a h => by unfold maxLen; omega
  have HMX := Lib.hid hmx
  have hlb : ∀ ad, al = some ad → ¬ w2.heap.size ≤ ad.block := fun ad hd => by have := ol.lt (k := ad.block) (by rw [hd]; rfl); omega
  have HLB := Lib.hid hlb
  have hnb : ∀ ad, an = some ad → ¬ w2.heap.size ≤ ad.block := fun ad hd => by have := on.lt (k := ad.block) (by rw [hd]; rfl); have := g2.size; omega
  have HNB := Lib.hid hnb
  clear on nn ol nl c1 hB0 wn wl hmx hlb hnb
  go_wp2_with (first
    | (at_builtin; refine wpList_appW _ rfl (.tmp 39) (.tmp 40) 26 rfl 5 i0 (.int .u8 0) 1 Try.underlying26 hi0 hz0 hz1 hz2 rfl (.slice (some ⟨w2.heap.size, 0, none⟩) 4 4) 4 (([81, 82, 1, 0] : List UInt8).map byt) rfl HB0.out.own an 8 cn ((num 8 n).map byt) rfl WN.out (HK.out _) (HMX.out _ (by omega)) (by omega) ?_; intro v3 w3 hap3; obtain ⟨b3, e3, l3, q3, r3⟩ := HB0.out.step (num 8 n) (by simp) (Fr.refl No _) hap3 (num_len _ _); have z3 := (fz.thn (Fr.refl No _)).size)
    | (at_builtin; refine wpList_appW _ rfl (.tmp 42) (.tmp 43) 26 rfl 5 i0 (.int .u8 0) 1 Try.underlying26 hi0 hz0 hz1 hz2 rfl v3 _ _ rfl q3.own al 4 cl ((num 4 L).map byt) rfl (WL.out.fr (S := fun k => w2.heap.size ≤ k) (fz.no_any.trans r3 (fun k h => .inl h)) (HLB.out)) (HK.out _) (HMX.out _ (by have := l3.out; simp at this; omega)) (by have := l3.out; simp at this; omega) ?_; intro v4 w4 hap4; obtain ⟨b4, e4, l4, q4, r4⟩ := q3.step (num 4 L) (Nat.le_trans z3 r3.size) (Fr.refl No _) hap4 (num_len _ _); have k4 := ((k2.fr fz (No.no _)).from r3 hz2').from r4 hz2'; have c4 := k4.cell (j := 2) rfl))
  have z4 : w2.heap.size ≤ w4.heap.size := Nat.le_trans (Nat.le_trans z3 r3.size) r4.size
  refine (refNum_any 4 sum (by omega) HF.out.sum _).mono ?_
  rintro e w5 ⟨vs, rfl, os, ns, g5⟩
  obtain ⟨as', cs, rfl, ws⟩ := Win.of_own os
  have WS := Lib.hid ws
  have q5 := q4.no g5
  have z5 : w2.heap.size ≤ w5.heap.size := Nat.le_trans z4 g5.size
  clear ws os ns c4 hap3 hap4
  go_wp2_with (at_builtin; refine wpList_appW _ rfl (.tmp 52) (.tmp 53) 26 rfl 5 i0 (.int .u8 0) 1 Try.underlying26 hi0 hz0 hz1 hz2 rfl v4 _ _ rfl q5.own as' 4 cs ((num 4 sum).map byt) rfl WS.out (HK.out _) (HMX.out _ (by have := l4.out; have := l3.out; simp at this; omega)) (by have := l4.out; have := l3.out; simp at this; omega) ?_; intro v6 w6 hap6; obtain ⟨b6, e6, l6, q6, r6⟩ := q5.step (num 4 sum) z5 (Fr.refl No _) hap6 (num_len _ _))
  have hl6 : b6.length = 20 := by have := l6.out; have := l4.out; have := l3.out; simp at this; omega
  have he6 : b6 = [81, 82, 1, 0] ++ num 8 n ++ num 4 L ++ num 4 sum := by rw [e6.out, e4.out, e3.out]
  have hr6 : From w2.heap.size w2 w6 := From.t (From.t (fz.no_any.trans r3 (fun k h => .inl h)) r4) (From.t g5.no_any r6)
  have HE6 := Lib.hid he6
  have hR : From w2.heap.size (w2.alloc (.cells #[.int .u8 81, .int .u8 82, .int .u8 1, .int .u8 0] 5)) w6 := From.t (From.t r3 r4) (From.t g5.no_any r6)
  have HR := Lib.hid hR
  clear hR
  have HL6 := Lib.hid hl6
  clear hap6 he6 hl6 r3 r4 r6 e3 e4 e6 l3 l4 l6
  obtain ⟨a6, c6, hv6⟩ := own_slice q6.own
  rw [HL6.out] at hv6
  subst hv6
  have z6 : w2.heap.size ≤ w6.heap.size := hr6.size
  have q6' : OIn w2.heap.size w6 (.slice a6 20 c6) (b6 ++ List.replicate 0 0) := by simpa using q6
  have Q6 := Lib.hid q6'
  clear q6 q6' q5 q4 q3
  go_loopw [8] (fun s wr => ∃ (k : Nat) (a : Option Addr) (c : Nat), k ≤ 96 ∧ s = .slice a (20 + k) c ∧ OIn w2.heap.size wr (.slice a (20 + k) c) (b6 ++ List.replicate k 0) ∧ From w2.heap.size w6 wr) (fun s _ => 116 - (match s with | .slice _ n _ => n | _ => 0))
  case atStart => exact ⟨0, a6, c6, Nat.zero_le _, rfl, Q6.out, Fr.refl _ _⟩
  case round =>
    obtain ⟨k, a, c, hk, rfl, hO, hfr⟩ := hrel
    have hbl : (b6 ++ List.replicate k 0).length = 20 + k := by rw [List.length_append, HL6.out, List.length_replicate]
    obtain ⟨bk, hbk⟩ : ∃ bk, bk = b6 ++ List.replicate k 0 := ⟨_, rfl⟩
    rw [← hbk] at hO hbl
    have HBK := Lib.hid hbk
    have HBL := Lib.hid hbl
    have zr : w2.heap.size ≤ wr.heap.size := Nat.le_trans z6 hfr.size
    have hown : Own wr 5 1 (.slice a (20 + k) c) (20 + k) (bk.map byt) := by have h := hO.own; rw [hbl] at h; exact h
    clear hbk hbl
    by_cases hlt : k < 96
    · have hn1 : Hid (Win (wr.alloc (.cells #[.int .u8 0] 5)) (some ⟨wr.heap.size, 0, none⟩) 1 1 (([0] : List UInt8).map byt)) :=
        Win.of_own' (T := 5) (Own.of_blk (n := 1) (cap := 1) (xs := ([0] : List UInt8).map byt) (sp := []) (Blk.new wr 5 (([0] : List UInt8).map byt)) rfl rfl (Nat.le_refl _) (by unfold maxLen; decide))
      have hownA : Hid (Own (wr.alloc (.cells #[.int .u8 0] 5)) 5 1 (.slice a (20 + k) c) (20 + k) (bk.map byt)) := hown.alloc _
      have hd : decide (20 + k < 116) = true := by simp; omega
      have fa : Fr No wr (wr.alloc (.cells #[.int .u8 0] 5)) := (Fr.refl No wr).alloc _
      clear hown
      go_wp2_with (at_builtin; refine wpList_appW _ rfl (.tmp 58) (.tmp 59) 26 rfl 5 i0 (.int .u8 0) 1 Try.underlying26 hi0 hz0 hz1 hz2 rfl (.slice a (20 + k) c) (20 + k) (bk.map byt) rfl hownA.out (some ⟨wr.heap.size, 0, none⟩) 1 1 (([0] : List UInt8).map byt) rfl hn1.out (HK.out _) (HMX.out _ (by omega)) (by omega) ?_; intro v7 w7 hap7; obtain ⟨a7, c7, rfl⟩ := app_slice hap7)
      go_roundw
      case rel =>
        have hap7' : Appended (wr.alloc (.cells #[.int .u8 0] 5)) 5 1 (.slice a (20 + k) c) bk.length 1 (bk.map byt ++ ([0] : List UInt8).map byt) (.slice a7 (20 + k + 1) c7) w7 := by rw [HBL.out]; exact hap7
        obtain ⟨q1, q2⟩ := hO.app zr fa hap7' rfl
        refine ⟨k + 1, a7, c7, by omega, rfl, ?_, hfr.t q2⟩
        rw [HBK.out, List.append_assoc] at q1
        rw [List.replicate_succ']
        exact q1
      case measure => (simp; omega)
    · obtain rfl : k = 96 := by omega
      have hbf : bk = rootFront ⟨n, (L : Int), sum⟩ := by rw [HBK.out, HE6.out]; rfl
      have HBF := Lib.hid hbf
      have hd : decide (20 + 96 < 116) = false := by decide
      have hcw : IntKind.u64.wrap ((sumOf bk : Nat) : Int) = ((sumOf bk : Nat) : Int) := wrap_u64 _ (Nat.lt_trans (sumOf_lt bk) (by decide))
      clear hbf hd
      have hown' : Own wr 5 1 (.slice a 116 c) 116 (bk.map byt) := hown
      have hO' : OIn w2.heap.size wr (.slice a 116 c) bk := hO
      obtain ⟨a', c', ev, hwin⟩ := Win.of_own hown'
      injection ev with ev1 ev2 ev3
      subst ev1
      subst ev3
      clear hown hO hown'
      go_wp2_with fail
      refine (refOf_any a 116 c bk _ hwin (by decide)).mono ?_
      rintro e w8 ⟨rfl, rfl⟩
      go_wp2_with fail
      refine (refNum_any 4 (sumOf bk) (by omega) (sumOf_lt bk) _).mono ?_
      rintro e w9 ⟨vo, rfl, oo, no, g9⟩
      obtain ⟨ao, co, rfl, wo⟩ := Win.of_own oo
      have WO := Lib.hid wo
      have q9 := hO'.no g9
      have z9 : w2.heap.size ≤ w9.heap.size := Nat.le_trans zr g9.size
      clear wo oo no hcw hwin
      go_wp2_with (first
        | (at_builtin; refine wpList_appW _ rfl (.tmp 68) (.tmp 69) 26 rfl 5 i0 (.int .u8 0) 1 Try.underlying26 hi0 hz0 hz1 hz2 rfl (.slice a 116 c) bk.length (bk.map byt) rfl q9.own ao 4 co ((num 4 (sumOf bk)).map byt) rfl WO.out (HK.out _) (HMX.out _ (by have := HBL.out; omega)) (by have := HBL.out; omega) ?_; intro v10 w10 hap10; obtain ⟨b10, e10, l10, q10, r10⟩ := q9.step (num 4 (sumOf bk)) z9 (Fr.refl No _) hap10 (num_len _ _); have z10 := Nat.le_trans z9 r10.size)
        | (at_builtin; refine wpList_appW _ rfl (.tmp 70) (.tmp 71) 26 rfl 5 i0 (.int .u8 0) 1 Try.underlying26 hi0 hz0 hz1 hz2 rfl v10 _ _ rfl q10.own an 8 cn ((num 8 n).map byt) rfl (WN.out.fr (S := fun k => w2.heap.size ≤ k) (HR.out.t (hfr.t (From.t g9.no_any r10))) HNB.out) (HK.out _) (HMX.out _ (by have := HBL.out; have := l10.out; omega)) (by have := HBL.out; have := l10.out; omega) ?_; intro v11 w11 hap11; obtain ⟨b11, e11, l11, q11, r11⟩ := q10.step (num 8 n) z10 (Fr.refl No _) hap11 (num_len _ _)))
      go_ret2
      have hall : From w2.heap.size w2 w11 := From.t (hr6.t hfr) (From.t (From.t g9.no_any r10) r11)
      have hlo : w.heap.size ≤ w2.heap.size := by omega
      refine ⟨v11, rfl, ⟨?_, fun k hk => Nat.le_trans hlo (q11.new k hk)⟩, (((f0.thn g1).thn g2).trans hall (fun k hk => .inr (Nat.le_trans hlo hk)))⟩
      have hfin : b11 = rootBytes ⟨n, (L : Int), sum⟩ := by rw [e11.out, e10.out, HBF.out]; rfl
      rw [← hfin]
      exact q11.own

end Go.Proofs.Ytnkjhicokcmmpaa
