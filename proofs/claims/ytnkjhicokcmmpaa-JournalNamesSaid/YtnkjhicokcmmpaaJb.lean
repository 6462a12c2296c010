/-
  A record's sector: refusals; what the document's Encode comes to.
-/
import Derived.Test.YtnkjhicokcmmpaaJa
import Derived.Test.YtnkjhicokcmmpaaRc
namespace Go.Proofs.Ytnkjhicokcmmpaa
open Go.RowKit Go.Shelf

/-- May it be? -/
def recOk (n m : Nat) : Bool := !(n == 0) && decide (m ≤ 64)

set_option maxRecDepth 100000 in
set_option maxHeartbeats 1000000 in
theorem jencode_bad (e n : Nat) (a : Option Addr) (m c : Nat) (hr : recOk n m = false) (w : World) :
    Calls Try.prog 33 #[.int .u64 e, .int .u64 n, .slice a m c] w fun o w' => o = .returned (.tuple #[.slice none 0 0, .int .i64 80]) ∧ Fr No w w' := by
  have h3 : n = 0 ∨ (n ≠ 0 ∧ 64 < m) := by
    by_cases h0 : n = 0
    · exact .inl h0
    · refine .inr ⟨h0, ?_⟩
      simp [recOk, h0] at hr
      omega
  clear hr
  rcases h3 with rfl | ⟨h0, h1⟩
  · go_enter Try.func33, Try.ntmps33
    go_wp2
    go_ret2
    exact ⟨rfl, ((Fr.refl No w).alloc _).alloc _⟩
  · have hn0 : ((n : Int) == 0) = false := by simp; omega
    have hd1 : decide (64 < (m : Int)) = true := by simp; omega
    go_enter Try.func33, Try.ntmps33
    go_wp2
    go_ret2
    exact ⟨rfl, ((Fr.refl No w).alloc _).alloc _⟩

set_option maxRecDepth 100000 in
set_option maxHeartbeats 1000000 in
theorem jrefEncode_bad (e n : Nat) (a : Option Addr) (m c : Nat) (hr : recOk n m = false) (w : World) :
    Calls Try.prog 34 #[.int .u64 e, .int .u64 n, .slice a m c] w fun o w' => o = .returned (.tuple #[.slice none 0 0, .int .i64 80]) ∧ Fr No w w' := by
  have h3 : n = 0 ∨ (n ≠ 0 ∧ 64 < m) := by
    by_cases h0 : n = 0
    · exact .inl h0
    · refine .inr ⟨h0, ?_⟩
      simp [recOk, h0] at hr
      omega
  clear hr
  rcases h3 with rfl | ⟨h0, h1⟩
  · go_enter Try.func34, Try.ntmps34
    go_wp2
    go_ret2
    exact ⟨rfl, Fr.refl No w⟩
  · have hn0 : ((n : Int) == 0) = false := by simp; omega
    have hd1 : decide (64 < (m : Int)) = true := by simp; omega
    go_enter Try.func34, Try.ntmps34
    go_wp2
    go_ret2
    exact ⟨rfl, Fr.refl No w⟩

set_option maxRecDepth 100000 in
set_option maxHeartbeats 2000000 in
theorem jrefEncode_ok (e n : Nat) (he : e < 2 ^ 64) (hn : n < 2 ^ 64) (hn0 : n ≠ 0) (a : Option Addr) (c : Nat) (p : List UInt8) (hp : p.length ≤ 64) (w : World) (hw : Win w a p.length c (p.map byt)) :
    Calls Try.prog 34 #[.int .u64 e, .int .u64 n, .slice a p.length c] w fun o w' => ∃ v, o = .returned (.tuple #[v, .int .i64 0]) ∧ OIn w.heap.size w' v (recBytes e n p) ∧ Fr No w w' := by
  obtain ⟨i0, hi0, hz0, hz1, hz2⟩ := info_parts Try.infoU8
  obtain ⟨m, hm⟩ : ∃ m, m = p.length := ⟨_, rfl⟩
  rw [← hm] at hw hp ⊢
  have h0 : ((n : Int) == 0) = false := by simp; omega
  have hd : decide (64 < (m : Int)) = false := by simp; omega
  have hmw : IntKind.u8.wrap (m : Int) = (m : Int) := by rw [IntKind.wrap_u8]; omega
  have HM := Lib.hid hm
  have HW := Lib.hid hw
  clear hm hw
  go_enter Try.func34, Try.ntmps34
  go_wp2_with fail
  refine (refNum_any 8 e (by omega) he _).mono ?_
  rintro o w1 ⟨ve, rfl, oe, ne, g1⟩
  obtain ⟨ae, ce, rfl, we⟩ := Win.of_own oe
  go_wp2_with fail
  refine (refNum_any 8 n (by omega) hn _).mono ?_
  rintro o w2 ⟨vn, rfl, on, nn, g2⟩
  obtain ⟨an, cn, rfl, wn⟩ := Win.of_own on
  have WE := Lib.hid (we.no g2)
  have WN := Lib.hid wn
  have WP := Lib.hid ((HW.out.no g1).no g2)
  have hlo : w.heap.size ≤ w2.heap.size := Nat.le_trans g1.size g2.size
  have f02 := g1.thn g2
  clear oe ne on nn we wn HW
  obtain ⟨b0, hb0⟩ : ∃ b0 : List UInt8, b0 = [81, 74, 1] ++ num 1 m := ⟨_, rfl⟩
  have hb0l : b0.length = 4 := by rw [hb0]; simp [num_len]
  have hb0m : b0.map byt = [.int .u8 81, .int .u8 74, .int .u8 1, .int .u8 m] := by
    have e1 : num 1 m = [UInt8.ofNat m] := by rw [num_succ 0 m]; simp [num, numTo]
    rw [hb0, e1]
    show [byt 81, byt 74, byt 1, byt (UInt8.ofNat m)] = _
    rw [← byte_u8, hmw]
    rfl
  have fz : Fr No w2 (w2.alloc (.cells #[.int .u8 81, .int .u8 74, .int .u8 1, .int .u8 m] 5)) := (Fr.refl No w2).alloc _
  have hB0 : OIn w2.heap.size (w2.alloc (.cells #[.int .u8 81, .int .u8 74, .int .u8 1, .int .u8 m] 5)) (.slice (some ⟨w2.heap.size, 0, none⟩) 4 4) b0 :=
    ⟨by rw [hb0l]; exact Own.of_blk (n := 4) (cap := 4) (xs := b0.map byt) (sp := []) (by rw [List.append_nil, hb0m]; exact Blk.new w2 5 _) (by rw [List.length_map, hb0l]) (by rw [List.append_nil, List.length_map, hb0l]) (Nat.le_refl _) (by unfold maxLen; decide), fun k hk => by simp [Value.ownBlock] at hk; omega⟩
  have hB0' : Own (w2.alloc (.cells #[.int .u8 81, .int .u8 74, .int .u8 1, .int .u8 m] 5)) 5 1 (.slice (some ⟨w2.heap.size, 0, none⟩) 4 4) 4 (b0.map byt) := by have h := hB0.own; rw [hb0l] at h; exact h
  have HB0 := Lib.hid hB0
  have HB0' := Lib.hid hB0'
  have HBL := Lib.hid hb0l
  have HBE := Lib.hid hb0
  have HK : Hid (∀ l : List UInt8, ∀ u ∈ l.map byt, u.oneCell' = true) := byt_one
  have hmx : ∀ a : Nat, a ≤ 1000 → a ≤ maxLen := fun a h => by unfold maxLen; omega
  have HMX := Lib.hid hmx
  clear hB0 hB0' hb0l hb0 hb0m hmx
  go_wp2_with (first
    | (at_builtin; refine wpList_appW _ rfl (.tmp 36) (.tmp 37) 26 rfl 5 i0 (.int .u8 0) 1 Try.underlying26 hi0 hz0 hz1 hz2 rfl (.slice (some ⟨w2.heap.size, 0, none⟩) 4 4) b0.length (b0.map byt) rfl HB0.out.own ae 8 ce ((num 8 e).map byt) rfl (WE.out.no fz) (HK.out _) (HMX.out _ (by have := HBL.out; omega)) (by have := HBL.out; omega) ?_; intro v3 w3 hap3; obtain ⟨b3, e3, l3, q3, r3⟩ := HB0.out.step (num 8 e) (by simp) (Fr.refl No _) hap3 (num_len _ _); have z3 := (fz.thn (Fr.refl No _)).size; have t3 : From w2.heap.size w2 w3 := fz.no_any.trans r3 (fun k h => .inl h))
    | (at_builtin; refine wpList_appW _ rfl (.tmp 38) (.tmp 39) 26 rfl 5 i0 (.int .u8 0) 1 Try.underlying26 hi0 hz0 hz1 hz2 rfl v3 _ _ rfl q3.own an 8 cn ((num 8 n).map byt) rfl (WN.out.old t3 (fun k hk => by omega)) (HK.out _) (HMX.out _ (by have := l3.out; have := HBL.out; omega)) (by have := l3.out; have := HBL.out; omega) ?_; intro v4 w4 hap4; obtain ⟨b4, e4, l4, q4, r4⟩ := q3.step (num 8 n) (Nat.le_trans z3 r3.size) (Fr.refl No _) hap4 (num_len _ _); have t4 := t3.t r4)
    | (at_builtin; refine wpList_appW _ rfl (.tmp 40) (.tmp 41) 26 rfl 5 i0 (.int .u8 0) 1 Try.underlying26 hi0 hz0 hz1 hz2 rfl v4 _ _ rfl q4.own a m c (p.map byt) rfl (WP.out.old t4 (fun k hk => by omega)) (HK.out _) (HMX.out _ (by have := l4.out; have := l3.out; have := HBL.out; omega)) (by have := l4.out; have := l3.out; have := HBL.out; omega) ?_; intro v5 w5 hap5; obtain ⟨b5, e5, l5, q5, r5⟩ := q4.step p (Nat.le_trans (Nat.le_trans z3 r3.size) r4.size) (Fr.refl No _) hap5 HM.out.symm; have t5 := t4.t r5))
  have z5 : w2.heap.size ≤ w5.heap.size := t5.size
  obtain ⟨q, hq⟩ : ∃ q, q = b5.length := ⟨_, rfl⟩
  have hqm : q = 20 + m := by have := l5.out; have := l4.out; have := l3.out; have := HBL.out; omega
  obtain ⟨z, hz⟩ : ∃ z, z = 88 - m := ⟨_, rfl⟩
  have hqz : q + z = 108 := by omega
  have he5 : b5 = [81, 74, 1] ++ num 1 m ++ num 8 e ++ num 8 n ++ p := by rw [e5.out, e4.out, e3.out, HBE.out]
  obtain ⟨a5, c5, hv5⟩ := own_slice q5.own
  rw [← hq] at hv5
  subst hv5
  have q5' : OIn w2.heap.size w5 (.slice a5 (q + 0) c5) (b5 ++ List.replicate 0 0) := by simpa using q5
  have Q5 := Lib.hid q5'
  have HQ := Lib.hid hq
  have HZ := Lib.hid hz
  have HE5 := Lib.hid he5
  have T5 := Lib.hid t5
  have HQZ := Lib.hid hqz
  have hqc : q + z ≤ 108 := by omega
  clear hqm hqz hap3 hap4 hap5 hq hz he5 q5' q5 q4 q3 e3 e4 e5 l3 l4 l5 r3 r4 r5 t3 t4 t5 z3 HB0 HB0' HBL HBE
  go_loopw [12] (fun s wr => ∃ (k : Nat) (a : Option Addr) (c : Nat), k ≤ z ∧ s = .slice a (q + k) c ∧ OIn w2.heap.size wr (.slice a (q + k) c) (b5 ++ List.replicate k 0) ∧ From w2.heap.size w5 wr) (fun s _ => 108 - (match s with | .slice _ n _ => n | _ => 0))
  case atStart => exact ⟨0, a5, c5, Nat.zero_le _, rfl, Q5.out, Fr.refl _ _⟩
  case round =>
    obtain ⟨k, a', c', hk, rfl, hO, hfr⟩ := hrel
    have hbl : (b5 ++ List.replicate k 0).length = q + k := by rw [List.length_append, ← HQ.out, List.length_replicate]
    obtain ⟨bk, hbk⟩ : ∃ bk, bk = b5 ++ List.replicate k 0 := ⟨_, rfl⟩
    rw [← hbk] at hO hbl
    have HBK := Lib.hid hbk
    have HBL := Lib.hid hbl
    have zr : w2.heap.size ≤ wr.heap.size := Nat.le_trans z5 hfr.size
    have hown : Own wr 5 1 (.slice a' (q + k) c') (q + k) (bk.map byt) := by have h := hO.own; rw [hbl] at h; exact h
    clear hbk hbl
    by_cases hlt : k < z
    · have hn1 : Hid (Win (wr.alloc (.cells #[.int .u8 0] 5)) (some ⟨wr.heap.size, 0, none⟩) 1 1 (([0] : List UInt8).map byt)) :=
        Win.of_own' (T := 5) (Own.of_blk (n := 1) (cap := 1) (xs := ([0] : List UInt8).map byt) (sp := []) (Blk.new wr 5 (([0] : List UInt8).map byt)) rfl rfl (Nat.le_refl _) (by unfold maxLen; decide))
      have hownA : Hid (Own (wr.alloc (.cells #[.int .u8 0] 5)) 5 1 (.slice a' (q + k) c') (q + k) (bk.map byt)) := hown.alloc _
      have hd : decide (q + k < 108) = true := by simp; omega
      have fa : Fr No wr (wr.alloc (.cells #[.int .u8 0] 5)) := (Fr.refl No wr).alloc _
      clear hown
      go_wp2_with (at_builtin; refine wpList_appW _ rfl (.tmp 46) (.tmp 47) 26 rfl 5 i0 (.int .u8 0) 1 Try.underlying26 hi0 hz0 hz1 hz2 rfl (.slice a' (q + k) c') (q + k) (bk.map byt) rfl hownA.out (some ⟨wr.heap.size, 0, none⟩) 1 1 (([0] : List UInt8).map byt) rfl hn1.out (HK.out _) (HMX.out _ (by omega)) (by omega) ?_; intro v7 w7 hap7; obtain ⟨a7, c7, rfl⟩ := app_slice hap7)
      go_roundw
      case rel =>
        have hap7' : Appended (wr.alloc (.cells #[.int .u8 0] 5)) 5 1 (.slice a' (q + k) c') bk.length 1 (bk.map byt ++ ([0] : List UInt8).map byt) (.slice a7 (q + k + 1) c7) w7 := by rw [HBL.out]; exact hap7
        obtain ⟨q1, q2⟩ := hO.app zr fa hap7' rfl
        refine ⟨k + 1, a7, c7, by omega, rfl, ?_, hfr.t q2⟩
        rw [HBK.out, List.append_assoc] at q1
        rw [List.replicate_succ']
        exact q1
      case measure => (simp; omega)
    · obtain rfl : k = z := by omega
      have hbf : bk = recFront e n p := by rw [HBK.out, HE5.out, HZ.out, HM.out]; simp [recFront]
      have HBF := Lib.hid hbf
      have hcw : IntKind.u64.wrap ((sumOf bk : Nat) : Int) = ((sumOf bk : Nat) : Int) := wrap_u64 _ (Nat.lt_trans (sumOf_lt bk) (by decide))
      rw [HQZ.out] at hown hO ⊢
      have HBL' : Hid (bk.length = 108) := by show bk.length = 108; rw [HBL.out, HQZ.out]
      obtain ⟨a8, c8, ev, hwin⟩ := Win.of_own hown
      injection ev with ev1 ev2 ev3
      subst ev1
      subst ev3
      have hO' : OIn w2.heap.size wr (.slice a' 108 c') bk := hO
      have TF := Lib.hid (T5.out.t hfr)
      clear hown hO hbf hlt hfr T5 Q5
      go_wp2_with fail
      refine (refOf_any a' 108 c' bk _ hwin (by decide)).mono ?_
      rintro o w8 ⟨rfl, rfl⟩
      go_wp2_with fail
      refine (refNum_any 4 (sumOf bk) (by omega) (sumOf_lt bk) _).mono ?_
      rintro o w9 ⟨vo, rfl, oo, no, g9⟩
      obtain ⟨ao, co, rfl, wo⟩ := Win.of_own oo
      have WO := Lib.hid wo
      have q9 := hO'.no g9
      have z9 : w2.heap.size ≤ w9.heap.size := Nat.le_trans zr g9.size
      have t9 : From w2.heap.size w2 w9 := TF.out.t g9.no_any
      clear wo oo no hcw hwin
      go_wp2_with (first
        | (at_builtin; refine wpList_appW _ rfl (.tmp 56) (.tmp 57) 26 rfl 5 i0 (.int .u8 0) 1 Try.underlying26 hi0 hz0 hz1 hz2 rfl (.slice a' 108 c') bk.length (bk.map byt) rfl q9.own ao 4 co ((num 4 (sumOf bk)).map byt) rfl WO.out (HK.out _) (HMX.out _ (by have := HBL'.out; omega)) (by have := HBL'.out; omega) ?_; intro v10 w10 hap10; obtain ⟨b10, e10, l10, q10, r10⟩ := q9.step (num 4 (sumOf bk)) z9 (Fr.refl No _) hap10 (num_len _ _); have z10 := Nat.le_trans z9 r10.size; have t10 := t9.t r10)
        | (at_builtin; refine wpList_appW _ rfl (.tmp 58) (.tmp 59) 26 rfl 5 i0 (.int .u8 0) 1 Try.underlying26 hi0 hz0 hz1 hz2 rfl v10 _ _ rfl q10.own ae 8 ce ((num 8 e).map byt) rfl (WE.out.old t10 (fun k hk => by omega)) (HK.out _) (HMX.out _ (by have := HBL'.out; have := l10.out; omega)) (by have := HBL'.out; have := l10.out; omega) ?_; intro v11 w11 hap11; obtain ⟨b11, e11, l11, q11, r11⟩ := q10.step (num 8 e) z10 (Fr.refl No _) hap11 (num_len _ _); have z11 := Nat.le_trans z10 r11.size; have t11 := t10.t r11)
        | (at_builtin; refine wpList_appW _ rfl (.tmp 60) (.tmp 61) 26 rfl 5 i0 (.int .u8 0) 1 Try.underlying26 hi0 hz0 hz1 hz2 rfl v11 _ _ rfl q11.own an 8 cn ((num 8 n).map byt) rfl (WN.out.old t11 (fun k hk => by omega)) (HK.out _) (HMX.out _ (by have := HBL'.out; have := l10.out; have := l11.out; omega)) (by have := HBL'.out; have := l10.out; have := l11.out; omega) ?_; intro v12 w12 hap12; obtain ⟨b12, e12, l12, q12, r12⟩ := q11.step (num 8 n) z11 (Fr.refl No _) hap12 (num_len _ _); have t12 := t11.t r12))
      go_ret2
      refine ⟨v12, rfl, ⟨?_, fun k hk => Nat.le_trans hlo (q12.new k hk)⟩, f02.trans t12 (fun k hk => .inr (Nat.le_trans hlo hk))⟩
      have hfin : b12 = recBytes e n p := by rw [e12.out, e11.out, e10.out, HBF.out]; simp [recBytes]
      rw [← hfin]
      exact q12.own

end Go.Proofs.Ytnkjhicokcmmpaa
