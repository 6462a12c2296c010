/-
  Texts of this claim, laid together: Of, Og, Ca, Seq, Cb, Cc, Cd, Ja, Ra, Rb, Rc, Jb, Rd, Jc, Jd, Re, Je, Open, Jf, Rf, Ha, Ew, Ex, Ez, Wa, Et, Eta, Etb, Mzs0, Mzs1, Mzs2, Mzs3, Mzs4, Mzs5, Mzs6, Mzs7, Mzs8, Mzs9, Mzs10, Mzs11, Mzs12, Mzs13, Mzs14, Mzs15, Mzs16, Mzs17.
-/
import Derived.Test.YtlmpjdionndncaaGreatDoorQab
import Derived.Laws.Bits64b
import Derived.Lib.SmallJoins
import Derived.Deep.RegionHeld3
import Derived.Deep.DeepCutAuto
import Derived.Test.YtlmpjdionndncaaGreatDoorQaa
import Derived.Deep.SlicePairs
import Derived.ProofKit
import Derived.OpenShut
import Derived.Carry
import Derived.Test.YtlmpjdionndncaaGreatDoorProg

namespace Go.Proofs.YtlmpjdionndncaaGreatDoor
open Go.RowKit Go.Shelf
theorem rsized_yes (n : Nat) (hs : n = 1 ∨ n = 2 ∨ n = 4 ∨ n = 8) (w : World) : Calls Tryz.prog 273 #[.int .i64 n] w fun e w' => e = .returned (.bool true) ∧ w = w' := by
 rcases hs with rfl | rfl | rfl | rfl
 all_goals
   go_enter Tryz.func273, Tryz.ntmps273
   go_wp2
   go_ret
   exact ⟨rfl, rfl⟩
theorem num_succ (k n : Nat) : num (k + 1) n = UInt8.ofNat (n / 2 ^ (8 * k)) :: num k n := by
 unfold num numTo
 rw [List.range_succ_eq_map, List.map_cons, List.map_map]
 congr 1
 apply List.map_congr_left
 intro i hi
 have hi' : i < k := by simpa using hi
 show numByte (k + 1) n (i + 1) = numByte k n i
 unfold numByte
 congr 3
 omega
set_option maxRecDepth 100000 in
set_option maxHeartbeats 4000000 in
theorem refNum_any (size n : Nat) (hs : size = 1 ∨ size = 2 ∨ size = 4 ∨ size = 8) (hn : n < 2 ^ (8 * size)) (w : World) :
   Calls Tryz.prog 227 #[.int .i64 size, .int .u64 n] w fun e w' => ∃ v, e = .returned (.tuple #[v, .int .i64 0]) ∧ Own w' 5 1 v size ((num size n).map byt) ∧ (∀ k, v.ownBlock = some k → w.heap.size ≤ k) ∧ Fr No w w' := by
 obtain ⟨i0, hi0, hz0, hz1, hz2⟩ := info_parts Tryz.infoU8
 have hs8 : size ≤ 8 := by omega
 have HN := Lib.hid hn
 clear hn
 go_enter Tryz.func227, Tryz.ntmps227
 go_wp2_with (go_at_call 273; refine (rsized_yes _ hs _).mono ?_; rintro e w1 ⟨rfl, rfl⟩)
 go_loopw [1, 6, 7] (fun m v t wr => ∃ k : Nat, k ≤ size ∧ m = .int .u64 (n / 2 ^ (8 * k) : Nat) ∧ t = .int .i64 k ∧ Own wr 5 1 v k ((num k n).map byt) ∧ (∀ b, v.ownBlock = some b → w.heap.size ≤ b) ∧ Fr No w wr) (fun _ _ t _ => size - (intOf t).toNat)
 case atStart => exact ⟨0, Nat.zero_le _, by simp, rfl, World.ownsRow_nil _ _ _ _, by simp [Value.ownBlock], Fr.refl _ _⟩
 case round =>
   obtain ⟨k, hk, rfl, rfl, hO, hnew, hfr⟩ := hrel
   by_cases hlt : k < size
   · obtain ⟨a, c, rfl, hw⟩ := Win.of_own hO
     obtain ⟨m, hm⟩ : ∃ m, m = n / 2 ^ (8 * k) := ⟨_, rfl⟩
     rw [← hm]
     have HM := Lib.hid hm
     clear hm
     have hval : Hid (Value.int .u8 ((m : Int) % 256) = byt (UInt8.ofNat m)) := by
       show Value.int .u8 ((m : Int) % 256) = Value.int .u8 ((UInt8.ofNat m).toNat : Int)
       congr 1
     have hnew1 : Hid (Own (wr.alloc (.cells #[Value.int .u8 ((m : Int) % 256)] 5)) 5 1 (.slice (some ⟨wr.heap.size, 0, none⟩) 1 1) 1 [Value.int .u8 ((m : Int) % 256)]) :=
       Own.weak (B := 0) (World.ownsRow_lit (size := 1) wr #[Value.int .u8 ((m : Int) % 256)] 1 (Nat.zero_le _) (by unfold maxLen; omega) rfl)
     have HW := Lib.hid hw
     have hm1 : 1 + k ≤ maxLen := by unfold maxLen; omega
     have hm2 : (1 + k) * 1 ≤ 140737488355328 := by omega
     have h1c : Hid (∀ u ∈ (num k n).map byt, u.oneCell' = true) := byt_one _
     clear hw hO
     go_wp2_with (at_builtin; refine wpList_appW _ rfl (.tmp 19) (.tmp 20) 183 rfl 5 i0 (.int .u8 0) 1 Tryz.underlying183 hi0 hz0 hz1 hz2 rfl (.slice (some ⟨wr.heap.size, 0, none⟩) 1 1) 1 [Value.int .u8 ((m : Int) % 256)] rfl hnew1.out a k c ((num k n).map byt) rfl (HW.out.no ((Fr.refl No wr).alloc _)) h1c.out hm1 hm2 ?_; intro v2 w2 hap)
     go_roundw
     case rel =>
       have ho := hap.own
       rw [hval.out] at ho
       refine ⟨k + 1, by omega, ?_, by go_num, ?_, ?_, hfr.trans (((Fr.refl No wr).alloc _).trans hap.fr (fun x hx => .inr ?_)) (fun x hx => hx.elim)⟩
       · rw [show 8 * (k + 1) = 8 * k + 8 by omega, Nat.pow_add, ← Nat.div_div_eq_div_mul, ← HM.out]
         congr 1
         rw [show (m : Int) / 256 = ((m / 2 ^ 8 : Nat) : Int) by omega]
         refine wrap_u64 _ (Nat.lt_of_le_of_lt (Nat.div_le_self _ _) ?_)
         rw [HM.out]
         exact Nat.lt_of_le_of_lt (Nat.div_le_self _ _) (Nat.lt_of_lt_of_le HN.out (Nat.pow_le_pow_right (by decide) (by omega)))
       · rw [num_succ, ← HM.out, Nat.add_comm]
         exact ho
       · intro b hb
         have := hfr.size
         rcases hap.blk with e | ⟨k', e, hk'⟩
         · rw [e] at hb
           simp [Value.ownBlock] at hb
           omega
         · rw [e] at hb
           cases hb
           simp at hk'
           omega
       · simp [Value.ownBlock] at hx; omega
     case measure => (simp [intOf]; omega)
   · obtain rfl : k = size := by omega
     have h0 : n / 2 ^ (8 * k) = 0 := Nat.div_eq_of_lt HN.out
     rw [h0]
     clear h0
     go_wp2
     go_ret2
     exact ⟨_, rfl, hO, hnew, hfr⟩
def whTo (l : List UInt8) (k : Nat) : Nat := wh (l.take k)
theorem whTo_succ (l : List UInt8) (k : Nat) (hk : k < l.length) : whTo l (k + 1) = whTo l k * 256 + (l[k]).toNat := by
 unfold whTo
 rw [List.take_succ_eq_append_getElem hk, wh_snoc]
theorem whTo_lt (l : List UInt8) (k : Nat) (hk : k ≤ 7) : whTo l k < 2 ^ 56 := by
 unfold whTo
 refine Nat.lt_of_lt_of_le (wh_lt _) ?_
 have h1 : (l.take k).length ≤ 7 := by simp; omega
 exact Nat.le_trans (Nat.pow_le_pow_right (by decide) h1) (by decide)
set_option maxRecDepth 100000 in
set_option maxHeartbeats 4000000 in
theorem refWhole_any (a : Option Addr) (n c : Nat) (bs : List UInt8) (hn : n ≤ 8) (w : World) (h : Win w a n c (bs.map byt)) :
   Calls Tryz.prog 154 #[.slice a n c] w fun e w' => e = .returned (.int .u64 (wh bs : Nat)) ∧ w = w' := by
 have hl : bs.length = n := by have := h.len; simpa using this
 have HL := Lib.hid hl
 have hw := Lib.hid h
 clear hl h
 go_enter Tryz.func154, Tryz.ntmps154
 go_wp2
 go_loop [3, 4] (fun r t => ∃ k : Nat, k ≤ n ∧ r = .int .u64 (whTo bs k : Nat) ∧ t = .int .i64 k) (fun _ t => n - (intOf t).toNat)
 case atStart => exact ⟨0, Nat.zero_le _, rfl, rfl⟩
 case round =>
   obtain ⟨k, hk, rfl, rfl⟩ := hrel
   by_cases hlt : k < n
   · have hkb : k < bs.length := by rw [HL.out]; exact hlt
     obtain ⟨ad, u, rfl, hu, hcell⟩ := hw.out.at hlt
     have hc := whTo_lt bs k (by omega)
     have hsuc := whTo_succ bs k hkb
     have hx := (bs[k]).toNat_lt
     have hu' : u = .int .u8 ((bs[k]).toNat : Int) := by
       rw [List.getElem?_map, List.getElem?_eq_getElem hkb] at hu
       exact (Option.some.inj hu).symm
     subst hu'
     generalize (bs[k]).toNat = x at *
     obtain ⟨m, hm⟩ : ∃ m, m = whTo bs k := ⟨_, rfl⟩
     rw [← hm] at hc hsuc ⊢
     have HS := Lib.hid hsuc
     have hx1 : IntKind.u64.wrap (x : Int) = (x : Int) := wrap_u64 x (by omega)
     have hx2 : IntKind.u64.wrap (256 * (m : Int)) = 256 * (m : Int) := by
       rw [show 256 * (m : Int) = ((256 * m : Nat) : Int) by simp]
       exact wrap_u64 _ (by omega)
     have hx3 : IntKind.u64.wrap (256 * (m : Int) + (x : Int)) = 256 * (m : Int) + (x : Int) := by
       rw [show 256 * (m : Int) + (x : Int) = ((256 * m + x : Nat) : Int) by simp]
       exact wrap_u64 _ (by omega)
     have HX1 := Lib.hid hx1
     have HX2 := Lib.hid hx2
     have HX3 := Lib.hid hx3
     clear hsuc hm hu hc hx hx1 hx2 hx3
     have hx1 := HX1.out
     have hx2 := HX2.out
     have hx3 := HX3.out
     go_wp2
     go_round
     case rel => exact ⟨k + 1, by omega, (by rw [HS.out]; congr 1; simp [Int.mul_comm]), by go_num⟩
     case measure => (simp [intOf]; omega)
   · obtain rfl : k = n := by omega
     have hend : whTo bs k = wh bs := by unfold whTo; rw [List.take_of_length_le (by rw [HL.out]; exact Nat.le_refl _)]
     rw [hend]
     clear hend
     go_wp2
     go_ret
     exact ⟨rfl, rfl⟩
structure WIn (N : Nat) (w : World) (b : Nat) (v : Value) (bs : List UInt8) : Prop where
 at' : WrAt w b v bs
 lo : N ≤ b
 new : ∀ k, v.ownBlock = some k → N ≤ k
theorem WIn.no {N : Nat} {w w' : World} {b : Nat} {v : Value} {bs : List UInt8} (h : WIn N w b v bs) (hf : Fr No w w') : WIn N w' b v bs :=
 ⟨⟨h.at'.blk.fr hf (No.no _), h.at'.own.fr hf (fun _ _ => No.no _)⟩, h.lo, h.new⟩
abbrev From (N : Nat) (w w' : World) : Prop := Fr (fun k => N ≤ k) w w'
theorem From.t {N : Nat} {a b c : World} (h : From N a b) (k : From N b c) : From N a c := h.trans k (fun _ h => .inl h)
theorem From.no {N : Nat} {a b : World} (h : From N a b) (hN : a.heap.size ≤ N) : Fr No a b :=
 ⟨h.os, h.tape, h.output, h.size, fun k hk _ => h.block k hk (by omega)⟩
theorem Blk.from {N : Nat} {w w' : World} {b : Nat} {T : TypeId} {l : List Value} (h : Blk w b T l) (hf : From N w w') (hn : b < N) : Blk w' b T l := h.fr hf (by omega)
def Wrote1 (N b : Nat) (bs : List UInt8) (w : World) (e : Ending) (w' : World) : Prop := ∃ v', e = .returned (.int .i64 0) ∧ WIn N w' b v' bs ∧ From N w w'
theorem wrote_of {N b : Nat} {v v' : Value} {bs cs : List UInt8} {w w' : World} (h : WIn N w b v bs) (hz : N ≤ w.heap.size) (h1 : WrAt w' b v' cs) (h2 : Fr (fun k => k = b ∨ v.ownBlock = some k) w w') (h3 : AtOr w v v') : WIn N w' b v' cs ∧ From N w w' := by
 refine ⟨⟨h1, h.lo, fun k hk => (h3 k hk).elim (h.new k) (fun q => Nat.le_trans hz q)⟩, h2.mono ?_⟩
 rintro x (rfl | hx)
 · exact h.lo
 · exact h.new _ hx
theorem wnumN (N b : Nat) (v : Value) (bs : List UInt8) (size n : Nat) (hs : size = 1 ∨ size = 2 ∨ size = 4 ∨ size = 8) (hn : n < 2 ^ (8 * size)) (hl : bs.length ≤ 1000000) (w : World) (hz : N ≤ w.heap.size) (h : WIn N w b v bs) :
   Calls Tryz.prog 200 #[.pointer (some ⟨b, 0, none⟩), .int .i64 size, .int .u64 n] w (Wrote1 N b (bs ++ num size n) w) :=
 (wnum_any b v bs size n hs hn hl w h.at').mono fun _ _ ⟨v', h1, h2, h3, h4⟩ => ⟨v', h1, wrote_of h hz h2 h3 h4⟩
theorem wrawN (N b : Nat) (v : Value) (bs cs : List UInt8) (a : Option Addr) (n c : Nat) (hl : bs.length + n ≤ 1000000) (w : World) (hz : N ≤ w.heap.size) (h : WIn N w b v bs) (hw : Win w a n c (cs.map byt)) :
   Calls Tryz.prog 222 #[.pointer (some ⟨b, 0, none⟩), .slice a n c] w (Wrote1 N b (bs ++ cs) w) :=
 (wraw_any b v bs cs a n c hl w h.at' hw).mono fun _ _ ⟨v', h1, h2, h3, h4⟩ => ⟨v', h1, wrote_of h hz h2 h3 h4⟩
theorem wlenN (N b : Nat) (v : Value) (bs : List UInt8) (m : Nat) (hm : bs.length = m) (w : World) (h : WIn N w b v bs) :
   Calls Tryz.prog 223 #[.pointer (some ⟨b, 0, none⟩)] w fun e w' => e = .returned (.int .i64 (m : Nat)) ∧ w = w' := by
 subst hm
 exact wlen_any b v bs w h.at'
theorem wbytesN (N b : Nat) (v : Value) (bs : List UInt8) (m : Nat) (hm : bs.length = m) (h0 : 0 < m) (w : World) (h : WIn N w b v bs) (hl : m ≤ 1000000) :
   Calls Tryz.prog 202 #[.pointer (some ⟨b, 0, none⟩)] w fun e w' => ∃ g c, e = .returned (.slice (some ⟨g, 0, none⟩) m c) ∧ Own w' 5 1 (.slice (some ⟨g, 0, none⟩) m c) m (bs.map byt) ∧ w.heap.size ≤ g ∧ Fr No w w' := by
 subst hm
 refine (wbytes_any b v bs w h.at' hl).mono ?_
 rintro e w' ⟨v', rfl, h1, h2, _, h3⟩
 rcases h1.cases with ⟨_, e, _⟩ | ⟨g, c, rfl⟩
 · omega
 · exact ⟨g, c, rfl, h1, h2 g rfl, h3⟩
structure RIn (N : Nat) (w : World) (rb : Nat) (v : Value) (bs : List UInt8) (pos : Nat) : Prop where
 at' : RdAt w rb v bs pos
 pos : pos ≤ bs.length
 lo : N ≤ rb
 new : ∀ k, v.ownBlock = some k → N ≤ k
theorem RIn.no {N : Nat} {w w' : World} {rb pos : Nat} {v : Value} {bs : List UInt8} (h : RIn N w rb v bs pos) (hf : Fr No w w') : RIn N w' rb v bs pos := ⟨h.at'.no hf, h.pos, h.lo, h.new⟩
theorem rnumN (N rb pos size : Nat) (v : Value) (bs : List UInt8) (hl : bs.length ≤ 1000000) (hs : size = 1 ∨ size = 2 ∨ size = 4 ∨ size = 8) (w : World) (h : RIn N w rb v bs pos) :
   Calls Tryz.prog 147 #[.pointer (some ⟨rb, 0, none⟩), .int .i64 size] w fun e w' => ∃ (x : Nat) (c : Int) (pos' : Nat), e = .returned (.tuple #[.int .u64 x, .int .i64 c]) ∧ x < 256 ^ size ∧ (pos + size ≤ bs.length → x = wh ((bs.drop pos).take size) ∧ pos' = pos + size) ∧ RIn N w' rb v bs pos' ∧ From N w w' := by
 by_cases hp : pos + size ≤ bs.length
 · refine (rnum_yes rb pos size v bs hp hl hs w h.at').mono ?_
   rintro e w' ⟨rfl, h1, h2⟩
   refine ⟨_, _, _, rfl, ?_, fun _ => ⟨rfl, rfl⟩, ⟨h1, hp, h.lo, h.new⟩, h2.mono (fun k hk => by rw [hk]; exact h.lo)⟩
   have h3 := wh_lt ((bs.drop pos).take size)
   rwa [show ((bs.drop pos).take size).length = size by rw [List.length_take, List.length_drop]; omega] at h3
 · refine (rnum_no rb pos size v bs h.pos hp hl hs w h.at').mono ?_
   rintro e w' ⟨rfl, h1⟩
   exact ⟨0, 10, pos, rfl, Nat.pow_pos (by decide), fun hc => absurd hc hp, h.no h1, h1.no_any⟩
theorem rrawN (N rb pos n : Nat) (v : Value) (bs : List UInt8) (hl : bs.length ≤ 1000000) (w : World) (_hz : N ≤ w.heap.size) (h : RIn N w rb v bs pos) :
   Calls Tryz.prog 146 #[.pointer (some ⟨rb, 0, none⟩), .int .i64 n] w fun e w' => ∃ (u : Value) (c : Int) (m pos' : Nat) (cs : List UInt8), e = .returned (.tuple #[u, .int .i64 c]) ∧ Own w' 5 1 u m (cs.map byt) ∧ m ≤ n ∧ (∀ k, u.ownBlock = some k → w.heap.size ≤ k) ∧ (pos + n ≤ bs.length → cs = (bs.drop pos).take n ∧ m = n ∧ pos' = pos + n) ∧ RIn N w' rb v bs pos' ∧ From N w w' := by
 by_cases hp : pos + n ≤ bs.length
 · refine (rraw_yes rb pos n v bs hp hl w h.at').mono ?_
   rintro e w' ⟨u, rfl, h1, h2, h3, h4⟩
   exact ⟨u, _, n, _, _, rfl, h1, Nat.le_refl _, h2, fun _ => ⟨rfl, rfl, rfl⟩, ⟨h3, hp, h.lo, h.new⟩, h4.mono (fun k hk => by rw [hk]; exact h.lo)⟩
 · refine (rraw_no rb pos n v bs h.pos hp hl w h.at').mono ?_
   rintro e w' ⟨rfl, h1⟩
   exact ⟨_, 10, 0, pos, [], rfl, World.ownsRow_nil _ _ _ _, Nat.zero_le _, fun k hk => by simp [Value.ownBlock] at hk, fun hc => absurd hc hp, h.no h1, h1.no_any⟩
theorem readN (a : Option Addr) (n c : Nat) (bs : List UInt8) (w : World) (h : Win w a n c (bs.map byt)) (hb : n ≤ 1000000) :
   Calls Tryz.prog 145 #[.slice a n c] w fun e w' => ∃ rb v, e = .returned (.pointer (some ⟨rb, 0, none⟩)) ∧ RIn w.heap.size w' rb v bs 0 ∧ Fr No w w' :=
 (read_any a n c bs w h hb).mono fun _ _ ⟨rb, v, h1, h2, h3, h4, h5⟩ => ⟨rb, v, h1, ⟨h2, Nat.zero_le _, h3, h4⟩, h5⟩
theorem Tryz.makeB (n : Nat) (hn : n ≤ 1000000) (u : World) : (Instr.makeSlice 183 (.int .i64 n) (.int .i64 n)).run Tryz.prog u = .ok (.slice (some ⟨u.heap.size, 0, none⟩) n n) (u.alloc (.cells ((List.replicate n (0 : UInt8)).map byt).toArray 5)) := by
 obtain ⟨i0, hi, hz0, hz1, hz2⟩ := info_parts Tryz.infoU8
 have := run_makeSlice (P := Tryz.prog) u 183 5 i0 (.int .u8 0) Tryz.underlying183 hi hz0 .i64 .i64 n n (by omega) (Int.le_refl _) (by rw [hz1]; simp; omega) (by rw [hz2]; simp; omega) (by omega)
 rw [this]
 have e : madeCells (Value.int .u8 0).cells n = ((List.replicate n (0 : UInt8)).map byt).toArray := by
   apply Array.ext'
   rw [show (Value.int .u8 0).cells = #[Value.int .u8 0] from rfl, toList_madeCells_one]
   simp [byt]
 simp [hz1, e]
theorem equal_any (a a' : Option Addr) (n c n' c' : Nat) (bs cs : List UInt8) (w : World) (h : Win w a n c (bs.map byt)) (h' : Win w a' n' c' (cs.map byt)) :
   Calls Tryz.prog 149 #[.slice a n c, .slice a' n' c'] w fun e w' => e = .returned (.bool (decide (bs = cs))) ∧ w = w' := by
 have h1 := run_str (P := Tryz.prog) (src := 183) (dst := 9) Tryz.underlying183 Tryz.underlying5 Tryz.underlying9 h
 have h2 := run_str (P := Tryz.prog) (src := 183) (dst := 9) Tryz.underlying183 Tryz.underlying5 Tryz.underlying9 h'
 have he : ((str bs).toList == (str cs).toList) = decide (bs = cs) := by
   rw [str_list, str_list]
   by_cases hc : bs = cs <;> simp [hc]
 clear h h'
 go_enter Tryz.func149, Tryz.ntmps149
 go_wp2
 go_ret
 exact ⟨by rw [← he]; rfl, rfl⟩
end Go.Proofs.YtlmpjdionndncaaGreatDoor
namespace Go.Proofs.YtlmpjdionndncaaGreatDoor
def poly : Nat := 3988292384
def cs1 (c : Nat) : Nat := if c % 2 = 1 then (c / 2) ^^^ poly else c / 2
def csN : Nat → Nat → Nat
 | 0, c => c
 | k + 1, c => cs1 (csN k c)
def tab (i : Nat) : Nat := csN 8 i
theorem half_xor (a b : Nat) : (a ^^^ b) / 2 = a / 2 ^^^ b / 2 := by
 apply Nat.eq_of_testBit_eq
 intro i
 have h : ∀ x : Nat, (x / 2).testBit i = x.testBit (i + 1) := fun x => by
   have := Nat.testBit_div_two_pow (n := 1) x (i := i)
   simpa [Nat.add_comm] using this
 rw [h, Nat.testBit_xor, Nat.testBit_xor, h, h]
theorem odd_xor (a b : Nat) : (a ^^^ 2 * b) % 2 = a % 2 := by
 have h : ∀ x : Nat, x % 2 = (x.testBit 0).toNat := fun x => by
   rw [Nat.testBit_zero]
   have := Nat.mod_two_eq_zero_or_one x
   rcases this with h | h <;> simp [h]
 rw [h, h, Nat.testBit_xor]
 simp [Nat.testBit_zero]
theorem cs1_xor (a y : Nat) : cs1 (a ^^^ 2 * y) = cs1 a ^^^ y := by
 unfold cs1
 rw [odd_xor, half_xor, Nat.mul_div_cancel_left _ (by decide)]
 split
 · rw [Nat.xor_assoc, Nat.xor_assoc, Nat.xor_comm y poly]
 · rfl
theorem csN_xor (k a y : Nat) : csN k (a ^^^ 2 ^ k * y) = csN k a ^^^ y := by
 induction k generalizing y with
 | zero => simp [csN]
 | succ k ih =>
   show cs1 (csN k _) = cs1 (csN k a) ^^^ y
   rw [show 2 ^ (k + 1) * y = 2 ^ k * (2 * y) by rw [Nat.pow_succ]; simp [Nat.mul_assoc], ih, cs1_xor]
theorem split_xor (d k : Nat) : d = d % 2 ^ k ^^^ 2 ^ k * (d / 2 ^ k) := by
 apply Nat.eq_of_testBit_eq
 intro i
 rw [Nat.testBit_xor, Nat.testBit_mod_two_pow, Nat.testBit_two_pow_mul]
 by_cases h : i < k
 · simp [h, Nat.not_le.2 h]
 · have h' : k ≤ i := by omega
   simp [h, h', Nat.testBit_div_two_pow]
theorem csN_8 (d : Nat) : csN 8 d = (d / 256) ^^^ tab (d % 256) := by
 have h1 := csN_xor 8 (d % 2 ^ 8) (d / 2 ^ 8)
 rw [← split_xor d 8] at h1
 rw [h1, Nat.xor_comm]
 rfl
def rs1 (c b : Nat) : Nat := if (c ^^^ b) % 2 = 1 then (c / 2) ^^^ poly else c / 2
theorem rs1_eq (c b : Nat) (hb : b < 2) : rs1 c b = cs1 (c ^^^ b) := by
 unfold rs1 cs1
 have : (c ^^^ b) / 2 = c / 2 := by rw [half_xor, Nat.div_eq_of_lt hb, Nat.xor_zero]
 rw [this]
def rsN (x : Nat) : Nat → Nat → Nat
 | 0, c => c
 | k + 1, c => rs1 (rsN x k c) (x / 2 ^ k % 2)
theorem rsN_eq (x k c : Nat) : csN k (c ^^^ x) = rsN x k c ^^^ x / 2 ^ k := by
 induction k with
 | zero => simp [csN, rsN]
 | succ k ih =>
   show cs1 (csN k _) = rs1 (rsN x k c) _ ^^^ _
   rw [ih, rs1_eq _ _ (Nat.mod_lt _ (by decide))]
   obtain ⟨y, hy⟩ : ∃ y, y = x / 2 ^ k := ⟨_, rfl⟩
   have e : x / 2 ^ (k + 1) = y / 2 := by rw [hy, Nat.pow_succ, Nat.div_div_eq_div_mul]
   rw [e, ← hy]
   have h1 := split_xor y 1
   have h2 : y = y % 2 ^^^ 2 * (y / 2) := by simpa using h1
   have h3 : rsN x k c ^^^ y = (rsN x k c ^^^ y % 2) ^^^ 2 * (y / 2) := by
     rw [Nat.xor_assoc, ← h2]
   rw [h3, cs1_xor]
def csB (c x : Nat) : Nat := (c / 256) ^^^ tab ((c % 256) ^^^ x)
theorem csB_eq (c x : Nat) (hx : x < 256) : csB c x = rsN x 8 c := by
 have h1 := rsN_eq x 8 c
 rw [Nat.div_eq_of_lt (show x < 2 ^ 8 from hx), Nat.xor_zero] at h1
 rw [← h1, csN_8]
 unfold csB
 have hd : (c ^^^ x) / 256 = c / 256 := by
   apply Nat.eq_of_testBit_eq
   intro i
   have h : ∀ y : Nat, (y / 256).testBit i = y.testBit (i + 8) := fun y => by
     have := Nat.testBit_div_two_pow (n := 8) y (i := i)
     simpa [Nat.add_comm] using this
   rw [h, h, Nat.testBit_xor]
   have : x.testBit (i + 8) = false := Nat.testBit_lt_two_pow (Nat.lt_of_lt_of_le hx (by
     have : 2 ^ 8 ≤ 2 ^ (i + 8) := Nat.pow_le_pow_right (by decide) (by omega)
     simpa using this))
   simp [this]
 have hm : (c ^^^ x) % 256 = c % 256 ^^^ x := by
   have h2 : (c ^^^ x) % 2 ^ 8 = c % 2 ^ 8 ^^^ x % 2 ^ 8 := Nat.xor_mod_two_pow
   have h3 : x % 256 = x := Nat.mod_eq_of_lt hx
   simpa [h3] using h2
 rw [hd, hm]
theorem poly_lt : poly < 2 ^ 32 := by decide
theorem cs1_lt {c : Nat} (h : c < 2 ^ 32) : cs1 c < 2 ^ 32 := by
 unfold cs1
 split
 · exact Nat.xor_lt_two_pow (by omega) poly_lt
 · omega
theorem csN_lt {c : Nat} (h : c < 2 ^ 32) : ∀ k, csN k c < 2 ^ 32
 | 0 => h
 | k + 1 => cs1_lt (csN_lt h k)
theorem tab_lt {i : Nat} (h : i < 2 ^ 32) : tab i < 2 ^ 32 := csN_lt h 8
theorem csB_lt {c x : Nat} (h : c < 2 ^ 32) (hx : x < 256) : csB c x < 2 ^ 32 := by
 unfold csB
 refine Nat.xor_lt_two_pow (by omega) (tab_lt ?_)
 exact Nat.lt_of_lt_of_le (Nat.xor_lt_two_pow (n := 8) (Nat.mod_lt _ (by decide)) hx) (by decide)
theorem rs1_lt {c b : Nat} (h : c < 2 ^ 32) : rs1 c b < 2 ^ 32 := by
 unfold rs1
 split
 · exact Nat.xor_lt_two_pow (by omega) poly_lt
 · omega
theorem rsN_lt {c x : Nat} (h : c < 2 ^ 32) : ∀ k, rsN x k c < 2 ^ 32
 | 0 => h
 | k + 1 => rs1_lt (rsN_lt h k)
def regTo (l : List UInt8) (c : Nat) : Nat := l.foldl (fun c x => csB c x.toNat) c
theorem regTo_snoc (l : List UInt8) (x : UInt8) (c : Nat) : regTo (l ++ [x]) c = csB (regTo l c) x.toNat := by simp [regTo]
theorem regTo_lt {l : List UInt8} {c : Nat} (h : c < 2 ^ 32) : regTo l c < 2 ^ 32 := by
 unfold regTo
 induction l generalizing c with
 | nil => exact h
 | cons x l ih => exact ih (csB_lt h x.toNat_lt)
def sumOf (l : List UInt8) : Nat := 4294967295 - regTo l 4294967295
theorem sumOf_lt (l : List UInt8) : sumOf l < 2 ^ 32 := by unfold sumOf; omega
end Go.Proofs.YtlmpjdionndncaaGreatDoor
namespace Go.Proofs.YtlmpjdionndncaaGreatDoor
open Go.RowKit Go.Shelf
section
variable {P : Program}
def Tells {α : Type} (P : Program) (gf : Nat) (lb : Array Value) (encs : α → Array Value) (cb : Nat) (S : List α → Prop) (w : World) : Prop :=
 ∀ (l : Nat) (J : List α → World → Prop) (W : World), Below w.heap.size w W → (∀ pre A B, J pre A → Fr (fun k => k = cb) A B → J pre B) →
   (∀ pre x W1, J pre W1 → YieldAt Fence.wide 3 P l (encs x) W1 fun e W' => e = .returned (.bool true) ∧ J (pre ++ [x]) W' ∧ W'.heap[cb]? = W1.heap[cb]?) →
   J [] W →
   CallsIn Fence.wide 4 P gf (#[.func (.yield l) #[] #[]] ++ lb) W fun e W' => (∃ v, e = .returned v) ∧ ∃ xs, S xs ∧ J xs W'
theorem wp_tells {α : Type} {g : Operand} {ps : Array Tmp} {assign body : Code} {Q : Exit → Act → World → Prop} {a : Act} {w : World}
   {gf : Nat} {lb : Array Value} (hg : a.eval g = .func (.func gf) #[] lb) (eg : ∀ args w, (callFunc gf args).run P w = .ok (.enter gf args) w)
   {encs : α → Array Value} {cb : Nat} (hcb : cb < w.heap.size) {S : List α → Prop} (hseq : Tells P gf lb encs cb S w) (hps : ∀ x, (encs x).size = ps.size)
   (I : List α → World → Prop) (hI : OwnFrom w.heap.size I) (hIc : ∀ pre A B, I pre A → Fr (fun k => k = cb) A B → I pre B) (h0 : I [] w) (a₁ : α → Act)
   (hassign : ∀ (l : Nat) (x : α) (W : World) (K : Act → World → Prop), K (a₁ x) W →
     assign.wpIn (Fence.wide.inRound l) 3 P (Exit.then K (fun _ _ _ => False)) { tmps := (ps.zip (encs x)).foldl (fun t (p, v) => t.setIfInBounds p v) a.tmps, defers := [] } W)
   (hbody : ∀ (l : Nat) (pre : List α) (x : α) (W : World), I pre W → body.wpIn (Fence.wide.inRound l) 3 P (fun e _ W' => e = .normal ∧ KeepsOthers W W' ∧ W'.heap[cb]? = W.heap[cb]? ∧ I (pre ++ [x]) W') (a₁ x) W)
   (hdone : ∀ (D : Nat) (xs : List α) (W : World), w.heap.size ≤ D → S xs → I xs W → W.heap[D]? = some (.deferred (some [])) → Q .normal { a with defers := { target := .collected D, args := #[] } :: a.defers } W) :
   (Code.rangeFunc g ps assign body).wp P Q a w := by
 refine wpIn_wide.1 (wpIn_rangeFunc (F := Fence.wide) (n := 5) fun fn hfn => ?_)
 let rec_ : LoopState → Option Code → Loop := fun st pe => { state := st, pending := pe, fn, tmps := a.tmps, params := ps, assign, body, defers := w.heap.size }
 obtain ⟨W1, hW1⟩ : ∃ W1, W1 = (w.alloc (.deferred (some []))).alloc (.loop (rec_ .ready none)) := ⟨_, rfl⟩
 have hL1 : W1.heap[w.heap.size + 1]? = some (.loop (rec_ .ready none)) := by
   have := World.alloc_heap_new (w.alloc (.deferred (some []))) (.loop (rec_ .ready none))
   rw [World.size_alloc] at this
   rw [hW1]; exact this
 have hK1 : W1.heap[w.heap.size]? = some (.deferred (some [])) := by
   rw [hW1]; exact (Below.heap_alloc _ _ _ (by simp)).trans (World.alloc_heap_new w _)
 have hb1 : Below w.heap.size w W1 := by rw [hW1]; exact ((Below.refl _ w).alloc (Nat.le_refl _) _).alloc (by simp) _
 refine ⟨w.heap.size + 1, [{ target := .collected w.heap.size, args := #[] }], W1, { target := .fn (.func gf) lb, args := #[.func (.yield (w.heap.size + 1)) #[] #[]] }, W1, gf,
   #[.func (.yield (w.heap.size + 1)) #[] #[]] ++ lb, W1, ?_, ?_, ?_, ?_, fun _ => by omega, ?_⟩
 · rw [hW1]; exact run_enterLoop_outer _ _ _ _ _
 · simp only [resolve, hg]
   simp [go_sem]
 · intro f' _; trivial
 · simp [invoke, go_sem, eg]
 · refine (hseq (w.heap.size + 1) (fun pre W => I pre W ∧ W.heap[w.heap.size + 1]? = some (.loop (rec_ .ready none)) ∧ W.heap[w.heap.size]? = some (.deferred (some []))) W1 hb1 ?_ ?_ ⟨?_, hL1, hK1⟩).mono ?_
   · rintro pre A B ⟨h1, h2, h3⟩ hf
     exact ⟨hIc pre A B h1 hf, (hf.heap (Array.getElem?_eq_some_iff.1 h2).1 (by omega)).trans h2, (hf.heap (Array.getElem?_eq_some_iff.1 h3).1 (by omega)).trans h3⟩
   · rintro pre x W ⟨hi, hl, hk⟩
     have hlt : w.heap.size + 1 < W.heap.size := (Array.getElem?_eq_some_iff.1 hl).1
     have hy := run_yield (P := P) (args := encs x) hl (hps x)
     refine ⟨fn, _, assign, body, hy, roundIn_of_wpIn hfn (hassign _ x W _ ⟨_, run_beginRound hl rfl, ?_⟩)⟩
     have hl2 : (W.putObj (w.heap.size + 1) (.loop { rec_ .ready none with state := .busy })).heap[w.heap.size + 1]? = some (.loop { rec_ .ready none with state := .busy }) := World.putObj_heap_same hlt
     have hk2 : (W.putObj (w.heap.size + 1) (.loop { rec_ .ready none with state := .busy })).heap[w.heap.size]? = some (.deferred (some [])) := (World.putObj_heap_other (by omega)).trans hk
     refine wpIn_mono (hbody _ pre x _ (hI.putObj _ hi (by omega) hl rfl)) ?_
     rintro e a3 W3 ⟨rfl, hk3, hc3, hi3⟩
     have hl3 := hk3.same _ _ hl2 rfl
     refine ⟨_, _, run_endRound (P := P) none hl3, rfl, ⟨hI.putObj _ hi3 (by omega) hl3 rfl, World.putObj_heap_same (Array.getElem?_eq_some_iff.1 hl3).1, (World.putObj_heap_other (by omega)).trans (hk3.same _ _ hk2 rfl)⟩, ?_⟩
     rw [World.putObj_heap_other (by omega), hc3, World.putObj_heap_other (by omega)]
   · rw [hW1]; exact hI.alloc _ (hI.alloc _ h0)
   · rintro e W2 ⟨⟨v, rfl⟩, xs, hS, hi, hl, hk⟩
     exact ⟨none, _, run_endLoop (P := P) hl (by simp [rec_]), hdone _ xs _ (Nat.le_refl _) hS (hI.putObj _ hi (by omega) hl rfl) ((World.putObj_heap_other (by omega)).trans hk)⟩
theorem end_marks0 {fn : Func} {R : Ending → World → Prop} {tmps : Array Value} {D : Nat} {w : World} (hf : fn.results = #[]) (hK : w.heap[D]? = some (.deferred (some []))) (h : R (.returned (.tuple #[])) (w.putObj D (.deferred none))) :
   Exit.noGoto (noPanic (bodyPostM Fence.wide 5 P fn R)) .normal { tmps := tmps, defers := [{ target := .collected D, args := #[] }] } w := by
 show LeavesInM Fence.wide 5 P fn tmps R [_] .returning w
 refine ⟨by simp, .inl ⟨_, _, rfl, run_takeDeferred hK, ?_⟩⟩
 exact ⟨_, results_none hf _ _ _, h⟩
end
end Go.Proofs.YtlmpjdionndncaaGreatDoor
namespace Go.Proofs.YtlmpjdionndncaaGreatDoor
open Go.RowKit Go.Shelf
attribute [local go_sem] Oper.semAt_some
theorem ofInt_32 (a : Nat) (ha : a < 2 ^ 32) : (BitVec.ofInt 32 (a : Int)).toNat = a := by
 rw [BitVec.ofInt_natCast, BitVec.toNat_ofNat]
 exact Nat.mod_eq_of_lt ha
theorem wrap_u32 (a : Nat) (h : a < 2 ^ 32) : IntKind.u32.wrap (a : Int) = a := by
 simp [IntKind.wrap, IntKind.signed, IntKind.bits]
 omega
theorem and1_u32 (c : Nat) (hc : c < 2 ^ 32) : bits .and .u32 (c : Int) 1 = ((c % 2 : Nat) : Int) := by
 show IntKind.u32.wrap ((BitVec.ofInt 32 (c : Int) &&& BitVec.ofInt 32 ((1 : Nat) : Int)).toNat : Int) = _
 rw [BitVec.toNat_and, ofInt_32 _ hc, ofInt_32 _ (by decide), Nat.and_one_is_mod, wrap_u32 _ (by omega)]
theorem xor_u32 (a b : Nat) (ha : a < 2 ^ 32) (hb : b < 2 ^ 32) : bits .xor .u32 (a : Int) (b : Int) = ((a ^^^ b : Nat) : Int) := by
 show IntKind.u32.wrap ((BitVec.ofInt 32 (a : Int) ^^^ BitVec.ofInt 32 (b : Int)).toNat : Int) = _
 rw [BitVec.toNat_xor, ofInt_32 _ ha, ofInt_32 _ hb, wrap_u32 _ (Nat.xor_lt_two_pow ha hb)]
def lowsTo (c k : Nat) : List (Nat × Bool) := (List.range k).map fun k => (csN k c / 2, csN k c % 2 == 1)
theorem lowsTo_succ (c k : Nat) : lowsTo c (k + 1) = lowsTo c k ++ [(csN k c / 2, csN k c % 2 == 1)] := by simp [lowsTo, List.range_succ]
set_option maxRecDepth 100000 in
set_option maxHeartbeats 2000000 in
theorem lows1_tells (cb c0 : Nat) (hc0 : c0 < 2 ^ 32) (w : World) (hcb : Blk w cb 119 [.int .u32 c0]) :
   Tells Tryz.prog 337 #[.pointer (some ⟨cb, 0, none⟩)] (fun x : Nat × Bool => #[Value.int .u32 (x.1 : Nat), .bool x.2]) cb (fun xs => xs = lowsTo c0 8) w := by
 intro l J W hW hJ hY h0
 have hB : Blk W cb 119 [.int .u32 c0] := (hW.block cb hcb.lt).trans hcb
 clear hcb hW
 refine callsIn_of_wp Tryz.func337 rfl trivial ?_ rfl
 simp only [Tryz.ntmps337, List.size_toArray, List.length_cons, List.length_nil, Nat.reduceAdd, Nat.reduceSub, Array.replicate_succ, Array.replicate_zero, List.push_toArray, List.append_toArray, List.nil_append, List.cons_append]
 gi_wp2
 gi_loopw [4] (fun t wr => ∃ k : Nat, k ≤ 8 ∧ t = .int .i64 k ∧ J (lowsTo c0 k) wr ∧ Blk wr cb 119 [.int .u32 (csN k c0)]) (fun t _ => 8 - (intOf t).toNat)
 case atStart => exact ⟨0, Nat.zero_le _, rfl, h0, hB⟩
 case round =>
   obtain ⟨k, hk, rfl, hJs, hBr⟩ := hrel
   by_cases hlt : k < 8
   · have hc := csN_lt hc0 k
     obtain ⟨c, hcd⟩ : ∃ c, c = csN k c0 := ⟨_, rfl⟩
     rw [← hcd] at hBr hc
     have HT : Hid (lowsTo c0 (k + 1) = lowsTo c0 k ++ [(c / 2, c % 2 == 1)]) := by rw [hcd]; exact lowsTo_succ c0 k
     have HC : Hid (csN (k + 1) c0 = cs1 c) := by rw [hcd]; rfl
     clear hcd hB hc0
     have b0 := hBr.cell (j := 0) rfl
     have bf := hBr.free
     have bl := hBr.lt
     have hfs : Fr (fun k => k = cb) wr (wr.setCell ⟨cb, 0, none⟩ (.int .u32 ((c : Int) / 2))) := (Fr.refl (fun k => k = cb) wr).setCell (p := ⟨cb, 0, none⟩) (.inl rfl) _
     have hB2 : Blk (wr.setCell ⟨cb, 0, none⟩ (.int .u32 ((c : Int) / 2))) cb 119 [.int .u32 ((c : Int) / 2)] := hBr.set 0 _
     have hd2 : ((c / 2 : Nat) : Int) = (c : Int) / 2 := by omega
     by_cases hp : c % 2 = 1
     · have hand : bits .and .u32 (c : Int) 1 = 1 := by
         have := and1_u32 c hc
         rw [hp] at this
         exact this
       have hxor : bits .xor .u32 ((c : Int) / 2) 3988292384 = ((cs1 c : Nat) : Int) := by
         have := xor_u32 (c / 2) poly (by omega) (by decide)
         rw [hd2] at this
         rw [show ((3988292384 : Int)) = ((poly : Nat) : Int) by rfl, this]
         unfold cs1
         rw [if_pos hp]
       obtain ⟨fn, tmps, assign, body, hy, hR⟩ := hY (lowsTo c0 k) (c / 2, c % 2 == 1) _ (hJ _ _ _ hJs hfs)
       dsimp only at hy
       rw [hp, hd2, show ((1 : Nat) == 1) = true from rfl] at hy
       have HX := Lib.hid hxor
       clear hxor hd2
       gi_wp2
       refine hR.mono ?_
       rintro e W3 ⟨rfl, hJ3, hk3⟩
       have hB3 : Blk W3 cb 119 [.int .u32 ((c : Int) / 2)] := hk3.trans hB2
       have d0 := hB3.cell (j := 0) rfl
       have df := hB3.free
       have dl := hB3.lt
       have hxor := HX.out
       gi_wp2
       go_roundw
       case rel =>
         refine ⟨k + 1, by omega, by simp, ?_, ?_⟩
         · rw [HT.out]
           exact hJ _ _ _ hJ3 ((Fr.refl (fun k => k = cb) W3).setCell (p := ⟨cb, 0, none⟩) (.inl rfl) _)
         · rw [HC.out]
           exact hB3.set 0 _
       case measure => (simp [intOf]; try omega)
     · have hp0 : c % 2 = 0 := by omega
       have hand : bits .and .u32 (c : Int) 1 = 0 := by
         have := and1_u32 c hc
         rw [hp0] at this
         exact this
       have hcs : cs1 c = c / 2 := by unfold cs1; rw [if_neg hp]
       obtain ⟨fn, tmps, assign, body, hy, hR⟩ := hY (lowsTo c0 k) (c / 2, c % 2 == 1) _ (hJ _ _ _ hJs hfs)
       dsimp only at hy
       rw [hp0, hd2, show ((0 : Nat) == 1) = false from rfl] at hy
       have HX : Hid (((cs1 c : Nat) : Int) = (c : Int) / 2) := by rw [hcs]; exact hd2
       clear hd2 hcs
       gi_wp2
       refine hR.mono ?_
       rintro e W3 ⟨rfl, hJ3, hk3⟩
       have hB3 : Blk W3 cb 119 [.int .u32 ((c : Int) / 2)] := hk3.trans hB2
       gi_wp2
       go_roundw
       case rel =>
         refine ⟨k + 1, by omega, by simp, ?_, ?_⟩
         · rw [HT.out]
           exact hJ3
         · rw [HC.out, HX.out]
           exact hB3
       case measure => (simp [intOf]; try omega)
   · obtain rfl : k = 8 := by omega
     gi_wp2
     go_end0
     exact ⟨⟨_, rfl⟩, _, rfl, hJs⟩
theorem lows_any (c : Int) (w : World) : Calls Tryz.prog 322 #[.int .u32 c] w fun e w' => e = .returned (.func (.func 337) #[] #[.pointer (some ⟨w.heap.size, 0, none⟩)]) ∧ w.alloc (.cells #[.int .u32 c] 119) = w' := by
 go_enter Tryz.func322, Tryz.ntmps322
 go_wp2
 go_ret
 exact ⟨rfl, rfl⟩
def fillS (x : Nat × Bool) : Int := if x.2 then bits .xor .u32 (x.1 : Int) 3988292384 else x.1
def fillN (i : Nat) (l : List (Nat × Bool)) : Int := match l.getLast? with | some x => fillS x | none => i
theorem fillN_snoc (i : Nat) (l : List (Nat × Bool)) (x : Nat × Bool) : fillN i (l ++ [x]) = fillS x := by simp [fillN]
theorem fillN_8 (i : Nat) (hi : i < 2 ^ 32) : fillN i (lowsTo i 8) = ((tab i : Nat) : Int) := by
 rw [lowsTo_succ, fillN_snoc]
 have hc := csN_lt hi 7
 have hx := xor_u32 (csN 7 i / 2) poly (by omega) (by decide)
 show (if (csN 7 i % 2 == 1) = true then _ else _) = ((cs1 (csN 7 i) : Nat) : Int)
 unfold cs1
 by_cases hp : csN 7 i % 2 = 1
 · rw [if_pos hp, if_pos (by simp [hp])]
   exact hx
 · rw [if_neg hp, if_neg (by simp [hp])]
set_option maxRecDepth 100000 in
set_option maxHeartbeats 4000000 in
theorem fill_any (tb i : Nat) (hi : i < 256) (l : List Value) (hl : l.length = 256) (w : World) (h : Blk w tb 432 l) :
   Calls Tryz.prog 309 #[.pointer (some ⟨tb, 0, none⟩), .int .i64 i] w fun e w' => (∃ v, e = .returned v) ∧ Blk w' tb 432 (l.set i (.int .u32 (tab i))) ∧ Fr (fun k => k = tb) w w' := by
 have hi32 : i < 2 ^ 32 := by omega
 have hwr : IntKind.u32.wrap (i : Int) = i := wrap_u32 _ hi32
 have htl := h.lt
 refine calls_of_marks Tryz.func309 rfl ?_
 simp only [Tryz.ntmps309, List.size_toArray, List.length_cons, List.length_nil, Nat.reduceAdd, Nat.reduceSub, Array.replicate_succ, Array.replicate_zero, List.push_toArray, List.append_toArray, List.nil_append, List.cons_append]
 go_wp2
 go_step3
 go_wp2
 go_step3
 go_wp2_with (go_at_call 322; refine (lows_any _ _).mono ?_; rintro e w1 ⟨rfl, rfl⟩)
 have hN : Blk ((w.alloc (.cells #[.int .u32 i] 119)).alloc (.cells #[.int .u32 i] 119)) w.heap.size 119 [.int .u32 i] := (Blk.new w _ _).alloc _
 have hC : Blk ((w.alloc (.cells #[.int .u32 i] 119)).alloc (.cells #[.int .u32 i] 119)) (w.heap.size + 1) 119 [.int .u32 i] := by
   have := Blk.new (w.alloc (.cells #[.int .u32 i] 119)) 119 [.int .u32 i]
   rwa [World.size_alloc] at this
 have hfr1 : Fr No w ((w.alloc (.cells #[.int .u32 i] 119)).alloc (.cells #[.int .u32 i] 119)) := ((Fr.refl No w).alloc _).alloc _
 generalize (w.alloc (.cells #[.int .u32 i] 119)).alloc (.cells #[.int .u32 i] 119) = w1 at *
 have hz := hC.lt
 refine wp_tells (gf := 337) (lb := #[.pointer (some ⟨w.heap.size + 1, 0, none⟩)]) rfl (enters_of Tryz.func337 (by kernel_rfl) rfl) (cb := w.heap.size + 1) hz
   (lows1_tells (w.heap.size + 1) i hi32 w1 hC) (fun _ => rfl)
   (fun pre W => Blk W w.heap.size 119 [.int .u32 (fillN i pre)] ∧ Fr (fun k => k = w.heap.size ∨ k = w.heap.size + 1) w1 W)
   ?hI ?hIc ⟨hN, Fr.refl _ _⟩ (fun x : Nat × Bool => { tmps := #[.pointer (some ⟨tb, 0, none⟩), .int .i64 i, undef, undef, .pointer (some ⟨w.heap.size, 0, none⟩), .int .u32 (x.1 : Nat), .bool x.2, .int .i64 i, .int .u32 i, .int .u32 i, .func (.func 337) #[] #[.pointer (some ⟨w.heap.size + 1, 0, none⟩)], .int .u32 (x.1 : Nat), .bool x.2, undef, undef, undef, undef, undef, undef, undef, undef, undef, undef, undef], defers := [] }) ?assign ?body ?done
 case hI =>
   rintro s A B row ⟨h1, h3⟩ hg hr
   exact ⟨h1.fr ((Fr.refl (fun k => w1.heap.size ≤ k) A).grown hg (fun k hk => .inl (hr k hk).1)) (by omega), h3.grown hg (fun k hk => .inr (hr k hk).1)⟩
 case hIc =>
   rintro pre A B ⟨h1, h3⟩ hf
   exact ⟨h1.fr hf (by omega), h3.trans hf (fun k hk => .inl (.inr hk))⟩
 case assign =>
   intro ll x W K hK
   gi_wp2
   exact hK
 case body =>
   rintro ll pre x W ⟨hW1, hW3⟩
   have hb0 := hW1.cell (j := 0) rfl
   have hbf := hW1.free
   have hbl := hW1.lt
   obtain ⟨low, out⟩ := x
   cases out
   · gi_wp2
     refine ⟨KeepsOthers.setCell _ _ _, Below.heap_setCell _ _ _ _ (by show w.heap.size + 1 ≠ w.heap.size; omega), ?_, hW3.setCell (p := ⟨w.heap.size, 0, none⟩) (.inl (.inl rfl)) _⟩
     rw [fillN_snoc]
     exact hW1.set 0 _
   · gi_wp2
     refine ⟨(KeepsOthers.setCell _ _ _).trans (KeepsOthers.setCell _ _ _), (Below.heap_setCell _ _ _ _ (by show w.heap.size + 1 ≠ w.heap.size; omega)).trans (Below.heap_setCell _ _ _ _ (by show w.heap.size + 1 ≠ w.heap.size; omega)), ?_, (hW3.setCell (p := ⟨w.heap.size, 0, none⟩) (.inl (.inl rfl)) _).setCell (p := ⟨w.heap.size, 0, none⟩) (.inl (.inl rfl)) _⟩
     rw [fillN_snoc]
     exact (hW1.set 0 _).set 0 _
 case done =>
   rintro D ys W hD rfl ⟨hW1, hW3⟩ hK
   rw [fillN_8 i hi32] at hW1
   have hb0 := hW1.cell (j := 0) rfl
   have hbl := hW1.lt
   have hT := (h.fr hfr1 (No.no _)).fr hW3 (by omega)
   have t0 := hT.cell (j := i) (v := l[i]'(by omega)) (List.getElem?_eq_getElem (by omega))
   have tf := hT.free
   have tl := hT.lt
   go_wp2
   go_region
   all_goals go_wp2
   all_goals
     have hB2 : Blk (W.setCell ⟨tb, i, none⟩ (.int .u32 (tab i))).drew tb 432 (l.set i (.int .u32 (tab i))) := (hT.set i _).drew
     have hk2 : (W.setCell ⟨tb, i, none⟩ (.int .u32 (tab i))).drew.heap[D]? = some (.deferred (some [])) := (Below.heap_setCell W ⟨tb, i, none⟩ _ D (fun e => hT.neDef hK e.symm)).trans hK
     refine end_marks0 rfl hk2 ⟨⟨_, rfl⟩, hB2.putObj (hB2.neDef hk2) _, ?_⟩
     have hf1 : Fr (fun k => k = tb) w W := (hfr1.no_any (S := fun k => k = tb)).trans hW3 (fun k hk => .inr (by omega))
     exact ((hf1.setCell (p := ⟨tb, i, none⟩) (.inl rfl) _).drew).putObj (.inr (by have := hfr1.size; omega)) _
end Go.Proofs.YtlmpjdionndncaaGreatDoor
namespace Go.Proofs.YtlmpjdionndncaaGreatDoor
open Go.RowKit Go.Shelf
attribute [local go_sem] Oper.semAt_some
def tabTo (k : Nat) : List Value := (List.range 256).map fun j => if j < k then .int .u32 (tab j : Nat) else .int .u32 0
theorem tabTo_len (k : Nat) : (tabTo k).length = 256 := by simp [tabTo]
theorem tabTo_succ (k : Nat) (_hk : k < 256) : (tabTo k).set k (.int .u32 (tab k : Nat)) = tabTo (k + 1) := by
 apply List.ext_getElem
 · simp [tabTo]
 · intro i h1 h2
   rw [List.getElem_set]
   simp only [tabTo, List.getElem_map, List.getElem_range]
   split
   · rename_i e; subst e; rw [if_pos (by omega)]
   · rename_i e
     by_cases hi : i < k
     · rw [if_pos hi, if_pos (by omega)]
     · rw [if_neg hi, if_neg (by omega)]
theorem tabTo_get (i : Nat) (hi : i < 256) : (tabTo 256)[i]? = some (.int .u32 (tab i : Nat)) := by
 simp [tabTo, hi]
def crcTo (l : List UInt8) (k : Nat) : Nat := regTo (l.take k) 4294967295
theorem crcTo_lt (l : List UInt8) (k : Nat) : crcTo l k < 2 ^ 32 := regTo_lt (by decide)
theorem crcTo_succ (l : List UInt8) (k : Nat) (hk : k < l.length) : crcTo l (k + 1) = csB (crcTo l k) (l[k]).toNat := by
 unfold crcTo
 rw [List.take_succ_eq_append_getElem hk, regTo_snoc]
theorem not_u32 (c : Nat) (h : c < 2 ^ 32) : bits .xor .u32 IntKind.u32.max (c : Int) = ((4294967295 - c : Nat) : Int) := by
 have h1 := xor_u32 4294967295 c (by decide) h
 have h2 : 4294967295 ^^^ c = 4294967295 - c := by
   apply Nat.eq_of_testBit_eq
   intro i
   have h3 := Nat.testBit_two_pow_sub_succ h i
   rw [show 2 ^ 32 - (c + 1) = 4294967295 - c by omega] at h3
   rw [h3, Nat.testBit_xor]
   have h4 : (4294967295 : Nat).testBit i = decide (i < 32) := Nat.testBit_two_pow_sub_one 32 i
   rw [h4]
   by_cases hi : i < 32
   · simp [hi]
   · have : c.testBit i = false := Nat.testBit_lt_two_pow (Nat.lt_of_lt_of_le h (Nat.pow_le_pow_right (by decide) (by omega)))
     simp [hi, this]
 rw [h2] at h1
 exact h1
theorem xor_u8 (c x : Nat) (hx : x < 256) : bits .xor .u8 ((c : Int) % 256) (x : Int) = ((c % 256 ^^^ x : Nat) : Int) := by
 have h8 : ∀ a : Nat, a < 256 → (BitVec.ofInt 8 (a : Int)).toNat = a := fun a ha => by
   rw [BitVec.ofInt_natCast, BitVec.toNat_ofNat]
   exact Nat.mod_eq_of_lt ha
 have hl : c % 256 ^^^ x < 256 := Nat.xor_lt_two_pow (n := 8) (Nat.mod_lt _ (by decide)) hx
 show IntKind.u8.wrap ((BitVec.ofInt 8 ((c : Int) % 256) ^^^ BitVec.ofInt 8 (x : Int)).toNat : Int) = _
 rw [show (c : Int) % 256 = ((c % 256 : Nat) : Int) by simp, BitVec.toNat_xor, h8 _ (Nat.mod_lt _ (by decide)), h8 _ hx]
 generalize c % 256 ^^^ x = m at *
 simp [IntKind.wrap, IntKind.signed, IntKind.bits]
 omega
theorem tab0 : (tabTo 0).toArray = Tryz.zeroCells432 := by kernel_rfl
set_option maxRecDepth 100000 in
set_option maxHeartbeats 4000000 in
theorem known_any (w : World) : Calls Tryz.prog 296 #[] w fun e w' => e = .returned (.pointer (some ⟨w.heap.size, 0, none⟩)) ∧ Blk w' w.heap.size 432 (tabTo 256) ∧ Fr No w w' := by
 go_enter Tryz.func296, Tryz.ntmps296
 go_wp2
 have hB : Blk (w.alloc (.cells Tryz.zeroCells432 432)) w.heap.size 432 (tabTo 0) := by
   have h := Blk.new w 432 (tabTo 0)
   rw [tab0] at h
   exact h
 have hf : Fr No w (w.alloc (.cells Tryz.zeroCells432 432)) := (Fr.refl No w).alloc _
 generalize w.alloc (.cells Tryz.zeroCells432 432) = w0 at *
 go_loopw [5] (fun t wr => ∃ k : Nat, k ≤ 256 ∧ t = .int .i64 k ∧ Blk wr w.heap.size 432 (tabTo k) ∧ Fr No w wr) (fun t _ => 256 - (intOf t).toNat)
 case atStart => exact ⟨0, Nat.zero_le _, rfl, hB, hf⟩
 case round =>
   obtain ⟨k, hk, rfl, hT, hfr⟩ := hrel
   clear hB hf
   by_cases hlt : k < 256
   · go_wp2_with (go_at_call 309; refine (fill_any w.heap.size k hlt _ (tabTo_len k) _ hT).mono ?_; rintro e w1 ⟨⟨v, rfl⟩, h1, h2⟩)
     go_roundw
     case rel =>
       rw [tabTo_succ k hlt] at h1
       exact ⟨k + 1, by omega, by go_num, h1, hfr.trans h2 (fun x hx => .inr (by omega))⟩
     case measure => (simp [intOf]; omega)
   · obtain rfl : k = 256 := by omega
     have hl := hT.lt
     go_wp2
     go_ret
     exact ⟨rfl, hT, hfr⟩
set_option maxRecDepth 100000 in
set_option maxHeartbeats 4000000 in
theorem crcMore_any (a : Option Addr) (n c : Nat) (bs : List UInt8) (w : World) (h : Win w a n c (bs.map byt)) (hb : n ≤ 1000000) :
   Calls Tryz.prog 272 #[.int .u32 0, .slice a n c] w fun e w' => e = .returned (.int .u32 (sumOf bs : Nat)) ∧ Fr No w w' := by
 have hl : bs.length = n := by have := h.len; simpa using this
 have HL := Lib.hid hl
 have hw := Lib.hid h
 clear hl h
 go_enter Tryz.func272, Tryz.ntmps272
 go_wp2_with (go_at_call 296; refine (known_any _).mono ?_; rintro e w1 ⟨rfl, hT, hf1⟩)
 have hst : Value.int .u32 (bits .xor .u32 IntKind.u32.max 0) = .int .u32 (crcTo bs 0 : Nat) := by
   have h0 : bits .xor .u32 IntKind.u32.max 0 = ((4294967295 - 0 : Nat) : Int) := not_u32 0 (by decide)
   rw [h0]
   rfl
 rw [hst]
 have HT := Lib.hid hT
 clear hst hT
 go_loopw [6, 14] (fun r t wr => ∃ k : Nat, k ≤ n ∧ r = .int .u32 (crcTo bs k : Nat) ∧ t = .int .i64 k ∧ Fr No w1 wr) (fun _ t _ => n - (intOf t).toNat)
 case atStart => exact ⟨0, Nat.zero_le _, rfl, rfl, Fr.refl _ _⟩
 case round =>
   obtain ⟨k, hk, rfl, rfl, hfr⟩ := hrel
   by_cases hlt : k < n
   · have hkb : k < bs.length := by rw [HL.out]; exact hlt
     obtain ⟨ad, u, rfl, hu, hcell⟩ := (hw.out.no (hf1.thn hfr)).at hlt
     have hc := crcTo_lt bs k
     have hsuc := crcTo_succ bs k hkb
     obtain ⟨c', hcd⟩ : ∃ c', c' = crcTo bs k := ⟨_, rfl⟩
     rw [← hcd] at hc hsuc ⊢
     have hx := (bs[k]).toNat_lt
     have hu' : u = .int .u8 ((bs[k]).toNat : Int) := by
       rw [List.getElem?_map, List.getElem?_eq_getElem hkb] at hu
       exact (Option.some.inj hu).symm
     subst hu'
     generalize (bs[k]).toNat = x at *
     obtain ⟨m, hm⟩ : ∃ m, m = c' % 256 ^^^ x := ⟨_, rfl⟩
     have hml : m < 256 := by rw [hm]; exact Nat.xor_lt_two_pow (n := 8) (Nat.mod_lt _ (by decide)) hx
     have hidx : bits .xor .u8 ((c' : Int) % 256) (x : Int) = (m : Int) := by rw [xor_u8 c' x hx, hm]
     have hTr := HT.out.fr hfr (No.no _)
     have ht := hTr.cell (j := m) (tabTo_get m hml)
     have hxor : bits .xor .u32 ((c' : Int) / 256) ((tab m : Nat) : Int) = ((csB c' x : Nat) : Int) := by
       have h1 := xor_u32 (c' / 256) (tab m) (by omega) (tab_lt (by omega))
       rw [show ((c' / 256 : Nat) : Int) = (c' : Int) / 256 by omega] at h1
       rw [h1]
       unfold csB
       rw [hm]
     have HS := Lib.hid hsuc
     have hmi : (m : Int) < 256 := by omega
     have htl := hTr.lt
     clear hsuc hm hcd hu
     go_wp2
     go_roundw
     case rel => exact ⟨k + 1, by omega, by rw [HS.out], by go_num, hfr⟩
     case measure => (simp [intOf]; omega)
   · obtain rfl : k = n := by omega
     have hend : bits .xor .u32 IntKind.u32.max ((crcTo bs k : Nat) : Int) = ((sumOf bs : Nat) : Int) := by
       rw [not_u32 _ (crcTo_lt bs k)]
       unfold sumOf crcTo
       rw [List.take_of_length_le (by rw [HL.out]; exact Nat.le_refl _)]
     have HE := Lib.hid hend
     clear hend
     go_wp2
     go_ret
     exact ⟨by rw [← HE.out]; rfl, hf1.thn hfr⟩
theorem crcOf_any (a : Option Addr) (n c : Nat) (bs : List UInt8) (w : World) (h : Win w a n c (bs.map byt)) (hb : n ≤ 1000000) :
   Calls Tryz.prog 224 #[.slice a n c] w fun e w' => e = .returned (.int .u32 (sumOf bs : Nat)) ∧ Fr No w w' := by
 go_enter Tryz.func224, Tryz.ntmps224
 go_wp2_with (go_at_call 272; refine (crcMore_any a n c bs _ h hb).mono ?_; rintro e w1 ⟨rfl, hf1⟩)
 go_ret
 exact ⟨rfl, hf1⟩
end Go.Proofs.YtlmpjdionndncaaGreatDoor
namespace Go.Proofs.YtlmpjdionndncaaGreatDoor
open Go.RowKit Go.Shelf
theorem step_any (c b : Nat) (hc : c < 2 ^ 32) (hb : b < 2) (w : World) : Calls Tryz.prog 297 #[.int .u32 c, .int .u32 b] w fun e w' => e = .returned (.int .u32 (rs1 c b : Nat)) ∧ w = w' := by
 have hx : bits .xor .u32 (c : Int) (b : Int) = ((c ^^^ b : Nat) : Int) := xor_u32 c b hc (by omega)
 have hc2 : ((c / 2 : Nat) : Int) = (c : Int) / 2 := by omega
 have hxp : bits .xor .u32 ((c : Int) / 2) 3988292384 = ((c / 2 ^^^ poly : Nat) : Int) := by
   have := xor_u32 (c / 2) poly (by omega) (by decide)
   rw [hc2] at this
   exact this
 by_cases hp : (c ^^^ b) % 2 = 1
 · have hd : rs1 c b = c / 2 ^^^ poly := by unfold rs1; rw [if_pos hp]
   have ht : (((c ^^^ b : Nat) : Int) % 2 == 1) = true := by simp; omega
   rw [hd]
   clear hd hc2
   go_enter Tryz.func297, Tryz.ntmps297
   go_wp2
   go_ret
   exact ⟨rfl, rfl⟩
 · have hd : rs1 c b = c / 2 := by unfold rs1; rw [if_neg hp]
   have ht : (((c ^^^ b : Nat) : Int) % 2 == 1) = false := by simp; omega
   rw [hd, hc2]
   clear hd hc2 hxp
   go_enter Tryz.func297, Tryz.ntmps297
   go_wp2
   go_ret
   exact ⟨rfl, rfl⟩
theorem step_mod (c y : Nat) (hc : c < 2 ^ 32) (w : World) : Calls Tryz.prog 297 #[.int .u32 c, .int .u32 ((y : Int) % 2)] w fun e w' => e = .returned (.int .u32 (rs1 c (y % 2) : Nat)) ∧ w = w' := by
 rw [show (y : Int) % 2 = ((y % 2 : Nat) : Int) by omega]
 exact step_any c (y % 2) hc (Nat.mod_lt _ (by decide)) w
set_option maxRecDepth 100000 in
set_option maxHeartbeats 4000000 in
theorem refMore_any (a : Option Addr) (n c : Nat) (bs : List UInt8) (w : World) (h : Win w a n c (bs.map byt)) (hb : n ≤ 1000000) :
   Calls Tryz.prog 274 #[.int .u32 0, .slice a n c] w fun e w' => e = .returned (.int .u32 (sumOf bs : Nat)) ∧ w = w' := by
 have hl : bs.length = n := by have := h.len; simpa using this
 have HL := Lib.hid hl
 have hw := Lib.hid h
 clear hl h
 go_enter Tryz.func274, Tryz.ntmps274
 go_wp2
 have hst : Value.int .u32 4294967295 = .int .u32 (crcTo bs 0 : Nat) := rfl
 rw [hst]
 clear hst
 go_loop [5, 6] (fun r t => ∃ k : Nat, k ≤ n ∧ r = .int .u32 (crcTo bs k : Nat) ∧ t = .int .i64 k) (fun _ t => n - (intOf t).toNat)
 case atStart => exact ⟨0, Nat.zero_le _, rfl, rfl⟩
 case round =>
   obtain ⟨k, hk, rfl, rfl⟩ := hrel
   by_cases hlt : k < n
   · have hkb : k < bs.length := by rw [HL.out]; exact hlt
     obtain ⟨ad, u, rfl, hu, hcell⟩ := hw.out.at hlt
     have hc := crcTo_lt bs k
     have hsuc := crcTo_succ bs k hkb
     obtain ⟨c', hcd⟩ : ∃ c', c' = crcTo bs k := ⟨_, rfl⟩
     rw [← hcd] at hc hsuc ⊢
     have hx := (bs[k]).toNat_lt
     have hu' : u = .int .u8 ((bs[k]).toNat : Int) := by
       rw [List.getElem?_map, List.getElem?_eq_getElem hkb] at hu
       exact (Option.some.inj hu).symm
     subst hu'
     generalize (bs[k]).toNat = x at *
     rw [csB_eq c' x hx] at hsuc
     have HS := Lib.hid hsuc
     have hxw : IntKind.u32.wrap (x : Int) = (x : Int) := wrap_u32 x (by omega)
     clear hsuc hcd hu
     go_wp2
     go_loop [5, 7, 8] (fun r y j => ∃ m : Nat, m ≤ 8 ∧ r = .int .u32 (rsN x m c' : Nat) ∧ y = .int .u32 (x / 2 ^ m : Nat) ∧ j = .int .i64 m) (fun _ _ j => 8 - (intOf j).toNat)
     case atStart => exact ⟨0, Nat.zero_le _, rfl, by simp, rfl⟩
     case round =>
       obtain ⟨m, hm, rfl, rfl, rfl⟩ := hrel
       by_cases hml : m < 8
       · have hr := rsN_lt (x := x) hc m
         have hs1 : Hid (rsN x (m + 1) c' = rs1 (rsN x m c') (x / 2 ^ m % 2)) := rfl
         have hs2 : Hid (x / 2 ^ (m + 1) = x / 2 ^ m / 2) := by
           show x / 2 ^ (m + 1) = x / 2 ^ m / 2
           rw [Nat.pow_succ, Nat.div_div_eq_div_mul]
         have hyb : x / 2 ^ m ≤ 255 := Nat.le_trans (Nat.div_le_self _ _) (by omega)
         generalize rsN x m c' = r at *
         generalize x / 2 ^ m = y at *
         go_wp2_with (go_at_call 297; refine (step_mod r y hr _).mono ?_; rintro e w1 ⟨rfl, rfl⟩)
         go_round
         case rel => exact ⟨m + 1, by omega, by rw [hs1.out], (by rw [hs2.out]; congr 1), by go_num⟩
         case measure => (simp [intOf]; omega)
       · obtain rfl : m = 8 := by omega
         go_wp2
         go_round
         case rel => exact ⟨k + 1, by omega, by rw [HS.out], by go_num⟩
         case measure => (simp [intOf]; omega)
   · obtain rfl : k = n := by omega
     have hend : sumOf bs = 4294967295 - crcTo bs k := by
       unfold sumOf crcTo
       rw [List.take_of_length_le (by rw [HL.out]; exact Nat.le_refl _)]
     have hlt2 := crcTo_lt bs k
     have HE := Lib.hid hend
     clear hend
     generalize crcTo bs k = c' at *
     have hsub : IntKind.u32.wrap (4294967295 - (c' : Int)) = ((4294967295 - c' : Nat) : Int) := by
       rw [show (4294967295 - (c' : Int)) = ((4294967295 - c' : Nat) : Int) by omega]
       exact wrap_u32 _ (by omega)
     go_wp2
     go_ret
     exact ⟨by rw [HE.out]; rfl, rfl⟩
theorem refOf_any (a : Option Addr) (n c : Nat) (bs : List UInt8) (w : World) (h : Win w a n c (bs.map byt)) (hb : n ≤ 1000000) :
   Calls Tryz.prog 228 #[.slice a n c] w fun e w' => e = .returned (.int .u32 (sumOf bs : Nat)) ∧ w = w' := by
 go_enter Tryz.func228, Tryz.ntmps228
 go_wp2_with (go_at_call 274; refine (refMore_any a n c bs _ h hb).mono ?_; rintro e w1 ⟨rfl, rfl⟩)
 go_ret
 exact ⟨rfl, rfl⟩
def recFront (e n : Nat) (p : List UInt8) : List UInt8 := [81, 74, 1] ++ num 1 p.length ++ (num 8 e ++ num 8 n) ++ p ++ List.replicate (88 - p.length) 0
def recBytes (e n : Nat) (p : List UInt8) : List UInt8 := recFront e n p ++ num 4 (sumOf (recFront e n p)) ++ (num 8 e ++ num 8 n)
theorem recFront_len (e n : Nat) (p : List UInt8) (hp : p.length ≤ 64) : (recFront e n p).length = 108 := by simp [recFront, num_len]; omega
theorem recBytes_len (e n : Nat) (p : List UInt8) (hp : p.length ≤ 64) : (recBytes e n p).length = 128 := by simp [recBytes, recFront_len e n p hp, num_len]
set_option maxRecDepth 100000 in
set_option maxHeartbeats 1000000 in
theorem marks_any (N be bn : Nat) (e n : Nat) (he : e < 2 ^ 64) (hn : n < 2 ^ 64) (_hbe : be < N) (hbn : bn < N) (v : Value) (bs : List UInt8) (hl : bs.length ≤ 1000) (w : World) (hz : N ≤ w.heap.size) (h : WIn N w N v bs) (k0 : w.cell? ⟨be, 0, none⟩ = some (.int .u64 e)) (k1 : w.cell? ⟨bn, 0, none⟩ = some (.int .u64 n)) :
   Calls Tryz.prog 221 #[.pointer (some ⟨N, 0, none⟩), .pointer (some ⟨be, 0, none⟩), .pointer (some ⟨bn, 0, none⟩)] w fun o w' => ∃ v', o = .returned (.tuple #[]) ∧ WIn N w' N v' (bs ++ (num 8 e ++ num 8 n)) ∧ From N w w' := by
 go_enter Tryz.func221, Tryz.ntmps221
 go_wp2_with fail
 refine (wnumN N N v bs 8 e (by omega) he (by omega) _ hz h).mono ?_
 rintro o w1 ⟨v1, rfl, h1, g1⟩
 have k1' := (g1.cell (p := ⟨bn, 0, none⟩) (World.block_lt_of_cell? w _ k1) (by simp; omega)).trans k1
 have z1 : N ≤ w1.heap.size := Nat.le_trans hz g1.size
 clear h k0 k1
 go_wp2_with fail
 refine (wnumN N N v1 _ 8 n (by omega) hn (by simp [num_len]; omega) _ z1 h1).mono ?_
 rintro o w2 ⟨v2, rfl, h2, g2⟩
 clear h1 k1'
 go_wp2
 refine bodyPost_end (results_none rfl _ _ _) rfl ?_
 exact ⟨v2, rfl, by rw [← List.append_assoc]; exact h2, g1.t g2⟩
set_option maxRecDepth 100000 in
set_option maxHeartbeats 2000000 in
theorem jencode_ok (e n : Nat) (he : e < 2 ^ 64) (hn : n < 2 ^ 64) (hn0 : n ≠ 0) (a : Option Addr) (c : Nat) (p : List UInt8) (hp : p.length ≤ 64) (w : World) (hw : Win w a p.length c (p.map byt)) :
   Calls Tryz.prog 148 #[.int .u64 e, .int .u64 n, .slice a p.length c] w fun o w' => ∃ g c, o = .returned (.tuple #[.slice (some ⟨g, 0, none⟩) 128 c, .int .i64 0]) ∧ Own w' 5 1 (.slice (some ⟨g, 0, none⟩) 128 c) 128 ((recBytes e n p).map byt) ∧ w.heap.size ≤ g ∧ Fr No w w' := by
 obtain ⟨m, hm⟩ : ∃ m, m = p.length := ⟨_, rfl⟩
 rw [← hm] at hw hp ⊢
 have h0 : ((n : Int) == 0) = false := by simp; omega
 have hd : decide (64 < (m : Int)) = false := by simp; omega
 have hmw : IntKind.u64.wrap (m : Int) = (m : Int) := wrap_u64 m (by omega)
 have kc := fun (w : World) (C : Array Value) (n c g : Nat) (hg : g = w.heap.size) => Joins.run_convert_bytes_const_at (P := Tryz.prog) w 183 5 C n c g hg Tryz.underlying183 Tryz.underlying5
 have HM := Lib.hid hm
 have HWP := Lib.hid hw
 clear hm hw
 go_enter Tryz.func148, Tryz.ntmps148
 go_wp2_with fail
 obtain ⟨N, hN⟩ : ∃ N, N = w.heap.size + 1 + 1 := ⟨_, rfl⟩
 have kE : Blk ((((w.alloc (.cells #[.int .u64 e] 113)).alloc (.cells #[.int .u64 n] 113)).alloc (.cells #[.slice none 0 0] 325)).alloc (.cells #[.int .u8 81, .int .u8 74, .int .u8 1] 5 (3, 4))) w.heap.size 113 [.int .u64 e] := (((Blk.new w _ _).alloc _).alloc _).alloc _
 have kM : Blk ((((w.alloc (.cells #[.int .u64 e] 113)).alloc (.cells #[.int .u64 n] 113)).alloc (.cells #[.slice none 0 0] 325)).alloc (.cells #[.int .u8 81, .int .u8 74, .int .u8 1] 5 (3, 4))) (w.heap.size + 1) 113 [.int .u64 n] := by
   have := Blk.new (w.alloc (.cells #[.int .u64 e] 113)) 113 [.int .u64 n]
   rw [World.size_alloc] at this
   exact (this.alloc _).alloc _
 have hW0 : WIn N ((((w.alloc (.cells #[.int .u64 e] 113)).alloc (.cells #[.int .u64 n] 113)).alloc (.cells #[.slice none 0 0] 325)).alloc (.cells #[.int .u8 81, .int .u8 74, .int .u8 1] 5 (3, 4))) N (.slice none 0 0) [] := by
   refine ⟨⟨?_, World.ownsRow_nil _ _ _ _⟩, Nat.le_refl _, fun k hk => by simp [Value.ownBlock] at hk⟩
   have := Blk.new ((w.alloc (.cells #[.int .u64 e] 113)).alloc (.cells #[.int .u64 n] 113)) 325 [.slice none 0 0]
   rw [World.size_alloc, World.size_alloc, ← hN] at this
   exact this.alloc _
 have hC : Win ((((w.alloc (.cells #[.int .u64 e] 113)).alloc (.cells #[.int .u64 n] 113)).alloc (.cells #[.slice none 0 0] 325)).alloc (.cells #[.int .u8 81, .int .u8 74, .int .u8 1] 5 (3, 4))) (some ⟨w.heap.size + 1 + 1 + 1, 0, none⟩) 3 3 (([81, 74, 1] : List UInt8).map byt) := by
   have := win_const (((w.alloc (.cells #[.int .u64 e] 113)).alloc (.cells #[.int .u64 n] 113)).alloc (.cells #[.slice none 0 0] 325)) 5 [.int .u8 81, .int .u8 74, .int .u8 1] (by unfold maxLen; simp)
   rw [World.size_alloc, World.size_alloc, World.size_alloc] at this
   exact this
 have f0 : Fr No w ((((w.alloc (.cells #[.int .u64 e] 113)).alloc (.cells #[.int .u64 n] 113)).alloc (.cells #[.slice none 0 0] 325)).alloc (.cells #[.int .u8 81, .int .u8 74, .int .u8 1] 5 (3, 4))) := ((((Fr.refl No w).alloc _).alloc _).alloc _).alloc _
 have hz0 : N ≤ ((((w.alloc (.cells #[.int .u64 e] 113)).alloc (.cells #[.int .u64 n] 113)).alloc (.cells #[.slice none 0 0] 325)).alloc (.cells #[.int .u8 81, .int .u8 74, .int .u8 1] 5 (3, 4))).heap.size := by simp; omega
 generalize (((w.alloc (.cells #[.int .u64 e] 113)).alloc (.cells #[.int .u64 n] 113)).alloc (.cells #[.slice none 0 0] 325)).alloc (.cells #[.int .u8 81, .int .u8 74, .int .u8 1] 5 (3, 4)) = w0 at *
 obtain ⟨be, hbe⟩ : ∃ be, be = w.heap.size := ⟨_, rfl⟩
 obtain ⟨bn, hbn⟩ : ∃ bn, bn = w.heap.size + 1 := ⟨_, rfl⟩
 rw [← hN]
 rw [← hN] at hC
 rw [← hbn, ← hbe]
 rw [← hbe] at kE
 rw [← hbn] at kM
 have leN : be < N := by omega
 have lnN : bn < N := by omega
 have HN := Lib.hid hN
 have HBE := Lib.hid hbe
 clear hN kc hbe hbn
 refine (wrawN N N _ [] [81, 74, 1] _ 3 3 (by simp) _ hz0 hW0 hC).mono ?_
 rintro o w1 ⟨v1, rfl, h1, g1⟩
 have k1 := kE.from g1 leN
 have l1 := kM.from g1 lnN
 have z1 : N ≤ w1.heap.size := Nat.le_trans hz0 g1.size
 clear hW0 hC kE kM
 go_wp2_with fail
 refine (wnumN N N v1 _ 1 m (by omega) (by omega) (by simp) _ z1 h1).mono ?_
 rintro o w2 ⟨v2, rfl, h2, g2⟩
 have k2 := k1.from g2 leN
 have l2 := l1.from g2 lnN
 have z2 : N ≤ w2.heap.size := Nat.le_trans z1 g2.size
 clear h1 k1 l1
 go_wp2_with fail
 refine (marks_any N be bn e n he hn leN lnN v2 _ (by simp [num_len]) _ z2 h2 (k2.cell (j := 0) rfl) (l2.cell (j := 0) rfl)).mono ?_
 rintro o w3 ⟨v3, rfl, h3, g3⟩
 have k3 := k2.from g3 leN
 have l3 := l2.from g3 lnN
 have z3 : N ≤ w3.heap.size := Nat.le_trans z2 g3.size
 have h03 : From N w0 w3 := (g1.t g2).t g3
 clear h2 k2 l2
 go_wp2_with fail
 refine (wrawN N N v3 _ p a m c (by simp [num_len]; omega) _ z3 h3 (HWP.out.old ((show From N w w0 from f0.no_any).t h03) (fun k hk => by have := HBE.out; omega))).mono ?_
 rintro o w4 ⟨v4, rfl, h4, g4⟩
 have k4 := k3.from g4 leN
 have l4 := l3.from g4 lnN
 have z4 : N ≤ w4.heap.size := Nat.le_trans z3 g4.size
 clear h3 k3 l3
 obtain ⟨q, hq⟩ : ∃ q, q = 20 + m := ⟨_, rfl⟩
 obtain ⟨z, hz⟩ : ∃ z, z = 88 - m := ⟨_, rfl⟩
 have hqz : IntKind.i64.wrap (108 - (q : Int)) = (z : Int) := by rw [IntKind.wrap_i64]; omega
 have HQ := Lib.hid hq
 have HZ := Lib.hid hz
 clear hq hz
 go_wp2_with fail
 refine (wlenN N N v4 _ q (by have := HM.out; have := HQ.out; simp [num_len]; omega) _ h4).mono ?_
 rintro o w5 ⟨rfl, rfl⟩
 have hmk : ∀ u : World, (Instr.makeSlice 183 (.int .i64 z) (.int .i64 z)).run Tryz.prog u = .ok (.slice (some ⟨u.heap.size, 0, none⟩) z z) (u.alloc (.cells ((List.replicate z (0 : UInt8)).map byt).toArray 5)) := Tryz.makeB z (by have := HZ.out; omega)
 obtain ⟨zz, hzz⟩ : ∃ zz : Array Value, zz = ((List.replicate z (0 : UInt8)).map byt).toArray := ⟨_, rfl⟩
 rw [← hzz] at hmk
 have HZZ := Lib.hid hzz
 clear hzz
 go_wp2_with fail
 have f4 : Fr No w4 (w4.alloc (.cells zz 5)) := (Fr.refl No w4).alloc _
 have hZ : Win (w4.alloc (.cells zz 5)) (some ⟨w4.heap.size, 0, none⟩) z z ((List.replicate z (0 : UInt8)).map byt) := by
   rw [HZZ.out]
   exact Win.of_own' (Own.of_blk (sp := []) (by rw [List.append_nil]; exact Blk.new w4 _ _) (by simp) (by simp) (Nat.le_refl _) (by have := HZ.out; unfold maxLen; omega))
 have z4' : N ≤ (w4.alloc (.cells zz 5)).heap.size := Nat.le_trans z4 f4.size
 have h4' := h4.no f4
 have hl4 : (([] : List UInt8) ++ [81, 74, 1] ++ num 1 m ++ (num 8 e ++ num 8 n) ++ p).length + z ≤ 1000000 := by have := HM.out; have := HZ.out; simp [num_len]; omega
 refine (wrawN N N v4 _ (List.replicate z 0) _ z z hl4 _ z4' h4' hZ).mono ?_
 rintro o w5 ⟨v5, rfl, h5, g5⟩
 have k5 := (k4.fr f4 (No.no _)).from g5 leN
 have l5 := (l4.fr f4 (No.no _)).from g5 lnN
 have z5 : N ≤ w5.heap.size := Nat.le_trans z4' g5.size
 have hfr5 : From N w0 w5 := ((h03.t g4).t (f4.no_any)).t g5
 have hfront : [] ++ [81, 74, 1] ++ num 1 m ++ (num 8 e ++ num 8 n) ++ p ++ List.replicate z 0 = recFront e n p := by rw [HZ.out, HM.out]; rfl
 rw [hfront] at h5
 clear h4 h4' hZ hmk k4 l4 g1 g2 g3 g4 g5 h03 hl4 hfront hqz
 obtain ⟨fr, hfrd⟩ : ∃ fr, fr = recFront e n p := ⟨_, rfl⟩
 have hfl : fr.length = 108 := by rw [hfrd]; exact recFront_len e n p (by rw [← HM.out]; exact hp)
 rw [← hfrd] at h5
 have HFR := Lib.hid hfrd
 clear hfrd
 go_wp2_with fail
 refine (wbytesN N N v5 fr 108 hfl (by decide) _ h5 (by decide)).mono ?_
 rintro o w6 ⟨ga, ca, rfl, o6, p6, g6⟩
 go_wp2_with fail
 refine (crcOf_any _ 108 ca fr _ (Win.of_own' o6) (by decide)).mono ?_
 rintro o w7 ⟨rfl, g7⟩
 have h7 := (h5.no g6).no g7
 have z7 : N ≤ w7.heap.size := Nat.le_trans z5 (Nat.le_trans g6.size g7.size)
 have k7 := (k5.fr g6 (No.no _)).fr g7 (No.no _)
 have l7 := (l5.fr g6 (No.no _)).fr g7 (No.no _)
 have hcw : IntKind.u64.wrap ((sumOf fr : Nat) : Int) = ((sumOf fr : Nat) : Int) := wrap_u64 _ (Nat.lt_trans (sumOf_lt fr) (by decide))
 clear h5 o6 k5 l5
 go_wp2_with fail
 refine (wnumN N N v5 fr 4 (sumOf fr) (by omega) (sumOf_lt fr) (by omega) _ z7 h7).mono ?_
 rintro o w8 ⟨v8, rfl, h8, g8⟩
 have k8 := k7.from g8 leN
 have l8 := l7.from g8 lnN
 have z8 : N ≤ w8.heap.size := Nat.le_trans z7 g8.size
 clear h7 hcw
 go_wp2_with fail
 refine (marks_any N be bn e n he hn leN lnN v8 _ (by simp [num_len, hfl]) _ z8 h8 (k8.cell (j := 0) rfl) (l8.cell (j := 0) rfl)).mono ?_
 rintro o w9 ⟨v9, rfl, h9, g9⟩
 clear h8
 go_wp2_with fail
 refine (wbytesN N N v9 _ 128 (by simp [num_len, hfl]) (by decide) _ h9 (by decide)).mono ?_
 rintro o w10 ⟨gb, cb, rfl, o10, p10, g10⟩
 go_wp2
 go_ret2
 have hall : From N w0 w10 := (((hfr5.t (g6.thn g7).no_any).t g8).t g9).t g10.no_any
 refine ⟨gb, cb, rfl, ?_, ?_, f0.trans hall (fun k hk => .inr (by have := HN.out; omega))⟩
 · rw [HFR.out] at o10
   exact o10
 · have := f0.size
   have := hall.size
   have := g9.size
   have := hfr5.size
   have := g6.size
   have := g7.size
   have := g8.size
   omega

structure OIn (N : Nat) (w : World) (v : Value) (bs : List UInt8) : Prop where
 own : Own w 5 1 v bs.length (bs.map byt)
 new : ∀ k, v.ownBlock = some k → N ≤ k
theorem OIn.no {N : Nat} {w w' : World} {v : Value} {bs : List UInt8} (h : OIn N w v bs) (hf : Fr No w w') : OIn N w' v bs := ⟨h.own.fr hf (fun _ _ => No.no _), h.new⟩
theorem OIn.app {N : Nat} {w0 w w' : World} {m : Nat} {v v' : Value} {bs cs : List UInt8} (h : OIn N w0 v bs) (hz : N ≤ w0.heap.size) (h0 : Fr No w0 w) (hap : Appended w 5 1 v bs.length m (bs.map byt ++ cs.map byt) v' w') (hm : cs.length = m) : OIn N w' v' (bs ++ cs) ∧ From N w0 w' := by
 subst hm
 have ho := hap.own
 rw [← List.map_append, ← List.length_append] at ho
 refine ⟨⟨ho, fun k hk => ?_⟩, h0.no_any.trans hap.fr (fun k hk => .inl (h.new k hk))⟩
 rcases hap.atOr (Nat.le_refl _) k hk with e | e
 · exact h.new k e
 · exact Nat.le_trans hz (Nat.le_trans h0.size e)
theorem OIn.step {N : Nat} {w0 w w' : World} {m : Nat} {v v' : Value} {bs : List UInt8} (cs : List UInt8) (h : OIn N w0 v bs) (hz : N ≤ w0.heap.size) (h0 : Fr No w0 w) (hap : Appended w 5 1 v bs.length m (bs.map byt ++ cs.map byt) v' w') (hm : cs.length = m) :
   ∃ b1, Hid (b1 = bs ++ cs) ∧ Hid (b1.length = bs.length + m) ∧ OIn N w' v' b1 ∧ From N w0 w' := by
 obtain ⟨h1, h2⟩ := h.app hz h0 hap hm
 exact ⟨bs ++ cs, rfl, by show (bs ++ cs).length = bs.length + m; rw [List.length_append, hm], h1, h2⟩

def recOk (n m : Nat) : Bool := !(n == 0) && decide (m ≤ 64)
set_option maxRecDepth 100000 in
set_option maxHeartbeats 1000000 in
theorem jencode_bad (e n : Nat) (a : Option Addr) (m c : Nat) (hr : recOk n m = false) (w : World) :
   Calls Tryz.prog 148 #[.int .u64 e, .int .u64 n, .slice a m c] w fun o w' => o = .returned (.tuple #[.slice none 0 0, .int .i64 80]) ∧ Fr No w w' := by
 have h3 : n = 0 ∨ (n ≠ 0 ∧ 64 < m) := by
   by_cases h0 : n = 0
   · exact .inl h0
   · refine .inr ⟨h0, ?_⟩
     simp [recOk, h0] at hr
     omega
 clear hr
 rcases h3 with rfl | ⟨h0, h1⟩
 · go_enter Tryz.func148, Tryz.ntmps148
   go_wp2
   go_ret2
   exact ⟨rfl, ((Fr.refl No w).alloc _).alloc _⟩
 · have hn0 : ((n : Int) == 0) = false := by simp; omega
   have hd1 : decide (64 < (m : Int)) = true := by simp; omega
   go_enter Tryz.func148, Tryz.ntmps148
   go_wp2
   go_ret2
   exact ⟨rfl, ((Fr.refl No w).alloc _).alloc _⟩
set_option maxRecDepth 100000 in
set_option maxHeartbeats 1000000 in
theorem jrefEncode_bad (e n : Nat) (a : Option Addr) (m c : Nat) (hr : recOk n m = false) (w : World) :
   Calls Tryz.prog 155 #[.int .u64 e, .int .u64 n, .slice a m c] w fun o w' => o = .returned (.tuple #[.slice none 0 0, .int .i64 80]) ∧ Fr No w w' := by
 have h3 : n = 0 ∨ (n ≠ 0 ∧ 64 < m) := by
   by_cases h0 : n = 0
   · exact .inl h0
   · refine .inr ⟨h0, ?_⟩
     simp [recOk, h0] at hr
     omega
 clear hr
 rcases h3 with rfl | ⟨h0, h1⟩
 · go_enter Tryz.func155, Tryz.ntmps155
   go_wp2
   go_ret2
   exact ⟨rfl, Fr.refl No w⟩
 · have hn0 : ((n : Int) == 0) = false := by simp; omega
   have hd1 : decide (64 < (m : Int)) = true := by simp; omega
   go_enter Tryz.func155, Tryz.ntmps155
   go_wp2
   go_ret2
   exact ⟨rfl, Fr.refl No w⟩
set_option maxRecDepth 100000 in
set_option maxHeartbeats 2000000 in
theorem jrefEncode_ok (e n : Nat) (he : e < 2 ^ 64) (hn : n < 2 ^ 64) (hn0 : n ≠ 0) (a : Option Addr) (c : Nat) (p : List UInt8) (hp : p.length ≤ 64) (w : World) (hw : Win w a p.length c (p.map byt)) :
   Calls Tryz.prog 155 #[.int .u64 e, .int .u64 n, .slice a p.length c] w fun o w' => ∃ v, o = .returned (.tuple #[v, .int .i64 0]) ∧ OIn w.heap.size w' v (recBytes e n p) ∧ Fr No w w' := by
 obtain ⟨i0, hi0, hz0, hz1, hz2⟩ := info_parts Tryz.infoU8
 obtain ⟨m, hm⟩ : ∃ m, m = p.length := ⟨_, rfl⟩
 rw [← hm] at hw hp ⊢
 have h0 : ((n : Int) == 0) = false := by simp; omega
 have hd : decide (64 < (m : Int)) = false := by simp; omega
 have hmw : IntKind.u8.wrap (m : Int) = (m : Int) := by rw [IntKind.wrap_u8]; omega
 have HM := Lib.hid hm
 have HW := Lib.hid hw
 clear hm hw
 go_enter Tryz.func155, Tryz.ntmps155
 go_wp2_with fail
 refine (refNum_any 8 e (by omega) he _).mono ?_
 rintro o w1 ⟨ve, rfl, oe, ne, g1⟩
 obtain ⟨ae, ce, rfl, we⟩ := Win.of_own oe
 go_wp2_with fail
 refine (refNum_any 8 n (by omega) hn _).mono ?_
 rintro o w2 ⟨vn, rfl, on, nn, g2⟩
 obtain ⟨an, cn, rfl, wn⟩ := Win.of_own on
 have WE := Lib.hid (we.no g2)
 have WN := Lib.hid wn
 have WP := Lib.hid ((HW.out.no g1).no g2)
 have hlo : w.heap.size ≤ w2.heap.size := Nat.le_trans g1.size g2.size
 have f02 := g1.thn g2
 clear oe ne on nn we wn HW
 obtain ⟨b0, hb0⟩ : ∃ b0 : List UInt8, b0 = [81, 74, 1] ++ num 1 m := ⟨_, rfl⟩
 have hb0l : b0.length = 4 := by rw [hb0]; simp [num_len]
 have hb0m : b0.map byt = [.int .u8 81, .int .u8 74, .int .u8 1, .int .u8 m] := by
   have e1 : num 1 m = [UInt8.ofNat m] := by rw [num_succ 0 m]; simp [num, numTo]
   rw [hb0, e1]
   show [byt 81, byt 74, byt 1, byt (UInt8.ofNat m)] = _
   rw [← byte_u8, hmw]
   rfl
 have fz : Fr No w2 (w2.alloc (.cells #[.int .u8 81, .int .u8 74, .int .u8 1, .int .u8 m] 5)) := (Fr.refl No w2).alloc _
 have hB0 : OIn w2.heap.size (w2.alloc (.cells #[.int .u8 81, .int .u8 74, .int .u8 1, .int .u8 m] 5)) (.slice (some ⟨w2.heap.size, 0, none⟩) 4 4) b0 :=
   ⟨by rw [hb0l]; exact Own.of_blk (n := 4) (cap := 4) (xs := b0.map byt) (sp := []) (by rw [List.append_nil, hb0m]; exact Blk.new w2 5 _) (by rw [List.length_map, hb0l]) (by rw [List.append_nil, List.length_map, hb0l]) (Nat.le_refl _) (by unfold maxLen; decide), fun k hk => by simp [Value.ownBlock] at hk; omega⟩
 have hB0' : Own (w2.alloc (.cells #[.int .u8 81, .int .u8 74, .int .u8 1, .int .u8 m] 5)) 5 1 (.slice (some ⟨w2.heap.size, 0, none⟩) 4 4) 4 (b0.map byt) := by have h := hB0.own; rw [hb0l] at h; exact h
 have HB0 := Lib.hid hB0
 have HB0' := Lib.hid hB0'
 have HBL := Lib.hid hb0l
 have HBE := Lib.hid hb0
 have HK : Hid (∀ l : List UInt8, ∀ u ∈ l.map byt, u.oneCell' = true) := byt_one
 have hmx : ∀ a : Nat, a ≤ 1000 → a ≤ maxLen := fun a h => by unfold maxLen; omega
 have HMX := Lib.hid hmx
 clear hB0 hB0' hb0l hb0 hb0m hmx
 go_wp2_with (first
   | (at_builtin; refine wpList_appW _ rfl (.tmp 36) (.tmp 37) 183 rfl 5 i0 (.int .u8 0) 1 Tryz.underlying183 hi0 hz0 hz1 hz2 rfl (.slice (some ⟨w2.heap.size, 0, none⟩) 4 4) b0.length (b0.map byt) rfl HB0.out.own ae 8 ce ((num 8 e).map byt) rfl (WE.out.no fz) (HK.out _) (HMX.out _ (by have := HBL.out; omega)) (by have := HBL.out; omega) ?_; intro v3 w3 hap3; obtain ⟨b3, e3, l3, q3, r3⟩ := HB0.out.step (num 8 e) (by simp) (Fr.refl No _) hap3 (num_len _ _); have z3 := (fz.thn (Fr.refl No _)).size; have t3 : From w2.heap.size w2 w3 := fz.no_any.trans r3 (fun k h => .inl h))
   | (at_builtin; refine wpList_appW _ rfl (.tmp 38) (.tmp 39) 183 rfl 5 i0 (.int .u8 0) 1 Tryz.underlying183 hi0 hz0 hz1 hz2 rfl v3 _ _ rfl q3.own an 8 cn ((num 8 n).map byt) rfl (WN.out.old t3 (fun k hk => by omega)) (HK.out _) (HMX.out _ (by have := l3.out; have := HBL.out; omega)) (by have := l3.out; have := HBL.out; omega) ?_; intro v4 w4 hap4; obtain ⟨b4, e4, l4, q4, r4⟩ := q3.step (num 8 n) (Nat.le_trans z3 r3.size) (Fr.refl No _) hap4 (num_len _ _); have t4 := t3.t r4)
   | (at_builtin; refine wpList_appW _ rfl (.tmp 40) (.tmp 41) 183 rfl 5 i0 (.int .u8 0) 1 Tryz.underlying183 hi0 hz0 hz1 hz2 rfl v4 _ _ rfl q4.own a m c (p.map byt) rfl (WP.out.old t4 (fun k hk => by omega)) (HK.out _) (HMX.out _ (by have := l4.out; have := l3.out; have := HBL.out; omega)) (by have := l4.out; have := l3.out; have := HBL.out; omega) ?_; intro v5 w5 hap5; obtain ⟨b5, e5, l5, q5, r5⟩ := q4.step p (Nat.le_trans (Nat.le_trans z3 r3.size) r4.size) (Fr.refl No _) hap5 HM.out.symm; have t5 := t4.t r5))
 have z5 : w2.heap.size ≤ w5.heap.size := t5.size
 obtain ⟨q, hq⟩ : ∃ q, q = b5.length := ⟨_, rfl⟩
 have hqm : q = 20 + m := by have := l5.out; have := l4.out; have := l3.out; have := HBL.out; omega
 obtain ⟨z, hz⟩ : ∃ z, z = 88 - m := ⟨_, rfl⟩
 have hqz : q + z = 108 := by omega
 have he5 : b5 = [81, 74, 1] ++ num 1 m ++ num 8 e ++ num 8 n ++ p := by rw [e5.out, e4.out, e3.out, HBE.out]
 obtain ⟨a5, c5, hv5⟩ := own_slice q5.own
 rw [← hq] at hv5
 subst hv5
 have q5' : OIn w2.heap.size w5 (.slice a5 (q + 0) c5) (b5 ++ List.replicate 0 0) := by simpa using q5
 have Q5 := Lib.hid q5'
 have HQ := Lib.hid hq
 have HZ := Lib.hid hz
 have HE5 := Lib.hid he5
 have T5 := Lib.hid t5
 have HQZ := Lib.hid hqz
 have hqc : q + z ≤ 108 := by omega
 clear hqm hqz hap3 hap4 hap5 hq hz he5 q5' q5 q4 q3 e3 e4 e5 l3 l4 l5 r3 r4 r5 t3 t4 t5 z3 HB0 HB0' HBL HBE
 go_loopw [12] (fun s wr => ∃ (k : Nat) (a : Option Addr) (c : Nat), k ≤ z ∧ s = .slice a (q + k) c ∧ OIn w2.heap.size wr (.slice a (q + k) c) (b5 ++ List.replicate k 0) ∧ From w2.heap.size w5 wr) (fun s _ => 108 - (match s with | .slice _ n _ => n | _ => 0))
 case atStart => exact ⟨0, a5, c5, Nat.zero_le _, rfl, Q5.out, Fr.refl _ _⟩
 case round =>
   obtain ⟨k, a', c', hk, rfl, hO, hfr⟩ := hrel
   have hbl : (b5 ++ List.replicate k 0).length = q + k := by rw [List.length_append, ← HQ.out, List.length_replicate]
   obtain ⟨bk, hbk⟩ : ∃ bk, bk = b5 ++ List.replicate k 0 := ⟨_, rfl⟩
   rw [← hbk] at hO hbl
   have HBK := Lib.hid hbk
   have HBL := Lib.hid hbl
   have zr : w2.heap.size ≤ wr.heap.size := Nat.le_trans z5 hfr.size
   have hown : Own wr 5 1 (.slice a' (q + k) c') (q + k) (bk.map byt) := by have h := hO.own; rw [hbl] at h; exact h
   clear hbk hbl
   by_cases hlt : k < z
   · have hn1 : Hid (Win (wr.alloc (.cells #[.int .u8 0] 5)) (some ⟨wr.heap.size, 0, none⟩) 1 1 (([0] : List UInt8).map byt)) :=
       Win.of_own' (T := 5) (Own.of_blk (n := 1) (cap := 1) (xs := ([0] : List UInt8).map byt) (sp := []) (Blk.new wr 5 (([0] : List UInt8).map byt)) rfl rfl (Nat.le_refl _) (by unfold maxLen; decide))
     have hownA : Hid (Own (wr.alloc (.cells #[.int .u8 0] 5)) 5 1 (.slice a' (q + k) c') (q + k) (bk.map byt)) := hown.alloc _
     have hd : decide (q + k < 108) = true := by simp; omega
     have fa : Fr No wr (wr.alloc (.cells #[.int .u8 0] 5)) := (Fr.refl No wr).alloc _
     clear hown
     go_wp2_with (at_builtin; refine wpList_appW _ rfl (.tmp 46) (.tmp 47) 183 rfl 5 i0 (.int .u8 0) 1 Tryz.underlying183 hi0 hz0 hz1 hz2 rfl (.slice a' (q + k) c') (q + k) (bk.map byt) rfl hownA.out (some ⟨wr.heap.size, 0, none⟩) 1 1 (([0] : List UInt8).map byt) rfl hn1.out (HK.out _) (HMX.out _ (by omega)) (by omega) ?_; intro v7 w7 hap7; obtain ⟨a7, c7, rfl⟩ := app_slice hap7)
     go_roundw
     case rel =>
       have hap7' : Appended (wr.alloc (.cells #[.int .u8 0] 5)) 5 1 (.slice a' (q + k) c') bk.length 1 (bk.map byt ++ ([0] : List UInt8).map byt) (.slice a7 (q + k + 1) c7) w7 := by rw [HBL.out]; exact hap7
       obtain ⟨q1, q2⟩ := hO.app zr fa hap7' rfl
       refine ⟨k + 1, a7, c7, by omega, rfl, ?_, hfr.t q2⟩
       rw [HBK.out, List.append_assoc] at q1
       rw [List.replicate_succ']
       exact q1
     case measure => (simp; omega)
   · obtain rfl : k = z := by omega
     have hbf : bk = recFront e n p := by rw [HBK.out, HE5.out, HZ.out, HM.out]; simp [recFront]
     have HBF := Lib.hid hbf
     have hcw : IntKind.u64.wrap ((sumOf bk : Nat) : Int) = ((sumOf bk : Nat) : Int) := wrap_u64 _ (Nat.lt_trans (sumOf_lt bk) (by decide))
     rw [HQZ.out] at hown hO ⊢
     have HBL' : Hid (bk.length = 108) := by show bk.length = 108; rw [HBL.out, HQZ.out]
     obtain ⟨a8, c8, ev, hwin⟩ := Win.of_own hown
     injection ev with ev1 ev2 ev3
     subst ev1
     subst ev3
     have hO' : OIn w2.heap.size wr (.slice a' 108 c') bk := hO
     have TF := Lib.hid (T5.out.t hfr)
     clear hown hO hbf hlt hfr T5 Q5
     go_wp2_with fail
     refine (refOf_any a' 108 c' bk _ hwin (by decide)).mono ?_
     rintro o w8 ⟨rfl, rfl⟩
     go_wp2_with fail
     refine (refNum_any 4 (sumOf bk) (by omega) (sumOf_lt bk) _).mono ?_
     rintro o w9 ⟨vo, rfl, oo, no, g9⟩
     obtain ⟨ao, co, rfl, wo⟩ := Win.of_own oo
     have WO := Lib.hid wo
     have q9 := hO'.no g9
     have z9 : w2.heap.size ≤ w9.heap.size := Nat.le_trans zr g9.size
     have t9 : From w2.heap.size w2 w9 := TF.out.t g9.no_any
     clear wo oo no hcw hwin
     go_wp2_with (first
       | (at_builtin; refine wpList_appW _ rfl (.tmp 56) (.tmp 57) 183 rfl 5 i0 (.int .u8 0) 1 Tryz.underlying183 hi0 hz0 hz1 hz2 rfl (.slice a' 108 c') bk.length (bk.map byt) rfl q9.own ao 4 co ((num 4 (sumOf bk)).map byt) rfl WO.out (HK.out _) (HMX.out _ (by have := HBL'.out; omega)) (by have := HBL'.out; omega) ?_; intro v10 w10 hap10; obtain ⟨b10, e10, l10, q10, r10⟩ := q9.step (num 4 (sumOf bk)) z9 (Fr.refl No _) hap10 (num_len _ _); have z10 := Nat.le_trans z9 r10.size; have t10 := t9.t r10)
       | (at_builtin; refine wpList_appW _ rfl (.tmp 58) (.tmp 59) 183 rfl 5 i0 (.int .u8 0) 1 Tryz.underlying183 hi0 hz0 hz1 hz2 rfl v10 _ _ rfl q10.own ae 8 ce ((num 8 e).map byt) rfl (WE.out.old t10 (fun k hk => by omega)) (HK.out _) (HMX.out _ (by have := HBL'.out; have := l10.out; omega)) (by have := HBL'.out; have := l10.out; omega) ?_; intro v11 w11 hap11; obtain ⟨b11, e11, l11, q11, r11⟩ := q10.step (num 8 e) z10 (Fr.refl No _) hap11 (num_len _ _); have z11 := Nat.le_trans z10 r11.size; have t11 := t10.t r11)
       | (at_builtin; refine wpList_appW _ rfl (.tmp 60) (.tmp 61) 183 rfl 5 i0 (.int .u8 0) 1 Tryz.underlying183 hi0 hz0 hz1 hz2 rfl v11 _ _ rfl q11.own an 8 cn ((num 8 n).map byt) rfl (WN.out.old t11 (fun k hk => by omega)) (HK.out _) (HMX.out _ (by have := HBL'.out; have := l10.out; have := l11.out; omega)) (by have := HBL'.out; have := l10.out; have := l11.out; omega) ?_; intro v12 w12 hap12; obtain ⟨b12, e12, l12, q12, r12⟩ := q11.step (num 8 n) z11 (Fr.refl No _) hap12 (num_len _ _); have t12 := t11.t r12))
     go_ret2
     refine ⟨v12, rfl, ⟨?_, fun k hk => Nat.le_trans hlo (q12.new k hk)⟩, f02.trans t12 (fun k hk => .inr (Nat.le_trans hlo hk))⟩
     have hfin : b12 = recBytes e n p := by rw [e12.out, e11.out, e10.out, HBF.out]; simp [recBytes]
     rw [← hfin]
     exact q12.own

structure RecD where
 e : Nat
 n : Nat
 p : List UInt8
def recSize (b : List UInt8) : Nat := wh ((b.drop 3).take 1)
def recAt (b : List UInt8) : RecD := ⟨wh ((b.drop 4).take 8), wh ((b.drop 12).take 8), (b.drop 20).take (recSize b)⟩
def decRec (b : List UInt8) : Option RecD := if b.length = 128 ∧ recSize b ≤ 64 ∧ (recAt b).n ≠ 0 ∧ recBytes (recAt b).e (recAt b).n (recAt b).p = b then some (recAt b) else none
def RecD.zero : RecD := ⟨0, 0, []⟩
def decRecOf (b : List UInt8) : RecD := (decRec b).getD RecD.zero
def decRecE (b : List UInt8) : Int := if (decRec b).isSome then 0 else 80
theorem wh_one (k : Nat) (hk : k < 256) : wh (num 1 k) = k := by
 have e1 : num 1 k = [UInt8.ofNat k] := by rw [num_succ 0 k]; simp [num, numTo]
 rw [e1]
 simp [wh]
 omega
theorem recSize_of (e n : Nat) (p : List UInt8) (hp : p.length ≤ 64) : recSize (recBytes e n p) = p.length := by
 have e1 : ∀ R : List UInt8, ((([81, 74, 1] ++ (num 1 p.length ++ R) : List UInt8).drop 3).take 1) = num 1 p.length := by
   intro R
   show ((num 1 p.length ++ R).take 1) = num 1 p.length
   rw [List.take_append_of_le_length (by rw [num_len]; omega)]
   exact List.take_of_length_le (by rw [num_len]; omega)
 have e2 : ∃ R, recBytes e n p = [81, 74, 1] ++ (num 1 p.length ++ R) := by
   unfold recBytes recFront
   simp only [List.append_assoc]
   exact ⟨_, rfl⟩
 obtain ⟨R, hR⟩ := e2
 unfold recSize
 rw [hR, e1]
 exact wh_one _ (by omega)
theorem rec_some {b : List UInt8} {s e n : Nat} {p : List UInt8} (hX : b.length = 128 → s = recSize b ∧ e = wh ((b.drop 4).take 8) ∧ n = wh ((b.drop 12).take 8)) (hP : b.length = 128 → 20 + s ≤ 128 → p = (b.drop 20).take s) (h0 : n ≠ 0) (hp : p.length ≤ 64) (h : recBytes e n p = b) : decRec b = some ⟨e, n, p⟩ := by
 have hl : b.length = 128 := by rw [← h]; exact recBytes_len e n p hp
 obtain ⟨h1, h2, h3⟩ := hX hl
 have hs : recSize b = p.length := by rw [← h]; exact recSize_of e n p hp
 have h4 := hP hl (by omega)
 have hr : recAt b = ⟨e, n, p⟩ := by unfold recAt; rw [← h2, ← h3, ← h1, ← h4]
 unfold decRec
 rw [hr, if_pos ⟨hl, by omega, h0, h⟩]
theorem rec_none {b : List UInt8} {s e n : Nat} {p : List UInt8} (hX : b.length = 128 → s = recSize b ∧ e = wh ((b.drop 4).take 8) ∧ n = wh ((b.drop 12).take 8)) (hP : b.length = 128 → 20 + s ≤ 128 → p = (b.drop 20).take s) (h : recOk n p.length = false ∨ recBytes e n p ≠ b) : decRec b = none := by
 unfold decRec
 refine if_neg (fun ⟨hl, hs, h0, hb⟩ => ?_)
 obtain ⟨h1, h2, h3⟩ := hX hl
 have h4 := hP hl (by omega)
 have hr : recAt b = ⟨e, n, p⟩ := by unfold recAt; rw [← h2, ← h3, ← h1, ← h4]
 rw [hr] at h0 hb
 rcases h with h | h
 · have hpl : p.length ≤ 64 := by rw [h4, List.length_take]; omega
   have h0' : n ≠ 0 := h0
   simp [recOk, h0'] at h
   omega
 · exact h hb
theorem decRec_of_some {b : List UInt8} {e n : Nat} {p : List UInt8} (h : decRec b = some ⟨e, n, p⟩) : decRecOf b = ⟨e, n, p⟩ ∧ decRecE b = 0 := by
 unfold decRecOf decRecE
 rw [h]
 exact ⟨rfl, rfl⟩
theorem decRec_of_none {b : List UInt8} (h : decRec b = none) : decRecOf b = .zero ∧ decRecE b = 80 := by
 unfold decRecOf decRecE
 rw [h]
 exact ⟨rfl, rfl⟩
theorem OIn.nil (N : Nat) (w : World) : OIn N w (.slice none 0 0) [] := ⟨World.ownsRow_nil _ _ _ _, fun k hk => by simp [Value.ownBlock] at hk⟩
set_option maxRecDepth 100000 in
set_option maxHeartbeats 1000000 in
theorem jdecode_any (a : Option Addr) (n c : Nat) (b : List UInt8) (w : World) (h : Win w a n c (b.map byt)) (hb : n ≤ 1000) :
   Calls Tryz.prog 98 #[.slice a n c] w fun o w' => ∃ v, o = .returned (.tuple #[.int .u64 (decRecOf b).e, .int .u64 (decRecOf b).n, v, .int .i64 (decRecE b)]) ∧ OIn w.heap.size w' v (decRecOf b).p ∧ Fr No w w' := by
 have hbl : b.length = n := by have := h.len; simpa using this
 have hbm : b.length ≤ 1000000 := by omega
 have HBL := Lib.hid hbl
 clear hbl
 go_enter Tryz.func98, Tryz.ntmps98
 go_wp2_with fail
 refine (readN a n c b _ h (by omega)).mono ?_
 rintro o w1 ⟨rb, v, rfl, h1, g1⟩
 go_wp2_with fail
 refine (rrawN w.heap.size rb 0 3 v b hbm _ g1.size h1).mono ?_
 rintro o w2 ⟨u2, c2, m2, p2, cs2, rfl, _, _, _, e2, h2, g2⟩
 have E2 := Lib.hid e2
 clear e2 h1
 go_wp2_with fail
 refine (rnumN w.heap.size rb p2 1 v b hbm (by omega) _ h2).mono ?_
 rintro o w3 ⟨x3, c3, p3, rfl, l3, e3, h3, g3⟩
 have E3 := Lib.hid e3
 clear e3 h2
 go_wp2_with fail
 refine (rnumN w.heap.size rb p3 8 v b hbm (by omega) _ h3).mono ?_
 rintro o w4 ⟨x4, c4, p4, rfl, l4, e4, h4, g4⟩
 have E4 := Lib.hid e4
 clear e4 h3
 go_wp2_with fail
 refine (rnumN w.heap.size rb p4 8 v b hbm (by omega) _ h4).mono ?_
 rintro o w5 ⟨x5, c5, p5, rfl, l5, e5, h5, g5⟩
 have E5 := Lib.hid e5
 clear e5 h4
 have hw3 : wrap64 (x3 : Int) = (x3 : Int) := Go.IntWalk.wrap64_in _ (by simp at l3; omega)
 have hall5 : From w.heap.size w w5 := From.t (g1.no_any) ((From.t g2 g3).t (From.t g4 g5))
 clear g1 g2 g3 g4 g5
 go_wp2_with fail
 refine (rrawN w.heap.size rb p5 x3 v b hbm _ hall5.size h5).mono ?_
 rintro o w6 ⟨u6, c6, m6, p6, p, rfl, o6, m6l, n6, e6, h6, g6⟩
 have E6 := Lib.hid e6
 clear e6 h5 h6
 obtain rfl : m6 = p.length := by have := o6.1; simpa using this.symm
 have hX : b.length = 128 → x3 = recSize b ∧ x4 = wh ((b.drop 4).take 8) ∧ x5 = wh ((b.drop 12).take 8) := by
   intro hl
   obtain ⟨-, -, hp2⟩ := E2.out (by omega)
   obtain ⟨hx3, hp3⟩ := E3.out (by omega)
   obtain ⟨hx4, hp4⟩ := E4.out (by omega)
   obtain ⟨hx5, hp5⟩ := E5.out (by omega)
   unfold recSize
   rw [hx3, hx4, hx5, hp4, hp3, hp2]
   exact ⟨rfl, rfl, rfl⟩
 have hP : b.length = 128 → 20 + x3 ≤ 128 → p = (b.drop 20).take x3 := by
   intro hl hs
   obtain ⟨-, -, hp2⟩ := E2.out (by omega)
   obtain ⟨hx3, hp3⟩ := E3.out (by omega)
   obtain ⟨hx4, hp4⟩ := E4.out (by omega)
   obtain ⟨hx5, hp5⟩ := E5.out (by omega)
   obtain ⟨hx6, _, _⟩ := E6.out (by omega)
   rw [hx6, show p5 = 20 by omega]
 have hlo6 : ∀ k, u6.ownBlock = some k → w.heap.size ≤ k := fun k hk => Nat.le_trans hall5.size (n6 k hk)
 have hall : From w.heap.size w w6 := hall5.t g6
 have hO6 : OIn w.heap.size w6 u6 p := ⟨o6, hlo6⟩
 have l4' : x4 < 2 ^ 64 := by simpa using l4
 have l5' : x5 < 2 ^ 64 := by simpa using l5
 have HX := Lib.hid hX
 have HP := Lib.hid hP
 have HO := Lib.hid hO6
 obtain ⟨au, cu, rfl, wu⟩ := Win.of_own o6
 have HWU := Lib.hid wu
 have HW := Lib.hid h
 clear l3 l4 l5 E2 E3 E4 E5 E6 o6 hlo6 n6 hX hP hO6 g6 hall5 m6l wu h
 rcases Bool.eq_false_or_eq_true (recOk x5 p.length) with hok | hok
 · have h50 : x5 ≠ 0 := by intro h0; simp [recOk, h0] at hok
   have hpl : p.length ≤ 64 := by simp [recOk] at hok; omega
   have HOK := Lib.hid hok
   have H50 := Lib.hid h50
   clear hok h50
   go_wp2_with fail
   refine (jencode_ok x4 x5 l4' l5' H50.out au cu p hpl _ HWU.out).mono ?_
   rintro o w7 ⟨g7, c7, rfl, o7, n7, f7⟩
   have hw7 : Win w7 a n c (b.map byt) := HW.out.old (S := fun k => w.heap.size ≤ k) (hall.t f7.no_any) (fun k hk => by omega)
   obtain ⟨Y, hY⟩ : ∃ Y, Y = recBytes x4 x5 p := ⟨_, rfl⟩
   rw [← hY] at o7
   have HY := Lib.hid hY
   clear hY
   have hO7 := Lib.hid (HO.out.no f7)
   have hfin : Fr No w w7 := (hall.t f7.no_any).no (Nat.le_refl _)
   by_cases heq : Y = b
   · have hd : decide (Y = b) = true := decide_eq_true heq
     have hdec := decRec_of_some (rec_some HX.out HP.out H50.out hpl (by rw [← HY.out]; exact heq))
     have HD := Lib.hid hdec
     clear hdec heq
     go_wp2_with (go_at_call 149; refine (equal_any _ _ 128 c7 n c Y b _ (Win.of_own' o7) hw7).mono ?_; rintro o w8 ⟨rfl, rfl⟩; rw [hd])
     refine bodyPost_ret (v := .tuple #[.int .u64 x4, .int .u64 x5, .slice au p.length cu, .int .i64 0]) (by simp [results, Tryz.results98, go_sem]) rfl ?_
     refine ⟨.slice au p.length cu, ?_, ?_, hfin⟩
     · rw [HD.out.1, HD.out.2]
     · rw [HD.out.1]; exact hO7.out
   · have hd : decide (Y = b) = false := decide_eq_false heq
     have hdec := decRec_of_none (rec_none HX.out HP.out (.inr (by rw [← HY.out]; exact heq)))
     have HD := Lib.hid hdec
     clear hdec heq
     go_wp2_with (go_at_call 149; refine (equal_any _ _ 128 c7 n c Y b _ (Win.of_own' o7) hw7).mono ?_; rintro o w8 ⟨rfl, rfl⟩; rw [hd])
     refine bodyPost_ret (v := .tuple #[.int .u64 0, .int .u64 0, .slice none 0 0, .int .i64 80]) (by simp [results, Tryz.results98, go_sem]) rfl ?_
     refine ⟨.slice none 0 0, ?_, ?_, hfin⟩
     · rw [HD.out.1, HD.out.2]; rfl
     · rw [HD.out.1]; exact OIn.nil _ _
 · have hdec := decRec_of_none (rec_none HX.out HP.out (.inl hok))
   have HD := Lib.hid hdec
   have HOK := Lib.hid hok
   clear hdec hok
   go_wp2_with fail
   refine (jencode_bad x4 x5 au p.length cu HOK.out _).mono ?_
   rintro o w7 ⟨rfl, f7⟩
   have hfin : Fr No w w7 := (hall.t f7.no_any).no (Nat.le_refl _)
   go_wp2
   refine bodyPost_ret (v := .tuple #[.int .u64 0, .int .u64 0, .slice none 0 0, .int .i64 80]) (by simp [results, Tryz.results98, go_sem]) rfl ?_
   refine ⟨.slice none 0 0, ?_, ?_, hfin⟩
   · rw [HD.out.1, HD.out.2]; rfl
   · rw [HD.out.1]; exact OIn.nil _ _
theorem whole_part {w w' : World} {ad : Addr} {n c : Nat} {b : List UInt8} (h : Win w (some ad) n c (b.map byt)) (hf : Fr No w w') (k m : Nat) (hk : k + m ≤ n) (hm : m ≤ 8) (hc : c ≠ k) (hk0 : k ≠ 0) :
   Calls Tryz.prog 154 #[.slice (some ⟨ad.block, ad.off + k, none⟩) m (c - k)] w' fun e w'' => e = .returned (.int .u64 (wh ((b.drop k).take m) : Nat)) ∧ w' = w'' := by
 have h1 := ((h.no hf).drop (k := k) (by omega)).take (k := m) (by omega)
 rw [if_neg hc, ← List.map_drop, ← List.map_take] at h1
 have e : Option.map (·.add k) (some ad) = some ⟨ad.block, ad.off + k, none⟩ := by simp [Addr.add, hk0]
 rw [e] at h1
 exact refWhole_any _ m (c - k) _ hm w' h1
theorem recSize_at {b : List UInt8} (hb : b.length = 128) : ∃ x : UInt8, b[3]? = some x ∧ recSize b = x.toNat := by
 refine ⟨b[3], List.getElem?_eq_getElem (by omega), ?_⟩
 unfold recSize
 rw [List.drop_eq_getElem_cons (by omega : 3 < b.length), List.take_succ_cons, List.take_zero]
 unfold wh
 simp only [List.foldl]
 omega
theorem wh8_lt (l : List UInt8) : wh (l.take 8) < 2 ^ 64 := by
 refine Nat.lt_of_lt_of_le (wh_lt _) ?_
 have : (l.take 8).length ≤ 8 := by simp; omega
 exact Nat.le_trans (Nat.pow_le_pow_right (by decide) this) (by decide)
set_option maxRecDepth 100000 in
set_option maxHeartbeats 1000000 in
theorem jrefDecode_short (a : Option Addr) (n c : Nat) (b : List UInt8) (w : World) (h : Win w a n c (b.map byt)) (hn : n ≠ 128) :
   Calls Tryz.prog 101 #[.slice a n c] w fun o w' => ∃ v, o = .returned (.tuple #[.int .u64 (decRecOf b).e, .int .u64 (decRecOf b).n, v, .int .i64 (decRecE b)]) ∧ OIn w.heap.size w' v (decRecOf b).p ∧ Fr No w w' := by
 have hbl : b.length = n := by have := h.len; simpa using this
 have hdec : decRec b = none := by
   unfold decRec
   refine if_neg (fun hc => hn (by rw [← hbl]; exact hc.1))
 have HD := Lib.hid (decRec_of_none hdec)
 have hd : (n == 128) = false := by simp; exact hn
 have hd' : (n != 128) = true := by simp; exact hn
 clear hdec hbl
 go_enter Tryz.func101, Tryz.ntmps101
 go_wp2
 refine bodyPost_ret (v := .tuple #[.int .u64 0, .int .u64 0, .slice none 0 0, .int .i64 80]) (by simp [results, Tryz.results101, go_sem]) rfl ?_
 refine ⟨.slice none 0 0, ?_, ?_, Fr.refl No w⟩
 · rw [HD.out.1, HD.out.2]; rfl
 · rw [HD.out.1]; exact OIn.nil _ _
set_option maxRecDepth 100000 in
set_option maxHeartbeats 1000000 in
theorem jrefDecode_128 (ad : Addr) (c : Nat) (b : List UInt8) (w : World) (h : Win w (some ad) 128 c (b.map byt)) :
   Calls Tryz.prog 101 #[.slice (some ad) 128 c] w fun o w' => ∃ v, o = .returned (.tuple #[.int .u64 (decRecOf b).e, .int .u64 (decRecOf b).n, v, .int .i64 (decRecE b)]) ∧ OIn w.heap.size w' v (decRecOf b).p ∧ Fr No w w' := by
 have hbl : b.length = 128 := by have := h.len; simpa using this
 have hcap := h.cap
 have hmax := h.max
 unfold maxLen at hmax
 have m12 : (12 : Int) ≤ (c : Int) := by omega
 have m20 : (20 : Int) ≤ (c : Int) := by omega
 have n4 : ¬ c = 4 := by omega
 have n12 : ¬ c = 12 := by omega
 have n20 : ¬ c = 20 := by omega
 obtain ⟨x, hx, hsz⟩ := recSize_at hbl
 have hcell : w.cell? ⟨ad.block, ad.off + 3, none⟩ = some (byt x) := by
   have := h.cell ad rfl 3 (byt x) (by rw [List.getElem?_map, hx]; rfl)
   simpa [Addr.add] using this
 obtain ⟨s, hs⟩ : ∃ s, s = x.toNat := ⟨_, rfl⟩
 unfold byt at hcell
 rw [← hs] at hcell hsz
 have hs2 : s < 256 := by rw [hs]; exact x.toNat_lt
 have HBL := Lib.hid hbl
 have HSZ := Lib.hid hsz
 have HW := Lib.hid h
 clear hbl hx hs hsz h
 by_cases h64 : 64 < s
 · have hdec : decRec b = none := by
     unfold decRec
     refine if_neg (fun hc => ?_)
     have := hc.2.1
     rw [HSZ.out] at this
     omega
   have HD := Lib.hid (decRec_of_none hdec)
   have hd : decide (64 < (s : Int)) = true := by simp; omega
   clear hdec
   go_enter Tryz.func101, Tryz.ntmps101
   go_wp2
   refine bodyPost_ret (v := .tuple #[.int .u64 0, .int .u64 0, .slice none 0 0, .int .i64 80]) (by simp [results, Tryz.results101, go_sem]) rfl ?_
   refine ⟨.slice none 0 0, ?_, ?_, Fr.refl No w⟩
   · rw [HD.out.1, HD.out.2]; rfl
   · rw [HD.out.1]; exact OIn.nil _ _
 · have hd : decide (64 < (s : Int)) = false := by simp; omega
   have hs64 : s ≤ 64 := by omega
   have hsc : (20 : Int) + (s : Int) ≤ (c : Int) := by omega
   go_enter Tryz.func101, Tryz.ntmps101
   go_wp2_with fail
   refine (whole_part HW.out (Fr.refl No w) 4 8 (by decide) (by decide) n4 (by decide)).mono ?_
   rintro o w1 ⟨rfl, rfl⟩
   go_wp2_with fail
   refine (whole_part HW.out (Fr.refl No w) 12 8 (by decide) (by decide) n12 (by decide)).mono ?_
   rintro o w1 ⟨rfl, rfl⟩
   go_wp2_with fail
   obtain ⟨p, hpd⟩ : ∃ p, p = (b.drop 20).take s := ⟨_, rfl⟩
   have hpl : s = p.length := by rw [hpd, List.length_take, List.length_drop, HBL.out]; omega
   have hwP : Win w (some ⟨ad.block, ad.off + 20, none⟩) s (c - 20) (p.map byt) := by
     have h1 := (HW.out.drop (k := 20) (by omega)).take (k := s) (by omega)
     rw [if_neg n20, ← List.map_drop, ← List.map_take, ← hpd] at h1
     have e : Option.map (·.add 20) (some ad) = some ⟨ad.block, ad.off + 20, none⟩ := by simp [Addr.add]
     rw [e] at h1
     exact h1
   have l4 := wh8_lt (b.drop 4)
   have l5 := wh8_lt (b.drop 12)
   obtain ⟨x4, h4⟩ : ∃ x4, x4 = wh ((b.drop 4).take 8) := ⟨_, rfl⟩
   obtain ⟨x5, h5⟩ : ∃ x5, x5 = wh ((b.drop 12).take 8) := ⟨_, rfl⟩
   rw [← h4] at l4 ⊢
   rw [← h5] at l5 ⊢
   have HX : Hid (b.length = 128 → s = recSize b ∧ x4 = wh ((b.drop 4).take 8) ∧ x5 = wh ((b.drop 12).take 8)) := fun _ => ⟨HSZ.out.symm, h4, h5⟩
   have HP : Hid (b.length = 128 → 20 + s ≤ 128 → p = (b.drop 20).take s) := fun _ _ => hpd
   clear hpd h4 h5
   refine (twin_any _ s _ p w hwP (by omega)).mono ?_
   rintro o w2 ⟨v2, rfl, o2, n2, _, f2⟩
   subst hpl
   have HO := Lib.hid (⟨o2, n2⟩ : OIn w.heap.size w2 v2 p)
   obtain ⟨a2, c2, rfl, wn2⟩ := Win.of_own o2
   have HWN := Lib.hid wn2
   have HW2 := Lib.hid (HW.out.no f2)
   clear hwP o2 n2 wn2 hcell
   rcases Bool.eq_false_or_eq_true (recOk x5 p.length) with hok | hok
   · have h50 : x5 ≠ 0 := by intro h0; simp [recOk, h0] at hok
     have H50 := Lib.hid h50
     clear hok h50
     go_wp2_with fail
     refine (jrefEncode_ok x4 x5 l4 l5 H50.out a2 c2 p hs64 _ HWN.out).mono ?_
     rintro o w6 ⟨v6, rfl, o6, f6⟩
     have ho6 := o6.own
     rw [recBytes_len x4 x5 p hs64] at ho6
     obtain ⟨a6, c6, rfl, wn6⟩ := Win.of_own ho6
     have hO7 := Lib.hid (HO.out.no f6)
     have hfin : Fr No w w6 := f2.thn f6
     have s1 := run_str (P := Tryz.prog) (src := 183) (dst := 9) Tryz.underlying183 Tryz.underlying5 Tryz.underlying9 wn6
     have s2 := run_str (P := Tryz.prog) (src := 183) (dst := 9) Tryz.underlying183 Tryz.underlying5 Tryz.underlying9 (HW2.out.no f6)
     clear o6 ho6 wn6
     by_cases heq : recBytes x4 x5 p = b
     · have HD := Lib.hid (decRec_of_some (rec_some HX.out HP.out H50.out hs64 heq))
       have hd : ((str (recBytes x4 x5 p)).toList == (str b).toList) = true := by rw [heq]; simp
       have hd' : ((str (recBytes x4 x5 p)).toList != (str b).toList) = false := by rw [heq]; simp
       clear heq
       go_wp2
       refine bodyPost_ret (v := .tuple #[.int .u64 x4, .int .u64 x5, .slice a2 p.length c2, .int .i64 0]) (by simp [results, Tryz.results101, go_sem]) rfl ?_
       refine ⟨.slice a2 p.length c2, ?_, ?_, hfin⟩
       · rw [HD.out.1, HD.out.2]
       · rw [HD.out.1]; exact hO7.out
     · have HD := Lib.hid (decRec_of_none (rec_none HX.out HP.out (.inr heq)))
       have hne : (str (recBytes x4 x5 p)).toList ≠ (str b).toList := by rw [str_list, str_list]; exact heq
       have hd : ((str (recBytes x4 x5 p)).toList == (str b).toList) = false := by simpa using hne
       have hd' : ((str (recBytes x4 x5 p)).toList != (str b).toList) = true := by simpa using hne
       clear heq hne
       go_wp2
       refine bodyPost_ret (v := .tuple #[.int .u64 0, .int .u64 0, .slice none 0 0, .int .i64 80]) (by simp [results, Tryz.results101, go_sem]) rfl ?_
       refine ⟨.slice none 0 0, ?_, ?_, hfin⟩
       · rw [HD.out.1, HD.out.2]; rfl
       · rw [HD.out.1]; exact OIn.nil _ _
   · have HD := Lib.hid (decRec_of_none (rec_none HX.out HP.out (.inl hok)))
     have HOK := Lib.hid hok
     clear hok
     go_wp2_with fail
     refine (jrefEncode_bad x4 x5 a2 p.length c2 HOK.out _).mono ?_
     rintro o w6 ⟨rfl, f6⟩
     have hfin : Fr No w w6 := f2.thn f6
     go_wp2
     refine bodyPost_ret (v := .tuple #[.int .u64 0, .int .u64 0, .slice none 0 0, .int .i64 80]) (by simp [results, Tryz.results101, go_sem]) rfl ?_
     refine ⟨.slice none 0 0, ?_, ?_, hfin⟩
     · rw [HD.out.1, HD.out.2]; rfl
     · rw [HD.out.1]; exact OIn.nil _ _
end Go.Proofs.YtlmpjdionndncaaGreatDoor
namespace Go.Proofs.YtlmpjdionndncaaGreatDoor
open Go.RowKit
section
variable {P : Program} {w : World} {t : TypeId} {cs : List Value}
end
/-! Arguments by their types. -/
section
open Go.ChangeShapes Go.WideShapes Go.ChangeAt
variable {P : Program} {w : World} {t : TypeId} {r : Reach} {b0 : Nat} {v : Value}
theorem again_all {H : Type} {enc : TypeId × Value → H} (hl : laidOutB P = true) {W W' : World} (hb : Below W.heap.size W W') : ∀ {ts : List TypeId} {vs : List Value} {ds : List (DataW H)} {ps : List MemPlace}, (ts.all fun t => P.readableRec t && decide (t < P.types.size)) = true → DataW.TrodAll enc P W 0 (fun _ => true) true ts vs ds ps → (∀ x ∈ ps, x.block < W.heap.size) →
   DataW.TrodAll enc P W' 0 (fun b => decide (b < W.heap.size)) true ts vs ds ps := by
 intro ts
 induction ts with
 | nil =>
   intro vs ds ps _ h _
   obtain ⟨rfl, rfl, rfl⟩ := trodAll_nil h
   exact trodAll_mk0
 | cons t ts ih =>
   intro vs ds ps hr h hlt
   obtain ⟨v, vs', d, ds', p, q, rfl, rfl, rfl, h1, h2⟩ := trodAll_cons h
   simp only [List.all_cons, Bool.and_eq_true, decide_eq_true_eq] at hr
   exact trodAll_cons_mk (Below.trod hl hr.1.1 hr.1.2 h1 hb (fun x hx => hlt x (List.mem_append.2 (.inl hx)))) (ih (by simpa using hr.2) h2 (fun x hx => hlt x (List.mem_append.2 (.inr hx))))
end
end Go.Proofs.YtlmpjdionndncaaGreatDoor
namespace Go.Proofs.YtlmpjdionndncaaGreatDoor
open Go.RowKit Go.Shelf
theorem recOk_of {n m : Nat} (h : recOk n m = true) : n ≠ 0 ∧ m ≤ 64 := by
 refine ⟨fun h0 => by simp [recOk, h0] at h, by simp [recOk] at h; omega⟩
theorem jrefDecode_any (a : Option Addr) (n c : Nat) (b : List UInt8) (w : World) (h : Win w a n c (b.map byt)) :
   Calls Tryz.prog 101 #[.slice a n c] w fun o w' => ∃ v, o = .returned (.tuple #[.int .u64 (decRecOf b).e, .int .u64 (decRecOf b).n, v, .int .i64 (decRecE b)]) ∧ OIn w.heap.size w' v (decRecOf b).p ∧ Fr No w w' := by
 by_cases hn : n = 128
 · subst hn
   obtain ⟨ad, u, rfl, _⟩ := h.at (k := 0) (by decide)
   exact jrefDecode_128 ad c b w h
 · exact jrefDecode_short a n c b w h hn

end Go.Proofs.YtlmpjdionndncaaGreatDoor
namespace Go.Proofs.YtlmpjdionndncaaGreatDoor
open Go Go.RowKit
namespace Ev
noncomputable section
theorem hook_if {P : Program} {F : FuncId} {fn : Func} (ht : (P.funcs.toList.all fun fn => !(fn.name == "runtime.NumGoroutine")) = true) (hF : P.funcs[F]? = some fn) (hb : fn.body.isSome = true) {K : List AV → Tr AB → Nat → Option (AV × Tr AB × Nat)}
   (h : ∀ {args H n x H' n'}, K args H n = some (x, H', n') → ∀ {w0 ρ w vs}, HR w0 ρ H n w → VRs ρ args vs → Calls P F vs.toArray w (fun e w' => ∃ ρ' v, e = .returned v ∧ VR ρ' x v ∧ HR w0 ρ' H' n' w' ∧ Ext ρ ρ' H H' n n')) :
   HKok P (fun f args H n => cond (Nat.beq f F) (K args H n) none) := by
 intro f args H n x H' n' hk
 simp only at hk
 cases hf : Nat.beq f F with
 | false => rw [hf] at hk; cases hk
 | true =>
   rw [hf, cond_true] at hk
   have hf' : f = F := by simpa using hf
   subst hf'
   exact ⟨fun xs w => hook_call ht hF hb xs w, fun hr hvs => h hk hr hvs⟩
def jencK (args : List AV) (H : Tr AB) (n : Nat) : Option (AV × Tr AB × Nat) :=
 match args with
 | [x, y, p] => match natA .u64 18446744073709551616 x, natA .u64 18446744073709551616 y, winA p H with
   | some e, some k, some bs => cond (recOk k bs.length)
       (some (.tup [.su n 0 128 0 128, .v (.int .i64 0)], tput H n (.mem 5 (some 1) (.leaf (cellsB (recBytes e k bs)))), n + 1))
       (some (.tup [.v (.slice none 0 0), .v (.int .i64 80)], H, n))
   | _, _, _ => none
 | _ => none
def jencHook : Hook := fun f args H n => cond (Nat.beq f 148) (jencK args H n) none
theorem jencHook_ok : HKok Tryz.prog jencHook := by
 refine hook_if (K := jencK) tab Tryz.func148 (by kernel_rfl) ?_
 intro args H n x H' n' h w0 ρ w vs hr hvs
 unfold jencK at h
 split at h
 · rename_i ax ay ap
   split at h
   · rename_i e k bs he hk hp
     cases hvs with
     | cons e1 t1 =>
     cases t1 with
     | cons e2 t2 =>
     cases t2 with
     | cons e3 t3 =>
     cases t3
     obtain ⟨rfl, he'⟩ := natA_sound he e1
     obtain ⟨rfl, hk'⟩ := natA_sound hk e2
     obtain ⟨a, m, c, rfl, rfl, hw⟩ := winA_sound hr hp e3
     cases hc : recOk k bs.length with
     | true =>
       rw [hc, cond_true] at h
       simp only [Option.some.injEq, Prod.mk.injEq] at h
       obtain ⟨rfl, rfl, rfl⟩ := h
       obtain ⟨h1, h2⟩ := recOk_of hc
       refine (jencode_ok e k he' hk' h1 a c bs h2 w hw).mono ?_
       rintro o w' ⟨g, cg, rfl, hown, hg, hfr⟩
       obtain ⟨q1, q2, q3⟩ := hr.newOwn hfr hown hg (VRs.of_vals _)
       exact ⟨_, _, rfl, .tup (.cons q3 (.cons (.v _) .nil)), q1, q2⟩
     | false =>
       rw [hc, cond_false] at h
       simp only [Option.some.injEq, Prod.mk.injEq] at h
       obtain ⟨rfl, rfl, rfl⟩ := h
       refine (jencode_bad e k a bs.length c hc w).mono ?_
       rintro o w' ⟨rfl, hfr⟩
       exact ⟨ρ, _, rfl, .tup (.cons (.v _) (.cons (.v _) .nil)), hr.old hfr, Ext.refl _ _ _⟩
   · cases h
 · cases h
def jdecK (args : List AV) (H : Tr AB) (n : Nat) : Option (AV × Tr AB × Nat) :=
 match args with
 | [p] => match winA p H with
   | some bs => cond (Nat.ble bs.length 1000)
       (match (decRecOf bs).p with
         | [] => some (.tup [.v (.int .u64 (decRecOf bs).e), .v (.int .u64 (decRecOf bs).n), .s0, .v (.int .i64 (decRecE bs))], H, n)
         | b :: r => some (.tup [.v (.int .u64 (decRecOf bs).e), .v (.int .u64 (decRecOf bs).n), .su n 0 (b :: r).length 0 (b :: r).length, .v (.int .i64 (decRecE bs))], tput H n (.mem 5 (some 1) (.leaf (cellsB (b :: r)))), n + 1)) none
   | none => none
 | _ => none
def jdecHook : Hook := fun f args H n => cond (Nat.beq f 98) (jdecK args H n) none
theorem jdecHook_ok : HKok Tryz.prog jdecHook := by
 refine hook_if (K := jdecK) tab Tryz.func98 (by kernel_rfl) ?_
 intro args H n x H' n' h w0 ρ w vs hr hvs
 unfold jdecK at h
 split at h
 · rename_i ap
   split at h
   · rename_i bs hp
     cases hvs with
     | cons e1 t1 =>
     cases t1
     obtain ⟨a, m, c, rfl, rfl, hw⟩ := winA_sound hr hp e1
     cases hc : Nat.ble bs.length 1000 with
     | false => rw [hc] at h; cases h
     | true =>
       rw [hc, cond_true] at h
       refine (jdecode_any a bs.length c bs w hw (Nat.le_of_ble_eq_true hc)).mono ?_
       rintro o w' ⟨v, rfl, hin, hfr⟩
       have hown := hin.own
       have hnew := hin.new
       split at h
       · rename_i hr0
         simp only [Option.some.injEq, Prod.mk.injEq] at h
         obtain ⟨rfl, rfl, rfl⟩ := h
         rw [hr0] at hown
         have hv : ∃ a' c', v = .slice a' 0 c' := by
           rcases hown.cases with ⟨e, _⟩ | ⟨g, cg, e⟩
           · exact ⟨_, _, e⟩
           · exact ⟨_, _, e⟩
         obtain ⟨a', c', rfl⟩ := hv
         exact ⟨ρ, _, rfl, .tup (.cons (.v _) (.cons (.v _) (.cons (.s0 _ _) (.cons (.v _) .nil)))), hr.old hfr, Ext.refl _ _ _⟩
       · rename_i b r hr0
         simp only [Option.some.injEq, Prod.mk.injEq] at h
         obtain ⟨rfl, rfl, rfl⟩ := h
         rw [hr0] at hown
         rcases hown.cases with ⟨_, e, _⟩ | ⟨g, cg, rfl⟩
         · cases e
         · obtain ⟨q1, q2, q3⟩ := hr.newOwn hfr hown (hnew g rfl) (VRs.of_vals _)
           exact ⟨_, _, rfl, .tup (.cons (.v _) (.cons (.v _) (.cons q3 (.cons (.v _) .nil)))), q1, q2⟩
   · cases h
 · cases h
def crcK (args : List AV) (H : Tr AB) (n : Nat) : Option (AV × Tr AB × Nat) :=
 match args with
 | [p] => match winA p H with
   | some bs => cond (Nat.ble bs.length 1000000) (some (.v (.int .u32 (sumOf bs : Nat)), H, n)) none
   | none => none
 | _ => none
def crcHook : Hook := fun f args H n => cond (Nat.beq f 224) (crcK args H n) none
theorem crcHook_ok : HKok Tryz.prog crcHook := by
 refine hook_if (K := crcK) tab Tryz.func224 (by kernel_rfl) ?_
 intro args H n x H' n' h w0 ρ w vs hr hvs
 unfold crcK at h
 split at h
 · split at h
   · rename_i bs hp
     cases hvs with
     | cons e1 t1 =>
     cases t1
     obtain ⟨a, m, c, rfl, rfl, hw⟩ := winA_sound hr hp e1
     cases hc : Nat.ble bs.length 1000000 with
     | false => rw [hc] at h; cases h
     | true =>
       rw [hc, cond_true] at h
       simp only [Option.some.injEq, Prod.mk.injEq] at h
       obtain ⟨rfl, rfl, rfl⟩ := h
       refine (crcOf_any a bs.length c bs w hw (Nat.le_of_ble_eq_true hc)).mono ?_
       rintro o w' ⟨rfl, hfr⟩
       exact ⟨ρ, _, rfl, .v _, hr.old hfr, Ext.refl _ _ _⟩
   · cases h
 · cases h
end
end Ev
end Go.Proofs.YtlmpjdionndncaaGreatDoor
namespace Go.Proofs.YtlmpjdionndncaaGreatDoor.Ev
open Go Go.RowKit
noncomputable section
section
variable {P : Program} {FT : FuncId → Option Func} {HK : Hook} {w0 : Bs}
theorem calls_of_goes {f : FuncId} (hft : FTok P FT) {w : World} (h : ∀ base, ∃ s, isTrue (finalE P FT f s) = true ∧ Goes P ⟨w, No, fun _ => none⟩ base s (Frame.enter P f #[] .normal) [] w) : Calls P f #[] w (fun e w' => e = .returned (.bool true) ∧ Fr No w w') := by
 intro cs
 obtain ⟨s, hfin, fr', cs', w', h1, ρ, hr, hf, hlo, hst⟩ := h cs
 have hfin := isTrue_eq hfin
 unfold finalE at hfin
 split at hfin
 · rename_i g1 hcs hret hds hrg hfnE
   rw [hcs] at hst
   cases hst
   cases hq : Nat.beq s.fr.fn f with
   | false => simp [hq] at hfin
   | true =>
     simp only [hq, cond_true] at hfin
     have hq' : s.fr.fn = f := by simpa using hq
     cases hres : resA P s.fr.T s.H g1.results.toList with
     | none => simp [hres] at hfin
     | some l =>
       simp only [hres, Option.some.injEq] at hfin
       obtain ⟨front, rest, g2, g3, g4⟩ := hf.todo
       rw [hrg] at g4
       obtain ⟨v, hv, hrun⟩ := results_sound hr g4.2 hres
       rw [hfin] at hv
       cases hv
       have hdsr := hf.ds
       rw [hds] at hdsr
       generalize hdf : fr'.defers = dfs at hdsr
       cases hdsr
       refine ⟨.returned _, w', fr', ⟨rfl, hr.fr⟩, h1, hf.fn.trans hq', ?_, hdf, hf.kind, g1, ?_, hrun⟩
       · rw [hf.mode, hret]; rfl
       · rw [hf.fn]; exact hft.fn hfnE
 · cases hfin
theorem start_SR (hft : FTok P FT) {f : FuncId} {s0 : ASt} (h0 : startE FT f = some s0) (w : World) : SR P ⟨w, No, fun _ => none⟩ s0 (Frame.enter P f #[] .normal) [] w := by
 unfold startE at h0
 cases hfn : FT f with
 | none => simp [hfn] at h0
 | some fn =>
   cases hb : fn.body with
   | none => simp [hfn, hb] at h0
   | some body =>
     simp only [hfn, hb, Option.some.injEq] at h0
     have hP := hft.fn hfn
     subst h0
     refine ⟨fun _ => none, ⟨fun h => (by cases h), fun h => (by cases h), fun _ => ⟨rfl, rfl⟩, fun h => (by cases h), Fr.refl _ _, Env.le_refl _⟩, ⟨rfl, rfl, rfl, .nil, .inl ⟨rfl, rfl⟩, [], _, rfl, ?_, rfl, ?_⟩, Nat.le_refl _, .nil _⟩
     · simp only [hP, Option.bind_some, hb, Option.getD_some]
       exact .cons (.code _) .nil
     · have := argsT_TR (ρ := fun _ => none) VRs.nil fn.ntmps
       have hz : cond (Nat.ble fn.ntmps ([] : List AV).length) ([] : List AV).length fn.ntmps = fn.ntmps := by
         cases h : Nat.ble fn.ntmps ([] : List AV).length with
         | true => have := Nat.le_of_ble_eq_true h; simp at this ⊢; omega
         | false => rfl
       rw [hz] at this
       simpa [Frame.enter, hP, argsT] using this
theorem Goes.trans {base : List Frame} {s s' : ASt} {fr : Frame} {cs : List Frame} {w : World} (h : Goes P w0 base s fr cs w) (k : ∀ {fr' cs' w'}, SR P w0 s fr' cs' w' → Goes P w0 base s' fr' cs' w') : Goes P w0 base s' fr cs w := by
 obtain ⟨fr', cs', w', h1, h2⟩ := h
 obtain ⟨fr2, cs2, w2, h3, h4⟩ := k h2
 exact ⟨fr2, cs2, w2, Steps.trans h1 h3, h4⟩
end
end
noncomputable section
section
universe u
variable {β : Type u}
def fNat (n : Nat) (k : Nat → β) : β := match n with
 | 0 => k 0
 | m + 1 => k (Nat.succ m)
def fInt (z : Int) (k : Int → β) : β := match z with
 | .ofNat n => fNat n fun m => k (.ofNat m)
 | .negSucc n => fNat n fun m => k (.negSucc m)
def fV (x : Value) (k : Value → β) : β := match x with
 | .int a z => fInt z fun y => k (.int a y)
 | .bool b => (match b with | true => k (.bool true) | false => k (.bool false))
 | x => k x
theorem fNat_eq (n : Nat) (k : Nat → β) : fNat n k = k n := by cases n <;> rfl
theorem fInt_eq (z : Int) (k : Int → β) : fInt z k = k z := by
 cases z with
 | ofNat n => simp only [fInt, fNat_eq]
 | negSucc n => simp only [fInt, fNat_eq]
theorem fV_eq (x : Value) (k : Value → β) : fV x k = k x := by
 cases x with
 | int a z => simp only [fV, fInt_eq]
 | bool b => cases b <;> rfl
 | _ => rfl
mutual
def fA : AV → (AV → β) → β
 | .v x, k => fV x fun y => k (.v y)
 | .ptr i o, k => fNat i fun j => fNat o fun p => k (.ptr j p)
 | .sl i o n c, k => fNat i fun j => fNat o fun p => fNat n fun m => fNat c fun d => k (.sl j p m d)
 | .su i o n q r, k => fNat i fun j => fNat o fun p => fNat n fun m => fNat q fun q' => fNat r fun r' => k (.su j p m q' r')
 | .se, k => k .se
 | .s0, k => k .s0
 | .mp i, k => fNat i fun j => k (.mp j)
 | .agg l, k => fL l fun m => k (.agg m)
 | .tup l, k => fL l fun m => k (.tup m)
 | .fn f l m, k => fL l fun l' => fL m fun m' => k (.fn f l' m')
 | .yl i, k => fNat i fun j => k (.yl j)
 | .ifc t x, k => fA x fun y => k (.ifc t y)
def fL : List AV → (List AV → β) → β
 | [], k => k []
 | x :: l, k => fA x fun y => fL l fun m => k (y :: m)
end
mutual
theorem fA_eq : ∀ (x : AV) (k : AV → β), fA x k = k x
 | .v x, k => by simp only [fA, fV_eq]
 | .ptr i o, k => by simp only [fA, fNat_eq]
 | .sl i o n c, k => by simp only [fA, fNat_eq]
 | .su i o n q r, k => by simp only [fA, fNat_eq]
 | .se, _ => rfl
 | .s0, _ => rfl
 | .mp i, k => by simp only [fA, fNat_eq]
 | .agg l, k => by rw [fA, fL_eq]
 | .tup l, k => by rw [fA, fL_eq]
 | .fn f l m, k => by rw [fA, fL_eq, fL_eq]
 | .yl i, k => by simp only [fA, fNat_eq]
 | .ifc t x, k => by rw [fA, fA_eq]
theorem fL_eq : ∀ (l : List AV) (k : List AV → β), fL l k = k l
 | [], _ => rfl
 | x :: l, k => by rw [fL, fA_eq, fL_eq]
end
def fT : Tr AV → (Tr AV → β) → β
 | .e, k => k .e
 | .n l x r, k => fT l fun l' => match x with
   | none => fT r fun r' => k (.n l' none r')
   | some x => fA x fun y => fT r fun r' => k (.n l' (some y) r')
theorem fT_eq : ∀ (t : Tr AV) (k : Tr AV → β), fT t k = k t
 | .e, _ => rfl
 | .n l none r, k => by simp only [fT, fT_eq l, fT_eq r]
 | .n l (some x) r, k => by simp only [fT, fT_eq l, fT_eq r, fA_eq]
def fE : List (Value × AV × Nat) → (List (Value × AV × Nat) → β) → β
 | [], k => k []
 | (a, x, n) :: l, k => fV a fun a' => fA x fun y => fNat n fun m => fE l fun l' => k ((a', y, m) :: l')
theorem fE_eq : ∀ (l : List (Value × AV × Nat)) (k : List (Value × AV × Nat) → β), fE l k = k l
 | [], _ => rfl
 | (a, x, n) :: l, k => by simp only [fE, fV_eq, fA_eq, fNat_eq, fE_eq l]
def fR : Rp → (Rp → β) → β
 | .leaf l, k => fL l fun m => k (.leaf m)
 | .rep x n, k => fA x fun y => fNat n fun m => k (.rep y m)
 | .node n a b, k => fNat n fun m => fR a fun a' => fR b fun b' => k (.node m a' b')
theorem fR_eq : ∀ (r : Rp) (k : Rp → β), fR r k = k r
 | .leaf l, _ => by rw [fR, fL_eq]
 | .rep x n, _ => by rw [fR, fA_eq, fNat_eq]
 | .node n a b, _ => by simp only [fR, fNat_eq, fR_eq a, fR_eq b]
def fB : AB → (AB → β) → β
 | .mem T z l, k => fR l fun m => k (.mem T z m)
 | .loop st pd fn nt T ps asg bd d, k => fT T fun T' => fNat fn fun fn' => fNat nt fun nt' => fNat d fun d' => k (.loop st pd fn' nt' T' ps asg bd d')
 | .dfd b, k => k (.dfd b)
 | .map l c, k => fE l fun m => fNat c fun d => k (.map m d)
 | .sit s p, k => fNat p fun q => k (.sit s q)
 | .dead, k => k .dead
theorem fB_eq : ∀ (b : AB) (k : AB → β), fB b k = k b
 | .mem T z l, k => by rw [fB, fR_eq]
 | .loop st pd fn nt T ps asg bd d, k => by simp only [fB, fT_eq, fNat_eq]
 | .dfd b, _ => rfl
 | .map l c, k => by simp only [fB, fE_eq, fNat_eq]
 | .sit s p, k => by simp only [fB, fNat_eq]
 | .dead, _ => rfl
end
section
universe u
variable {β : Type u}
def fF (f : AFr) (k : AFr → β) : β := match f with
 | ⟨fn, nt, T, rg, todo, ds, ret, round, lo⟩ => fNat nt fun nt' => fT T fun T' => fNat lo fun lo' => k ⟨fn, nt', T', rg, todo, ds, ret, round, lo'⟩
theorem fF_eq (f : AFr) (k : AFr → β) : fF f k = k f := by
 obtain ⟨fn, nt, T, rg, todo, ds, ret, round, lo⟩ := f
 simp only [fF, fNat_eq, fT_eq]
def fFs : List AFr → (List AFr → β) → β
 | [], k => k []
 | f :: l, k => fF f fun f' => fFs l fun l' => k (f' :: l')
theorem fFs_eq : ∀ (l : List AFr) (k : List AFr → β), fFs l k = k l
 | [], _ => rfl
 | f :: l, k => by simp only [fFs, fF_eq, fFs_eq l]
end
/-! Words for a state's text. -/
def uN (k : IntKind) : Nat → Nat → List AV
 | 0, _ => []
 | c + 1, n => .v (.int k (.ofNat (n % 256))) :: uN k c (n / 256)
def zN (x : AV) : Nat → List AV
 | 0 => []
 | c + 1 => x :: zN x c
def iN (k : IntKind) : List Nat → List AV
 | [] => []
 | n :: l => .v (.int k (.ofNat n)) :: iN k l
def repL {α : Type} (l : List α) : Nat → List α
 | 0 => []
 | c + 1 => l ++ repL l c
def slP (d o n k : Nat) : Nat → Nat → List AV
 | 0, _ => []
 | c + 1, i => .sl i o n k :: slP d o n k c (Nat.add i d)
def ptP (d o : Nat) : Nat → Nat → List AV
 | 0, _ => []
 | c + 1, i => .ptr i o :: ptP d o c (Nat.add i d)
def deadL : Nat → List AB
 | 0 => []
 | n + 1 => .dead :: deadL n
def catL {α : Type} : List (List α) → List α
 | [] => []
 | l :: r => l ++ catL r
def kidsC : Code → List Code
 | .seq a b => [a, b]
 | .cond _ a b => [a, b]
 | .block _ b => [b]
 | .loop b => [b]
 | .rangeFunc _ _ a b => [a, b]
 | .scope b => [b]
 | _ => []
def subC (c : Code) : List Nat → Code
 | [] => c
 | i :: p => match (kidsC c)[i]? with
   | some d => subC d p
   | none => c
def opsC (c : Code) : Array Oper := match c with
 | .region _ ops _ => ops
 | _ => #[]
def plC (c : Code) (k : Nat) : ARg := .pl (opsC c) ((opsC c).toList.drop k)
def bodyC (P : Program) (f : FuncId) : Code := match tabOf P f with
 | some fn => (match fn.body with | some b => b | none => .skip)
 | none => .skip
section
variable {P : Program} {FT : FuncId → Option Func} {HK : Hook} {w0 : Bs}
def plainG : ARg → Bool
 | .dr .. => false
 | _ => true
theorem FRel.any {ρ : Env} {H H' : Tr AB} {hi : Nat} {live : Bool} {af : AFr} {fr : Frame} (h : FRel P ρ H hi live af fr) (hp : plainG af.rg = true) : FRel P ρ H' hi live af fr := by
 obtain ⟨front, rest, h1, h2, h3⟩ := h.todo
 refine ⟨h.fn, h.kind, h.mode, h.ds, h.ro, front, rest, h1, h2, ?_⟩
 cases hr : af.rg with
 | no => rw [hr] at h3; exact h3
 | pl ops l => rw [hr] at h3; exact h3
 | dr => rw [hr] at hp; cases hp
theorem StackR.any {ρ : Env} {H H' : Tr AB} {hi : Nat} {l : List AFr} {m : List Frame} (h : StackR P ρ H hi l m) (hp : (l.all fun f => plainG f.rg) = true) : StackR P ρ H' hi l m := by
 induction h with
 | nil => exact .nil _
 | cons h hlo t ih =>
   simp only [List.all_cons, Bool.and_eq_true] at hp
   exact .cons (FRel.any h hp.1) hlo (ih hp.2)
def Reach (P : Program) (s t : ASt) : Prop := ∀ {w0 : Bs} {base : List Frame} {fr : Frame} {cs : List Frame} {w : World}, SR P w0 s fr cs w → Goes P w0 base t fr cs w
theorem Reach.trans {s t u : ASt} (h : Reach P s t) (k : Reach P t u) : Reach P s u := fun q => Goes.trans (h q) fun q' => k q'
theorem calls_of_reach (hft : FTok P FT) (hk : HKok P HK) (hmix : P.follows .mixedOrders = true) {f : FuncId} {s0 t : ASt} {k : Nat} (h0 : startE FT f = some s0) (h : Reach P s0 t) (hf : isTrue (finalE P FT f (runE HK P FT k t)) = true) (w : World) :
   Calls P f #[] w (fun e w' => e = .returned (.bool true) ∧ Fr No w w') :=
 calls_of_goes hft fun _ => ⟨_, hf, Goes.trans (h (start_SR hft h0 w)) fun q => runE_sound hft hk hmix k q⟩
end
end
end Go.Proofs.YtlmpjdionndncaaGreatDoor.Ev
namespace Go.Proofs.YtlmpjdionndncaaGreatDoor
open Go Go.RowKit
noncomputable section
namespace Ev
end Ev
end
namespace Ev
noncomputable section
def wholeK (args : List AV) (H : Tr AB) (n : Nat) : Option (AV × Tr AB × Nat) :=
 match args with
 | [p] => match winA p H with
   | some bs => cond (Nat.ble bs.length 8) (some (.v (.int .u64 (wh bs : Nat)), H, n)) none
   | none => none
 | _ => none
def wholeHook : Hook := fun f args H n => cond (Nat.beq f 154) (wholeK args H n) none
theorem wholeHook_ok : HKok Tryz.prog wholeHook := by
 refine hook_if (K := wholeK) tab Tryz.func154 (by kernel_rfl) ?_
 intro args H n x H' n' h w0 ρ w vs hr hvs
 unfold wholeK at h
 split at h
 · split at h
   · rename_i bs hp
     cases hvs with
     | cons e1 t1 =>
     cases t1
     obtain ⟨a, m, c, rfl, rfl, hw⟩ := winA_sound hr hp e1
     cases hc : Nat.ble bs.length 8 with
     | false => rw [hc] at h; cases h
     | true =>
       rw [hc, cond_true] at h
       simp only [Option.some.injEq, Prod.mk.injEq] at h
       obtain ⟨rfl, rfl, rfl⟩ := h
       refine (refWhole_any a bs.length c bs (Nat.le_of_ble_eq_true hc) w hw).mono ?_
       rintro o w' ⟨rfl, rfl⟩
       exact ⟨ρ, _, rfl, .v _, hr, Ext.refl _ _ _⟩
   · cases h
 · cases h
def moreK (args : List AV) (H : Tr AB) (n : Nat) : Option (AV × Tr AB × Nat) :=
 match args with
 | [.v (.int .u32 0), p] => match winA p H with
   | some bs => cond (Nat.ble bs.length 1000000) (some (.v (.int .u32 (sumOf bs : Nat)), H, n)) none
   | none => none
 | _ => none
def moreHook : Hook := fun f args H n => cond (Nat.beq f 274) (moreK args H n) none
theorem moreHook_ok : HKok Tryz.prog moreHook := by
 refine hook_if (K := moreK) tab Tryz.func274 (by kernel_rfl) ?_
 intro args H n x H' n' h w0 ρ w vs hr hvs
 unfold moreK at h
 split at h
 · split at h
   · rename_i bs hp
     cases hvs with
     | cons e0 t0 =>
     cases t0 with
     | cons e1 t1 =>
     cases t1
     cases e0
     obtain ⟨a, m, c, rfl, rfl, hw⟩ := winA_sound hr hp e1
     cases hc : Nat.ble bs.length 1000000 with
     | false => rw [hc] at h; cases h
     | true =>
       rw [hc, cond_true] at h
       simp only [Option.some.injEq, Prod.mk.injEq] at h
       obtain ⟨rfl, rfl, rfl⟩ := h
       refine (refMore_any a bs.length c bs w hw (Nat.le_of_ble_eq_true hc)).mono ?_
       rintro o w' ⟨rfl, rfl⟩
       exact ⟨ρ, _, rfl, .v _, hr, Ext.refl _ _ _⟩
   · cases h
 · cases h
def rjdecK (args : List AV) (H : Tr AB) (n : Nat) : Option (AV × Tr AB × Nat) :=
 match args with
 | [p] => match winA p H with
   | some bs => cond (Nat.ble bs.length 1000)
       (match (decRecOf bs).p with
         | [] => some (.tup [.v (.int .u64 (decRecOf bs).e), .v (.int .u64 (decRecOf bs).n), .s0, .v (.int .i64 (decRecE bs))], H, n)
         | b :: r => some (.tup [.v (.int .u64 (decRecOf bs).e), .v (.int .u64 (decRecOf bs).n), .su n 0 (b :: r).length 0 (b :: r).length, .v (.int .i64 (decRecE bs))], tput H n (.mem 5 (some 1) (.leaf (cellsB (b :: r)))), n + 1)) none
   | none => none
 | _ => none
def rjdecHook : Hook := fun f args H n => cond (Nat.beq f 101) (rjdecK args H n) none
theorem rjdecHook_ok : HKok Tryz.prog rjdecHook := by
 refine hook_if (K := rjdecK) tab Tryz.func101 (by kernel_rfl) ?_
 intro args H n x H' n' h w0 ρ w vs hr hvs
 unfold rjdecK at h
 split at h
 · rename_i ap
   split at h
   · rename_i bs hp
     cases hvs with
     | cons e1 t1 =>
     cases t1
     obtain ⟨a, m, c, rfl, rfl, hw⟩ := winA_sound hr hp e1
     cases hc : Nat.ble bs.length 1000 with
     | false => rw [hc] at h; cases h
     | true =>
       rw [hc, cond_true] at h
       refine (jrefDecode_any a bs.length c bs w hw).mono ?_
       rintro o w' ⟨v, rfl, hin, hfr⟩
       have hown := hin.own
       have hnew := hin.new
       split at h
       · rename_i hr0
         simp only [Option.some.injEq, Prod.mk.injEq] at h
         obtain ⟨rfl, rfl, rfl⟩ := h
         rw [hr0] at hown
         have hv : ∃ a' c', v = .slice a' 0 c' := by
           rcases hown.cases with ⟨e, _⟩ | ⟨g, cg, e⟩
           · exact ⟨_, _, e⟩
           · exact ⟨_, _, e⟩
         obtain ⟨a', c', rfl⟩ := hv
         exact ⟨ρ, _, rfl, .tup (.cons (.v _) (.cons (.v _) (.cons (.s0 _ _) (.cons (.v _) .nil)))), hr.old hfr, Ext.refl _ _ _⟩
       · rename_i b r hr0
         simp only [Option.some.injEq, Prod.mk.injEq] at h
         obtain ⟨rfl, rfl, rfl⟩ := h
         rw [hr0] at hown
         rcases hown.cases with ⟨_, e, _⟩ | ⟨g, cg, rfl⟩
         · cases e
         · obtain ⟨q1, q2, q3⟩ := hr.newOwn hfr hown (hnew g rfl) (VRs.of_vals _)
           exact ⟨_, _, rfl, .tup (.cons (.v _) (.cons (.v _) (.cons q3 (.cons (.v _) .nil)))), q1, q2⟩
   · cases h
 · cases h
def runsHook : Hook := hkOr waitsHook (hkOr jdecHook (hkOr jencHook (hkOr wholeHook (hkOr moreHook (hkOr rjdecHook crcHook)))))
theorem runsHook_ok : HKok Tryz.prog runsHook := hkOr_ok waitsHook_ok (hkOr_ok jdecHook_ok (hkOr_ok jencHook_ok (hkOr_ok wholeHook_ok (hkOr_ok moreHook_ok (hkOr_ok rjdecHook_ok crcHook_ok)))))
end
end Ev
end Go.Proofs.YtlmpjdionndncaaGreatDoor
namespace Go.Proofs.YtlmpjdionndncaaGreatDoor.Ev
open Go Go.RowKit
noncomputable section
structure Fa (α β : Type) where
 f : α → β
def aevC : Operand → Fa (Tr AV) AV
 | .tmp t => ⟨fun T => Tr.getPD (.v undef) (Pa.of (t + 1) t) T⟩
 | .const x => ⟨fun _ => ofV x⟩
 | .global g => ⟨fun _ => .v (.pointer (some ⟨g, 0, none⟩))⟩
 | .func f => ⟨fun _ => .fn (.func f) [] []⟩
theorem aevC_eq (x : Operand) (T : Tr AV) : (aevC x).f T = aev T x := by
 cases x
 case tmp t =>
   show Tr.getPD (.v undef) (Pa.of (t + 1) t) T = At T t
   rw [Tr.getPD_eq, Tr.getP_of _ _ _ (Nat.lt_succ_self t)]
   unfold At
   cases T.get t <;> rfl
 all_goals rfl
def pickB (c a b : AV) : Option AV := match c with | .v (.bool t) => some (cond t a b) | _ => none
def extB (x : AV) (i : Nat) : Option AV := match x with | .tup l => l[i]? | _ => none
def nilB (x : AV) : Option AV := match x with | .ptr i o => some (.ptr i o) | .fn (.func g) l m => some (.fn (.func g) l m) | .ifc t y => some (.ifc t y) | _ => none
end
noncomputable section
theorem runE_plus (HK : Hook) (P : Program) (FT : FuncId → Option Func) : ∀ (a b : Nat) (s : ASt), runE HK P FT b (runE HK P FT a s) = runE HK P FT (a + b) s
 | 0, b, s => by rw [Nat.zero_add]; rfl
 | a + 1, b, s => by
   rw [Nat.add_right_comm]
   cases h : stepE HK P FT s with
   | none =>
     have h0 : ∀ k, runE HK P FT k s = s := fun k => by cases k with | zero => rfl | succ k => simp only [runE, h]
     rw [h0, h0, h0]
   | some s' =>
     simp only [runE, h]
     exact runE_plus HK P FT a b s'
def Runs (HK : Hook) (P : Program) (FT : FuncId → Option Func) (s t : ASt) : Prop := ∃ j, runE HK P FT j s = t
theorem Runs.refl {HK : Hook} {P : Program} {FT : FuncId → Option Func} (s : ASt) : Runs HK P FT s s := ⟨0, rfl⟩
theorem Runs.trans {HK : Hook} {P : Program} {FT : FuncId → Option Func} {s t u : ASt} (h : Runs HK P FT s t) (h' : Runs HK P FT t u) : Runs HK P FT s u := by
 obtain ⟨a, rfl⟩ := h
 obtain ⟨b, rfl⟩ := h'
 exact ⟨a + b, (runE_plus HK P FT a b s).symm⟩
theorem Runs.one {HK : Hook} {P : Program} {FT : FuncId → Option Func} {s t : ASt} (h : stepE HK P FT s = some t) : Runs HK P FT s t := ⟨1, by simp only [runE, h]⟩
def putC (nt : Nat) (d : Option Tmp) : Fa (Tr AV) (AV → Tr AV) :=
 match d with
 | some d => cond (Nat.blt d nt) ⟨fun T x => Tr.putP (Pa.of (d + 1) d) T x⟩ ⟨fun T _ => T⟩
 | none => ⟨fun T _ => T⟩
theorem putC_eq (nt : Nat) (d : Option Tmp) (T : Tr AV) (x : AV) : (putC nt d).f T x = putT nt T d x := by
 unfold putC putT
 cases d with
 | none => rfl
 | some d =>
   cases h : Nat.blt d nt with
   | false => simp only [h]; rfl
   | true =>
     simp only [h]
     show Tr.putP (Pa.of (d + 1) d) T x = tput T d x
     rw [Tr.putP_get _ _ _ _ (Nat.lt_succ_self d)]; rfl
structure Fop where
 f : Tr AV → Tr AB → Nat → (AV → Tr AB → Nat → ASt) → ASt → ASt
def popK (x : Option AV) (H : Tr AB) (n : Nat) (k : AV → Tr AB → Nat → ASt) (z : ASt) : ASt := match x with
 | some x => k x H n
 | none => z
def stoK (H' : Option (Tr AB)) (n : Nat) (k : AV → Tr AB → Nat → ASt) (z : ASt) : ASt := match H' with
 | some H' => k (.v undef) H' n
 | none => z
def newK (r : Option (TypeId × Rp × NewV)) (H : Tr AB) (n : Nat) (k : AV → Tr AB → Nat → ASt) (z : ASt) : ASt := match r with
 | some (e, l, q) => fNat (Nat.succ n) fun n' => k (q.av n) (Tr.put H n (.mem e none l)) n'
 | none => z
def turK (r : Option (AV × Tr AB × Nat)) (k : AV → Tr AB → Nat → ASt) (z : ASt) : ASt := match r with
 | some (x, H, n) => fNat n fun n' => k x H n'
 | none => z
def plOpK (P : Program) (o : Oper) : Fop :=
 match o.guard with
 | some _ => ⟨fun _ _ _ _ z => z⟩
 | none => match o.op with
   | .load t a => ⟨fun T H n k z => popK (loadA P t ((aevC a).f T) H) H n k z⟩
   | .store t a x => ⟨fun T H n k z => stoK (storeA P t ((aevC a).f T) ((aevC x).f T) H) n k z⟩
   | .alloc _ => ⟨fun T H n k z => newK (aopN P T o) H n k z⟩
   | .box t x => ⟨fun T H n k _ => fNat (Nat.succ n) fun n' => k (.ptr n 0) (Tr.put H n (.mem t none (.leaf ((aevC x).f T).cells))) n'⟩
   | .buildSlice .. => ⟨fun T H n k z => newK (aopN P T o) H n k z⟩
   | .makeSlice .. => ⟨fun T H n k z => newK (aopN P T o) H n k z⟩
   | .move x => ⟨fun T H n k _ => k ((aevC x).f T) H n⟩
   | .assign x => ⟨fun T H n k _ => k ((aevC x).f T) H n⟩
   | .pick c a b => ⟨fun T H n k z => popK (pickB ((aevC c).f T) ((aevC a).f T) ((aevC b).f T)) H n k z⟩
   | .extract x i => ⟨fun T H n k z => popK (extB ((aevC x).f T) i) H n k z⟩
   | .field t x f => ⟨fun T H n k z => popK (fieldA P t ((aevC x).f T) f) H n k z⟩
   | .index t x i => ⟨fun T H n k z => popK (indexA P t ((aevC x).f T) ((aevC i).f T)) H n k z⟩
   | .nilCheck x => ⟨fun T H n k z => popK (nilB ((aevC x).f T)) H n k z⟩
   | .binOp op t x y _ => ⟨fun T H n k z => popK (binA P op t x y ((aevC x).f T) ((aevC y).f T)) H n k z⟩
   | .unOp op _ x => ⟨fun T H n k z => popK (unA P op ((aevC x).f T)) H n k z⟩
   | .convert s d x => ⟨fun T H n k z => popK (convA P s d ((aevC x).f T)) H n k z⟩
   | .fieldAddr s x f => ⟨fun T H n k z => popK (fieldAddrA P s ((aevC x).f T) f) H n k z⟩
   | .indexAddr t x i => ⟨fun T H n k z => popK (indexAddrA P t ((aevC x).f T) ((aevC i).f T)) H n k z⟩
   | .makeInterface .. => ⟨fun T H n k z => popK (aopP P T o) H n k z⟩
   | .makeFunc .. => ⟨fun T H n k z => popK (aopP P T o) H n k z⟩
   | .slice .. => ⟨fun T H n k z => popK (aopP P T o) H n k z⟩
   | .build .. => ⟨fun T H n k z => popK (aopP P T o) H n k z⟩
   | .call c => match c.callee with
     | .builtin b => match b with
       | .append => ⟨fun T H n k z => turK (cond (Option.isNone (aopP P T o)) (cond (Option.isNone (aopN P T o)) (aopW P T o H n) none) none) k z⟩
       | .copy => ⟨fun T H n k z => turK (cond (Option.isNone (aopP P T o)) (cond (Option.isNone (aopN P T o)) (aopW P T o H n) none) none) k z⟩
       | _ => ⟨fun T H n k z => popK (aopP P T o) H n k z⟩
     | _ => ⟨fun _ _ _ _ z => z⟩
   | _ => ⟨fun _ _ _ _ z => z⟩
def doneS (s : ASt) (ops : Array Oper) (r : List Oper) (d : Option Tmp) (x : AV) (H : Tr AB) (n : Nat) : ASt := { s with fr := { s.fr with T := putT s.fr.nt s.fr.T d x, rg := .pl ops r }, H := H, n := n }
def OpSpec (HK : Hook) (P : Program) (FT : FuncId → Option Func) (o : Oper) (g : Tr AV → Tr AB → Nat → (AV → Tr AB → Nat → ASt) → ASt → ASt) : Prop :=
 ∀ T H n, (∀ k z, g T H n k z = z) ∨ ∃ x H' n', (∀ k z, g T H n k z = k x H' n') ∧ ∀ (s : ASt) ops r, s.fr.T = T → s.H = H → s.n = n → stepPl HK P FT s ops o r = some (doneS s ops r o.dst x H' n')
theorem OpSpec.never {HK : Hook} {P : Program} {FT : FuncId → Option Func} {o : Oper} : OpSpec HK P FT o (fun _ _ _ _ z => z) := fun _ _ _ => .inl fun _ _ => rfl
theorem stepPl_pure {HK : Hook} {P : Program} {FT : FuncId → Option Func} {o : Oper} (hg : o.guard = none) (hp : plainOp o = true) {T : Tr AV} {x : AV} (h : aopP P T o = some x) (s : ASt) (ops : Array Oper) (r : List Oper) (hT : s.fr.T = T) :
   stepPl HK P FT s ops o r = some (doneS s ops r o.dst x s.H s.n) := by
 subst hT
 simp only [stepPl, hp, cond_true, wantedA, hg, h, doneS]
theorem OpSpec.pure {HK : Hook} {P : Program} {FT : FuncId → Option Func} {o : Oper} (hg : o.guard = none) (hp : plainOp o = true) {a : Tr AV → Option AV} (h : ∀ T, a T = aopP P T o) :
   OpSpec HK P FT o (fun T H n k z => popK (a T) H n k z) := by
 intro T H n
 cases hx : a T with
 | none => exact .inl fun k z => by simp only [popK, hx]
 | some x =>
   refine .inr ⟨x, H, n, fun k z => by simp only [popK, hx], fun s ops r hT hH hn => ?_⟩
   subst hH hn
   exact stepPl_pure hg hp (by rw [← h, hx]) s ops r hT
theorem stepPl_new {HK : Hook} {P : Program} {FT : FuncId → Option Func} {o : Oper} (hg : o.guard = none) (hp : plainOp o = true) (hl : ∀ t a, o.op ≠ .load t a) {T : Tr AV} (h0 : aopP P T o = none) {e : TypeId} {l : Rp} {q : NewV} (h : aopN P T o = some (e, l, q)) (s : ASt) (ops : Array Oper) (r : List Oper) (hT : s.fr.T = T) :
   stepPl HK P FT s ops o r = some (doneS s ops r o.dst (q.av s.n) (tput s.H s.n (.mem e none l)) (s.n + 1)) := by
 subst hT
 obtain ⟨dst, op, type, pos, after, guard⟩ := o
 simp only at hg
 subst hg
 cases op
 case load t a => exact absurd rfl (hl t a)
 all_goals simp only [stepPl, hp, cond_true, wantedA, h0, h, doneS]
theorem OpSpec.new {HK : Hook} {P : Program} {FT : FuncId → Option Func} {o : Oper} (hg : o.guard = none) (hp : plainOp o = true) (hl : ∀ t a, o.op ≠ .load t a) (h0 : ∀ T, aopP P T o = none) :
   OpSpec HK P FT o (fun T H n k z => newK (aopN P T o) H n k z) := by
 intro T H n
 cases hx : aopN P T o with
 | none => exact .inl fun k z => by simp only [newK, hx]
 | some q =>
   obtain ⟨e, l, q⟩ := q
   refine .inr ⟨q.av n, tput H n (.mem e none l), n + 1, fun k z => by simp only [newK, hx, fNat_eq]; rfl, fun s ops r hT hH hn => ?_⟩
   subst hH hn
   exact stepPl_new hg hp hl (h0 T) hx s ops r hT
theorem stepPl_turn {HK : Hook} {P : Program} {FT : FuncId → Option Func} {o : Oper} (hg : o.guard = none) (hp : plainOp o = true) (hl : ∀ t a, o.op ≠ .load t a) {T : Tr AV} (h0 : aopP P T o = none) (h1 : aopN P T o = none) {s : ASt} {x : AV} {H' : Tr AB} {n' : Nat} (h : aopW P T o s.H s.n = some (x, H', n')) (ops : Array Oper) (r : List Oper) (hT : s.fr.T = T) :
   stepPl HK P FT s ops o r = some (doneS s ops r o.dst x H' n') := by
 subst hT
 obtain ⟨dst, op, type, pos, after, guard⟩ := o
 simp only at hg
 subst hg
 cases op
 case load t a => exact absurd rfl (hl t a)
 all_goals simp only [stepPl, hp, cond_true, wantedA, h0, h1, nowA, h, doneS]
theorem OpSpec.turn {HK : Hook} {P : Program} {FT : FuncId → Option Func} {o : Oper} (hg : o.guard = none) (hp : plainOp o = true) (hl : ∀ t a, o.op ≠ .load t a) :
   OpSpec HK P FT o (fun T H n k z => turK (cond (Option.isNone (aopP P T o)) (cond (Option.isNone (aopN P T o)) (aopW P T o H n) none) none) k z) := by
 intro T H n
 cases h0 : aopP P T o with
 | some x => exact .inl fun k z => by simp only [h0, Option.isNone, cond_false, turK]
 | none =>
 cases h1 : aopN P T o with
 | some x => exact .inl fun k z => by simp only [h0, h1, Option.isNone, cond_false, cond_true, turK]
 | none =>
 cases hx : aopW P T o H n with
 | none => exact .inl fun k z => by simp only [h0, h1, hx, Option.isNone, cond_true, turK]
 | some q =>
   obtain ⟨x, H', n'⟩ := q
   refine .inr ⟨x, H', n', fun k z => by simp only [h0, h1, hx, turK, Option.isNone, cond_true, fNat_eq], fun s ops r hT hH hn => ?_⟩
   subst hH hn
   exact stepPl_turn hg hp hl h0 h1 hx ops r hT
set_option maxHeartbeats 1000000 in
theorem plOpK_spec (HK : Hook) (P : Program) (FT : FuncId → Option Func) (o : Oper) : OpSpec HK P FT o (plOpK P o).f := by
 obtain ⟨dst, op, type, pos, after, guard⟩ := o
 unfold plOpK
 cases guard with
 | some g => exact .never
 | none =>
   cases op
   case load t a =>
     intro T H n
     simp only [aevC_eq]
     cases hx : loadA P t (aev T a) H with
     | none => exact .inl fun k z => by simp only [popK]
     | some x =>
       refine .inr ⟨x, H, n, fun k z => by simp only [popK], fun s ops r hT hH hn => ?_⟩
       subst hT hH hn
       simp only [stepPl, plainOp, wantedA, aopP, cond_true, hx, doneS]
   case store t a v =>
     intro T H n
     simp only [aevC_eq]
     cases hx : storeA P t (aev T a) (aev T v) H with
     | none => exact .inl fun k z => by simp only [stoK]
     | some H' =>
       refine .inr ⟨.v undef, H', n, fun k z => by simp only [stoK], fun s ops r hT hH hn => ?_⟩
       subst hT hH hn
       simp [stepPl, plainOp, wantedA, aopP, aopN, nowA, aopW, aopW0, hx, doneS]
   case alloc t => exact .new rfl rfl (by simp) (fun T => rfl)
   case box t x =>
     intro T H n
     simp only [aevC_eq]
     refine .inr ⟨.ptr n 0, tput H n (.mem t none (.leaf (aev T x).cells)), n + 1, fun k z => by simp only [fNat_eq]; rfl, fun s ops r hT hH hn => ?_⟩
     subst hH hn
     exact stepPl_new (q := .ptr) rfl rfl (by simp) rfl rfl s ops r hT
   case buildSlice => exact .new rfl rfl (by simp) (fun T => rfl)
   case makeSlice => exact .new rfl rfl (by simp) (fun T => rfl)
   case move x =>
     intro T H n
     simp only [aevC_eq]
     refine .inr ⟨aev T x, H, n, fun k z => rfl, fun s ops r hT hH hn => ?_⟩
     subst hH hn
     exact stepPl_pure rfl rfl rfl s ops r hT
   case assign x =>
     intro T H n
     simp only [aevC_eq]
     refine .inr ⟨aev T x, H, n, fun k z => rfl, fun s ops r hT hH hn => ?_⟩
     subst hH hn
     exact stepPl_pure rfl rfl rfl s ops r hT
   case call c =>
     obtain ⟨callee, args, ats⟩ := c
     cases callee with
     | value f => exact .never
     | invoke r n => exact .never
     | builtin b =>
       cases b
       case append => exact .turn rfl rfl (by simp)
       case copy => exact .turn rfl rfl (by simp)
       all_goals exact .pure rfl rfl (fun T => rfl)
   case pick c a b =>
     refine OpSpec.pure rfl rfl (fun T => ?_)
     simp only [aevC_eq, aopP, pickB]
     generalize aev T c = u
     cases u <;> rfl
   case extract x i =>
     refine OpSpec.pure rfl rfl (fun T => ?_)
     simp only [aevC_eq, aopP, extB]
     generalize aev T x = u
     cases u <;> rfl
   case nilCheck x =>
     refine OpSpec.pure rfl rfl (fun T => ?_)
     simp only [aevC_eq, aopP, nilB]
     generalize aev T x = u
     cases u <;> rfl
   case defer => exact .never
   case select => exact .never
   case go => exact .never
   all_goals first
     | exact .never
     | exact .pure rfl rfl (fun T => rfl)
     | (refine OpSpec.pure rfl rfl (fun T => ?_); simp only [aevC_eq, aopP])
structure Frun where
 f : Tr AV → Tr AB → Nat → (List Oper → Tr AV → Tr AB → Nat → ASt) → ASt
def plRunK (P : Program) (nt : Nat) (l : List Oper) : Frun :=
 match l with
 | [] => ⟨fun T H n k => k [] T H n⟩
 | o :: r => ⟨fun T H n k => (plOpK P o).f T H n (fun x H' n' => (plRunK P nt r).f ((putC nt o.dst).f T x) H' n' k) (k (o :: r) T H n)⟩
def inPl (s : ASt) (ops : Array Oper) (l : List Oper) (T : Tr AV) (H : Tr AB) (n : Nat) : ASt := { s with fr := { s.fr with T := T, rg := .pl ops l }, H := H, n := n }
theorem plRunK_spec {HK : Hook} {P : Program} {FT : FuncId → Option Func} (s : ASt) (hret : s.fr.ret = false) (ops : Array Oper) : ∀ (l : List Oper) (T : Tr AV) (H : Tr AB) (n : Nat),
   ∃ l' T' H' n', (∀ k, (plRunK P s.fr.nt l).f T H n k = k l' T' H' n') ∧ Runs HK P FT (inPl s ops l T H n) (inPl s ops l' T' H' n')
 | [], T, H, n => ⟨[], T, H, n, fun k => rfl, .refl _⟩
 | o :: r, T, H, n => by
   rcases plOpK_spec HK P FT o T H n with h | ⟨x, H', n', h1, h2⟩
   · refine ⟨o :: r, T, H, n, fun k => ?_, .refl _⟩
     show (plOpK P o).f T H n _ _ = _
     rw [h]
   · obtain ⟨l', T', H'', n'', g1, g2⟩ := plRunK_spec (HK := HK) (P := P) (FT := FT) s hret ops r (putT s.fr.nt T o.dst x) H' n'
     refine ⟨l', T', H'', n'', fun k => ?_, ?_⟩
     · show (plOpK P o).f T H n _ _ = _
       rw [h1, putC_eq, g1]
     · refine Runs.trans (Runs.one ?_) g2
       have := h2 (inPl s ops (o :: r) T H n) ops r rfl rfl rfl
       have e : stepE HK P FT (inPl s ops (o :: r) T H n) = stepPl HK P FT (inPl s ops (o :: r) T H n) ops o r := by simp only [stepE, inPl, hret, cond_false]
       rw [e, this]
       rfl
structure Fcode where
 f : Tr AV → List AItem → (Array Oper → List AItem → ASt) → (List AItem → ASt) → (List AItem → ASt) → ASt
def condK (x : AV) (a b : Fcode) (T : Tr AV) (l : List AItem) (kr : Array Oper → List AItem → ASt) (kc ks : List AItem → ASt) (z : ASt) : ASt :=
 match x with
 | .v (.bool t) => (match t with | true => a.f T l kr kc ks | false => b.f T l kr kc ks)
 | _ => z
def exitK (o : Option (List AItem)) (kc : List AItem → ASt) (z : ASt) : ASt := match o with
 | some l => kc l
 | none => z
def codeK : Code → Fcode
 | .seq a b => ⟨fun T l kr kc ks => (codeK a).f T (.code b :: l) kr kc ks⟩
 | .cond x a b => ⟨fun T l kr kc ks => condK ((aevC x).f T) (codeK a) (codeK b) T l kr kc ks (ks (.code (.cond x a b) :: l))⟩
 | .block id b => ⟨fun T l kr kc ks => (codeK b).f T (.inBlock id :: l) kr kc ks⟩
 | .loop b => ⟨fun T l kr kc ks => (codeK b).f T (.inLoop b :: l) kr kc ks⟩
 | .scope b => ⟨fun T l kr kc ks => (codeK b).f T (.inScope b :: l) kr kc ks⟩
 | .skip => ⟨fun _ l _ kc _ => kc l⟩
 | .label _ => ⟨fun _ l _ kc _ => kc l⟩
 | .exit id => ⟨fun _ l _ kc ks => exitK (aexit id l) kc (ks (.code (.exit id) :: l))⟩
 | .region p ops d => (match d with | false => ⟨fun _ l kr _ _ => kr ops l⟩ | true => ⟨fun _ l _ _ ks => ks (.code (.region p ops true) :: l)⟩)
 | c => ⟨fun _ l _ _ ks => ks (.code c :: l)⟩
def inTodo (s : ASt) (l : List AItem) (T : Tr AV) (H : Tr AB) (n : Nat) : ASt := { s with fr := { s.fr with T := T, rg := .no, todo := l }, H := H, n := n }
theorem todo_runs {HK : Hook} {P : Program} {FT : FuncId → Option Func} {s : ASt} (hret : s.fr.ret = false) {l l' : List AItem} {T : Tr AV} {H : Tr AB} {n : Nat} (h : stepItem P FT (inTodo s l T H n) = some (inTodo s l' T H n)) : Runs HK P FT (inTodo s l T H n) (inTodo s l' T H n) :=
 Runs.one (by
   have : stepE HK P FT (inTodo s l T H n) = stepItem P FT (inTodo s l T H n) := by
     have e1 : (inTodo s l T H n).fr.ret = false := hret
     have e2 : (inTodo s l T H n).fr.rg = .no := rfl
     simp only [stepE, e1, e2, cond_false]
   rw [this, h])
def CodeSpec (HK : Hook) (P : Program) (FT : FuncId → Option Func) (s : ASt) (T : Tr AV) (H : Tr AB) (n : Nat) (l0 : List AItem) (g : (Array Oper → List AItem → ASt) → (List AItem → ASt) → (List AItem → ASt) → ASt) : Prop :=
 (∃ ops l, (∀ kr kc ks, g kr kc ks = kr ops l) ∧ Runs HK P FT (inTodo s l0 T H n) (inPl (inTodo s l T H n) ops ops.toList T H n)) ∨
 (∃ l, (∀ kr kc ks, g kr kc ks = kc l) ∧ Runs HK P FT (inTodo s l0 T H n) (inTodo s l T H n)) ∨
 (∃ l, (∀ kr kc ks, g kr kc ks = ks l) ∧ Runs HK P FT (inTodo s l0 T H n) (inTodo s l T H n))
theorem CodeSpec.after {HK : Hook} {P : Program} {FT : FuncId → Option Func} {s : ASt} {T : Tr AV} {H : Tr AB} {n : Nat} {l0 l1 : List AItem} {g g' : (Array Oper → List AItem → ASt) → (List AItem → ASt) → (List AItem → ASt) → ASt} (h : CodeSpec HK P FT s T H n l1 g) (hr : Runs HK P FT (inTodo s l0 T H n) (inTodo s l1 T H n)) (hg : ∀ kr kc ks, g' kr kc ks = g kr kc ks) : CodeSpec HK P FT s T H n l0 g' := by
 rcases h with ⟨ops, l, h1, h2⟩ | ⟨l, h1, h2⟩ | ⟨l, h1, h2⟩
 · exact .inl ⟨ops, l, fun kr kc ks => (hg kr kc ks).trans (h1 kr kc ks), hr.trans h2⟩
 · exact .inr (.inl ⟨l, fun kr kc ks => (hg kr kc ks).trans (h1 kr kc ks), hr.trans h2⟩)
 · exact .inr (.inr ⟨l, fun kr kc ks => (hg kr kc ks).trans (h1 kr kc ks), hr.trans h2⟩)
theorem CodeSpec.stop {HK : Hook} {P : Program} {FT : FuncId → Option Func} {s : ASt} {T : Tr AV} {H : Tr AB} {n : Nat} {l0 : List AItem} {g : (Array Oper → List AItem → ASt) → (List AItem → ASt) → (List AItem → ASt) → ASt} (h : ∀ kr kc ks, g kr kc ks = ks l0) : CodeSpec HK P FT s T H n l0 g :=
 .inr (.inr ⟨l0, h, .refl _⟩)
theorem codeK_spec {HK : Hook} {P : Program} {FT : FuncId → Option Func} {s : ASt} (hret : s.fr.ret = false) (T : Tr AV) (H : Tr AB) (n : Nat) : ∀ (c : Code) (l : List AItem), CodeSpec HK P FT s T H n (.code c :: l) ((codeK c).f T l)
 | .seq a b, l => (codeK_spec hret T H n a (.code b :: l)).after (todo_runs hret rfl) (fun _ _ _ => by simp only [codeK])
 | .block id b, l => (codeK_spec hret T H n b (.inBlock id :: l)).after (todo_runs hret rfl) (fun _ _ _ => by simp only [codeK])
 | .loop b, l => (codeK_spec hret T H n b (.inLoop b :: l)).after (todo_runs hret rfl) (fun _ _ _ => by simp only [codeK])
 | .scope b, l => (codeK_spec hret T H n b (.inScope b :: l)).after (todo_runs hret rfl) (fun _ _ _ => by simp only [codeK])
 | .cond x a b, l => by
   have h0 : ∀ kr kc ks, (codeK (.cond x a b)).f T l kr kc ks = condK (aev T x) (codeK a) (codeK b) T l kr kc ks (ks (.code (.cond x a b) :: l)) := fun kr kc ks => by simp only [codeK, aevC_eq]
   cases hx : aev T x
   case v u =>
     cases u
     case bool t =>
       rw [hx] at h0
       cases t with
       | true => exact (codeK_spec hret T H n a l).after (todo_runs hret (by simp only [stepItem, inTodo, stepCode, hx, cond_true])) h0
       | false => exact (codeK_spec hret T H n b l).after (todo_runs hret (by simp only [stepItem, inTodo, stepCode, hx, cond_false])) h0
     all_goals exact .stop (fun kr kc ks => by rw [h0, hx]; rfl)
   all_goals exact .stop (fun kr kc ks => by rw [h0, hx]; rfl)
 | .skip, l => .inr (.inl ⟨l, fun _ _ _ => by simp only [codeK], todo_runs hret rfl⟩)
 | .label _, l => .inr (.inl ⟨l, fun _ _ _ => by simp only [codeK], todo_runs hret rfl⟩)
 | .exit id, l => by
   cases h : aexit id l with
   | none => exact .stop (fun kr kc ks => by simp only [codeK, h, exitK])
   | some l' => exact .inr (.inl ⟨l', fun _ _ _ => by simp only [codeK, h, exitK], todo_runs hret (by simp only [stepItem, inTodo, stepCode, h])⟩)
 | .region p ops d, l => by
   cases d with
   | true => exact .stop (fun kr kc ks => by simp only [codeK])
   | false => exact .inl ⟨ops, l, fun _ _ _ => by simp only [codeK], Runs.one (by simp only [stepE, inTodo, hret, cond_false, stepItem, stepCode, inPl])⟩
 | .ret, l => .stop (fun kr kc ks => by simp only [codeK])
 | .goto _, l => .stop (fun kr kc ks => by simp only [codeK])
 | .refuse _, l => .stop (fun kr kc ks => by simp only [codeK])
 | .rangeFunc .., l => .stop (fun kr kc ks => by simp only [codeK])
def itemsK : Nat → Tr AV → List AItem → (Array Oper → List AItem → ASt) → (List AItem → ASt) → ASt
 | 0, _, l, _, ks => ks l
 | f + 1, T, l, kr, ks => match l with
   | [] => ks []
   | i :: r => match i with
     | .code c => (codeK c).f T r kr (fun l' => itemsK f T l' kr ks) ks
     | .inBlock _ => itemsK f T r kr ks
     | .inScope _ => itemsK f T r kr ks
     | .inLoop b => (codeK b).f T (.inLoop b :: r) kr (fun l' => itemsK f T l' kr ks) ks
     | _ => ks (i :: r)
theorem itemsK_spec {HK : Hook} {P : Program} {FT : FuncId → Option Func} {s : ASt} (hret : s.fr.ret = false) (T : Tr AV) (H : Tr AB) (n : Nat) : ∀ (f : Nat) (l0 : List AItem),
   (∃ ops l, (∀ kr ks, itemsK f T l0 kr ks = kr ops l) ∧ Runs HK P FT (inTodo s l0 T H n) (inPl (inTodo s l T H n) ops ops.toList T H n)) ∨ (∃ l, (∀ kr ks, itemsK f T l0 kr ks = ks l) ∧ Runs HK P FT (inTodo s l0 T H n) (inTodo s l T H n))
 | 0, l0 => .inr ⟨l0, fun _ _ => rfl, .refl _⟩
 | f + 1, [] => .inr ⟨[], fun _ _ => rfl, .refl _⟩
 | f + 1, i :: r => by
   have next : ∀ (l1 : List AItem) (g : (Array Oper → List AItem → ASt) → (List AItem → ASt) → ASt), (∀ kr ks, g kr ks = itemsK f T l1 kr ks) → Runs HK P FT (inTodo s (i :: r) T H n) (inTodo s l1 T H n) → (∃ ops l, (∀ kr ks, g kr ks = kr ops l) ∧ Runs HK P FT (inTodo s (i :: r) T H n) (inPl (inTodo s l T H n) ops ops.toList T H n)) ∨ (∃ l, (∀ kr ks, g kr ks = ks l) ∧ Runs HK P FT (inTodo s (i :: r) T H n) (inTodo s l T H n)) := fun l1 g hg hr => by
     rcases itemsK_spec hret T H n f l1 with ⟨ops, l, h1, h2⟩ | ⟨l, h1, h2⟩
     · exact .inl ⟨ops, l, fun kr ks => (hg kr ks).trans (h1 kr ks), hr.trans h2⟩
     · exact .inr ⟨l, fun kr ks => (hg kr ks).trans (h1 kr ks), hr.trans h2⟩
   have code : ∀ (c : Code) (r' : List AItem), Runs HK P FT (inTodo s (i :: r) T H n) (inTodo s (.code c :: r') T H n) → (∃ ops l, (∀ kr ks, (codeK c).f T r' kr (fun l' => itemsK f T l' kr ks) ks = kr ops l) ∧ Runs HK P FT (inTodo s (i :: r) T H n) (inPl (inTodo s l T H n) ops ops.toList T H n)) ∨ (∃ l, (∀ kr ks, (codeK c).f T r' kr (fun l' => itemsK f T l' kr ks) ks = ks l) ∧ Runs HK P FT (inTodo s (i :: r) T H n) (inTodo s l T H n)) := fun c r' hr => by
     rcases codeK_spec (HK := HK) (P := P) (FT := FT) hret T H n c r' with ⟨ops, l, h1, h2⟩ | ⟨l, h1, h2⟩ | ⟨l, h1, h2⟩
     · exact .inl ⟨ops, l, fun kr ks => h1 _ _ _, hr.trans h2⟩
     · exact next l _ (fun kr ks => h1 _ _ _) (hr.trans h2)
     · exact .inr ⟨l, fun kr ks => h1 _ _ _, hr.trans h2⟩
   cases i with
   | code c => exact code c r (.refl _)
   | inBlock id => exact next r _ (fun _ _ => rfl) (todo_runs hret rfl)
   | inScope b => exact next r _ (fun _ _ => rfl) (todo_runs hret rfl)
   | inLoop b => exact code b (.inLoop b :: r) (todo_runs hret rfl)
   | inRF j => exact .inr ⟨_, fun _ _ => rfl, .refl _⟩
   | endRF j => exact .inr ⟨_, fun _ _ => rfl, .refl _⟩
   | beginRound => exact .inr ⟨_, fun _ _ => rfl, .refl _⟩
def walkM (P : Program) (nt : Nat) (kp : Array Oper → List Oper → List AItem → Tr AV → Tr AB → Nat → ASt) (kt : List AItem → Tr AV → Tr AB → Nat → ASt) : Nat → List AItem → Tr AV → Tr AB → Nat → ASt
 | 0, l, T, H, n => kt l T H n
 | m + 1, l, T, H, n => itemsK 200 T l (fun ops r => (plRunK P nt ops.toList).f T H n fun rest T' H' n' => match rest with
     | [] => walkM P nt kp kt m r T' H' n'
     | o :: q => kp ops (o :: q) r T' H' n') (fun l' => kt l' T H n)
theorem walkM_spec {HK : Hook} {P : Program} {FT : FuncId → Option Func} {s : ASt} (hret : s.fr.ret = false) (kp : Array Oper → List Oper → List AItem → Tr AV → Tr AB → Nat → ASt) (kt : List AItem → Tr AV → Tr AB → Nat → ASt)
   (hp : ∀ ops q l T H n, kp ops q l T H n = inPl (inTodo s l T H n) ops q T H n) (ht : ∀ l T H n, kt l T H n = inTodo s l T H n) : ∀ (m : Nat) (l : List AItem) (T : Tr AV) (H : Tr AB) (n : Nat), Runs HK P FT (inTodo s l T H n) (walkM P s.fr.nt kp kt m l T H n)
 | 0, l, T, H, n => by unfold walkM; rw [ht]; exact .refl _
 | m + 1, l, T, H, n => by
   unfold walkM
   rcases itemsK_spec (HK := HK) (P := P) (FT := FT) hret T H n 200 l with ⟨ops, r, h1, h2⟩ | ⟨r, h1, h2⟩
   · rw [h1]
     refine h2.trans ?_
     obtain ⟨q, T', H', n', g1, g2⟩ := plRunK_spec (HK := HK) (P := P) (FT := FT) (inTodo s r T H n) hret ops ops.toList T H n
     have e : (inTodo s r T H n).fr.nt = s.fr.nt := rfl
     rw [e] at g1
     rw [g1]
     refine g2.trans ?_
     cases q with
     | nil =>
       refine Runs.trans (t := inTodo s r T' H' n') (Runs.one ?_) (walkM_spec hret kp kt hp ht m r T' H' n')
       simp only [stepE, inPl, inTodo, hret, cond_false, stepPlEnd]
     | cons o q => simp only [hp]; exact .refl _
   · rw [h1, ht]; exact h2
def greatK (P : Program) (s : ASt) : ASt :=
 match s with
 | ⟨⟨fn, nt, T, rg, todo, ds, ret, round, lo⟩, cs, H, n⟩ => match ret with
   | true => ⟨⟨fn, nt, T, rg, todo, ds, true, round, lo⟩, cs, H, n⟩
   | false => match rg with
     | .no => walkM P nt (fun ops q l T H n => ⟨⟨fn, nt, T, .pl ops q, l, ds, false, round, lo⟩, cs, H, n⟩) (fun l T H n => ⟨⟨fn, nt, T, .no, l, ds, false, round, lo⟩, cs, H, n⟩) 100 todo T H n
     | .pl ops q => (plRunK P nt q).f T H n fun rest T' H' n' => match rest with
       | [] => walkM P nt (fun ops q l T H n => ⟨⟨fn, nt, T, .pl ops q, l, ds, false, round, lo⟩, cs, H, n⟩) (fun l T H n => ⟨⟨fn, nt, T, .no, l, ds, false, round, lo⟩, cs, H, n⟩) 100 todo T' H' n'
       | o :: q' => ⟨⟨fn, nt, T', .pl ops (o :: q'), todo, ds, false, round, lo⟩, cs, H', n'⟩
     | .dr ops D X T0 lds cur => ⟨⟨fn, nt, T, .dr ops D X T0 lds cur, todo, ds, false, round, lo⟩, cs, H, n⟩
theorem greatK_runs (HK : Hook) (P : Program) (FT : FuncId → Option Func) (s : ASt) : Runs HK P FT s (greatK P s) := by
 obtain ⟨⟨fn, nt, T, rg, todo, ds, ret, round, lo⟩, cs, H, n⟩ := s
 unfold greatK
 cases ret with
 | true => exact .refl _
 | false =>
   cases rg with
   | no => exact walkM_spec (s := ⟨⟨fn, nt, T, .no, todo, ds, false, round, lo⟩, cs, H, n⟩) rfl _ _ (fun _ _ _ _ _ _ => rfl) (fun _ _ _ _ => rfl) 100 todo T H n
   | dr ops D X T0 lds cur => exact .refl _
   | pl ops q =>
     obtain ⟨q', T', H', n', g1, g2⟩ := plRunK_spec (HK := HK) (P := P) (FT := FT) ⟨⟨fn, nt, T, .pl ops q, todo, ds, false, round, lo⟩, cs, H, n⟩ rfl ops q T H n
     simp only at g1 ⊢
     rw [g1]
     refine Runs.trans g2 ?_
     cases q' with
     | cons o q => exact .refl _
     | nil =>
       refine Runs.trans (t := inTodo ⟨⟨fn, nt, T, .pl ops q, todo, ds, false, round, lo⟩, cs, H, n⟩ todo T' H' n') (Runs.one ?_) (walkM_spec (s := ⟨⟨fn, nt, T, .pl ops q, todo, ds, false, round, lo⟩, cs, H, n⟩) rfl _ _ (fun _ _ _ _ _ _ => rfl) (fun _ _ _ _ => rfl) 100 todo T' H' n')
       simp only [stepE, inPl, inTodo, cond_false, stepPlEnd]
def frTr {α β : Type} (t : Tr α) (k : Tr α → β) : β := match t with
 | .e => k .e
 | .n l x r => k (.n l x r)
theorem frTr_eq {α β : Type} (t : Tr α) (k : Tr α → β) : frTr t k = k t := by cases t <;> rfl
def frL {α β : Type} (l : List α) (k : List α → β) : β := match l with
 | [] => k []
 | a :: r => k (a :: r)
theorem frL_eq {α β : Type} (l : List α) (k : List α → β) : frL l k = k l := by cases l <;> rfl
def frO {α β : Type} (l : Option α) (k : Option α → β) : β := match l with
 | none => k none
 | some a => k (some a)
theorem frO_eq {α β : Type} (l : Option α) (k : Option α → β) : frO l k = k l := by cases l <;> rfl
def frB {β : Type} (b : Bool) (k : Bool → β) : β := match b with
 | true => k true
 | false => k false
theorem frB_eq {β : Type} (b : Bool) (k : Bool → β) : frB b k = k b := by cases b <;> rfl
def frcS (s : ASt) (k : ASt → ASt) : ASt := match s with
 | ⟨fr, cs, H, n⟩ => match fr with
   | ⟨fn, nt, T, rg, todo, ds, ret, round, lo⟩ => fNat fn fun fn => fNat nt fun nt => frTr T fun T => frL todo fun todo => frL ds fun ds => frB ret fun ret => frO round fun round => fNat lo fun lo => frL cs fun cs => frTr H fun H => fNat n fun n =>
     k ⟨⟨fn, nt, T, rg, todo, ds, ret, round, lo⟩, cs, H, n⟩
theorem frcS_eq (s : ASt) (k : ASt → ASt) : frcS s k = k s := by
 obtain ⟨⟨fn, nt, T, rg, todo, ds, ret, round, lo⟩, cs, H, n⟩ := s
 simp only [frcS, fNat_eq, frTr_eq, frL_eq, frB_eq, frO_eq]
def slowK (HK : Hook) (P : Program) (FT : FuncId → Option Func) (s : ASt) (k : ASt → ASt) : ASt := match stepE HK P FT s with
 | some s' => frcS s' k
 | none => s
def backK (_P : Program) (fn : FuncId) (nt : Nat) (rg : ARg) (todo : List AItem) (ds : List Nat) (ret : Bool) (round : Option Nat) (lo : Nat) (T : Tr AV) (cs : List AFr) (H : Tr AB) (n : Nat) (x : AV) (k : ASt → ASt) (z : ASt) : ASt :=
 match rg with
 | .pl ops (o :: r) => k ⟨⟨fn, nt, (putC nt o.dst).f T x, .pl ops r, todo, ds, ret, round, lo⟩, cs, H, n⟩
 | _ => z
def backC (P : Program) (cs : List AFr) (H : Tr AB) (n : Nat) (x : AV) (k : ASt → ASt) (z : ASt) : ASt :=
 match cs with
 | [] => z
 | c :: cs => match c with
   | ⟨fn, nt, T, rg, todo, ds, ret, round, lo⟩ => backK P fn nt rg todo ds ret round lo T cs H n x k z
def retK (P : Program) (fd : Option Func) (T : Tr AV) (cs : List AFr) (H : Tr AB) (n : Nat) (k : ASt → ASt) (z : ASt) : ASt :=
 match fd with
 | some fd => match resA P T H fd.results.toList with
   | some l => backC P cs H n (tupA l) k z
   | none => z
 | none => z
theorem retK_eq {HK : Hook} {P : Program} {FT : FuncId → Option Func} {fn : FuncId} {nt : Nat} {T : Tr AV} {rg : ARg} {todo : List AItem} {round : Option Nat} {lo : Nat} {cs : List AFr} {H : Tr AB} {n : Nat} (hrg : ∀ ops D X T0 lds cur, rg ≠ .dr ops D X T0 lds cur) (k : ASt → ASt) (z : ASt)
   (hz : z = (match stepE HK P FT ⟨⟨fn, nt, T, rg, todo, [], true, round, lo⟩, cs, H, n⟩ with | some s' => k s' | none => ⟨⟨fn, nt, T, rg, todo, [], true, round, lo⟩, cs, H, n⟩)) :
   retK P (FT fn) T cs H n k z = (match stepE HK P FT ⟨⟨fn, nt, T, rg, todo, [], true, round, lo⟩, cs, H, n⟩ with | some s' => k s' | none => ⟨⟨fn, nt, T, rg, todo, [], true, round, lo⟩, cs, H, n⟩) := by
 have e : stepE HK P FT ⟨⟨fn, nt, T, rg, todo, [], true, round, lo⟩, cs, H, n⟩ = (match FT fn with
     | some fd => match resA P T H fd.results.toList with
       | some l => backA P ⟨⟨fn, nt, T, rg, todo, [], true, round, lo⟩, cs, H, n⟩ (tupA l)
       | none => none
     | none => none) := by
   simp only [stepE, cond_true, stepRet]
   cases rg with
   | dr ops D X T0 lds cur => exact absurd rfl (hrg ops D X T0 lds cur)
   | no => rfl
   | pl ops q => rfl
 unfold retK
 cases hf : FT fn with
 | none => simp only [hz]
 | some fd =>
   simp only [hf] at e ⊢
   cases hr : resA P T H fd.results.toList with
   | none => simp only [hz]
   | some l =>
     simp only [hr] at e ⊢
     unfold backC
     cases cs with
     | nil => exact hz
     | cons c cs =>
       obtain ⟨fn', nt', T', rg', todo', ds', ret', round', lo'⟩ := c
       simp only
       unfold backK
       split
       · rename_i ops o r
         rw [e]
         simp only [backA, finishA, putC_eq]
       · exact hz
def callK (HK : Hook) (_P : Program) (FT : FuncId → Option Func) (c : Option Callee') (fn : FuncId) (nt : Nat) (T : Tr AV) (ops : Array Oper) (o : Oper) (q : List Oper) (todo : List AItem) (ds : List Nat) (round : Option Nat) (lo : Nat) (cs : List AFr) (H : Tr AB) (n : Nat) (k : ASt → ASt) (z : ASt) : ASt :=
 match c with
 | some c => match c with
   | .fn f args => match HK f args H n with
     | some (x, H', n') => fNat n' fun n' => k ⟨⟨fn, nt, (putC nt o.dst).f T x, .pl ops q, todo, ds, false, round, lo⟩, cs, H', n'⟩
     | none => match FT f with
       | some fd => match fd.body with
         | some b => k ⟨⟨f, cond (Nat.ble fd.ntmps args.length) args.length fd.ntmps, argsT args 0 .e, .no, [.code b], [], false, none, n⟩, ⟨fn, nt, T, .pl ops (o :: q), todo, ds, false, round, lo⟩ :: cs, H, n⟩
         | none => z
       | none => z
   | .yl .. => z
 | none => z
def isCallK (o : Oper) : Bool := match o.guard with
 | some _ => false
 | none => match o.op with
   | .call c => (match c.callee with | .value _ => true | _ => false)
   | _ => false
def stepK (HK : Hook) (P : Program) (FT : FuncId → Option Func) (s : ASt) (k : ASt → ASt) : ASt :=
 match s with
 | ⟨⟨fn, nt, T, rg, todo, ds, ret, round, lo⟩, cs, H, n⟩ => match ret with
   | true => (match ds with
     | [] => (match rg with
       | .dr ops D X T0 lds cur => slowK HK P FT ⟨⟨fn, nt, T, .dr ops D X T0 lds cur, todo, [], true, round, lo⟩, cs, H, n⟩ k
       | .no => retK P (FT fn) T cs H n k (slowK HK P FT ⟨⟨fn, nt, T, .no, todo, [], true, round, lo⟩, cs, H, n⟩ k)
       | .pl ops q => retK P (FT fn) T cs H n k (slowK HK P FT ⟨⟨fn, nt, T, .pl ops q, todo, [], true, round, lo⟩, cs, H, n⟩ k))
     | d :: ds => slowK HK P FT ⟨⟨fn, nt, T, rg, todo, d :: ds, true, round, lo⟩, cs, H, n⟩ k)
   | false => (match rg with
     | .pl ops q => (match q with
       | o :: q => (match isCallK o with
         | true => callK HK P FT (callOf P T o) fn nt T ops o q todo ds round lo cs H n k (slowK HK P FT ⟨⟨fn, nt, T, .pl ops (o :: q), todo, ds, false, round, lo⟩, cs, H, n⟩ k)
         | false => slowK HK P FT ⟨⟨fn, nt, T, .pl ops (o :: q), todo, ds, false, round, lo⟩, cs, H, n⟩ k)
       | [] => slowK HK P FT ⟨⟨fn, nt, T, .pl ops [], todo, ds, false, round, lo⟩, cs, H, n⟩ k)
     | rg => slowK HK P FT ⟨⟨fn, nt, T, rg, todo, ds, false, round, lo⟩, cs, H, n⟩ k)
theorem slowK_eq (HK : Hook) (P : Program) (FT : FuncId → Option Func) (s : ASt) (k : ASt → ASt) : slowK HK P FT s k = (match stepE HK P FT s with | some s' => k s' | none => s) := by
 unfold slowK
 cases stepE HK P FT s <;> simp only [frcS_eq]
theorem call_step {HK : Hook} {P : Program} {FT : FuncId → Option Func} {s : ASt} {ops : Array Oper} {o : Oper} {q : List Oper} (hc : isCallK o = true) : stepPl HK P FT s ops o q = (match hooked HK P s.fr.T o s.H s.n with
   | some (x, H, n) => some (doneS s ops q o.dst x H n)
   | none => match callOf P s.fr.T o with
     | some c => enterA FT s.fr s c
     | none => none) := by
 obtain ⟨dst, op, type, pos, after, guard⟩ := o
 unfold isCallK at hc
 cases guard with
 | some g => cases hc
 | none =>
   cases op
   case call c =>
     obtain ⟨callee, args, ats⟩ := c
     cases callee with
     | value f =>
       have h1 : ∀ T, aopW P T ⟨dst, .call ⟨.value f, args, ats⟩, type, pos, after, none⟩ s.H s.n = none := fun T => rfl
       simp only [stepPl, plainOp, wantedA, aopP, aopN, nowA, h1, cond_true, doneS]
       cases hooked HK P s.fr.T ⟨dst, .call ⟨.value f, args, ats⟩, type, pos, after, none⟩ s.H s.n with
       | none => rfl
       | some r => rfl
     | invoke r nm => cases hc
     | builtin b => cases hc
   all_goals cases hc
theorem stepK_eq (HK : Hook) (P : Program) (FT : FuncId → Option Func) (s : ASt) (k : ASt → ASt) : stepK HK P FT s k = (match stepE HK P FT s with | some s' => k s' | none => s) := by
 obtain ⟨⟨fn, nt, T, rg, todo, ds, ret, round, lo⟩, cs, H, n⟩ := s
 unfold stepK
 cases ret with
 | true =>
   cases ds with
   | cons d ds => exact slowK_eq ..
   | nil =>
     cases rg with
     | dr ops D X T0 lds cur => exact slowK_eq ..
     | no => exact retK_eq (by simp) k _ (slowK_eq ..)
     | pl ops q => exact retK_eq (by simp) k _ (slowK_eq ..)
 | false =>
   cases rg with
   | no => exact slowK_eq ..
   | dr ops D X T0 lds cur => exact slowK_eq ..
   | pl ops q =>
     cases q with
     | nil => exact slowK_eq ..
     | cons o q =>
       cases hc : isCallK o with
       | false => simp only [hc]; exact slowK_eq ..
       | true =>
         simp only [hc]
         have hz := slowK_eq HK P FT ⟨⟨fn, nt, T, .pl ops (o :: q), todo, ds, false, round, lo⟩, cs, H, n⟩ k
         have e : stepE HK P FT ⟨⟨fn, nt, T, .pl ops (o :: q), todo, ds, false, round, lo⟩, cs, H, n⟩ = stepPl HK P FT ⟨⟨fn, nt, T, .pl ops (o :: q), todo, ds, false, round, lo⟩, cs, H, n⟩ ops o q := by simp only [stepE, cond_false]
         rw [call_step hc] at e
         simp only at e
         unfold callK
         cases hcl : callOf P T o with
         | none => exact hz
         | some c =>
           cases c with
           | yl i args => exact hz
           | fn f args =>
             simp only [hooked, hcl] at e ⊢
             cases hh : HK f args H n with
             | some r =>
               obtain ⟨x, H', n'⟩ := r
               simp only [hh] at e
               simp only [e, fNat_eq, putC_eq, doneS]
             | none =>
               simp only [hh, enterA] at e ⊢
               cases hf : FT f with
               | none => exact hz
               | some fd =>
                 simp only [hf] at e ⊢
                 cases hb : fd.body with
                 | none => exact hz
                 | some b =>
                   simp only [hb] at e ⊢
                   rw [e]
def runG (HK : Hook) (P : Program) (FT : FuncId → Option Func) : Nat → ASt → ASt
 | 0, s => s
 | k + 1, s => stepK HK P FT (greatK P s) fun t => runG HK P FT k t
theorem runG_runs (HK : Hook) (P : Program) (FT : FuncId → Option Func) : ∀ (k : Nat) (s : ASt), Runs HK P FT s (runG HK P FT k s)
 | 0, s => .refl _
 | k + 1, s => by
   unfold runG
   have h0 := greatK_runs HK P FT s
   rw [stepK_eq]
   cases h : stepE HK P FT (greatK P s) with
   | none => exact h0
   | some s' => exact h0.trans (Runs.trans (Runs.one h) (runG_runs HK P FT k s'))
/-! A state, evaluated where it has turned: bit k says whether block k is kept, or is to be told anew. -/
def nfT (keep turned : Nat) : Nat → Nat → Tr AB → Tr AB
 | _, _, .e => .e
 | a, b, .n l x r => .n (nfT keep turned (2 * a) (a + b) l) (match x with
   | none => none
   | some y => cond (Nat.testBit keep b) (cond (Nat.testBit turned b) (fB y fun z => some z) (some y)) (some .dead)) (nfT keep turned (2 * a) (2 * a + b) r)
def fT2 {β : Type} : Tr AB → (Tr AB → β) → β
 | .e, k => k .e
 | .n l x r, k => fT2 l fun l' => frO x fun x' => fT2 r fun r' => k (.n l' x' r')
theorem fT2_eq {β : Type} : ∀ (t : Tr AB) (k : Tr AB → β), fT2 t k = k t
 | .e, _ => rfl
 | .n l x r, k => by simp only [fT2, fT2_eq l, fT2_eq r, frO_eq]
/-! .. or which blocks are forgotten is read off the state that is to come. -/
def keepD (x' x : Option AB) (tb : Bool) : Option AB := match x' with
 | some .dead => (match x with
   | some _ => some .dead
   | none => none)
 | _ => (match x with
   | none => none
   | some y => cond tb (fB y fun z => some z) (some y))
def nfD (turned : Nat) : Nat → Nat → Tr AB → Tr AB → Tr AB
 | _, _, _, .e => .e
 | a, b, t, .n l x r => match t with
   | .e => .n l x r
   | .n l' x' r' => .n (nfD turned (2 * a) (a + b) l' l) (keepD x' x (Nat.testBit turned b)) (nfD turned (2 * a) (2 * a + b) r' r)
def Lost (H' H : Tr AB) : Prop := ∀ k, H'.get k = H.get k ∨ ∃ C, H.get k = some C ∧ H'.get k = some .dead
theorem keepD_lost (x' x : Option AB) (tb : Bool) : keepD x' x tb = x ∨ ∃ C, x = some C ∧ keepD x' x tb = some .dead := by
 unfold keepD
 split
 · cases x with
   | none => exact .inl rfl
   | some C => exact .inr ⟨C, rfl, rfl⟩
 · left
   cases x with
   | none => rfl
   | some y => cases tb <;> simp only [cond_true, cond_false, fB_eq]
theorem nfD_lost (turned : Nat) : ∀ (H : Tr AB) (a b : Nat) (t : Tr AB), Lost (nfD turned a b t H) H
 | .e, a, b, t => fun _ => .inl (by simp only [nfD])
 | .n l x r, a, b, t => by
   cases t with
   | e => exact fun _ => .inl (by simp only [nfD])
   | n l' x' r' =>
     intro k
     simp only [nfD, Tr.get_n]
     cases Nat.beq k 0 with
     | true => exact keepD_lost _ _ _
     | false =>
       cases Nat.beq (k % 2) 1 with
       | true => exact nfD_lost turned l _ _ l' (k / 2)
       | false => exact nfD_lost turned r _ _ r' (k / 2 - 1)
theorem SR_lost {P : Program} {w0 : Bs} {s : ASt} {fr : Frame} {cs : List Frame} {w : World} {H' : Tr AB} (hl : Lost H' s.H) (h : SR P w0 s fr cs w) (hc : ((s.fr :: s.cs).all fun f => plainG f.rg) = true) : SR P w0 { s with H := H' } fr cs w := by
 obtain ⟨ρ, hr, hf, hlo, hst⟩ := h
 simp only [List.all_cons, Bool.and_eq_true] at hc
 have old : ∀ {i : Nat} {B : AB}, H'.get i = some B → ∃ C, s.H.get i = some C ∧ (B = C ∨ B = .dead) := by
   intro i B hB
   rcases hl i with h1 | ⟨C, h1, h2⟩
   · exact ⟨B, h1 ▸ hB, .inl rfl⟩
   · rw [h2] at hB; cases hB; exact ⟨C, h1, .inr rfl⟩
 have live : ∀ {i : Nat} {B : AB}, H'.get i = some B → B.live = true → s.H.get i = some B := by
   intro i B hB hv
   obtain ⟨C, h1, rfl | rfl⟩ := old hB
   · exact h1
   · cases hv
 refine ⟨ρ, ⟨fun {i b c B} h1 h2 => ?_, fun h1 h2 h3 h4 h5 h6 => hr.inj h1 h2 (live h3 h5) (live h4 h6) h5 h6, fun {i} hi => ⟨(hr.top hi).1, ?_⟩, hr.base, hr.fr, hr.le⟩, FRel.any hf hc.1, hlo, StackR.any hst hc.2⟩
 · obtain ⟨C, h3, rfl | rfl⟩ := old h2
   · exact hr.blk h1 h3
   · obtain ⟨o, ho, _⟩ := hr.blk h1 h3
     exact ⟨o, ho, trivial⟩
 · show H'.get i = none
   rcases hl i with h1 | ⟨C, h1, _⟩
   · rw [h1, (hr.top hi).2]
   · rw [(hr.top hi).2] at h1; cases h1
def nfQ (turned : Nat) (t s : ASt) : ASt := match s with
 | ⟨fr, cs, H, n⟩ => fF fr fun fr' => fFs cs fun cs' => fT2 (nfD turned 1 0 t.H H) fun H' => fNat n fun n' => ⟨fr', cs', H', n'⟩
theorem nfQ_eq (turned : Nat) (t s : ASt) : nfQ turned t s = { s with H := nfD turned 1 0 t.H s.H } := by
 obtain ⟨fr, cs, H, n⟩ := s
 show (fF fr fun fr' => fFs cs fun cs' => fT2 (nfD turned 1 0 t.H H) fun H' => fNat n fun n' => ASt.mk fr' cs' H' n') = _
 rw [fF_eq, fFs_eq, fT2_eq, fNat_eq]
def bitsT (b n : Nat) : List Nat → Nat
 | [] => Nat.shiftLeft (Nat.sub (Nat.shiftLeft 1 (Nat.sub n b)) 1) b
 | k :: l => Nat.lor (Nat.shiftLeft 1 k) (bitsT b n l)
theorem Reach.segD {P : Program} {FT : FuncId → Option Func} {HK : Hook} (hft : FTok P FT) (hk : HKok P HK) (hmix : P.follows .mixedOrders = true) {k : Nat} {s t : ASt} (turned : Nat) (h : nfQ turned t (runG HK P FT k s) = t) (h1 : ((t.fr :: t.cs).all fun f => plainG f.rg) = true := by rfl) : Reach P s t := fun q => by
 obtain ⟨j, hj⟩ := runG_runs HK P FT k s
 rw [← hj, nfQ_eq] at h
 refine Goes.trans (runE_sound hft hk hmix j q) fun {fr' cs' w'} q' => ?_
 have c1 : (((runE HK P FT j s).fr :: (runE HK P FT j s).cs).all fun f => plainG f.rg) = true := by rw [← h] at h1; exact h1
 have := SR_lost (nfD_lost turned _ 1 0 t.H) q' c1
 rw [h] at this
 exact ⟨fr', cs', w', Steps.refl _ _, this⟩
theorem calls_of_reachG {P : Program} {FT : FuncId → Option Func} {HK : Hook} (hft : FTok P FT) (hk : HKok P HK) (hmix : P.follows .mixedOrders = true) {f : FuncId} {s0 t : ASt} {k : Nat} (h0 : startE FT f = some s0) (h : Reach P s0 t) (hf : isTrue (finalE P FT f (runG HK P FT k t)) = true) (w : World) :
   Calls P f #[] w (fun e w' => e = .returned (.bool true) ∧ Fr No w w') := by
 obtain ⟨j, hj⟩ := runG_runs HK P FT k t
 exact calls_of_reach hft hk hmix (k := j) h0 h (by rw [hj]; exact hf) w
/-! A memory, block for block, in as many steps as it has blocks: row for row of the tree. -/
def hdT {α : Type} : List (Tr α) → Tr α
 | [] => .e
 | t :: _ => t
def tlT {α : Type} : List α → List α
 | [] => []
 | _ :: l => l
def tkN {α : Type} : Nat → List α → List α
 | 0, _ => []
 | _ + 1, [] => []
 | n + 1, x :: l => x :: tkN n l
def drN {α : Type} : Nat → List α → List α
 | 0, l => l
 | _ + 1, [] => []
 | n + 1, _ :: l => drN n l
def zipB {α : Type} : List α → List (Tr α) → List (Tr α) → List (Tr α)
 | [], _, _ => []
 | x :: r, a, b => .n (hdT a) (some x) (hdT b) :: zipB r (tlT a) (tlT b)
def zipM {α : Type} (m : Nat) (r : List α) (t : List (Tr α)) : List (Tr α) := zipB r t (drN m t)
def rowsB {α : Type} : Nat → Nat → List α → List (Tr α)
 | 0, _, _ => []
 | f + 1, m, l => match l with
   | [] => []
   | x :: r => zipM m (tkN m (x :: r)) (rowsB f (Nat.add m m) (drN m (x :: r)))
def ofB {α : Type} (l : List α) : Tr α := hdT (rowsB 40 1 l)
def fromL {α : Type} : Nat → List α → Tr α → Tr α
 | _, [], t => t
 | i, x :: l, t => fromL (i + 1) l (Tr.put t i x)
theorem get_fromL {α : Type} : ∀ (l : List α) (i : Nat) (t : Tr α) (k : Nat), (fromL i l t).get k = if i ≤ k ∧ k < i + l.length then l[k - i]? else t.get k
 | [], i, t, k => by
   have h : ¬ (i ≤ k ∧ k < i + ([] : List α).length) := by simp only [List.length_nil]; omega
   rw [if_neg h]; rfl
 | x :: l, i, t, k => by
   show (fromL (i + 1) l (Tr.put t i x)).get k = _
   rw [get_fromL l (i + 1) _ k, Tr.get_put, List.length_cons]
   by_cases h : k = i
   · subst h
     rw [if_neg (by omega), if_pos rfl, if_pos (by omega), Nat.sub_self]; rfl
   · by_cases h1 : i + 1 ≤ k ∧ k < i + 1 + l.length
     · rw [if_pos h1, if_pos (by omega)]
       obtain ⟨j, hj⟩ : ∃ j, k - i = j + 1 := ⟨k - i - 1, by omega⟩
       rw [hj, List.getElem?_cons_succ]
       congr 1; omega
     · rw [if_neg h1, if_neg h, if_neg (by omega)]
def tabT (P : Program) : Tr Func := fromL 0 P.funcs.toList .e
def tabF (P : Program) : FuncId → Option Func := fun f => (tabT P).get f
theorem tabF_eq (P : Program) : tabF P = tabOf P := by
 funext f
 show (fromL 0 P.funcs.toList .e).get f = P.funcs[f]?
 rw [get_fromL]
 by_cases h : f < P.funcs.toList.length
 · rw [if_pos ⟨Nat.zero_le _, by rw [Nat.zero_add]; exact h⟩]; simp
 · rw [if_neg (fun q => h (by rw [Nat.zero_add] at q; exact q.2)), Tr.get_e]
   symm; simp at h ⊢; exact h
theorem tabF_ok {P : Program} (h : (P.funcs.toList.all fun fn => !(fn.name == "runtime.NumGoroutine")) = true) : FTok P (tabF P) := by rw [tabF_eq]; exact tab_ok h
def bodyF (P : Program) (f : FuncId) : Code := match tabF P f with
 | some fn => match fn.body with
   | some b => b
   | none => .skip
 | none => .skip
/-! A state told by what has turned since another one. -/
def frC (s : ASt) (p : Nat) : AFr := match drN p s.cs with
 | f :: _ => f
 | [] => s.fr
def patS (T : Tr AV) : List (Nat × AV) → Tr AV
 | [] => T
 | (i, x) :: l => patS (Tr.put T i x) l
def cat2 {α : Type} : List α → List α → List α
 | [], r => r
 | x :: l, r => x :: cat2 l r
def patL (H : Tr AB) : List (Nat × AB) → Tr AB
 | [] => H
 | (i, b) :: l => patL (Tr.put H i b) l
def addL (H : Tr AB) (i : Nat) : List AB → Tr AB
 | [] => H
 | b :: l => addL (Tr.put H i b) (Nat.add i 1) l
def kilN (i : Nat) : Nat → Tr AB → Tr AB
 | 0, H => H
 | c + 1, H => kilN (Nat.add i 1) c (Tr.put H i .dead)
def kilL (H : Tr AB) : List (Nat × Nat) → Tr AB
 | [] => H
 | (i, c) :: l => kilL (kilN i c H) l
end
end Go.Proofs.YtlmpjdionndncaaGreatDoor.Ev
namespace Go.Proofs.YtlmpjdionndncaaGreatDoor.Ev
open Go
noncomputable section
def vi (z : Int) : AV := .v (.int .i64 z)
def vb (b : Bool) : AV := .v (.bool b)
def rz (n : Nat) : Rp := .rep (.v (.int .u8 0)) n
def lz (n : Nat) : Rp := .leaf (zN (.v (.int .u8 0)) n)
def lu (c n : Nat) : Rp := .leaf (uN .u8 c n)
def lc (l : List (List AV)) : Rp := .leaf (catL l)
def z8 (n : Nat) : List AV := zN (.v (.int .u8 0)) n
def u8 (c n : Nat) : List AV := uN .u8 c n
def mn (T : TypeId) (l : List AV) : AB := .mem T none (.leaf l)
def ms (T : TypeId) (k : Nat) (l : List AV) : AB := .mem T (some k) (.leaf l)
def cd (f : FuncId) (p : List Nat) : AItem := .code (subC (bodyF Tryz.prog f) p)
def il (f : FuncId) (p : List Nat) : AItem := .inLoop (subC (bodyF Tryz.prog f) p)
def rg (f : FuncId) (p : List Nat) (k : Nat) : ARg := plC (subC (bodyF Tryz.prog f) p) k
def kilT (d c : Nat) : Nat → Nat → Tr AB → Tr AB
 | 0, _, H => H
 | t + 1, i, H => kilT d c t (Nat.add i d) (kilN i c H)
def kilS (H : Tr AB) : List (Nat × Nat × Nat × Nat) → Tr AB
 | [] => H
 | (i, d, t, c) :: l => kilS (kilT d c t i H) l
end
end Go.Proofs.YtlmpjdionndncaaGreatDoor.Ev
namespace Go.Proofs.YtlmpjdionndncaaGreatDoor.RMergeNames
open Go Go.RowKit Ev
set_option maxRecDepth 100000
noncomputable def st0 : ASt := ⟨⟨5, 211, .e, .no, [.code (bodyC Tryz.prog 5)], [], false, none, 0⟩, [], .e, 0⟩
noncomputable def st1 : ASt := ⟨⟨60,39,(patS .e [(0,vi 1200),(2,.v (.pointer none)),(3,vi 0),(4,.ptr 25 0),(5,vi 346),(6,vi 1200),(7,vb false),(8,vb false),(9,vi 1200),(10,vb false),(11,vb false),(12,.agg ([.v (.slice none 0 0),.v (.slice none 0 0),vi 0,.v (.slice none 0 0),vi 0,vi 0,vi 0,vb false])),(13,.ptr 25 0),(14,vi 346),(15,vi 1200),(16,vb true),(17,vi 345),(18,vi 346),(19,.ptr 25 0),(20,.ptr 25 0),(21,.ptr 25 0),(22,.ptr 25 0),(23,.su 1753 0 346 0 346),(24,.sl 1756 0 128 128),(25,.sl 1757 0 1 1),(26,.su 1758 0 347 0 347),(27,.ptr 25 0),(28,.ptr 25 0),(29,.ptr 25 0),(30,.ptr 25 0),(31,.ptr 25 0),(32,.ptr 25 1),(33,.su 1750 0 345 0 345),(34,.sl 1754 0 1 1),(35,.su 1755 0 346 0 346),(36,.ptr 25 0),(37,.ptr 25 1)]),.no,[cd 60 [1,1,1,0,1,0,0,1,0,0,1],.inBlock 1,cd 60 [1,1,1,0,1,0,0,1,1],il 60 [1,1,1,0,1,0,0],.inBlock 0,cd 60 [1,1,1,1]],[],false,none,25⟩,[⟨32,117,(patS .e [(0,.agg ([vi 8,vi 1,vi 2,vb false,vi 400,vi 1200])),(1,.sl 20 0 4 4),(2,.ptr 21 0),(4,.v (.pointer none)),(5,.ptr 24 0),(6,vi 0),(22,.tup ([.ptr 24 0,vi 0])),(23,.ptr 21 5),(24,vi 1200),(25,.tup ([.ptr 24 0,vi 0])),(26,.ptr 24 0),(27,vi 0),(29,.ptr 21 5),(30,vi 1200)]),(rg 32 [1,1,0] 2),[cd 32 [1,1,1]],[],false,none,21⟩,
 ⟨16,18,(patS .e [(0,.v (.pointer none)),(2,.agg ([vi 8,vi 1,vi 2,vb false,vi 400,vi 1200])),(3,.sl 1 0 5 5),(4,.agg ([vi 1,.sl 3 0 1 1,.su 5 0 5 0 5])),(5,.sl 6 0 2 2),(6,.sl 7 0 2 2),(7,.agg ([vi 1,.sl 6 0 2 2,.sl 7 0 2 2])),(8,.agg ([vi 1,.sl 9 0 1 1,.v (.slice none 0 0)])),(9,.agg ([vi 2,.sl 19 0 1 1,.su 18 0 3 0 3])),(10,.sl 20 0 4 4)]),(rg 16 [1,0] 9),[cd 16 [1,1]],[],false,none,0⟩,
 ⟨5,211,(patS .e [(0,vb false)]),(rg 5 [1,0] 0),[cd 5 [1,1]],[],false,none,0⟩],
 ofB (catL [[.dead,
 .dead,
 .dead,
 mn 3 (([vi 5])),
 .dead,
 ms 2 1 ((uN .i64 5 21491745027)),
 mn 3 (([vi 1,vi 2])),
 mn 2 (([vi 4,vi 3])),
 .dead,
 mn 3 (([vi 0]))],deadL 8,[ms 2 1 (([vi 99,vi 97,vi 98])),
 mn 3 (([vi 3])),
 mn 36 (([vi 1,.sl 3 0 1 1,.su 5 0 5 0 5,vi 1,.sl 6 0 2 2,.sl 7 0 2 2,vi 1,.sl 9 0 1 1,.v (.slice none 0 0),vi 2,.sl 19 0 1 1,.su 18 0 3 0 3])),
 mn 64 (([vi 8,vi 1,vi 2,vb false,vi 400,vi 1200])),
 .mem 349 none (rz 153600),
 .map [] 0,
 mn 179 (([.sl 22 0 1200 1200,.mp 23,vi 0,.v (.slice none 0 0),vi 0,vi 0,vi 0,vb false])),
 mn 182 (([.su 1758 0 347 0 347,.su 1755 0 346 0 346,vi 0,.v (.slice none 0 0),vi 0,vi 0,vi 0,vb false]))],repL [.mem 5 none (rz 128),.dead,.dead,.dead,.dead] 345,[.mem 5 none (rz 128),
 .dead,
 .dead,
 .dead,
 .mem 183 (some 1) (.node 256 (.node 128 (.node 64 (.node 32 (.node 16 (.leaf (zN (.v (.slice none 0 0)) 16)) (.leaf (zN (.v (.slice none 0 0)) 16))) (.node 16 (.leaf (zN (.v (.slice none 0 0)) 16)) (.leaf (zN (.v (.slice none 0 0)) 16)))) (.node 32 (.node 16 (.leaf (zN (.v (.slice none 0 0)) 16)) (.leaf (zN (.v (.slice none 0 0)) 16))) (.node 16 (.leaf (zN (.v (.slice none 0 0)) 16)) (.leaf (zN (.v (.slice none 0 0)) 16))))) (.node 64 (.node 32 (.node 16 (.leaf (zN (.v (.slice none 0 0)) 16)) (.leaf (zN (.v (.slice none 0 0)) 16))) (.node 16 (.leaf (zN (.v (.slice none 0 0)) 16)) (.leaf (zN (.v (.slice none 0 0)) 16)))) (.node 32 (.node 16 (.leaf (zN (.v (.slice none 0 0)) 16)) (.leaf (zN (.v (.slice none 0 0)) 16))) (.node 16 (.leaf (zN (.v (.slice none 0 0)) 16)) (.leaf (zN (.v (.slice none 0 0)) 16)))))) (.node 64 (.node 32 (.node 16 (.leaf (zN (.v (.slice none 0 0)) 16)) (.leaf (zN (.v (.slice none 0 0)) 16))) (.node 16 (.leaf (zN (.v (.slice none 0 0)) 16)) (.leaf (zN (.v (.slice none 0 0)) 16)))) (.node 16 (.leaf (zN (.v (.slice none 0 0)) 16)) (.leaf (zN (.v (.slice none 0 0)) 10))))),
 .mem 5 none (rz 128),
 .dead,
 .mem 183 (some 1) (.node 256 (.node 128 (.node 64 (.node 32 (.node 16 (.leaf (slP 5 0 128 128 16 26)) (.leaf (slP 5 0 128 128 16 106))) (.node 16 (.leaf (slP 5 0 128 128 16 186)) (.leaf (slP 5 0 128 128 16 266)))) (.node 32 (.node 16 (.leaf (slP 5 0 128 128 16 346)) (.leaf (slP 5 0 128 128 16 426))) (.node 16 (.leaf (slP 5 0 128 128 16 506)) (.leaf (slP 5 0 128 128 16 586))))) (.node 64 (.node 32 (.node 16 (.leaf (slP 5 0 128 128 16 666)) (.leaf (slP 5 0 128 128 16 746))) (.node 16 (.leaf (slP 5 0 128 128 16 826)) (.leaf (slP 5 0 128 128 16 906)))) (.node 32 (.node 16 (.leaf (slP 5 0 128 128 16 986)) (.leaf (slP 5 0 128 128 16 1066))) (.node 16 (.leaf (slP 5 0 128 128 16 1146)) (.leaf (slP 5 0 128 128 16 1226)))))) (.node 64 (.node 32 (.node 16 (.leaf (slP 5 0 128 128 16 1306)) (.leaf (slP 5 0 128 128 16 1386))) (.node 16 (.leaf (slP 5 0 128 128 16 1466)) (.leaf (slP 5 0 128 128 16 1546)))) (.node 16 (.leaf (slP 5 0 128 128 16 1626)) (.leaf (slP 5 0 128 128 11 1706)))))]]),1759⟩
noncomputable def st2 : ASt := ⟨⟨60,39,(patS st1.fr.T [(5,vi 696),(14,vi 696),(17,vi 695),(18,vi 696),(23,.su 3503 0 696 0 696),(24,.sl 3506 0 128 128),(25,.sl 3507 0 1 1),(26,.su 3508 0 697 0 697),(33,.su 3500 0 695 0 695),(34,.sl 3504 0 1 1),(35,.su 3505 0 696 0 696)]),.no,[cd 60 [1,1,1,0,1,0,0,1,0,0,1],.inBlock 1,cd 60 [1,1,1,0,1,0,0,1,1],il 60 [1,1,1,0,1,0,0],.inBlock 0,cd 60 [1,1,1,1]],[],false,none,25⟩,(cat2 [] (drN 0 st1.cs)),
 addL (patL (kilL st1.H [(1755,1),(1758,1)]) [(25,mn 182 (([.su 3508 0 697 0 697,.su 3505 0 696 0 696,vi 0,.v (.slice none 0 0),vi 0,vi 0,vi 0,vb false])))]) 1759 (catL [repL [.dead,.dead,.mem 5 none (rz 128),.dead,.dead] 349,[.dead,
 .mem 183 (some 1) (.node 512 (.node 256 (.node 128 (.node 64 (.node 32 (.node 16 (.leaf (zN (.v (.slice none 0 0)) 16)) (.leaf (zN (.v (.slice none 0 0)) 16))) (.node 16 (.leaf (zN (.v (.slice none 0 0)) 16)) (.leaf (zN (.v (.slice none 0 0)) 16)))) (.node 32 (.node 16 (.leaf (zN (.v (.slice none 0 0)) 16)) (.leaf (zN (.v (.slice none 0 0)) 16))) (.node 16 (.leaf (zN (.v (.slice none 0 0)) 16)) (.leaf (zN (.v (.slice none 0 0)) 16))))) (.node 64 (.node 32 (.node 16 (.leaf (zN (.v (.slice none 0 0)) 16)) (.leaf (zN (.v (.slice none 0 0)) 16))) (.node 16 (.leaf (zN (.v (.slice none 0 0)) 16)) (.leaf (zN (.v (.slice none 0 0)) 16)))) (.node 32 (.node 16 (.leaf (zN (.v (.slice none 0 0)) 16)) (.leaf (zN (.v (.slice none 0 0)) 16))) (.node 16 (.leaf (zN (.v (.slice none 0 0)) 16)) (.leaf (zN (.v (.slice none 0 0)) 16)))))) (.node 128 (.node 64 (.node 32 (.node 16 (.leaf (zN (.v (.slice none 0 0)) 16)) (.leaf (zN (.v (.slice none 0 0)) 16))) (.node 16 (.leaf (zN (.v (.slice none 0 0)) 16)) (.leaf (zN (.v (.slice none 0 0)) 16)))) (.node 32 (.node 16 (.leaf (zN (.v (.slice none 0 0)) 16)) (.leaf (zN (.v (.slice none 0 0)) 16))) (.node 16 (.leaf (zN (.v (.slice none 0 0)) 16)) (.leaf (zN (.v (.slice none 0 0)) 16))))) (.node 64 (.node 32 (.node 16 (.leaf (zN (.v (.slice none 0 0)) 16)) (.leaf (zN (.v (.slice none 0 0)) 16))) (.node 16 (.leaf (zN (.v (.slice none 0 0)) 16)) (.leaf (zN (.v (.slice none 0 0)) 16)))) (.node 32 (.node 16 (.leaf (zN (.v (.slice none 0 0)) 16)) (.leaf (zN (.v (.slice none 0 0)) 16))) (.node 16 (.leaf (zN (.v (.slice none 0 0)) 16)) (.leaf (zN (.v (.slice none 0 0)) 16))))))) (.node 128 (.node 64 (.node 32 (.node 16 (.leaf (zN (.v (.slice none 0 0)) 16)) (.leaf (zN (.v (.slice none 0 0)) 16))) (.node 16 (.leaf (zN (.v (.slice none 0 0)) 16)) (.leaf (zN (.v (.slice none 0 0)) 16)))) (.node 32 (.node 16 (.leaf (zN (.v (.slice none 0 0)) 16)) (.leaf (zN (.v (.slice none 0 0)) 16))) (.node 16 (.leaf (zN (.v (.slice none 0 0)) 16)) (.leaf (zN (.v (.slice none 0 0)) 16))))) (.node 32 (.node 16 (.leaf (zN (.v (.slice none 0 0)) 16)) (.leaf (zN (.v (.slice none 0 0)) 16))) (.node 16 (.leaf (zN (.v (.slice none 0 0)) 16)) (.leaf (zN (.v (.slice none 0 0)) 8)))))),
 .mem 5 none (rz 128),
 .dead,
 .mem 183 (some 1) (.node 512 (.node 256 (.node 128 (.node 64 (.node 32 (.node 16 (.leaf (slP 5 0 128 128 16 26)) (.leaf (slP 5 0 128 128 16 106))) (.node 16 (.leaf (slP 5 0 128 128 16 186)) (.leaf (slP 5 0 128 128 16 266)))) (.node 32 (.node 16 (.leaf (slP 5 0 128 128 16 346)) (.leaf (slP 5 0 128 128 16 426))) (.node 16 (.leaf (slP 5 0 128 128 16 506)) (.leaf (slP 5 0 128 128 16 586))))) (.node 64 (.node 32 (.node 16 (.leaf (slP 5 0 128 128 16 666)) (.leaf (slP 5 0 128 128 16 746))) (.node 16 (.leaf (slP 5 0 128 128 16 826)) (.leaf (slP 5 0 128 128 16 906)))) (.node 32 (.node 16 (.leaf (slP 5 0 128 128 16 986)) (.leaf (slP 5 0 128 128 16 1066))) (.node 16 (.leaf (slP 5 0 128 128 16 1146)) (.leaf (slP 5 0 128 128 16 1226)))))) (.node 128 (.node 64 (.node 32 (.node 16 (.leaf (slP 5 0 128 128 16 1306)) (.leaf (slP 5 0 128 128 16 1386))) (.node 16 (.leaf (slP 5 0 128 128 16 1466)) (.leaf (slP 5 0 128 128 16 1546)))) (.node 32 (.node 16 (.leaf (slP 5 0 128 128 16 1626)) (.leaf (slP 5 0 128 128 16 1706))) (.node 16 (.leaf (slP 5 0 128 128 16 1786)) (.leaf (slP 5 0 128 128 16 1866))))) (.node 64 (.node 32 (.node 16 (.leaf (slP 5 0 128 128 16 1946)) (.leaf (slP 5 0 128 128 16 2026))) (.node 16 (.leaf (slP 5 0 128 128 16 2106)) (.leaf (slP 5 0 128 128 16 2186)))) (.node 32 (.node 16 (.leaf (slP 5 0 128 128 16 2266)) (.leaf (slP 5 0 128 128 16 2346))) (.node 16 (.leaf (slP 5 0 128 128 16 2426)) (.leaf (slP 5 0 128 128 16 2506))))))) (.node 128 (.node 64 (.node 32 (.node 16 (.leaf (slP 5 0 128 128 16 2586)) (.leaf (slP 5 0 128 128 16 2666))) (.node 16 (.leaf (slP 5 0 128 128 16 2746)) (.leaf (slP 5 0 128 128 16 2826)))) (.node 32 (.node 16 (.leaf (slP 5 0 128 128 16 2906)) (.leaf (slP 5 0 128 128 16 2986))) (.node 16 (.leaf (slP 5 0 128 128 16 3066)) (.leaf (slP 5 0 128 128 16 3146))))) (.node 32 (.node 16 (.leaf (slP 5 0 128 128 16 3226)) (.leaf (slP 5 0 128 128 16 3306))) (.node 16 (.leaf (slP 5 0 128 128 16 3386)) (.leaf (slP 5 0 128 128 9 3466))))))]]),3509⟩
noncomputable def st3 : ASt := ⟨⟨60,39,(patS st2.fr.T [(5,vi 1046),(14,vi 1046),(17,vi 1045),(18,vi 1046),(23,.su 5253 0 1046 0 1046),(24,.sl 5256 0 128 128),(25,.sl 5257 0 1 1),(26,.su 5258 0 1047 0 1047),(33,.su 5250 0 1045 0 1045),(34,.sl 5254 0 1 1),(35,.su 5255 0 1046 0 1046)]),.no,[cd 60 [1,1,1,0,1,0,0,1,0,0,1],.inBlock 1,cd 60 [1,1,1,0,1,0,0,1,1],il 60 [1,1,1,0,1,0,0],.inBlock 0,cd 60 [1,1,1,1]],[],false,none,25⟩,(cat2 [] (drN 0 st2.cs)),
 addL (patL (kilL st2.H [(3505,1),(3508,1)]) [(25,mn 182 (([.su 5258 0 1047 0 1047,.su 5255 0 1046 0 1046,vi 0,.v (.slice none 0 0),vi 0,vi 0,vi 0,vb false])))]) 3509 (catL [repL [.dead,.dead,.mem 5 none (rz 128),.dead,.dead] 349,[.dead,
 .mem 183 (some 1) (.node 1024 (.node 512 (.node 256 (.node 128 (.node 64 (.node 32 (.node 16 (.leaf (zN (.v (.slice none 0 0)) 16)) (.leaf (zN (.v (.slice none 0 0)) 16))) (.node 16 (.leaf (zN (.v (.slice none 0 0)) 16)) (.leaf (zN (.v (.slice none 0 0)) 16)))) (.node 32 (.node 16 (.leaf (zN (.v (.slice none 0 0)) 16)) (.leaf (zN (.v (.slice none 0 0)) 16))) (.node 16 (.leaf (zN (.v (.slice none 0 0)) 16)) (.leaf (zN (.v (.slice none 0 0)) 16))))) (.node 64 (.node 32 (.node 16 (.leaf (zN (.v (.slice none 0 0)) 16)) (.leaf (zN (.v (.slice none 0 0)) 16))) (.node 16 (.leaf (zN (.v (.slice none 0 0)) 16)) (.leaf (zN (.v (.slice none 0 0)) 16)))) (.node 32 (.node 16 (.leaf (zN (.v (.slice none 0 0)) 16)) (.leaf (zN (.v (.slice none 0 0)) 16))) (.node 16 (.leaf (zN (.v (.slice none 0 0)) 16)) (.leaf (zN (.v (.slice none 0 0)) 16)))))) (.node 128 (.node 64 (.node 32 (.node 16 (.leaf (zN (.v (.slice none 0 0)) 16)) (.leaf (zN (.v (.slice none 0 0)) 16))) (.node 16 (.leaf (zN (.v (.slice none 0 0)) 16)) (.leaf (zN (.v (.slice none 0 0)) 16)))) (.node 32 (.node 16 (.leaf (zN (.v (.slice none 0 0)) 16)) (.leaf (zN (.v (.slice none 0 0)) 16))) (.node 16 (.leaf (zN (.v (.slice none 0 0)) 16)) (.leaf (zN (.v (.slice none 0 0)) 16))))) (.node 64 (.node 32 (.node 16 (.leaf (zN (.v (.slice none 0 0)) 16)) (.leaf (zN (.v (.slice none 0 0)) 16))) (.node 16 (.leaf (zN (.v (.slice none 0 0)) 16)) (.leaf (zN (.v (.slice none 0 0)) 16)))) (.node 32 (.node 16 (.leaf (zN (.v (.slice none 0 0)) 16)) (.leaf (zN (.v (.slice none 0 0)) 16))) (.node 16 (.leaf (zN (.v (.slice none 0 0)) 16)) (.leaf (zN (.v (.slice none 0 0)) 16))))))) (.node 256 (.node 128 (.node 64 (.node 32 (.node 16 (.leaf (zN (.v (.slice none 0 0)) 16)) (.leaf (zN (.v (.slice none 0 0)) 16))) (.node 16 (.leaf (zN (.v (.slice none 0 0)) 16)) (.leaf (zN (.v (.slice none 0 0)) 16)))) (.node 32 (.node 16 (.leaf (zN (.v (.slice none 0 0)) 16)) (.leaf (zN (.v (.slice none 0 0)) 16))) (.node 16 (.leaf (zN (.v (.slice none 0 0)) 16)) (.leaf (zN (.v (.slice none 0 0)) 16))))) (.node 64 (.node 32 (.node 16 (.leaf (zN (.v (.slice none 0 0)) 16)) (.leaf (zN (.v (.slice none 0 0)) 16))) (.node 16 (.leaf (zN (.v (.slice none 0 0)) 16)) (.leaf (zN (.v (.slice none 0 0)) 16)))) (.node 32 (.node 16 (.leaf (zN (.v (.slice none 0 0)) 16)) (.leaf (zN (.v (.slice none 0 0)) 16))) (.node 16 (.leaf (zN (.v (.slice none 0 0)) 16)) (.leaf (zN (.v (.slice none 0 0)) 16)))))) (.node 128 (.node 64 (.node 32 (.node 16 (.leaf (zN (.v (.slice none 0 0)) 16)) (.leaf (zN (.v (.slice none 0 0)) 16))) (.node 16 (.leaf (zN (.v (.slice none 0 0)) 16)) (.leaf (zN (.v (.slice none 0 0)) 16)))) (.node 32 (.node 16 (.leaf (zN (.v (.slice none 0 0)) 16)) (.leaf (zN (.v (.slice none 0 0)) 16))) (.node 16 (.leaf (zN (.v (.slice none 0 0)) 16)) (.leaf (zN (.v (.slice none 0 0)) 16))))) (.node 64 (.node 32 (.node 16 (.leaf (zN (.v (.slice none 0 0)) 16)) (.leaf (zN (.v (.slice none 0 0)) 16))) (.node 16 (.leaf (zN (.v (.slice none 0 0)) 16)) (.leaf (zN (.v (.slice none 0 0)) 16)))) (.node 32 (.node 16 (.leaf (zN (.v (.slice none 0 0)) 16)) (.leaf (zN (.v (.slice none 0 0)) 16))) (.node 16 (.leaf (zN (.v (.slice none 0 0)) 16)) (.leaf (zN (.v (.slice none 0 0)) 16)))))))) (.node 16 (.leaf (zN (.v (.slice none 0 0)) 16)) (.leaf (zN (.v (.slice none 0 0)) 6)))),
 .mem 5 none (rz 128),
 .dead,
 .mem 183 (some 1) (.node 1024 (.node 512 (.node 256 (.node 128 (.node 64 (.node 32 (.node 16 (.leaf (slP 5 0 128 128 16 26)) (.leaf (slP 5 0 128 128 16 106))) (.node 16 (.leaf (slP 5 0 128 128 16 186)) (.leaf (slP 5 0 128 128 16 266)))) (.node 32 (.node 16 (.leaf (slP 5 0 128 128 16 346)) (.leaf (slP 5 0 128 128 16 426))) (.node 16 (.leaf (slP 5 0 128 128 16 506)) (.leaf (slP 5 0 128 128 16 586))))) (.node 64 (.node 32 (.node 16 (.leaf (slP 5 0 128 128 16 666)) (.leaf (slP 5 0 128 128 16 746))) (.node 16 (.leaf (slP 5 0 128 128 16 826)) (.leaf (slP 5 0 128 128 16 906)))) (.node 32 (.node 16 (.leaf (slP 5 0 128 128 16 986)) (.leaf (slP 5 0 128 128 16 1066))) (.node 16 (.leaf (slP 5 0 128 128 16 1146)) (.leaf (slP 5 0 128 128 16 1226)))))) (.node 128 (.node 64 (.node 32 (.node 16 (.leaf (slP 5 0 128 128 16 1306)) (.leaf (slP 5 0 128 128 16 1386))) (.node 16 (.leaf (slP 5 0 128 128 16 1466)) (.leaf (slP 5 0 128 128 16 1546)))) (.node 32 (.node 16 (.leaf (slP 5 0 128 128 16 1626)) (.leaf (slP 5 0 128 128 16 1706))) (.node 16 (.leaf (slP 5 0 128 128 16 1786)) (.leaf (slP 5 0 128 128 16 1866))))) (.node 64 (.node 32 (.node 16 (.leaf (slP 5 0 128 128 16 1946)) (.leaf (slP 5 0 128 128 16 2026))) (.node 16 (.leaf (slP 5 0 128 128 16 2106)) (.leaf (slP 5 0 128 128 16 2186)))) (.node 32 (.node 16 (.leaf (slP 5 0 128 128 16 2266)) (.leaf (slP 5 0 128 128 16 2346))) (.node 16 (.leaf (slP 5 0 128 128 16 2426)) (.leaf (slP 5 0 128 128 16 2506))))))) (.node 256 (.node 128 (.node 64 (.node 32 (.node 16 (.leaf (slP 5 0 128 128 16 2586)) (.leaf (slP 5 0 128 128 16 2666))) (.node 16 (.leaf (slP 5 0 128 128 16 2746)) (.leaf (slP 5 0 128 128 16 2826)))) (.node 32 (.node 16 (.leaf (slP 5 0 128 128 16 2906)) (.leaf (slP 5 0 128 128 16 2986))) (.node 16 (.leaf (slP 5 0 128 128 16 3066)) (.leaf (slP 5 0 128 128 16 3146))))) (.node 64 (.node 32 (.node 16 (.leaf (slP 5 0 128 128 16 3226)) (.leaf (slP 5 0 128 128 16 3306))) (.node 16 (.leaf (slP 5 0 128 128 16 3386)) (.leaf (slP 5 0 128 128 16 3466)))) (.node 32 (.node 16 (.leaf (slP 5 0 128 128 16 3546)) (.leaf (slP 5 0 128 128 16 3626))) (.node 16 (.leaf (slP 5 0 128 128 16 3706)) (.leaf (slP 5 0 128 128 16 3786)))))) (.node 128 (.node 64 (.node 32 (.node 16 (.leaf (slP 5 0 128 128 16 3866)) (.leaf (slP 5 0 128 128 16 3946))) (.node 16 (.leaf (slP 5 0 128 128 16 4026)) (.leaf (slP 5 0 128 128 16 4106)))) (.node 32 (.node 16 (.leaf (slP 5 0 128 128 16 4186)) (.leaf (slP 5 0 128 128 16 4266))) (.node 16 (.leaf (slP 5 0 128 128 16 4346)) (.leaf (slP 5 0 128 128 16 4426))))) (.node 64 (.node 32 (.node 16 (.leaf (slP 5 0 128 128 16 4506)) (.leaf (slP 5 0 128 128 16 4586))) (.node 16 (.leaf (slP 5 0 128 128 16 4666)) (.leaf (slP 5 0 128 128 16 4746)))) (.node 32 (.node 16 (.leaf (slP 5 0 128 128 16 4826)) (.leaf (slP 5 0 128 128 16 4906))) (.node 16 (.leaf (slP 5 0 128 128 16 4986)) (.leaf (slP 5 0 128 128 16 5066)))))))) (.node 16 (.leaf (slP 5 0 128 128 16 5146)) (.leaf (slP 5 0 128 128 7 5226))))]]),5259⟩
noncomputable def st4 : ASt := ⟨⟨150,37,(patS .e [(0,.yl 6034),(1,.ptr 6032 0),(3,vi 36),(4,.su 6145 0 128 0 128),(5,vi 0),(6,.ptr 6027 0),(7,.ptr 6027 0),(8,.ptr 6027 2),(9,vi 400),(10,vi 36),(11,vb true),(12,vi 36),(13,.tup ([.su 6145 0 128 0 128,vi 0])),(14,.ptr 6027 0),(15,.ptr 6027 0),(16,.ptr 6027 0),(17,.ptr 24 0),(18,.ptr 6027 0),(19,.ptr 6027 0),(20,.ptr 6027 1),(21,vi 50),(22,vi 36),(23,vi 86),(24,.tup ([.su 6145 0 128 0 128,vi 0])),(25,.su 6145 0 128 0 128),(26,vi 0),(27,.yl 6034),(28,.su 6142 0 128 0 128),(29,vi 0),(30,vb true),(31,vb false),(32,vb false),(33,vi 0),(34,vb false),(35,vb false),(36,vi 36)]),.no,[cd 150 [1,0,0,1,1,0,0,1,1],.inBlock 1,cd 150 [1,0,0,1,1,1],il 150 [1,0,0],.inBlock 0],[],false,none,6035⟩,(cat2 [⟨61,43,(patS .e [(0,.ptr 24 0),(1,vi 50),(2,vi 400),(3,.v (.int .u64 1)),(7,.ptr 6026 0),(8,.v (.pointer none)),(9,vi 0),(10,.ptr 6028 0),(11,.ptr 6029 0),(12,.ptr 6030 0),(13,.ptr 6031 0),(16,vi 400),(17,vb false),(18,vb false),(19,vi 50),(20,vb false),(21,vb false),(22,.ptr 24 0),(23,vi 50),(24,vi 400),(25,.v (.int .u64 1)),(26,.agg ([.ptr 24 0,vi 50,vi 400,.v (.int .u64 1),.v (.slice none 0 0)])),(27,.ptr 6027 0),(28,.fn (.func 97) ([]) ([.ptr 6030 0,.ptr 6026 0,.ptr 6028 0])),(29,.ptr 6027 0),(30,.fn (.func 150) ([]) ([.ptr 6032 0]))]),.no,[.inRF 6034,.inBlock 0,cd 61 [1,0,1,1,1,1,1,1],.inScope (subC (bodyF Tryz.prog 61) [1,0])],[6033],false,none,6026⟩,
 ⟨32,117,(patS (frC st3 0).T [(7,.ptr 25 0),(8,vi 0),(28,.tup ([.ptr 25 0,vi 0])),(31,.tup ([.ptr 25 0,vi 0])),(32,.ptr 25 0),(33,vi 0),(34,vi 0),(35,vb false),(36,vb false),(37,vi 0),(38,vb false),(39,vb false),(41,.ptr 24 0),(42,.ptr 21 4),(43,vi 400)]),(rg 32 [1,1,1,1,0] 3),[cd 32 [1,1,1,1,1]],[],false,none,21⟩] (drN 1 st3.cs)),
 addL (patL (kilL st3.H [(5255,1),(5258,1)]) [(25,mn 182 (([.su 6023 0 1200 0 1200,.su 6025 0 1200 0 1200,vi 0,.v (.slice none 0 0),vi 0,vi 0,vi 0,vb false])))]) 5259 (catL [repL [.dead,.dead,.mem 5 none (rz 128),.dead,.dead] 152,[.dead,
 .dead,
 .mem 5 none (rz 128),
 .dead,
 .mem 183 (some 1) (.node 1024 (.node 512 (.node 256 (.node 128 (.node 64 (.node 32 (.node 16 (.leaf (slP 5 0 128 128 16 26)) (.leaf (slP 5 0 128 128 16 106))) (.node 16 (.leaf (slP 5 0 128 128 16 186)) (.leaf (slP 5 0 128 128 16 266)))) (.node 32 (.node 16 (.leaf (slP 5 0 128 128 16 346)) (.leaf (slP 5 0 128 128 16 426))) (.node 16 (.leaf (slP 5 0 128 128 16 506)) (.leaf (slP 5 0 128 128 16 586))))) (.node 64 (.node 32 (.node 16 (.leaf (slP 5 0 128 128 16 666)) (.leaf (slP 5 0 128 128 16 746))) (.node 16 (.leaf (slP 5 0 128 128 16 826)) (.leaf (slP 5 0 128 128 16 906)))) (.node 32 (.node 16 (.leaf (slP 5 0 128 128 16 986)) (.leaf (slP 5 0 128 128 16 1066))) (.node 16 (.leaf (slP 5 0 128 128 16 1146)) (.leaf (slP 5 0 128 128 16 1226)))))) (.node 128 (.node 64 (.node 32 (.node 16 (.leaf (slP 5 0 128 128 16 1306)) (.leaf (slP 5 0 128 128 16 1386))) (.node 16 (.leaf (slP 5 0 128 128 16 1466)) (.leaf (slP 5 0 128 128 16 1546)))) (.node 32 (.node 16 (.leaf (slP 5 0 128 128 16 1626)) (.leaf (slP 5 0 128 128 16 1706))) (.node 16 (.leaf (slP 5 0 128 128 16 1786)) (.leaf (slP 5 0 128 128 16 1866))))) (.node 64 (.node 32 (.node 16 (.leaf (slP 5 0 128 128 16 1946)) (.leaf (slP 5 0 128 128 16 2026))) (.node 16 (.leaf (slP 5 0 128 128 16 2106)) (.leaf (slP 5 0 128 128 16 2186)))) (.node 32 (.node 16 (.leaf (slP 5 0 128 128 16 2266)) (.leaf (slP 5 0 128 128 16 2346))) (.node 16 (.leaf (slP 5 0 128 128 16 2426)) (.leaf (slP 5 0 128 128 16 2506))))))) (.node 256 (.node 128 (.node 64 (.node 32 (.node 16 (.leaf (slP 5 0 128 128 16 2586)) (.leaf (slP 5 0 128 128 16 2666))) (.node 16 (.leaf (slP 5 0 128 128 16 2746)) (.leaf (slP 5 0 128 128 16 2826)))) (.node 32 (.node 16 (.leaf (slP 5 0 128 128 16 2906)) (.leaf (slP 5 0 128 128 16 2986))) (.node 16 (.leaf (slP 5 0 128 128 16 3066)) (.leaf (slP 5 0 128 128 16 3146))))) (.node 64 (.node 32 (.node 16 (.leaf (slP 5 0 128 128 16 3226)) (.leaf (slP 5 0 128 128 16 3306))) (.node 16 (.leaf (slP 5 0 128 128 16 3386)) (.leaf (slP 5 0 128 128 16 3466)))) (.node 32 (.node 16 (.leaf (slP 5 0 128 128 16 3546)) (.leaf (slP 5 0 128 128 16 3626))) (.node 16 (.leaf (slP 5 0 128 128 16 3706)) (.leaf (slP 5 0 128 128 16 3786)))))) (.node 128 (.node 64 (.node 32 (.node 16 (.leaf (slP 5 0 128 128 16 3866)) (.leaf (slP 5 0 128 128 16 3946))) (.node 16 (.leaf (slP 5 0 128 128 16 4026)) (.leaf (slP 5 0 128 128 16 4106)))) (.node 32 (.node 16 (.leaf (slP 5 0 128 128 16 4186)) (.leaf (slP 5 0 128 128 16 4266))) (.node 16 (.leaf (slP 5 0 128 128 16 4346)) (.leaf (slP 5 0 128 128 16 4426))))) (.node 64 (.node 32 (.node 16 (.leaf (slP 5 0 128 128 16 4506)) (.leaf (slP 5 0 128 128 16 4586))) (.node 16 (.leaf (slP 5 0 128 128 16 4666)) (.leaf (slP 5 0 128 128 16 4746)))) (.node 32 (.node 16 (.leaf (slP 5 0 128 128 16 4826)) (.leaf (slP 5 0 128 128 16 4906))) (.node 16 (.leaf (slP 5 0 128 128 16 4986)) (.leaf (slP 5 0 128 128 16 5066)))))))) (.node 128 (.node 64 (.node 32 (.node 16 (.leaf (slP 5 0 128 128 16 5146)) (.leaf (slP 5 0 128 128 16 5226))) (.node 16 (.leaf (slP 5 0 128 128 16 5306)) (.leaf (slP 5 0 128 128 16 5386)))) (.node 32 (.node 16 (.leaf (slP 5 0 128 128 16 5466)) (.leaf (slP 5 0 128 128 16 5546))) (.node 16 (.leaf (slP 5 0 128 128 16 5626)) (.leaf (slP 5 0 128 128 16 5706))))) (.node 32 (.node 16 (.leaf (slP 5 0 128 128 16 5786)) (.leaf (slP 5 0 128 128 16 5866))) (.leaf (slP 5 0 128 128 16 5946))))),
 .dead,
 .mem 183 (some 1) (.node 1024 (.node 512 (.node 256 (.node 128 (.node 64 (.node 32 (.node 16 (.leaf (zN (.v (.slice none 0 0)) 16)) (.leaf (zN (.v (.slice none 0 0)) 16))) (.node 16 (.leaf (zN (.v (.slice none 0 0)) 16)) (.leaf (zN (.v (.slice none 0 0)) 16)))) (.node 32 (.node 16 (.leaf (zN (.v (.slice none 0 0)) 16)) (.leaf (zN (.v (.slice none 0 0)) 16))) (.node 16 (.leaf (zN (.v (.slice none 0 0)) 16)) (.leaf (zN (.v (.slice none 0 0)) 16))))) (.node 64 (.node 32 (.node 16 (.leaf (zN (.v (.slice none 0 0)) 16)) (.leaf (zN (.v (.slice none 0 0)) 16))) (.node 16 (.leaf (zN (.v (.slice none 0 0)) 16)) (.leaf (zN (.v (.slice none 0 0)) 16)))) (.node 32 (.node 16 (.leaf (zN (.v (.slice none 0 0)) 16)) (.leaf (zN (.v (.slice none 0 0)) 16))) (.node 16 (.leaf (zN (.v (.slice none 0 0)) 16)) (.leaf (zN (.v (.slice none 0 0)) 16)))))) (.node 128 (.node 64 (.node 32 (.node 16 (.leaf (zN (.v (.slice none 0 0)) 16)) (.leaf (zN (.v (.slice none 0 0)) 16))) (.node 16 (.leaf (zN (.v (.slice none 0 0)) 16)) (.leaf (zN (.v (.slice none 0 0)) 16)))) (.node 32 (.node 16 (.leaf (zN (.v (.slice none 0 0)) 16)) (.leaf (zN (.v (.slice none 0 0)) 16))) (.node 16 (.leaf (zN (.v (.slice none 0 0)) 16)) (.leaf (zN (.v (.slice none 0 0)) 16))))) (.node 64 (.node 32 (.node 16 (.leaf (zN (.v (.slice none 0 0)) 16)) (.leaf (zN (.v (.slice none 0 0)) 16))) (.node 16 (.leaf (zN (.v (.slice none 0 0)) 16)) (.leaf (zN (.v (.slice none 0 0)) 16)))) (.node 32 (.node 16 (.leaf (zN (.v (.slice none 0 0)) 16)) (.leaf (zN (.v (.slice none 0 0)) 16))) (.node 16 (.leaf (zN (.v (.slice none 0 0)) 16)) (.leaf (zN (.v (.slice none 0 0)) 16))))))) (.node 256 (.node 128 (.node 64 (.node 32 (.node 16 (.leaf (zN (.v (.slice none 0 0)) 16)) (.leaf (zN (.v (.slice none 0 0)) 16))) (.node 16 (.leaf (zN (.v (.slice none 0 0)) 16)) (.leaf (zN (.v (.slice none 0 0)) 16)))) (.node 32 (.node 16 (.leaf (zN (.v (.slice none 0 0)) 16)) (.leaf (zN (.v (.slice none 0 0)) 16))) (.node 16 (.leaf (zN (.v (.slice none 0 0)) 16)) (.leaf (zN (.v (.slice none 0 0)) 16))))) (.node 64 (.node 32 (.node 16 (.leaf (zN (.v (.slice none 0 0)) 16)) (.leaf (zN (.v (.slice none 0 0)) 16))) (.node 16 (.leaf (zN (.v (.slice none 0 0)) 16)) (.leaf (zN (.v (.slice none 0 0)) 16)))) (.node 32 (.node 16 (.leaf (zN (.v (.slice none 0 0)) 16)) (.leaf (zN (.v (.slice none 0 0)) 16))) (.node 16 (.leaf (zN (.v (.slice none 0 0)) 16)) (.leaf (zN (.v (.slice none 0 0)) 16)))))) (.node 128 (.node 64 (.node 32 (.node 16 (.leaf (zN (.v (.slice none 0 0)) 16)) (.leaf (zN (.v (.slice none 0 0)) 16))) (.node 16 (.leaf (zN (.v (.slice none 0 0)) 16)) (.leaf (zN (.v (.slice none 0 0)) 16)))) (.node 32 (.node 16 (.leaf (zN (.v (.slice none 0 0)) 16)) (.leaf (zN (.v (.slice none 0 0)) 16))) (.node 16 (.leaf (zN (.v (.slice none 0 0)) 16)) (.leaf (zN (.v (.slice none 0 0)) 16))))) (.node 64 (.node 32 (.node 16 (.leaf (zN (.v (.slice none 0 0)) 16)) (.leaf (zN (.v (.slice none 0 0)) 16))) (.node 16 (.leaf (zN (.v (.slice none 0 0)) 16)) (.leaf (zN (.v (.slice none 0 0)) 16)))) (.node 32 (.node 16 (.leaf (zN (.v (.slice none 0 0)) 16)) (.leaf (zN (.v (.slice none 0 0)) 16))) (.node 16 (.leaf (zN (.v (.slice none 0 0)) 16)) (.leaf (zN (.v (.slice none 0 0)) 16)))))))) (.node 128 (.node 64 (.node 32 (.node 16 (.leaf (zN (.v (.slice none 0 0)) 16)) (.leaf (zN (.v (.slice none 0 0)) 16))) (.node 16 (.leaf (zN (.v (.slice none 0 0)) 16)) (.leaf (zN (.v (.slice none 0 0)) 16)))) (.node 32 (.node 16 (.leaf (zN (.v (.slice none 0 0)) 16)) (.leaf (zN (.v (.slice none 0 0)) 16))) (.node 16 (.leaf (zN (.v (.slice none 0 0)) 16)) (.leaf (zN (.v (.slice none 0 0)) 16))))) (.node 32 (.node 16 (.leaf (zN (.v (.slice none 0 0)) 16)) (.leaf (zN (.v (.slice none 0 0)) 16))) (.leaf (zN (.v (.slice none 0 0)) 16))))),
 mn 113 (([.v (.int .u64 1)])),
 mn 185 (([.ptr 24 0,vi 50,vi 400,.v (.int .u64 1),.v (.slice none 0 0)])),
 mn 87 (([.ptr 6027 0])),
 mn 39 (([vi 0])),
 mn 4 (([vb false])),
 mn 188 (([.fn (.func 97) ([]) ([.ptr 6030 0,.ptr 6026 0,.ptr 6028 0])])),
 mn 87 (([.ptr 6027 0])),
 .dfd true,
 .loop .ready none 61 43 (patS .e [(0,.ptr 24 0),(1,vi 50),(2,vi 400),(3,.v (.int .u64 1)),(7,.ptr 6026 0),(8,.v (.pointer none)),(9,vi 0),(10,.ptr 6028 0),(11,.ptr 6029 0),(12,.ptr 6030 0),(13,.ptr 6031 0),(16,vi 400),(17,vb false),(18,vb false),(19,vi 50),(20,vb false),(21,vb false),(22,.ptr 24 0),(23,vi 50),(24,vi 400),(25,.v (.int .u64 1)),(26,.agg ([.ptr 24 0,vi 50,vi 400,.v (.int .u64 1),.v (.slice none 0 0)])),(27,.ptr 6027 0),(28,.fn (.func 97) ([]) ([.ptr 6030 0,.ptr 6026 0,.ptr 6028 0])),(29,.ptr 6027 0),(30,.fn (.func 150) ([]) ([.ptr 6032 0]))]) [31,32] (subC (bodyF Tryz.prog 61) [1,0,1,1,1,1,1,0,1,0,0]) (subC (bodyF Tryz.prog 61) [1,0,1,1,1,1,1,0,1,0,1]) 6033],deadL 110,[.mem 5 (some 1) (lz 128)]]),6146⟩
noncomputable def st5 : ASt := ⟨⟨150,37,(patS st4.fr.T [(3,vi 101),(4,.su 6340 0 128 0 128),(10,vi 101),(12,vi 101),(13,.tup ([.su 6340 0 128 0 128,vi 0])),(22,vi 101),(23,vi 151),(24,.tup ([.su 6340 0 128 0 128,vi 0])),(25,.su 6340 0 128 0 128),(28,.su 6340 0 128 0 128),(36,vi 101)]),(rg 150 [1,0,0,1,1,0,0,1,1,0] 8),[cd 150 [1,0,0,1,1,0,0,1,1,1],.inBlock 1,cd 150 [1,0,0,1,1,1],il 150 [1,0,0],.inBlock 0],[],false,none,6035⟩,(cat2 [] (drN 0 st4.cs)),
 addL (patL (kilL st4.H [(6145,1)]) []) 6146 (catL [deadL 195]),6341⟩
noncomputable def st6 : ASt := ⟨⟨150,37,(patS st5.fr.T [(3,vi 167),(4,.su 6538 0 128 0 128),(10,vi 167),(12,vi 167),(13,.tup ([.su 6538 0 128 0 128,vi 0])),(22,vi 167),(23,vi 217),(24,.tup ([.su 6538 0 128 0 128,vi 0])),(25,.su 6538 0 128 0 128),(28,.su 6535 0 128 0 128),(36,vi 167)]),.no,[cd 150 [1,0,0,1,1,0,0,1,1],.inBlock 1,cd 150 [1,0,0,1,1,1],il 150 [1,0,0],.inBlock 0],[],false,none,6035⟩,(cat2 [] (drN 0 st5.cs)),
 addL (patL (kilL st5.H []) []) 6341 (catL [deadL 197,[.mem 5 (some 1) (lz 128)]]),6539⟩
noncomputable def st7 : ASt := ⟨⟨150,37,(patS st6.fr.T [(3,vi 232),(4,.su 6733 0 128 0 128),(10,vi 232),(12,vi 232),(13,.tup ([.su 6733 0 128 0 128,vi 0])),(22,vi 232),(23,vi 282),(24,.tup ([.su 6733 0 128 0 128,vi 0])),(25,.su 6733 0 128 0 128),(28,.su 6733 0 128 0 128),(36,vi 232)]),(rg 150 [1,0,0,1,1,0,0,1,1,0] 8),[cd 150 [1,0,0,1,1,0,0,1,1,1],.inBlock 1,cd 150 [1,0,0,1,1,1],il 150 [1,0,0],.inBlock 0],[],false,none,6035⟩,(cat2 [] (drN 0 st6.cs)),
 addL (patL (kilL st6.H [(6538,1)]) []) 6539 (catL [deadL 195]),6734⟩
noncomputable def st8 : ASt := ⟨⟨150,37,(patS st7.fr.T [(3,vi 298),(4,.su 6931 0 128 0 128),(10,vi 298),(12,vi 298),(13,.tup ([.su 6931 0 128 0 128,vi 0])),(22,vi 298),(23,vi 348),(24,.tup ([.su 6931 0 128 0 128,vi 0])),(25,.su 6931 0 128 0 128),(28,.su 6928 0 128 0 128),(36,vi 298)]),.no,[cd 150 [1,0,0,1,1,0,0,1,1],.inBlock 1,cd 150 [1,0,0,1,1,1],il 150 [1,0,0],.inBlock 0],[],false,none,6035⟩,(cat2 [] (drN 0 st7.cs)),
 addL (patL (kilL st7.H []) []) 6734 (catL [deadL 197,[.mem 5 (some 1) (lz 128)]]),6932⟩
noncomputable def st9 : ASt := ⟨⟨150,37,(patS st8.fr.T [(3,vi 363),(4,.su 7126 0 128 0 128),(10,vi 363),(12,vi 363),(13,.tup ([.su 7126 0 128 0 128,vi 0])),(22,vi 363),(23,vi 413),(24,.tup ([.su 7126 0 128 0 128,vi 0])),(25,.su 7126 0 128 0 128),(28,.su 7126 0 128 0 128),(36,vi 363)]),(rg 150 [1,0,0,1,1,0,0,1,1,0] 8),[cd 150 [1,0,0,1,1,0,0,1,1,1],.inBlock 1,cd 150 [1,0,0,1,1,1],il 150 [1,0,0],.inBlock 0],[],false,none,6035⟩,(cat2 [] (drN 0 st8.cs)),
 addL (patL (kilL st8.H [(6931,1)]) []) 6932 (catL [deadL 195]),7127⟩
noncomputable def st10 : ASt := ⟨⟨32,117,(patS (frC st9 1).T [(44,.tup ([.ptr 6027 0,vi 0]))]),(rg 32 [1,1,1,1,0] 4),[cd 32 [1,1,1,1,1]],[],false,none,21⟩,(cat2 [] (drN 2 st9.cs)),
 addL (patL (kilL st9.H [(6026,1),(6028,7)]) []) 7127 (catL [deadL 108]),7235⟩
noncomputable def st11 : ASt := ⟨⟨62,81,(patS .e [(0,.ptr 25 0),(1,vi 50),(2,vi 400),(3,.v (.int .u64 1)),(8,.v (.pointer none)),(9,vi 0),(10,.ptr 7235 0),(11,vb true),(12,vi 181),(13,.su 7417 0 128 0 128),(14,vi 0),(15,.v (.int .u64 0)),(16,.v (.int .u64 0)),(17,.s0),(18,vi 80),(19,vi 400),(20,vb false),(21,vb false),(22,vi 50),(23,vb false),(24,vb false),(25,.ptr 25 0),(26,vi 50),(27,vi 400),(28,.v (.int .u64 1)),(29,.agg ([.ptr 25 0,vi 50,vi 400,.v (.int .u64 1),.v (.slice none 0 0)])),(30,.ptr 7235 0),(31,vi 181),(32,vi 400),(33,vb true),(34,vi 180),(35,vi 181),(36,.tup ([.su 7417 0 128 0 128,vi 0])),(37,.ptr 25 0),(38,vi 50),(39,vi 181),(40,vi 231),(41,.tup ([.su 7417 0 128 0 128,vi 0])),(42,.su 7417 0 128 0 128),(43,vi 0),(44,vi 0),(45,vb false),(47,.tup ([.v (.int .u64 0),.v (.int .u64 0),.s0,vi 80])),(48,.su 7417 0 128 0 128),(49,.tup ([.v (.int .u64 0),.v (.int .u64 0),.s0,vi 80])),(50,.v (.int .u64 0)),(51,.v (.int .u64 0)),(52,.s0),(53,vi 80),(54,vi 80),(55,vb true),(56,vb true),(57,.v (.tuple #[])),(58,.v (.tuple #[])),(59,.v (.tuple #[])),(60,vb true),(61,vb true),(62,.v (.tuple #[])),(63,.v (.tuple #[])),(64,.v (.tuple #[])),(65,.v (.tuple #[])),(66,.v (.tuple #[])),(67,vb true),(68,vb true),(69,vb false)]),(rg 62 [1,1,1,1,0,1,0,0,1,0,0,1,1,1,0,0] 10),[cd 62 [1,1,1,1,0,1,0,0,1,0,0,1,1,1,0,1],cd 62 [1,1,1,1,0,1,0,0,1,0,0,1,1,1,1],.inBlock 1,cd 62 [1,1,1,1,0,1,0,0,1,1],il 62 [1,1,1,1,0,1,0,0],.inBlock 0,cd 62 [1,1,1,1,1]],[],false,none,7235⟩,(cat2 [⟨32,117,(patS st10.fr.T [(9,.ptr 6027 0),(10,vi 0),(40,.tup ([.ptr 6027 0,vi 0])),(45,.ptr 6027 0),(46,vi 0),(48,.ptr 25 0),(49,.ptr 21 4),(50,vi 400)]),(rg 32 [1,1,1,1,1,0] 3),[cd 32 [1,1,1,1,1,1]],[],false,none,21⟩] (drN 0 st10.cs)),
 addL (patL (kilL st10.H []) []) 7235 (catL [[mn 193 (([.ptr 25 0,vi 50,vi 400,.v (.int .u64 1),.v (.slice none 0 0)]))],deadL 182]),7418⟩
noncomputable def st12 : ASt := ⟨⟨62,81,(patS st11.fr.T [(12,vi 363),(13,.su 7599 0 128 0 128),(31,vi 363),(34,vi 362),(35,vi 363),(36,.tup ([.su 7599 0 128 0 128,vi 0])),(39,vi 363),(40,vi 413),(41,.tup ([.su 7599 0 128 0 128,vi 0])),(42,.su 7599 0 128 0 128),(48,.su 7599 0 128 0 128)]),(rg 62 [1,1,1,1,0,1,0,0,1,0,0,1,1,1,0,0] 10),[cd 62 [1,1,1,1,0,1,0,0,1,0,0,1,1,1,0,1],cd 62 [1,1,1,1,0,1,0,0,1,0,0,1,1,1,1],.inBlock 1,cd 62 [1,1,1,1,0,1,0,0,1,1],il 62 [1,1,1,1,0,1,0,0],.inBlock 0,cd 62 [1,1,1,1,1]],[],false,none,7235⟩,(cat2 [] (drN 0 st11.cs)),
 addL (patL (kilL st11.H []) []) 7418 (catL [deadL 182]),7600⟩
noncomputable def st13 : ASt := ⟨⟨68,149,(patS .e [(0,.ptr 7937 0),(1,.agg ([vi 8,vi 1,vi 2,vb false,vi 400,vi 1200])),(2,.sl 20 0 4 4),(4,.ptr 7938 0),(6,vb false),(7,vi 13),(8,vi 0),(9,.ptr 7939 0),(10,vi 0),(11,.ptr 7967 0),(12,vi 0),(15,.ptr 7938 1),(16,vi 1),(17,vi 13),(18,.sl 20 0 4 4),(19,vi 4),(20,vi 0),(21,vb true),(22,vi 0),(23,.tup ([.agg ([.v (.string ⟨#[]⟩),vi 1,vi 1,.su 7966 0 1 0 1,vi 450,vi 1]),vi 0])),(24,.ptr 7937 0),(25,.ptr 7937 0),(26,.ptr 7937 1),(27,.ptr 7664 0),(28,.ptr 7643 0),(29,.sl 20 0 4 4),(30,vi 0),(31,.ptr 20 0),(32,.ptr 20 0),(33,vi 1),(34,.sl 20 0 4 4),(35,vi 0),(36,.ptr 20 0),(37,.ptr 20 1),(38,.sl 3 0 1 1),(39,.tup ([.agg ([.v (.string ⟨#[]⟩),vi 1,vi 1,.su 7966 0 1 0 1,vi 450,vi 1]),vi 0])),(40,.agg ([.v (.string ⟨#[]⟩),vi 1,vi 1,.su 7966 0 1 0 1,vi 450,vi 1])),(41,vi 0),(42,.tup ([.agg ([.v (.string ⟨#[]⟩),vi 1,vi 1,.su 7970 0 1 0 1,vi 450,vi 1]),vi 0])),(43,.ptr 7937 0),(44,.ptr 7937 0),(45,.ptr 7937 3),(46,.ptr 7711 0),(47,.ptr 7711 0),(48,.ptr 7711 0),(49,.ptr 7653 0),(50,.sl 20 0 4 4),(51,vi 0),(52,.ptr 20 0),(53,.ptr 20 0),(54,vi 1),(55,.sl 20 0 4 4),(56,vi 0),(57,.ptr 20 0),(58,.ptr 20 1),(59,.sl 3 0 1 1),(60,.tup ([.agg ([.v (.string ⟨#[]⟩),vi 1,vi 1,.su 7970 0 1 0 1,vi 450,vi 1]),vi 0])),(61,.agg ([.v (.string ⟨#[]⟩),vi 1,vi 1,.su 7970 0 1 0 1,vi 450,vi 1])),(62,vi 0)]),.no,[cd 68 [1,1,0,1,0,0,1,1,0,0,1,1,1],.inBlock 1,cd 68 [1,1,0,1,0,0,1,1,1],il 68 [1,1,0,1,0,0],.inBlock 0,cd 68 [1,1,1]],[],false,none,7938⟩,(cat2 [⟨32,117,(patS .e [(0,.agg ([vi 8,vi 1,vi 2,vb false,vi 400,vi 1200])),(1,.sl 20 0 4 4),(2,.ptr 21 0),(4,.v (.pointer none)),(5,.ptr 24 0),(6,vi 0),(7,.ptr 25 0),(8,vi 0),(9,.ptr 6027 0),(10,vi 0),(11,.ptr 7235 0),(12,vi 0),(13,.ptr 7643 0),(14,vi 0),(15,.ptr 7653 0),(16,vi 0),(17,.ptr 7664 0),(18,vi 0),(19,.ptr 7711 0),(20,vi 0),(21,.ptr 7937 0),(22,.tup ([.ptr 24 0,vi 0])),(23,.ptr 21 5),(24,vi 1200),(25,.tup ([.ptr 24 0,vi 0])),(26,.ptr 24 0),(27,vi 0),(28,.tup ([.ptr 25 0,vi 0])),(29,.ptr 21 5),(30,vi 1200),(31,.tup ([.ptr 25 0,vi 0])),(32,.ptr 25 0),(33,vi 0),(34,vi 0),(35,vb false),(36,vb false),(37,vi 0),(38,vb false),(39,vb false),(40,.tup ([.ptr 6027 0,vi 0])),(41,.ptr 24 0),(42,.ptr 21 4),(43,vi 400),(44,.tup ([.ptr 6027 0,vi 0])),(45,.ptr 6027 0),(46,vi 0),(47,.tup ([.ptr 7235 0,vi 0])),(48,.ptr 25 0),(49,.ptr 21 4),(50,vi 400),(51,.tup ([.ptr 7235 0,vi 0])),(52,.ptr 7235 0),(53,vi 0),(54,.tup ([.ptr 7643 0,vi 0])),(55,.ptr 24 0),(56,.agg ([vi 8,vi 1,vi 2,vb false,vi 400,vi 1200])),(57,.agg (catL [[.v (.int .u64 1),vi 8,vi 1,vi 2,vb false,vi 400,vi 1200,.v (.slice none 0 0)],uN .i64 5 1,[.v (.int .u32 0)]])),(58,.tup ([.ptr 7643 0,vi 0])),(59,.ptr 7643 0),(60,vi 0),(61,.tup ([.ptr 7653 0,vi 0])),(62,.ptr 25 0),(63,.agg ([vi 8,vi 1,vi 2,vb false,vi 400,vi 1200])),(64,.agg (catL [[.v (.int .u64 1),vi 8,vi 1,vi 2,vb false,vi 400,vi 1200,.v (.slice none 0 0)],uN .i64 5 1,[.v (.int .u32 0)]])),(65,.tup ([.ptr 7653 0,vi 0])),(66,.ptr 7653 0),(67,vi 0),(68,vi 0),(69,vb false),(70,vb false),(71,vi 0),(72,vb false),(73,vb false),(74,vb false),(75,vi 0),(76,vb false),(77,vb false),(78,vb false),(79,vi 0),(80,vb false),(81,vb false),(82,.tup ([.ptr 7664 0,vi 0])),(83,.ptr 7643 0),(84,.ptr 6027 0),(85,.tup ([.ptr 7664 0,vi 0])),(86,.ptr 7664 0),(87,vi 0),(88,.tup ([.ptr 7711 0,vi 0])),(89,.ptr 7653 0),(90,.ptr 7235 0),(91,.tup ([.ptr 7711 0,vi 0])),(92,.ptr 7711 0),(93,vi 0),(94,vi 0),(95,vb false),(96,vb false),(97,vi 0),(98,vb false),(99,vb false),(100,.ptr 24 0),(101,.ptr 7664 0),(102,.ptr 25 0),(103,.ptr 7711 0),(104,.agg ([.ptr 24 0,.ptr 7664 0,.ptr 25 0,.ptr 7711 0])),(105,.ptr 7937 0),(106,.ptr 7664 0),(107,.ptr 7643 0),(108,vb false),(109,vb false),(110,.ptr 7937 0),(111,.agg ([vi 8,vi 1,vi 2,vb false,vi 400,vi 1200])),(112,.sl 20 0 4 4)]),(rg 32 [1,1,1,1,1,1,1,1,1,1,1,1,1,0,0] 7),[cd 32 [1,1,1,1,1,1,1,1,1,1,1,1,1,0,1],cd 32 [1,1,1,1,1,1,1,1,1,1,1,1,1,1]],[],false,none,21⟩] (drN 1 st12.cs)),
 addL (patL (kilL st12.H [(21,1),(276,1)]) [(22,.mem 349 none (.node 76800 (.node 38400 (.node 19200 (.node 9600 (.node 4800 (rz 4800) (.node 2400 (.node 1200 (rz 1200) (.node 600 (.node 300 (rz 300) (.node 150 (.node 75 (rz 75) (.node 37 (.node 18 (rz 18) (lu 19 22300745198530623162093550468306498700181504)) (.node 19 (lu 19 18518801667747479552) (lz 19)))) (.node 75 (.node 37 (.node 18 (lz 18) (lz 19)) (.node 19 (lz 19) (lu 19 20282409603651670532316941189120))) (.node 37 (.node 18 (lc ([u8 3 65536,z8 15])) (rz 19)) (rz 38))))) (rz 600))) (rz 2400))) (rz 9600)) (rz 19200)) (rz 38400)) (rz 76800))),
 (23,.map [] 1),
 (24,mn 179 (([.sl 22 0 1200 1200,.mp 23,vi 0,.v (.slice none 0 0),vi 0,vi 0,vi 1,vb false]))),
 (25,mn 182 (([.su 6023 0 1200 0 1200,.su 6025 0 1200 0 1200,vi 0,.v (.slice none 0 0),vi 0,vi 0,vi 1,vb false]))),
 (6023,.mem 183 (some 1) (.node 1024 (.node 512 (.node 256 (.node 128 (.node 64 (.node 32 (.node 16 (.leaf (slP 5 0 128 128 16 26)) (.leaf (slP 5 0 128 128 16 106))) (.node 16 (.leaf (slP 5 0 128 128 16 186)) (lc ([[.sl 266 0 128 128,.sl 271 0 128 128,.su 7933 0 128 0 128],slP 5 0 128 128 13 281])))) (.node 32 (.node 16 (.leaf (slP 5 0 128 128 16 346)) (.leaf (slP 5 0 128 128 16 426))) (.node 16 (.leaf (slP 5 0 128 128 16 506)) (.leaf (slP 5 0 128 128 16 586))))) (.node 64 (.node 32 (.node 16 (.leaf (slP 5 0 128 128 16 666)) (.leaf (slP 5 0 128 128 16 746))) (.node 16 (.leaf (slP 5 0 128 128 16 826)) (.leaf (slP 5 0 128 128 16 906)))) (.node 32 (.node 16 (.leaf (slP 5 0 128 128 16 986)) (.leaf (slP 5 0 128 128 16 1066))) (.node 16 (.leaf (slP 5 0 128 128 16 1146)) (.leaf (slP 5 0 128 128 16 1226)))))) (.node 128 (.node 64 (.node 32 (.node 16 (.leaf (slP 5 0 128 128 16 1306)) (.leaf (slP 5 0 128 128 16 1386))) (.node 16 (.leaf (slP 5 0 128 128 16 1466)) (.leaf (slP 5 0 128 128 16 1546)))) (.node 32 (.node 16 (.leaf (slP 5 0 128 128 16 1626)) (.leaf (slP 5 0 128 128 16 1706))) (.node 16 (.leaf (slP 5 0 128 128 16 1786)) (.leaf (slP 5 0 128 128 16 1866))))) (.node 64 (.node 32 (.node 16 (.leaf (slP 5 0 128 128 16 1946)) (.leaf (slP 5 0 128 128 16 2026))) (.node 16 (.leaf (slP 5 0 128 128 16 2106)) (.leaf (slP 5 0 128 128 16 2186)))) (.node 32 (.node 16 (.leaf (slP 5 0 128 128 16 2266)) (.leaf (slP 5 0 128 128 16 2346))) (.node 16 (.leaf (slP 5 0 128 128 16 2426)) (.leaf (slP 5 0 128 128 16 2506))))))) (.node 256 (.node 128 (.node 64 (.node 32 (.node 16 (.leaf (slP 5 0 128 128 16 2586)) (.leaf (slP 5 0 128 128 16 2666))) (.node 16 (.leaf (slP 5 0 128 128 16 2746)) (.leaf (slP 5 0 128 128 16 2826)))) (.node 32 (.node 16 (.leaf (slP 5 0 128 128 16 2906)) (.leaf (slP 5 0 128 128 16 2986))) (.node 16 (.leaf (slP 5 0 128 128 16 3066)) (.leaf (slP 5 0 128 128 16 3146))))) (.node 64 (.node 32 (.node 16 (.leaf (slP 5 0 128 128 16 3226)) (.leaf (slP 5 0 128 128 16 3306))) (.node 16 (.leaf (slP 5 0 128 128 16 3386)) (.leaf (slP 5 0 128 128 16 3466)))) (.node 32 (.node 16 (.leaf (slP 5 0 128 128 16 3546)) (.leaf (slP 5 0 128 128 16 3626))) (.node 16 (.leaf (slP 5 0 128 128 16 3706)) (.leaf (slP 5 0 128 128 16 3786)))))) (.node 128 (.node 64 (.node 32 (.node 16 (.leaf (slP 5 0 128 128 16 3866)) (.leaf (slP 5 0 128 128 16 3946))) (.node 16 (.leaf (slP 5 0 128 128 16 4026)) (.leaf (slP 5 0 128 128 16 4106)))) (.node 32 (.node 16 (.leaf (slP 5 0 128 128 16 4186)) (.leaf (slP 5 0 128 128 16 4266))) (.node 16 (.leaf (slP 5 0 128 128 16 4346)) (.leaf (slP 5 0 128 128 16 4426))))) (.node 64 (.node 32 (.node 16 (.leaf (slP 5 0 128 128 16 4506)) (.leaf (slP 5 0 128 128 16 4586))) (.node 16 (.leaf (slP 5 0 128 128 16 4666)) (.leaf (slP 5 0 128 128 16 4746)))) (.node 32 (.node 16 (.leaf (slP 5 0 128 128 16 4826)) (.leaf (slP 5 0 128 128 16 4906))) (.node 16 (.leaf (slP 5 0 128 128 16 4986)) (.leaf (slP 5 0 128 128 16 5066)))))))) (.node 128 (.node 64 (.node 32 (.node 16 (.leaf (slP 5 0 128 128 16 5146)) (.leaf (slP 5 0 128 128 16 5226))) (.node 16 (.leaf (slP 5 0 128 128 16 5306)) (.leaf (slP 5 0 128 128 16 5386)))) (.node 32 (.node 16 (.leaf (slP 5 0 128 128 16 5466)) (.leaf (slP 5 0 128 128 16 5546))) (.node 16 (.leaf (slP 5 0 128 128 16 5626)) (.leaf (slP 5 0 128 128 16 5706))))) (.node 32 (.node 16 (.leaf (slP 5 0 128 128 16 5786)) (.leaf (slP 5 0 128 128 16 5866))) (.leaf (slP 5 0 128 128 16 5946)))))),
 (6027,mn 185 (([.ptr 24 0,vi 50,vi 400,.v (.int .u64 1),.su 7710 0 1 0 1]))),
 (7235,mn 193 (([.ptr 25 0,vi 50,vi 400,.v (.int .u64 1),.su 7936 0 1 0 1])))]) 7600 (catL [deadL 43,[mn 137 (([.ptr 24 0,vi 8,vi 1,vi 2,vb false,vi 400,vi 1200,.ptr 7646 0,.su 7962 0 1 0 1,vi 2,.ptr 7644 0,vi 0,.fn (.func 104) ([]) ([])])),
 mn 247 (([vi 8,.ifc 202 (.agg ([.ptr 7643 0])),.v (.slice none 0 0)])),
 .dead,
 mn 354 (([vb true,vi 450,vi 1200,.su 7960 0 1 0 1]))],deadL 6,[mn 208 (([.ptr 25 0,vi 8,vi 1,vi 2,vb false,vi 400,vi 1200,.ptr 7656 0,.su 7976 0 1 0 1,vi 2,.v (.slice none 0 0),vi 0,vi 1073741824,vi 0])),
 .dead,
 .mem 4 none (.node 375 (.node 187 (.node 93 (.node 46 (.node 23 (lc ([[vb true],zN (vb false) 22])) (.rep (vb false) 23)) (.rep (vb false) 47)) (.rep (vb false) 94)) (.rep (vb false) 188)) (.rep (vb false) 375)),
 mn 364 (([vi 450,.sl 7655 0 750 750])),
 .dead,
 .map [] 0,
 mn 295 (([vb false,.v (.slice none 0 0),.mp 7658]))],deadL 4,[mn 91 (([.ptr 7643 0,.ptr 6027 0,.ptr 7659 0,vi 0,.v (.slice none 0 0),vi 0]))],deadL 43,[.mem 5 (some 1) (lc ([u8 1 1,z8 16])),
 .dead,
 ms 183 1 (([.su 7708 0 17 0 17])),
 mn 215 (([.ptr 7653 0,.ptr 7235 0,.v (.slice none 0 0),vi 0,.v (.slice none 0 0),vi 0]))],deadL 221,[.mem 5 (some 1) (lc ([u8 21 1467210628101726757728227461603902345270473607761,z8 87,u8 20 5708990770823839524542628887619325615909357791])),
 .mem 5 (some 1) (lc ([u8 1 1,z8 16])),
 .dead,
 ms 183 1 (([.su 7934 0 17 0 17])),
 mn 72 (([.ptr 24 0,.ptr 7664 0,.ptr 25 0,.ptr 7711 0])),
 .dead,
 mn 46 (([.v (.string ⟨#[]⟩),vi 1,vi 1,.su 7966 0 1 0 1,vi 450,vi 1])),
 .dead,
 .dead,
 .dead,
 ms 3 1 (([vi 5]))],deadL 16,[ms 255 2 (([vi 450,vi 1])),
 .dead,
 ms 46 6 (([.v (.string ⟨#[]⟩),vi 1,vi 1,.su 7943 0 1 0 1,vi 450,vi 1])),
 .dead,
 .dead,
 .dead,
 ms 3 1 (([vi 5])),
 mn 46 (([.v (.string ⟨#[]⟩),vi 1,vi 1,.su 7970 0 1 0 1,vi 450,vi 1])),
 .dead,
 .dead,
 ms 3 1 (([vi 5]))],deadL 5,[ms 46 6 (([.v (.string ⟨#[]⟩),vi 1,vi 1,.su 7970 0 1 0 1,vi 450,vi 1]))]]),7977⟩
noncomputable def st14 : ASt := ⟨⟨68,149,(patS st13.fr.T [(13,vi 0),(14,.su 5 0 5 0 5),(63,vi 0),(64,vb false),(65,vb false),(66,vi 0),(67,vb false),(68,vb false),(69,vb false),(70,.agg ([.v (.string ⟨#[]⟩),vi 1,vi 1,.su 7966 0 1 0 1,vi 450,vi 1])),(71,.agg ([.v (.string ⟨#[]⟩),vi 1,vi 1,.su 7970 0 1 0 1,vi 450,vi 1])),(72,vb true),(73,vb false),(74,vb false),(75,vi 0),(76,.ptr 7967 5),(77,vi 1),(78,vb true),(81,.sl 20 0 4 4),(82,vi 0),(83,.ptr 20 0),(84,.ptr 20 2),(85,.su 5 0 5 0 5),(86,vi 0),(87,vi 13),(88,vi 0),(89,vi 0),(90,vi 1),(91,vi 13),(92,vi 13),(93,.sl 20 0 4 4),(94,vi 0),(95,.ptr 20 0),(96,.ptr 20 2),(97,.su 5 0 5 0 5),(98,vi 5),(99,vi 5),(100,.su 5 0 5 0 5),(101,.ptr 7937 0),(102,.ptr 7937 0),(103,.ptr 7937 1),(104,.ptr 7664 0),(105,.ptr 7643 0),(106,.ptr 7939 1),(107,vi 1),(108,vi 0),(109,.su 5 0 5 0 5),(110,vi 0),(111,vb false),(112,vb false),(113,.ptr 7937 0),(114,.ptr 7937 0),(115,.ptr 7937 3),(116,.ptr 7711 0),(117,.ptr 7711 0),(118,.ptr 7711 0),(119,.ptr 7653 0),(120,.ptr 7967 1),(121,vi 1),(122,vi 0),(123,.su 5 0 5 0 5),(124,vi 0),(125,vb false),(126,vb false)]),.no,[cd 68 [1,1,0,1,0,0,1,1,0,0,1,1,1,1,1,0,0,1,0,0,1,1],.inBlock 3,cd 68 [1,1,0,1,0,0,1,1,0,0,1,1,1,1,1,0,0,1,1],il 68 [1,1,0,1,0,0,1,1,0,0,1,1,1,1,1,0,0],.inBlock 2,.inBlock 1,cd 68 [1,1,0,1,0,0,1,1,1],il 68 [1,1,0,1,0,0],.inBlock 0,cd 68 [1,1,1]],[],false,none,7938⟩,(cat2 [] (drN 0 st13.cs)),
 addL (patL (kilL st13.H []) [(23,.map [(.int .i64 450,.agg (catL [u8 60 60971651373359223269832876863188028008175894613707678564786094872517738939079324117942472342278703264647357568798283511426836929662578646406225,z8 64,u8 4 1416845007]),1)] 2),
 (24,mn 179 (([.sl 22 0 1200 1200,.mp 23,vi 0,.v (.slice none 0 0),vi 0,vi 0,vi 2,vb false]))),
 (25,mn 182 (([.su 6023 0 1200 0 1200,.su 6025 0 1200 0 1200,vi 0,.v (.slice none 0 0),vi 0,vi 0,vi 2,vb false]))),
 (6025,.mem 183 (some 1) (.node 1024 (.node 512 (.node 256 (.node 128 (.node 64 (.node 32 (.node 16 (.leaf (zN (.v (.slice none 0 0)) 16)) (.leaf (zN (.v (.slice none 0 0)) 16))) (.node 16 (.leaf (zN (.v (.slice none 0 0)) 16)) (.leaf (zN (.v (.slice none 0 0)) 16)))) (.node 32 (.node 16 (.leaf (zN (.v (.slice none 0 0)) 16)) (.leaf (zN (.v (.slice none 0 0)) 16))) (.node 16 (.leaf (zN (.v (.slice none 0 0)) 16)) (.leaf (zN (.v (.slice none 0 0)) 16))))) (.node 64 (.node 32 (.node 16 (.leaf (zN (.v (.slice none 0 0)) 16)) (.leaf (zN (.v (.slice none 0 0)) 16))) (.node 16 (.leaf (zN (.v (.slice none 0 0)) 16)) (.leaf (zN (.v (.slice none 0 0)) 16)))) (.node 32 (.node 16 (.leaf (zN (.v (.slice none 0 0)) 16)) (.leaf (zN (.v (.slice none 0 0)) 16))) (.node 16 (.leaf (zN (.v (.slice none 0 0)) 16)) (.leaf (zN (.v (.slice none 0 0)) 16)))))) (.node 128 (.node 64 (.node 32 (.node 16 (.leaf (zN (.v (.slice none 0 0)) 16)) (.leaf (zN (.v (.slice none 0 0)) 16))) (.node 16 (.leaf (zN (.v (.slice none 0 0)) 16)) (.leaf (zN (.v (.slice none 0 0)) 16)))) (.node 32 (.node 16 (.leaf (zN (.v (.slice none 0 0)) 16)) (.leaf (zN (.v (.slice none 0 0)) 16))) (.node 16 (.leaf (zN (.v (.slice none 0 0)) 16)) (.leaf (zN (.v (.slice none 0 0)) 16))))) (.node 64 (.node 32 (.node 16 (.leaf (zN (.v (.slice none 0 0)) 16)) (.leaf (zN (.v (.slice none 0 0)) 16))) (.node 16 (.leaf (zN (.v (.slice none 0 0)) 16)) (.leaf (zN (.v (.slice none 0 0)) 16)))) (.node 32 (.node 16 (lc ([[.v (.slice none 0 0),.v (.slice none 0 0),.su 8438 0 128 0 128],zN (.v (.slice none 0 0)) 13])) (.leaf (zN (.v (.slice none 0 0)) 16))) (.node 16 (.leaf (zN (.v (.slice none 0 0)) 16)) (.leaf (zN (.v (.slice none 0 0)) 16))))))) (.node 256 (.node 128 (.node 64 (.node 32 (.node 16 (.leaf (zN (.v (.slice none 0 0)) 16)) (.leaf (zN (.v (.slice none 0 0)) 16))) (.node 16 (.leaf (zN (.v (.slice none 0 0)) 16)) (.leaf (zN (.v (.slice none 0 0)) 16)))) (.node 32 (.node 16 (.leaf (zN (.v (.slice none 0 0)) 16)) (.leaf (zN (.v (.slice none 0 0)) 16))) (.node 16 (.leaf (zN (.v (.slice none 0 0)) 16)) (.leaf (zN (.v (.slice none 0 0)) 16))))) (.node 64 (.node 32 (.node 16 (.leaf (zN (.v (.slice none 0 0)) 16)) (.leaf (zN (.v (.slice none 0 0)) 16))) (.node 16 (.leaf (zN (.v (.slice none 0 0)) 16)) (.leaf (zN (.v (.slice none 0 0)) 16)))) (.node 32 (.node 16 (.leaf (zN (.v (.slice none 0 0)) 16)) (.leaf (zN (.v (.slice none 0 0)) 16))) (.node 16 (.leaf (zN (.v (.slice none 0 0)) 16)) (.leaf (zN (.v (.slice none 0 0)) 16)))))) (.node 128 (.node 64 (.node 32 (.node 16 (.leaf (zN (.v (.slice none 0 0)) 16)) (.leaf (zN (.v (.slice none 0 0)) 16))) (.node 16 (.leaf (zN (.v (.slice none 0 0)) 16)) (.leaf (zN (.v (.slice none 0 0)) 16)))) (.node 32 (.node 16 (.leaf (zN (.v (.slice none 0 0)) 16)) (.leaf (zN (.v (.slice none 0 0)) 16))) (.node 16 (.leaf (zN (.v (.slice none 0 0)) 16)) (.leaf (zN (.v (.slice none 0 0)) 16))))) (.node 64 (.node 32 (.node 16 (.leaf (zN (.v (.slice none 0 0)) 16)) (.leaf (zN (.v (.slice none 0 0)) 16))) (.node 16 (.leaf (zN (.v (.slice none 0 0)) 16)) (.leaf (zN (.v (.slice none 0 0)) 16)))) (.node 32 (.node 16 (.leaf (zN (.v (.slice none 0 0)) 16)) (.leaf (zN (.v (.slice none 0 0)) 16))) (.node 16 (.leaf (zN (.v (.slice none 0 0)) 16)) (.leaf (zN (.v (.slice none 0 0)) 16)))))))) (.node 128 (.node 64 (.node 32 (.node 16 (.leaf (zN (.v (.slice none 0 0)) 16)) (.leaf (zN (.v (.slice none 0 0)) 16))) (.node 16 (.leaf (zN (.v (.slice none 0 0)) 16)) (.leaf (zN (.v (.slice none 0 0)) 16)))) (.node 32 (.node 16 (.leaf (zN (.v (.slice none 0 0)) 16)) (.leaf (zN (.v (.slice none 0 0)) 16))) (.node 16 (.leaf (zN (.v (.slice none 0 0)) 16)) (.leaf (zN (.v (.slice none 0 0)) 16))))) (.node 32 (.node 16 (.leaf (zN (.v (.slice none 0 0)) 16)) (.leaf (zN (.v (.slice none 0 0)) 16))) (.leaf (zN (.v (.slice none 0 0)) 16)))))),
 (7644,mn 247 (([vi 8,.ifc 202 (.agg ([.ptr 7643 0])),.su 8010 0 0 0 1])))]) 7977 (catL [deadL 33,[ms 240 1 (([.v (.pointer none)]))],deadL 427,[.mem 5 (some 1) (lc ([u8 60 60971651373359223269832876863188028008175894613707678564786094872517738939079324117942472342278703264647357568798283511426836929662578646406225,z8 64,u8 4 1416845007]))]]),8439⟩
noncomputable def st15 : ASt := ⟨⟨68,149,(patS st14.fr.T [(8,vi 3),(9,.ptr 8918 0),(11,.ptr 8953 0),(14,.su 18 0 3 0 3),(20,vi 3),(22,vi 3),(23,.tup ([.agg ([.v (.string ⟨#[]⟩),vi 4,vi 2,.su 8952 0 1 0 1,vi 452,vi 1]),vi 0])),(30,vi 3),(31,.ptr 20 9),(32,.ptr 20 9),(33,vi 2),(35,vi 3),(36,.ptr 20 9),(37,.ptr 20 10),(38,.sl 19 0 1 1),(39,.tup ([.agg ([.v (.string ⟨#[]⟩),vi 4,vi 2,.su 8952 0 1 0 1,vi 452,vi 1]),vi 0])),(40,.agg ([.v (.string ⟨#[]⟩),vi 4,vi 2,.su 8952 0 1 0 1,vi 452,vi 1])),(42,.tup ([.agg ([.v (.string ⟨#[]⟩),vi 4,vi 2,.su 8956 0 1 0 1,vi 452,vi 1]),vi 0])),(51,vi 3),(52,.ptr 20 9),(53,.ptr 20 9),(54,vi 2),(56,vi 3),(57,.ptr 20 9),(58,.ptr 20 10),(59,.sl 19 0 1 1),(60,.tup ([.agg ([.v (.string ⟨#[]⟩),vi 4,vi 2,.su 8956 0 1 0 1,vi 452,vi 1]),vi 0])),(61,.agg ([.v (.string ⟨#[]⟩),vi 4,vi 2,.su 8956 0 1 0 1,vi 452,vi 1])),(70,.agg ([.v (.string ⟨#[]⟩),vi 4,vi 2,.su 8952 0 1 0 1,vi 452,vi 1])),(71,.agg ([.v (.string ⟨#[]⟩),vi 4,vi 2,.su 8956 0 1 0 1,vi 452,vi 1])),(76,.ptr 8953 5),(79,vi 0),(80,vi 1),(82,vi 3),(83,.ptr 20 9),(84,.ptr 20 11),(85,.su 18 0 3 0 3),(94,vi 3),(95,.ptr 20 9),(96,.ptr 20 11),(97,.su 18 0 3 0 3),(98,vi 3),(99,vi 3),(100,.su 18 0 3 0 3),(106,.ptr 8439 1),(107,vi 2),(109,.sl 7 0 2 2),(120,.ptr 8474 1),(121,vi 2),(123,.sl 7 0 2 2),(127,vi 3)]),.no,[cd 68 [1,1,0,1,0,0,1,1,0,0,1,1,1,1,1,0,0,1,0,0,1],.inBlock 3,cd 68 [1,1,0,1,0,0,1,1,0,0,1,1,1,1,1,0,0,1,1],il 68 [1,1,0,1,0,0,1,1,0,0,1,1,1,1,1,0,0],.inBlock 2,.inBlock 1,cd 68 [1,1,0,1,0,0,1,1,1],il 68 [1,1,0,1,0,0],.inBlock 0,cd 68 [1,1,1]],[],false,none,7938⟩,(cat2 [] (drN 0 st14.cs)),
 addL (patL (kilL st14.H [(7939,1),(7960,1),(7962,1),(7966,2),(7976,1)]) [(23,.map [(.int .i64 450,.agg (catL [u8 60 60971651373359223269832876863188028008175894613707678564786094872517738939079324117942472342278703264647357568798283511426836929662578646406225,z8 64,u8 4 1416845007]),1),(.int .i64 451,.agg (catL [u8 36 5828006676677187213179634887144785466730310609432747972080102868594147951861397804113,z8 88,u8 4 2844776227]),2)] 3),
 (24,mn 179 (([.sl 22 0 1200 1200,.mp 23,vi 0,.v (.slice none 0 0),vi 0,vi 0,vi 3,vb false]))),
 (25,mn 182 (([.su 6023 0 1200 0 1200,.su 6025 0 1200 0 1200,vi 0,.v (.slice none 0 0),vi 0,vi 0,vi 3,vb false]))),
 (6025,.mem 183 (some 1) (.node 1024 (.node 512 (.node 256 (.node 128 (.node 64 (.node 32 (.node 16 (.leaf (zN (.v (.slice none 0 0)) 16)) (.leaf (zN (.v (.slice none 0 0)) 16))) (.node 16 (.leaf (zN (.v (.slice none 0 0)) 16)) (.leaf (zN (.v (.slice none 0 0)) 16)))) (.node 32 (.node 16 (.leaf (zN (.v (.slice none 0 0)) 16)) (.leaf (zN (.v (.slice none 0 0)) 16))) (.node 16 (.leaf (zN (.v (.slice none 0 0)) 16)) (.leaf (zN (.v (.slice none 0 0)) 16))))) (.node 64 (.node 32 (.node 16 (.leaf (zN (.v (.slice none 0 0)) 16)) (.leaf (zN (.v (.slice none 0 0)) 16))) (.node 16 (.leaf (zN (.v (.slice none 0 0)) 16)) (.leaf (zN (.v (.slice none 0 0)) 16)))) (.node 32 (.node 16 (.leaf (zN (.v (.slice none 0 0)) 16)) (.leaf (zN (.v (.slice none 0 0)) 16))) (.node 16 (.leaf (zN (.v (.slice none 0 0)) 16)) (.leaf (zN (.v (.slice none 0 0)) 16)))))) (.node 128 (.node 64 (.node 32 (.node 16 (.leaf (zN (.v (.slice none 0 0)) 16)) (.leaf (zN (.v (.slice none 0 0)) 16))) (.node 16 (.leaf (zN (.v (.slice none 0 0)) 16)) (.leaf (zN (.v (.slice none 0 0)) 16)))) (.node 32 (.node 16 (.leaf (zN (.v (.slice none 0 0)) 16)) (.leaf (zN (.v (.slice none 0 0)) 16))) (.node 16 (.leaf (zN (.v (.slice none 0 0)) 16)) (.leaf (zN (.v (.slice none 0 0)) 16))))) (.node 64 (.node 32 (.node 16 (.leaf (zN (.v (.slice none 0 0)) 16)) (.leaf (zN (.v (.slice none 0 0)) 16))) (.node 16 (.leaf (zN (.v (.slice none 0 0)) 16)) (.leaf (zN (.v (.slice none 0 0)) 16)))) (.node 32 (.node 16 (lc ([[.v (.slice none 0 0),.v (.slice none 0 0),.su 8438 0 128 0 128,.su 8898 0 128 0 128],zN (.v (.slice none 0 0)) 12])) (.leaf (zN (.v (.slice none 0 0)) 16))) (.node 16 (.leaf (zN (.v (.slice none 0 0)) 16)) (.leaf (zN (.v (.slice none 0 0)) 16))))))) (.node 256 (.node 128 (.node 64 (.node 32 (.node 16 (.leaf (zN (.v (.slice none 0 0)) 16)) (.leaf (zN (.v (.slice none 0 0)) 16))) (.node 16 (.leaf (zN (.v (.slice none 0 0)) 16)) (.leaf (zN (.v (.slice none 0 0)) 16)))) (.node 32 (.node 16 (.leaf (zN (.v (.slice none 0 0)) 16)) (.leaf (zN (.v (.slice none 0 0)) 16))) (.node 16 (.leaf (zN (.v (.slice none 0 0)) 16)) (.leaf (zN (.v (.slice none 0 0)) 16))))) (.node 64 (.node 32 (.node 16 (.leaf (zN (.v (.slice none 0 0)) 16)) (.leaf (zN (.v (.slice none 0 0)) 16))) (.node 16 (.leaf (zN (.v (.slice none 0 0)) 16)) (.leaf (zN (.v (.slice none 0 0)) 16)))) (.node 32 (.node 16 (.leaf (zN (.v (.slice none 0 0)) 16)) (.leaf (zN (.v (.slice none 0 0)) 16))) (.node 16 (.leaf (zN (.v (.slice none 0 0)) 16)) (.leaf (zN (.v (.slice none 0 0)) 16)))))) (.node 128 (.node 64 (.node 32 (.node 16 (.leaf (zN (.v (.slice none 0 0)) 16)) (.leaf (zN (.v (.slice none 0 0)) 16))) (.node 16 (.leaf (zN (.v (.slice none 0 0)) 16)) (.leaf (zN (.v (.slice none 0 0)) 16)))) (.node 32 (.node 16 (.leaf (zN (.v (.slice none 0 0)) 16)) (.leaf (zN (.v (.slice none 0 0)) 16))) (.node 16 (.leaf (zN (.v (.slice none 0 0)) 16)) (.leaf (zN (.v (.slice none 0 0)) 16))))) (.node 64 (.node 32 (.node 16 (.leaf (zN (.v (.slice none 0 0)) 16)) (.leaf (zN (.v (.slice none 0 0)) 16))) (.node 16 (.leaf (zN (.v (.slice none 0 0)) 16)) (.leaf (zN (.v (.slice none 0 0)) 16)))) (.node 32 (.node 16 (.leaf (zN (.v (.slice none 0 0)) 16)) (.leaf (zN (.v (.slice none 0 0)) 16))) (.node 16 (.leaf (zN (.v (.slice none 0 0)) 16)) (.leaf (zN (.v (.slice none 0 0)) 16)))))))) (.node 128 (.node 64 (.node 32 (.node 16 (.leaf (zN (.v (.slice none 0 0)) 16)) (.leaf (zN (.v (.slice none 0 0)) 16))) (.node 16 (.leaf (zN (.v (.slice none 0 0)) 16)) (.leaf (zN (.v (.slice none 0 0)) 16)))) (.node 32 (.node 16 (.leaf (zN (.v (.slice none 0 0)) 16)) (.leaf (zN (.v (.slice none 0 0)) 16))) (.node 16 (.leaf (zN (.v (.slice none 0 0)) 16)) (.leaf (zN (.v (.slice none 0 0)) 16))))) (.node 32 (.node 16 (.leaf (zN (.v (.slice none 0 0)) 16)) (.leaf (zN (.v (.slice none 0 0)) 16))) (.leaf (zN (.v (.slice none 0 0)) 16)))))),
 (7643,mn 137 (([.ptr 24 0,vi 8,vi 1,vi 2,vb false,vi 400,vi 1200,.ptr 7646 0,.su 8948 0 4 0 4,vi 5,.ptr 7644 0,vi 0,.fn (.func 104) ([]) ([])]))),
 (7646,mn 354 (([vb true,vi 450,vi 1200,.su 8944 0 1 0 1]))),
 (7653,mn 208 (([.ptr 25 0,vi 8,vi 1,vi 2,vb false,vi 400,vi 1200,.ptr 7656 0,.su 8962 0 4 0 4,vi 5,.v (.slice none 0 0),vi 0,vi 1073741824,vi 0]))),
 (7655,.mem 4 none (.node 375 (.node 187 (.node 93 (.node 46 (.node 23 (lc ([[vb true,vb true,vb true],zN (vb false) 20])) (.rep (vb false) 23)) (.rep (vb false) 47)) (.rep (vb false) 94)) (.rep (vb false) 188)) (.rep (vb false) 375)))]) 8439 (catL [deadL 4,[ms 3 1 (([vi 1,vi 2]))],deadL 33,[ms 3 1 (([vi 1,vi 2]))],deadL 420,[.mem 5 (some 1) (lc ([u8 36 5828006676677187213179634887144785466730310609432747972080102868594147951861397804113,z8 88,u8 4 2844776227]))],deadL 4,[ms 3 1 (([vi 0]))],deadL 9,[ms 3 1 (([vi 0]))],deadL 4,[mn 46 (([.v (.string ⟨#[]⟩),vi 4,vi 2,.su 8952 0 1 0 1,vi 452,vi 1])),
 .dead,
 .dead,
 .dead,
 ms 3 1 (([vi 3]))],deadL 21,[ms 255 2 (([vi 450,vi 3])),
 .dead,
 .dead,
 .dead,
 .mem 46 (some 6) (.node 18 (.leaf ([.v (.string ⟨#[]⟩),vi 1,vi 1,.su 7943 0 1 0 1,vi 450,vi 1,.v (.string ⟨#[]⟩),vi 2,vi 1,.su 8443 0 2 0 2,vi 451,vi 1,.v (.string ⟨#[]⟩),vi 3,vi 1,.su 8903 0 1 0 1,vi 0,vi 0])) (.leaf ([.v (.string ⟨#[]⟩),vi 4,vi 2,.su 8922 0 1 0 1,vi 452,vi 1]))),
 .dead,
 .dead,
 .dead,
 ms 3 1 (([vi 3])),
 mn 46 (([.v (.string ⟨#[]⟩),vi 4,vi 2,.su 8956 0 1 0 1,vi 452,vi 1])),
 .dead,
 .dead,
 ms 3 1 (([vi 3]))],deadL 5,[.mem 46 (some 6) (.node 18 (.leaf ([.v (.string ⟨#[]⟩),vi 1,vi 1,.su 7970 0 1 0 1,vi 450,vi 1,.v (.string ⟨#[]⟩),vi 2,vi 1,.su 8477 0 2 0 2,vi 451,vi 1,.v (.string ⟨#[]⟩),vi 3,vi 1,.su 8913 0 1 0 1,vi 0,vi 0])) (.leaf ([.v (.string ⟨#[]⟩),vi 4,vi 2,.su 8956 0 1 0 1,vi 452,vi 1]))),
 .dead,
 .dead]]),8965⟩
noncomputable def st16 : ASt := ⟨⟨5,211,(patS (frC st15 2).T [(35,.ptr 7664 0)]),(rg 5 [1,0] 1),[cd 5 [1,1]],[],false,none,0⟩,(cat2 [] (drN 3 st15.cs)),
 addL (patL (kilS (kilL st15.H [(3,1),(5,3),(9,1),(18,3),(25,2),(6023,1),(6025,1),(7235,1),(7653,1),(7655,2),(7711,1),(7933,2),(7936,2),(7970,1),(8438,1),(8477,1),(8898,1),(8913,1),(8918,1),(8952,2),(8956,1),(8962,1)]) [(31,5,49,1),(281,5,1149,1)]) [(22,.mem 349 none (.node 76800 (.node 38400 (.node 19200 (.node 9600 (.node 4800 (rz 4800) (.node 2400 (.node 1200 (rz 1200) (.node 600 (.node 300 (rz 300) (.node 150 (.node 75 (rz 75) (.node 37 (.node 18 (rz 18) (lu 19 22300745198530623162093550468306498700181504)) (.node 19 (lu 19 18518801667747479552) (lz 19)))) (.node 75 (.node 37 (.node 18 (lz 18) (lz 19)) (.node 19 (lz 19) (lu 19 20282409603651670532316941189120))) (.node 37 (.node 18 (lc ([u8 3 65536,z8 15])) (rz 19)) (rz 38))))) (rz 600))) (rz 2400))) (rz 9600)) (rz 19200)) (.node 19200 (rz 19200) (.node 9600 (.node 4800 (.node 2400 (.node 1200 (.node 600 (.node 300 (.node 150 (.node 75 (.node 37 (.node 18 (lu 18 309485009821345068741645393) (lu 19 87112285931760246660790998951141597775104)) (.node 19 (lu 19 5192296858534827629093446282641408) (lc ([u8 4 83886080,z8 15])))) (.node 37 (.node 18 (lz 18) (lz 19)) (.node 19 (lc ([z8 12,u8 7 374183262639823])) (lu 19 680564733841876926963642703010955526145)))) (.node 75 (.node 37 (.node 18 (lu 18 60847228810955011276239800369152) (lz 19)) (.node 19 (lz 19) (lz 19))) (.node 37 (.node 18 (lz 18) (lu 19 682331771083032569754923367189541027840)) (.node 19 (lu 19 60847228810955011276239800369152) (lu 19 2185473029456001067987766195222158457539067904))))) (.node 150 (.node 75 (.node 37 (.node 18 (lz 18) (lz 19)) (.node 19 (lz 19) (lz 19))) (.node 37 (.node 18 (lu 18 2428336363801497567232) (rz 19)) (rz 38))) (rz 150))) (rz 600)) (rz 1200)) (rz 2400)) (rz 4800)) (rz 9600)))) (rz 76800))),
 (23,.map [] 4),
 (24,mn 179 (([.sl 22 0 1200 1200,.mp 23,vi 0,.v (.slice none 0 0),vi 0,vi 0,vi 4,vb false])))]) 8965 (catL [deadL 434]),9399⟩
noncomputable def st17 : ASt := ⟨⟨41,60,(patS .e [(0,.ptr 7664 0),(1,vi 1),(2,vi 0),(3,vi 2),(4,vb true),(10,.v (.slice none 0 0)),(11,vi 0),(12,.v (.slice none 0 0)),(13,vi 0),(20,vi 0),(21,vi 0),(22,vi 2),(23,vb true),(27,.ptr 7664 0),(28,vi 1),(29,vi 0),(30,vi 1),(31,.tup ([.agg ([vi 3,vi 1]),vi 0]))]),(rg 41 [1,1,0,1,0,0,1,0,0,0] 5),[cd 41 [1,1,0,1,0,0,1,0,0,1],.inBlock 1,cd 41 [1,1,0,1,0,0,1,1],il 41 [1,1,0,1,0,0],.inBlock 0,cd 41 [1,1,1]],[],false,none,9430⟩,(cat2 [⟨13,90,(patS .e [(0,.ptr 7664 0),(1,vi 1),(2,.agg ([vi 2,vi 2,vi 8,vb true])),(3,.ptr 9412 0),(4,.ptr 9413 0),(5,.ptr 9414 0),(6,.v (.slice none 0 0)),(7,vi 0),(8,vi 0),(9,.ptr 9416 0),(10,vb true),(11,vi 5),(13,vi 5),(14,.ptr 9424 0),(15,.ptr 9425 0),(16,vi 0),(17,vi 2),(21,.ptr 7664 0),(22,vb false),(23,vb false),(24,.ptr 7664 0),(25,.ptr 7643 0),(26,vb false),(27,vb false),(28,.agg ([vi 2,vi 2,vi 8,vb true])),(29,vi 0),(30,vi 0),(31,vb false),(33,.tup ([.agg ([.v (.string ⟨#[]⟩),vi 1,vi 1,.su 9423 0 1 0 1,vi 450,vi 1]),vb true])),(34,.ptr 7664 0),(35,.ptr 7643 0),(36,vi 1),(37,.tup ([.agg ([.v (.string ⟨#[]⟩),vi 1,vi 1,.su 9423 0 1 0 1,vi 450,vi 1]),vb true])),(38,.agg ([.v (.string ⟨#[]⟩),vi 1,vi 1,.su 9423 0 1 0 1,vi 450,vi 1])),(39,vb true),(40,vb true),(41,vb false),(42,.ptr 9416 3),(43,.su 9423 0 1 0 1),(44,vi 1),(45,vi 1),(46,vb false),(47,.ptr 9423 0),(48,vi 5),(49,vi 1),(50,vi 5),(51,vi 5),(52,vi 1),(53,vi 5),(54,.ptr 9414 0),(55,vi 2),(56,.fn (.func 74) ([]) ([.ptr 9426 0,.ptr 9427 0])),(57,vi 0),(58,vi 2),(60,.ptr 7664 0),(61,vi 1),(62,vi 0),(63,vi 2),(64,.ptr 9414 3),(65,vb true)]),(rg 13 [1,0,1,1,1,1,1,1,1,1,1,0,1,0,1,0,0] 6),[cd 13 [1,0,1,1,1,1,1,1,1,1,1,0,1,0,1,0,1],.inBlock 3],[],false,(some 9429),9430⟩,
 ⟨74,20,(patS .e [(0,.yl 9429),(1,.ptr 9426 0),(2,.ptr 9427 0),(4,vi 0),(5,vi 0),(6,vi 5),(7,vb true),(11,.yl 9429),(12,vi 0),(13,vi 5),(14,vi 0),(15,vi 2),(16,vi 2),(17,vi 2)]),(rg 74 [1,0,0,1,0,0,0] 7),[cd 74 [1,0,0,1,0,0,1],.inBlock 1,cd 74 [1,0,0,1,1],il 74 [1,0,0],.inBlock 0],[],false,none,9430⟩,
 ⟨13,90,(patS .e [(0,.ptr 7664 0),(1,vi 1),(2,.agg ([vi 2,vi 2,vi 8,vb true])),(3,.ptr 9412 0),(4,.ptr 9413 0),(5,.ptr 9414 0),(6,.v (.slice none 0 0)),(7,vi 0),(8,vi 0),(9,.ptr 9416 0),(10,vb true),(11,vi 5),(13,vi 5),(14,.ptr 9424 0),(15,.ptr 9425 0),(21,.ptr 7664 0),(22,vb false),(23,vb false),(24,.ptr 7664 0),(25,.ptr 7643 0),(26,vb false),(27,vb false),(28,.agg ([vi 2,vi 2,vi 8,vb true])),(29,vi 0),(30,vi 0),(31,vb false),(33,.tup ([.agg ([.v (.string ⟨#[]⟩),vi 1,vi 1,.su 9423 0 1 0 1,vi 450,vi 1]),vb true])),(34,.ptr 7664 0),(35,.ptr 7643 0),(36,vi 1),(37,.tup ([.agg ([.v (.string ⟨#[]⟩),vi 1,vi 1,.su 9423 0 1 0 1,vi 450,vi 1]),vb true])),(38,.agg ([.v (.string ⟨#[]⟩),vi 1,vi 1,.su 9423 0 1 0 1,vi 450,vi 1])),(39,vb true),(40,vb true),(41,vb false),(42,.ptr 9416 3),(43,.su 9423 0 1 0 1),(44,vi 1),(45,vi 1),(46,vb false),(47,.ptr 9423 0),(48,vi 5),(49,vi 1),(50,vi 5),(51,vi 5),(52,vi 1),(53,vi 5),(54,.ptr 9414 0),(55,vi 2),(56,.fn (.func 74) ([]) ([.ptr 9426 0,.ptr 9427 0]))]),.no,[.inRF 9429,.inBlock 2,cd 13 [1,0,1,1,1,1,1,1,1,1,1,1],.inScope (subC (bodyF Tryz.prog 13) [1,0])],[9428],false,none,9412⟩,
 ⟨20,51,(patS .e [(0,.ptr 7664 0),(1,vi 1),(2,.agg ([vi 2,vi 2,vi 8,vb true])),(5,.ptr 9410 0),(6,.ptr 9411 0),(7,vi 0),(14,.ptr 7664 0),(15,vi 1),(16,.agg ([vi 2,vi 2,vi 8,vb true]))]),(rg 20 [1,0] 3),[cd 20 [1,1]],[],false,none,9410⟩,
 ⟨17,41,(patS .e [(0,.ptr 7664 0),(1,vi 1),(2,.agg ([vi 2,vi 2,vi 8,vb true])),(5,.ptr 9400 0),(6,.ptr 9401 0),(7,vi 0),(8,.ptr 9409 0),(9,vb true),(10,.ptr 7664 0),(11,vb false),(12,vb false),(13,.ptr 7664 0),(14,.ptr 7643 0),(15,vb false),(16,vb false),(18,.tup ([.agg ([.v (.string ⟨#[]⟩),vi 1,vi 1,.su 9408 0 1 0 1,vi 450,vi 1]),vb true])),(19,.ptr 7664 0),(20,.ptr 7643 0),(21,vi 1),(22,.tup ([.agg ([.v (.string ⟨#[]⟩),vi 1,vi 1,.su 9408 0 1 0 1,vi 450,vi 1]),vb true])),(23,.agg ([.v (.string ⟨#[]⟩),vi 1,vi 1,.su 9408 0 1 0 1,vi 450,vi 1])),(24,vb true),(25,vb false),(26,vb true),(27,vb false),(29,vb false),(30,.ptr 9409 3),(31,.su 9408 0 1 0 1),(32,vi 1),(33,vb false),(35,.ptr 7664 0),(36,vi 1),(37,.agg ([vi 2,vi 2,vi 8,vb true]))]),(rg 17 [1,1,1,1,0] 3),[.code .ret],[],false,none,9400⟩,
 ⟨5,211,(patS st16.fr.T [(1,.ptr 7664 0),(36,.ptr 7664 0),(37,vb false),(39,.ptr 7664 0),(40,.agg ([vi 2,vi 2,vi 8,vb true]))]),(rg 5 [1,1,1,0] 2),[cd 5 [1,1,1,1]],[],false,none,0⟩] (drN 0 st16.cs)),
 addL (patL (kilL st16.H []) [(7644,mn 247 (([vi 8,.ifc 202 (.agg ([.ptr 7643 0])),.su 8010 0 1 0 1]))),
 (8010,ms 240 1 (([.ptr 9698 0])))]) 9399 (catL [[.dead,
 .dead,
 mn 46 (([.v (.string ⟨#[]⟩),vi 0,vi 0,.v (.slice none 0 0),vi 0,vi 0]))],deadL 8,[mn 31 (([vi 2,vi 2,vi 8,vb true])),
 mn 46 (([.v (.string ⟨#[]⟩),vi 0,vi 0,.v (.slice none 0 0),vi 0,vi 0])),
 mn 27 (([.ptr 7664 0])),
 mn 2 (([vi 1])),
 mn 31 (([vi 2,vi 2,vi 8,vb true])),
 .dead,
 mn 46 (([.v (.string ⟨#[]⟩),vi 1,vi 1,.su 9423 0 1 0 1,vi 450,vi 1]))],deadL 6,[ms 3 1 (([vi 5])),
 mn 38 (([.v (.slice none 0 0)])),
 mn 39 (([vi 0])),
 mn 3 (([vi 5])),
 mn 3 (([vi 2])),
 .dfd true,
 .loop .busy none 13 90 (patS .e [(0,.ptr 7664 0),(1,vi 1),(2,.agg ([vi 2,vi 2,vi 8,vb true])),(3,.ptr 9412 0),(4,.ptr 9413 0),(5,.ptr 9414 0),(6,.v (.slice none 0 0)),(7,vi 0),(8,vi 0),(9,.ptr 9416 0),(10,vb true),(11,vi 5),(13,vi 5),(14,.ptr 9424 0),(15,.ptr 9425 0),(21,.ptr 7664 0),(22,vb false),(23,vb false),(24,.ptr 7664 0),(25,.ptr 7643 0),(26,vb false),(27,vb false),(28,.agg ([vi 2,vi 2,vi 8,vb true])),(29,vi 0),(30,vi 0),(31,vb false),(33,.tup ([.agg ([.v (.string ⟨#[]⟩),vi 1,vi 1,.su 9423 0 1 0 1,vi 450,vi 1]),vb true])),(34,.ptr 7664 0),(35,.ptr 7643 0),(36,vi 1),(37,.tup ([.agg ([.v (.string ⟨#[]⟩),vi 1,vi 1,.su 9423 0 1 0 1,vi 450,vi 1]),vb true])),(38,.agg ([.v (.string ⟨#[]⟩),vi 1,vi 1,.su 9423 0 1 0 1,vi 450,vi 1])),(39,vb true),(40,vb true),(41,vb false),(42,.ptr 9416 3),(43,.su 9423 0 1 0 1),(44,vi 1),(45,vi 1),(46,vb false),(47,.ptr 9423 0),(48,vi 5),(49,vi 1),(50,vi 5),(51,vi 5),(52,vi 1),(53,vi 5),(54,.ptr 9414 0),(55,vi 2),(56,.fn (.func 74) ([]) ([.ptr 9426 0,.ptr 9427 0]))]) [57,58] (subC (bodyF Tryz.prog 13) [1,0,1,1,1,1,1,1,1,1,1,0,1,0,0]) (subC (bodyF Tryz.prog 13) [1,0,1,1,1,1,1,1,1,1,1,0,1,0,1]) 9428],deadL 267,[ms 2 1 ((uN .i64 5 21491745027)),
 mn 239 (([vi 1,vi 0,vi 1,.su 9697 0 5 0 5,vi 0,vb false,vi 0]))],deadL 13]),9712⟩
end Go.Proofs.YtlmpjdionndncaaGreatDoor.RMergeNames
