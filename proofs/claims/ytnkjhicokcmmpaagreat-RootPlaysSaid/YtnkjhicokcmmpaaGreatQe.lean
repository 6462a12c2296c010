/-
  Texts of this claim, laid together: Od, Oe, Of, Og, Ca, Seq, Cb, Cc, Cd, Ra, Rb, Rc, Rd, Re, Ya, Yb, Yd, Ty, Ka, Ja, Jb, Jc, Jd, Je, Cx, Ga, Gb, Gc, Tz, Gd, Ge, Gk, Tfz, Kb, Kc.
-/
import Derived.Test.YtnkjhicokcmmpaaGreatQd
import Derived.Laws.Bits64b
import Derived.Test.YtnkjhicokcmmpaaGreatQa
import Derived.Lib.SmallJoins
import Derived.Deep.RegionHeld3
import Derived.Deep.DeepCutAuto
import Derived.Test.YtnkjhicokcmmpaaGreatQc

/-
 The reader of bytes: the number that the next bytes are.
-/
namespace Go.Proofs.YtnkjhicokcmmpaaGreat
open Go.RowKit Go.Shelf
attribute [local go_sem] Oper.semAt_some
theorem ahead_in (n : Nat) (a : Option Addr) (w : World) :
   CallsIn Fence.wide n Tryz.prog 117 #[.pointer a] w fun e w' => e = .returned (.func (.func 133) #[] #[.pointer (some ⟨w.heap.size, 0, none⟩)]) ∧ w.alloc (.cells #[.pointer a] 134) = w' := by
 refine callsIn_of_wp Tryz.func117 rfl trivial ?_ rfl
 simp only [Tryz.ntmps117, List.size_toArray, List.length_cons, List.length_nil, Nat.reduceAdd, Nat.reduceSub, Array.replicate_succ, Array.replicate_zero, List.push_toArray, List.append_toArray, List.nil_append, List.cons_append]
 gi_wp2
 go_ret
 exact ⟨rfl, rfl⟩
theorem ahead_stops (n : Nat) (hn : 1 ≤ n) (Bs n₀ rb pos : Nat) (v : Value) (bs : List UInt8) (hpos : pos ≤ bs.length) (hlen : bs.length ≤ 1000000) (w : World)
   (hBs : Blk w Bs 134 [.pointer (some ⟨rb, 0, none⟩)]) (hR : RdAt w rb v bs pos) (hn0 : ∀ k, v.ownBlock = some k → k < n₀) :
   SeqStopsK Fence.wide n Tryz.prog 133 #[.pointer (some ⟨Bs, 0, none⟩)] (fun x : Nat × UInt8 => #[Value.int .i64 (x.1 : Nat), byt x.2]) (Below n₀) (fun ys => ys = toldAll (bs.drop pos)) (fun pre => pre <+: toldAll (bs.drop pos)) (bs.drop pos).length w := fun l J Jx W hW hJ _ hY h0 => by
 have hB' : Blk W Bs 134 [.pointer (some ⟨rb, 0, none⟩)] := (hW.block Bs hBs.lt).trans hBs
 have hR' : RdAt W rb v bs pos := hR.fr (S := fun k => w.heap.size ≤ k) ⟨hW.os, hW.tape, hW.output, hW.size, fun k hk hn => hW.block k hk⟩ (by have := hR.blk.lt; omega) (fun k hk => by have := hR.own.lt hk; omega)
 refine ahead1_in n hn l Bs n₀ rb pos v bs hpos hlen J Jx hY W hB' hR' hn0 (fun N => ?_)
 exact hJ [] W (W.drewN N) none h0 ⟨rfl, rfl, rfl, Nat.le_refl _, fun _ _ _ => rfl⟩ (fun k hk => by cases hk)
def wh (l : List UInt8) : Nat := l.foldl (fun n c => n * 256 + c.toNat) 0
def accS (m : Int) (c : UInt8) : Int := bits .or .u64 (IntKind.u64.wrap (m * 256)) (IntKind.u64.wrap (c.toNat : Int))
def accN (l : List (Nat × UInt8)) : Int := l.foldl (fun n x => accS n x.2) 0
theorem accN_snoc (l : List (Nat × UInt8)) (x : Nat × UInt8) : accN (l ++ [x]) = accS (accN l) x.2 := by simp [accN]
theorem wh_snoc (l : List UInt8) (c : UInt8) : wh (l ++ [c]) = wh l * 256 + c.toNat := by simp [wh]
theorem wh_lt (l : List UInt8) : wh l < 256 ^ l.length := by
 induction hn : l.length generalizing l with
 | zero =>
   have : l = [] := List.eq_nil_of_length_eq_zero hn
   subst this
   simp [wh]
 | succ n ih =>
   rcases List.eq_nil_or_concat l with rfl | ⟨l', c, rfl⟩
   · simp at hn
   · rw [List.concat_eq_append] at *
     simp at hn
     have h1 := ih l' hn
     have h2 : c.toNat < 256 := c.toNat_lt
     rw [wh_snoc, Nat.pow_succ]
     omega
theorem wrap_u64 (a : Nat) (h : a < 2 ^ 64) : IntKind.u64.wrap (a : Int) = a := by
 simp [IntKind.wrap, IntKind.signed, IntKind.bits]
 omega
theorem accS_nat (m : Nat) (c : UInt8) (hm : m < 2 ^ 56) : accS m c = ((m * 256 + c.toNat : Nat) : Int) := by
 have hc : c.toNat < 256 := c.toNat_lt
 unfold accS
 rw [show (m : Int) * 256 = ((m * 256 : Nat) : Int) by simp, wrap_u64 _ (by omega), wrap_u64 _ (by omega), bits_or_u64_nat _ _ (by omega) (by omega)]
 congr 1
 have := Nat.shiftLeft_add_eq_or_of_lt (i := 8) (b := c.toNat) hc m
 rw [Nat.shiftLeft_eq, show (2 : Nat) ^ 8 = 256 from rfl] at this
 omega
theorem accN_eq (l : List (Nat × UInt8)) : l.length ≤ 8 → accN l = (wh (l.map (·.2)) : Nat) := by
 induction hn : l.length generalizing l with
 | zero =>
   intro _
   have : l = [] := List.eq_nil_of_length_eq_zero hn
   subst this
   rfl
 | succ n ih =>
   intro h8
   rcases List.eq_nil_or_concat l with rfl | ⟨l', c, rfl⟩
   · simp at hn
   · rw [List.concat_eq_append] at *
     simp at hn
     have h1 := ih l' hn (by omega)
     have h2 := wh_lt (l'.map (·.2))
     rw [List.length_map, hn] at h2
     have h3 : 256 ^ n ≤ 256 ^ 7 := Nat.pow_le_pow_right (by decide) (by omega)
     rw [accN_snoc, h1, accS_nat _ _ (by omega), List.map_append]
     show _ = ((wh (l'.map (·.2) ++ [c.2]) : Nat) : Int)
     rw [wh_snoc]
theorem told_snd (l : List UInt8) (k : Nat) (hk : k ≤ l.length) : (told l k).map (·.2) = l.take k := by
 apply List.ext_getElem
 · simp [told]; omega
 · intro i h1 h2
   simp [told] at h1 ⊢
   have : i < l.length := by omega
   simp [this]
theorem told_mem (l : List UInt8) {k i : Nat} (hi : i < k) : (i, l[i]?.getD 0) ∈ told l k := List.mem_map.2 ⟨i, by simpa using hi, rfl⟩
theorem two_boxes {w W : World} {N1 N2 D : Nat} {T1 T2 : TypeId} {x1 x2 y1 y2 : Value} (h1 : Blk W N1 T1 [x1]) (h2 : Blk W N2 T2 [x2]) (hne : N1 ≠ N2) (hK : W.heap[D]? = some (.deferred (some []))) (hf : Fr (fun k => k = N1 ∨ k = N2) w W) (hD : w.heap.size ≤ D) (o : Obj) :
   (((W.setCell ⟨N1, 0, none⟩ y1).setCell ⟨N2, 0, none⟩ y2).drew).heap[D]? = some (.deferred (some [])) ∧ Blk ((((W.setCell ⟨N1, 0, none⟩ y1).setCell ⟨N2, 0, none⟩ y2).drew).putObj D o) N1 T1 [y1] ∧ Blk ((((W.setCell ⟨N1, 0, none⟩ y1).setCell ⟨N2, 0, none⟩ y2).drew).putObj D o) N2 T2 [y2] ∧ Fr (fun k => k = N1 ∨ k = N2) w ((((W.setCell ⟨N1, 0, none⟩ y1).setCell ⟨N2, 0, none⟩ y2).drew).putObj D o) := by
 have n1 := h1.neDef hK
 have n2 := h2.neDef hK
 have b1 : Blk (((W.setCell ⟨N1, 0, none⟩ y1).setCell ⟨N2, 0, none⟩ y2).drew) N1 T1 [y1] := ((h1.set 0 y1).other (by show N1 ≠ N2; exact hne) y2).drew
 have b2 : Blk (((W.setCell ⟨N1, 0, none⟩ y1).setCell ⟨N2, 0, none⟩ y2).drew) N2 T2 [y2] := ((h2.other (by show N2 ≠ N1; exact fun e => hne e.symm) y1).set 0 y2).drew
 have hk : (((W.setCell ⟨N1, 0, none⟩ y1).setCell ⟨N2, 0, none⟩ y2).drew).heap[D]? = some (.deferred (some [])) := by
   refine Eq.trans (Below.heap_setCell _ ⟨N2, 0, none⟩ y2 D (fun e => n2 e.symm)) ?_
   exact Eq.trans (Below.heap_setCell _ ⟨N1, 0, none⟩ y1 D (fun e => n1 e.symm)) hK
 refine ⟨hk, b1.putObj n1 o, b2.putObj n2 o, ?_⟩
 exact (((hf.setCell (p := ⟨N1, 0, none⟩) (.inl (.inl rfl)) y1).setCell (p := ⟨N2, 0, none⟩) (.inl (.inr rfl)) y2).drew).putObj (.inr hD) o
set_option maxRecDepth 100000 in
set_option maxHeartbeats 4000000 in
theorem number_any (rb pos size : Nat) (v : Value) (bs : List UInt8) (hpos : pos ≤ bs.length) (hlen : bs.length ≤ 1000000) (hs1 : 1 ≤ size) (hs8 : size ≤ 8) (w : World) (h : RdAt w rb v bs pos) :
   Calls Tryz.prog 100 #[.pointer (some ⟨rb, 0, none⟩), .int .i64 size] w fun e w' =>
     (∃ x : Int, e = .returned (.tuple #[.int .u64 x, .bool (decide (pos + size ≤ bs.length))]) ∧ (pos + size ≤ bs.length → x = wh ((bs.drop pos).take size))) ∧ Fr No w w' := by
 refine calls_of_marks Tryz.func100 rfl ?_
 simp only [Tryz.ntmps100, List.size_toArray, List.length_cons, List.length_nil, Nat.reduceAdd, Nat.reduceSub, Array.replicate_succ, Array.replicate_zero, List.push_toArray, List.append_toArray, List.nil_append, List.cons_append]
 go_wp2
 go_step3
 go_wp2
 go_step3
 go_wp2_with (go_at_call 117; refine (callsIn_wide.1 (ahead_in 5 _ _)).mono ?_; rintro e w1 ⟨rfl, rfl⟩)
 have hS : Blk ((((w.alloc (.cells #[.int .i64 size] 3)).alloc (.cells #[.int .u64 0] 32)).alloc (.cells #[.bool false] 4)).alloc (.cells #[.pointer (some ⟨rb, 0, none⟩)] 134)) w.heap.size 3 [.int .i64 size] := (((Blk.new w _ _).alloc _).alloc _).alloc _
 have hN : Blk ((((w.alloc (.cells #[.int .i64 size] 3)).alloc (.cells #[.int .u64 0] 32)).alloc (.cells #[.bool false] 4)).alloc (.cells #[.pointer (some ⟨rb, 0, none⟩)] 134)) (w.heap.size + 1) 32 [.int .u64 0] := by
   have := Blk.new (w.alloc (.cells #[.int .i64 size] 3)) 32 [.int .u64 0]
   rw [World.size_alloc] at this
   exact (this.alloc _).alloc _
 have hI : Blk ((((w.alloc (.cells #[.int .i64 size] 3)).alloc (.cells #[.int .u64 0] 32)).alloc (.cells #[.bool false] 4)).alloc (.cells #[.pointer (some ⟨rb, 0, none⟩)] 134)) (w.heap.size + 1 + 1) 4 [.bool false] := by
   have := Blk.new ((w.alloc (.cells #[.int .i64 size] 3)).alloc (.cells #[.int .u64 0] 32)) 4 [.bool false]
   rw [World.size_alloc, World.size_alloc] at this
   exact this.alloc _
 have hX : Blk ((((w.alloc (.cells #[.int .i64 size] 3)).alloc (.cells #[.int .u64 0] 32)).alloc (.cells #[.bool false] 4)).alloc (.cells #[.pointer (some ⟨rb, 0, none⟩)] 134)) (w.heap.size + 1 + 1 + 1) 134 [.pointer (some ⟨rb, 0, none⟩)] := by
   have := Blk.new (((w.alloc (.cells #[.int .i64 size] 3)).alloc (.cells #[.int .u64 0] 32)).alloc (.cells #[.bool false] 4)) 134 [.pointer (some ⟨rb, 0, none⟩)]
   rwa [World.size_alloc, World.size_alloc, World.size_alloc] at this
 have hfr1 : Fr No w ((((w.alloc (.cells #[.int .i64 size] 3)).alloc (.cells #[.int .u64 0] 32)).alloc (.cells #[.bool false] 4)).alloc (.cells #[.pointer (some ⟨rb, 0, none⟩)] 134)) := ((((Fr.refl No w).alloc _).alloc _).alloc _).alloc _
 generalize (((w.alloc (.cells #[.int .i64 size] 3)).alloc (.cells #[.int .u64 0] 32)).alloc (.cells #[.bool false] 4)).alloc (.cells #[.pointer (some ⟨rb, 0, none⟩)] 134) = w1 at *
 have h1 := h.no hfr1
 have hz := hX.lt
 have hrl := h.blk.lt
 have hvl : ∀ k, v.ownBlock = some k → k < w.heap.size := fun k hk => h.own.lt hk
 refine wp_range (gf := 133) (lb := #[.pointer (some ⟨w.heap.size + 1 + 1 + 1, 0, none⟩)]) rfl (enters_of Tryz.func133 (by kernel_rfl) rfl)
   (ahead_stops 4 (by omega) (w.heap.size + 1 + 1 + 1) w.heap.size rb pos v bs hpos hlen w1 hX h1 hvl) belowK_t (belowK_b (by omega)) (Below.refl _ _) (fun _ => rfl)
   (fun pre W => Blk W (w.heap.size + 1) 32 [.int .u64 (accN pre)] ∧ (∀ x ∈ pre, x.1 + 1 ≠ size) ∧ Fr (fun k => k = w.heap.size + 1) w1 W)
   (fun c pre W => c = .exit 0 ∧ ∃ pre' x, pre = pre' ++ [x] ∧ x.1 + 1 = size ∧ (∀ x ∈ pre', x.1 + 1 ≠ size) ∧ Blk W (w.heap.size + 1) 32 [.int .u64 (accN pre)] ∧ Blk W (w.heap.size + 1 + 1) 4 [.bool true] ∧ Fr (fun k => k = w.heap.size + 1 ∨ k = w.heap.size + 1 + 1) w1 W)
   ?hI ?hIx ⟨hN, by simp, Fr.refl _ _⟩ (fun x : Nat × UInt8 => { tmps := #[.pointer (some ⟨rb, 0, none⟩), .int .i64 size, undef, .pointer (some ⟨w.heap.size, 0, none⟩), .pointer (some ⟨w.heap.size + 1, 0, none⟩), .pointer (some ⟨w.heap.size + 1 + 1, 0, none⟩), .int .i64 (x.1 : Nat), byt x.2, .pointer (some ⟨rb, 0, none⟩), .func (.func 133) #[] #[.pointer (some ⟨w.heap.size + 1 + 1 + 1, 0, none⟩)], .int .i64 (x.1 : Nat), byt x.2, undef, undef, undef, undef, undef, undef, undef, undef, undef, undef, undef], defers := [] }) ?assign ?body ?done ?stop
 case hI =>
   rintro s A B row ⟨h1, h2, h3⟩ hg hr
   exact ⟨h1.fr ((Fr.refl (fun k => w1.heap.size ≤ k) A).grown hg (fun k hk => .inl (hr k hk).1)) (by omega), h2, h3.grown hg (fun k hk => .inr (hr k hk).1)⟩
 case hIx =>
   rintro cc s A B row ⟨h0, pre', x, h1, h2, h3, h4, h5, h6⟩ hg hr
   exact ⟨h0, pre', x, h1, h2, h3, h4.fr ((Fr.refl (fun k => w1.heap.size ≤ k) A).grown hg (fun k hk => .inl (hr k hk).1)) (by omega), h5.fr ((Fr.refl (fun k => w1.heap.size ≤ k) A).grown hg (fun k hk => .inl (hr k hk).1)) (by omega), h6.grown hg (fun k hk => .inr (hr k hk).1)⟩
 case assign =>
   intro ll x W K hK
   gi_wp2
   exact hK
 case body =>
   rintro ll pre x W ⟨hW1, hW2, hW3⟩ _
   have hb0 := hW1.cell (j := 0) rfl
   have hbf := hW1.free
   have hbl := hW1.lt
   have hSW := hS.fr hW3 (by omega)
   have hIW := hI.fr hW3 (by omega)
   have s0 := hSW.cell (j := 0) rfl
   have i0 := hIW.cell (j := 0) rfl
   have if' := hIW.free
   have il := hIW.lt
   have hw1 : IntKind.i64.wrap ((size : Int) - 1) = (size : Int) - 1 := by rw [IntKind.wrap_i64]; omega
   obtain ⟨i, c⟩ := x
   obtain ⟨m, hm⟩ : ∃ m, m = accN pre := ⟨_, rfl⟩
   rw [← hm] at hb0
   have HM := Lib.hid hm
   clear hm
   by_cases hi : i + 1 = size
   · have ht : ((i : Int) == (size : Int) - 1) = true := by simp; omega
     unfold byt
     gi_wp2
     refine ⟨((KeepsOthers.setCell _ _ _).trans (KeepsOthers.setCell _ _ _)), rfl, pre, (i, c), rfl, hi, hW2, ?_, ?_, ?_⟩
     · rw [accN_snoc, ← HM.out]
       exact (hW1.set 0 _).other (by show w.heap.size + 1 ≠ w.heap.size + 1 + 1; omega) _
     · exact (hIW.other (by show w.heap.size + 1 + 1 ≠ w.heap.size + 1; omega) _).set 0 _
     · exact ((hW3.mono (fun k hk => .inl hk)).setCell (p := ⟨w.heap.size + 1, 0, none⟩) (.inl (.inl rfl)) _).setCell (p := ⟨w.heap.size + 1 + 1, 0, none⟩) (.inl (.inr rfl)) _
   · have ht : ((i : Int) == (size : Int) - 1) = false := by simp; omega
     unfold byt
     gi_wp2
     refine ⟨KeepsOthers.setCell _ _ _, (Below.refl _ _).setCell (p := ⟨w.heap.size + 1, 0, none⟩) (by show w.heap.size ≤ w.heap.size + 1; omega) _, ?_, ?_, hW3.setCell (p := ⟨w.heap.size + 1, 0, none⟩) (.inl rfl) _⟩
     · rw [accN_snoc, ← HM.out]
       exact hW1.set 0 _
     · intro x hx
       rcases List.mem_append.1 hx with hx | hx
       · exact hW2 x hx
       · simp at hx; subst hx; exact hi
 case done =>
   rintro D ys W hD rfl ⟨hW1, hW2, hW3⟩ hK
   have hno : ¬ pos + size ≤ bs.length := by
     intro hle
     have h1 : size - 1 < (bs.drop pos).length := by rw [List.length_drop]; omega
     exact hW2 _ (told_mem (bs.drop pos) h1) (by show size - 1 + 1 = size; omega)
   have hb0 := hW1.cell (j := 0) rfl
   have hbf := hW1.free
   have hbl := hW1.lt
   have hIW := hI.fr hW3 (by omega)
   have i0 := hIW.cell (j := 0) rfl
   have if' := hIW.free
   have il := hIW.lt
   go_wp2
   go_region
   all_goals go_wp2
   all_goals
     rw [Exit.noGoto_ret]
     obtain ⟨hk2, q1, q2, q3⟩ := two_boxes hW1 hIW (by omega) hK (hW3.mono (fun k hk => .inl hk)) hD (.deferred none) (y1 := .int .u64 (accN (toldAll (List.drop pos bs)))) (y2 := .bool false)
     have z1 := q1.cell (j := 0) rfl
     have z2 := q2.cell (j := 0) rfl
     have l1 := q1.lt
     have l2 := q2.lt
     refine end_marks (v := .tuple #[.int .u64 (accN (toldAll (List.drop pos bs))), .bool false]) hk2 (by simp [results, Tryz.results100, go_sem, z1, z2]) ⟨⟨_, by rw [decide_eq_false hno], fun hc => absurd hc hno⟩, ?_⟩
     exact hfr1.trans q3 (fun k hk => .inr (by omega))
 case stop =>
   rintro D cc pre W hD hSp ⟨rfl, pre', x, rfl, hx, hpre, hW1, hIW, hW3⟩ hK
   have hpl := hSp.length_le
   obtain ⟨k, hk⟩ : ∃ k, pre' ++ [x] = told (bs.drop pos) k ∧ k ≤ (bs.drop pos).length := by
     refine ⟨(pre' ++ [x]).length, ?_, ?_⟩
     · have h2 := told_prefix (l := bs.drop pos) (k := (pre' ++ [x]).length) (by unfold toldAll at hpl; rwa [told_len] at hpl)
       exact (List.prefix_of_prefix_length_le hSp h2 (by rw [told_len]; exact Nat.le_refl _)).eq_of_length (by rw [told_len])
     · unfold toldAll at hpl; rwa [told_len] at hpl
   obtain ⟨hk, hkl⟩ := hk
   have hk1 : k = pre'.length + 1 := by
     have := congrArg List.length hk
     rw [told_len] at this
     simpa using this.symm
   have hxl : x = (pre'.length, (bs.drop pos)[pre'.length]?.getD 0) := by
     rw [hk1, told_succ] at hk
     have := List.append_inj_right hk (by rw [told_len])
     simpa using this
   have hsz : k = size := by rw [hxl] at hx; omega
   have hyes : pos + size ≤ bs.length := by rw [List.length_drop] at hkl; omega
   have hval : accN (pre' ++ [x]) = (wh ((bs.drop pos).take size) : Nat) := by
     rw [hk, accN_eq _ (by rw [told_len]; omega), told_snd _ _ hkl, hsz]
   have hb0 := hW1.cell (j := 0) rfl
   have hbf := hW1.free
   have hbl := hW1.lt
   have i0 := hIW.cell (j := 0) rfl
   have if' := hIW.free
   have il := hIW.lt
   have HV := Lib.hid hval
   clear hval hxl hk hSp
   generalize accN (pre' ++ [x]) = m at *
   go_wp2
   go_region
   all_goals go_wp2
   all_goals
     rw [Exit.noGoto_ret]
     obtain ⟨hk2, q1, q2, q3⟩ := two_boxes hW1 hIW (by omega) hK hW3 hD (.deferred none) (y1 := .int .u64 m) (y2 := .bool true)
     have z1 := q1.cell (j := 0) rfl
     have z2 := q2.cell (j := 0) rfl
     refine end_marks (v := .tuple #[.int .u64 m, .bool true]) hk2 (by simp [results, Tryz.results100, go_sem, z1, z2]) ⟨⟨_, by rw [decide_eq_true hyes], fun _ => HV.out⟩, ?_⟩
     exact hfr1.trans q3 (fun k hk => .inr (by omega))
end Go.Proofs.YtnkjhicokcmmpaaGreat
/-
 The reader of bytes: numbers, raw bytes, a new reader.
-/
namespace Go.Proofs.YtnkjhicokcmmpaaGreat
open Go.RowKit Go.Shelf
attribute [local go_sem] Oper.semAt_some
theorem rnone_no (rb pos : Nat) (v : Value) (bs : List UInt8) (w : World) (h : RdAt w rb v bs pos) :
   Calls Tryz.prog 98 #[.pointer (some ⟨rb, 0, none⟩)] w fun e w' => e = .returned (.bool false) ∧ w = w' := by
 have r2 := h.blk.cell (j := 2) rfl
 go_enter Tryz.func98, Tryz.ntmps98
 go_wp2
 go_ret
 exact ⟨rfl, rfl⟩
theorem rleft_any (rb pos : Nat) (v : Value) (bs : List UInt8) (hpos : pos ≤ bs.length) (hl : bs.length ≤ 1000000) (w : World) (h : RdAt w rb v bs pos) :
   Calls Tryz.prog 99 #[.pointer (some ⟨rb, 0, none⟩)] w fun e w' => e = .returned (.int .i64 ((bs.length - pos : Nat) : Int)) ∧ Fr No w w' := by
 have r0 := h.blk.cell (j := 0) rfl
 have r1 := h.blk.cell (j := 1) rfl
 obtain ⟨a, c, rfl⟩ := own_slice h.own
 have hw : IntKind.i64.wrap ((bs.length : Int) - (pos : Int)) = ((bs.length - pos : Nat) : Int) := by rw [IntKind.wrap_i64]; omega
 have hrl := h.blk.lt
 go_enter Tryz.func99, Tryz.ntmps99
 go_wp2_with (go_at_call 98; refine (rnone_no rb pos _ bs _ h).mono ?_; rintro e w1 ⟨rfl, rfl⟩)
 go_quiet (fail)
 go_wp2
 go_ret
 exact ⟨rfl, (Fr.refl No w).drewN _⟩
theorem RdAt.moved {w : World} {rb pos : Nat} {v : Value} {bs : List UInt8} (h : RdAt w rb v bs pos) (q : Nat) : RdAt (w.setCell ⟨rb, 1, none⟩ (.int .i64 q)) rb v bs q :=
 ⟨h.blk.set 1 _, h.own.other (fun e => h.ne _ e rfl) _⟩
set_option maxHeartbeats 1000000 in
theorem rnum_yes (rb pos size : Nat) (v : Value) (bs : List UInt8) (hpos : pos + size ≤ bs.length) (hl : bs.length ≤ 1000000) (hs : size = 1 ∨ size = 2 ∨ size = 4 ∨ size = 8) (w : World) (h : RdAt w rb v bs pos) :
   Calls Tryz.prog 79 #[.pointer (some ⟨rb, 0, none⟩), .int .i64 size] w fun e w' => e = .returned (.tuple #[.int .u64 (wh ((bs.drop pos).take size) : Nat), .int .i64 0]) ∧ RdAt w' rb v bs (pos + size) ∧ Fr (fun k => k = rb) w w' := by
 have hd : decide (pos + size ≤ bs.length) = true := decide_eq_true hpos
 have hw : IntKind.i64.wrap ((pos : Int) + (size : Int)) = ((pos + size : Nat) : Int) := by rw [IntKind.wrap_i64]; omega
 have HP := Lib.hid hpos
 clear hpos
 go_enter Tryz.func79, Tryz.ntmps79
 go_wp2_with (first | (go_at_call 98; refine (rnone_no rb pos _ bs _ h).mono ?_; rintro e w1 ⟨rfl, rfl⟩) | (go_at_call 89; refine (sized_yes _ hs _).mono ?_; rintro e w1 ⟨rfl, rfl⟩) | (go_at_call 100; refine (number_any rb pos size v bs (by have := HP.out; omega) hl (by omega) (by omega) _ h).mono ?_; rintro e w1 ⟨⟨x, rfl, hx⟩, hf1⟩; rw [hd]; have h1 := h.no hf1; have r1 := h1.blk.cell (j := 1) rfl; have rl := h1.blk.lt; have rf := h1.blk.free))
 go_ret2
 exact ⟨by rw [hx HP.out]; rfl, h1.moved (pos + size), (hf1.no_any (S := fun k => k = rb)).setCell (p := ⟨rb, 1, none⟩) (.inl rfl) _⟩
set_option maxHeartbeats 1000000 in
theorem rnum_no (rb pos size : Nat) (v : Value) (bs : List UInt8) (hpos : pos ≤ bs.length) (hno : ¬ pos + size ≤ bs.length) (hl : bs.length ≤ 1000000) (hs : size = 1 ∨ size = 2 ∨ size = 4 ∨ size = 8) (w : World) (h : RdAt w rb v bs pos) :
   Calls Tryz.prog 79 #[.pointer (some ⟨rb, 0, none⟩), .int .i64 size] w fun e w' => e = .returned (.tuple #[.int .u64 0, .int .i64 10]) ∧ Fr No w w' := by
 have hd : decide (pos + size ≤ bs.length) = false := decide_eq_false hno
 have HN := Lib.hid hno
 clear hno
 go_enter Tryz.func79, Tryz.ntmps79
 go_wp2_with (first | (go_at_call 98; refine (rnone_no rb pos _ bs _ h).mono ?_; rintro e w1 ⟨rfl, rfl⟩) | (go_at_call 89; refine (sized_yes _ hs _).mono ?_; rintro e w1 ⟨rfl, rfl⟩) | (go_at_call 100; refine (number_any rb pos size v bs hpos hl (by omega) (by omega) _ h).mono ?_; rintro e w1 ⟨⟨x, rfl, hx⟩, hf1⟩; rw [hd]))
 go_ret2
 exact ⟨rfl, hf1⟩
set_option maxHeartbeats 1000000 in
theorem rraw_yes (rb pos n : Nat) (v : Value) (bs : List UInt8) (hpos : pos + n ≤ bs.length) (hl : bs.length ≤ 1000000) (w : World) (h : RdAt w rb v bs pos) :
   Calls Tryz.prog 78 #[.pointer (some ⟨rb, 0, none⟩), .int .i64 n] w fun e w' => ∃ v', e = .returned (.tuple #[v', .int .i64 0]) ∧ Own w' 5 1 v' n (((bs.drop pos).take n).map byt) ∧ (∀ k, v'.ownBlock = some k → w.heap.size ≤ k) ∧ RdAt w' rb v bs (pos + n) ∧ Fr (fun k => k = rb) w w' := by
 have hw : IntKind.i64.wrap ((pos : Int) + (n : Int)) = ((pos + n : Nat) : Int) := by rw [IntKind.wrap_i64]; omega
 have hgt : decide (bs.length - pos < n) = false := by simp; omega
 obtain ⟨a, c, rfl, hwin⟩ := Win.of_own h.own
 have hcap := hwin.cap
 have hmax := hwin.max
 unfold maxLen at hmax
 have hp0 : pos ≤ bs.length := by omega
 have hwd := (hwin.drop hp0).take (k := n) (by omega)
 rw [← List.map_drop, ← List.map_take] at hwd
 obtain ⟨a', ha'⟩ : ∃ a', a' = (if c = pos then a else Option.map (fun x => x.add pos) a) := ⟨_, rfl⟩
 have HA := Lib.hid ha'
 have hwd : Win w a' n (c - pos) (((bs.drop pos).take n).map byt) := by rw [ha']; exact hwd
 have HW := Lib.hid hwd
 have hle1 : (pos : Int) ≤ ((pos + n : Nat) : Int) := by omega
 have hle2 : ((pos + n : Nat) : Int) ≤ (c : Int) := by omega
 have hsub : pos + n - pos = n := by omega
 have r0 := h.blk.cell (j := 0) rfl
 have r1 := h.blk.cell (j := 1) rfl
 have rl := h.blk.lt
 have rf := h.blk.free
 have HH := Lib.hid h
 have hnl : n ≤ 1000000 := by omega
 clear hwd ha' hwin hpos h
 go_enter Tryz.func78, Tryz.ntmps78
 go_wp2_with (first | (go_at_call 98; refine (rnone_no rb pos _ bs _ HH.out).mono ?_; rintro e w1 ⟨rfl, rfl⟩) | (go_at_call 99; refine (rleft_any rb pos _ bs hp0 hl _ HH.out).mono ?_; rintro e w1 ⟨rfl, hf1⟩; have h1 := HH.out.no hf1; have s0 := h1.blk.cell (j := 0) rfl; have s1 := h1.blk.cell (j := 1) rfl; have sl := h1.blk.lt; have sf := h1.blk.free))
 go_quiet (fail)
 rw [← HA.out]
 rename Nat => nq
 obtain ⟨w2, hw2⟩ : ∃ w2, w2 = w1.drewN nq := ⟨_, rfl⟩
 rw [← hw2]
 have hf2 : Fr No w w2 := by rw [hw2]; exact hf1.drewN _
 clear hw2 h1 s0 s1 sl sf
 have h2 := HH.out.no hf2
 have s0 := h2.blk.cell (j := 0) rfl
 have s1 := h2.blk.cell (j := 1) rfl
 have sl := h2.blk.lt
 have sf := h2.blk.free
 have hf3 : Fr (fun k => k = rb) w (w2.setCell ⟨rb, 1, none⟩ (.int .i64 ((pos + n : Nat) : Int))) := (hf2.no_any (S := fun k => k = rb)).setCell (p := ⟨rb, 1, none⟩) (.inl rfl) _
 have hb' : ∀ ad, a' = some ad → ad.block ≠ rb := by
   intro ad hd
   rw [HA.out] at hd
   split at hd
   · exact HH.out.ne ad.block (by rw [hd]; rfl)
   · cases a with
     | none => cases hd
     | some ad0 => cases hd; rw [add_block]; exact HH.out.ne ad0.block rfl
 go_wp2_with (go_at_call 61; refine (cloneB_any a' n (c - pos) ((bs.drop pos).take n) _ ?_ hnl).mono ?_; exact HW.out.fr hf3 hb'; rintro e w3 ⟨v3, rfl, hc3⟩)
 go_ret2
 exact ⟨v3, rfl, hc3.own, fun k hk => Nat.le_trans hf3.size (hc3.new k hk), (h2.moved (pos + n)).no hc3.fr, hf3.thn hc3.fr⟩
set_option maxHeartbeats 1000000 in
theorem rraw_no (rb pos n : Nat) (v : Value) (bs : List UInt8) (hpos : pos ≤ bs.length) (hno : ¬ pos + n ≤ bs.length) (hl : bs.length ≤ 1000000) (w : World) (h : RdAt w rb v bs pos) :
   Calls Tryz.prog 78 #[.pointer (some ⟨rb, 0, none⟩), .int .i64 n] w fun e w' => e = .returned (.tuple #[.slice none 0 0, .int .i64 10]) ∧ Fr No w w' := by
 have hgt : decide (bs.length - pos < n) = true := by simp; omega
 have HH := Lib.hid h
 clear h
 go_enter Tryz.func78, Tryz.ntmps78
 go_wp2_with (first | (go_at_call 98; refine (rnone_no rb pos _ bs _ HH.out).mono ?_; rintro e w1 ⟨rfl, rfl⟩) | (go_at_call 99; refine (rleft_any rb pos _ bs hpos hl _ HH.out).mono ?_; rintro e w1 ⟨rfl, hf1⟩))
 go_ret2
 exact ⟨rfl, hf1⟩
set_option maxHeartbeats 1000000 in
theorem read_any (a : Option Addr) (n c : Nat) (bs : List UInt8) (w : World) (h : Win w a n c (bs.map byt)) (hb : n ≤ 1000000) :
   Calls Tryz.prog 77 #[.slice a n c] w fun e w' => ∃ rb v, e = .returned (.pointer (some ⟨rb, 0, none⟩)) ∧ RdAt w' rb v bs 0 ∧ w.heap.size ≤ rb ∧ (∀ k, v.ownBlock = some k → w.heap.size ≤ k) ∧ Fr No w w' := by
 have hl : bs.length = n := by have := h.len; simpa using this
 have HL := Lib.hid hl
 clear hl
 go_enter Tryz.func77, Tryz.ntmps77
 go_wp2_with (go_at_call 61; refine (cloneB_any a n c bs _ ?_ hb).mono ?_; exact h; rintro e w1 ⟨v1, rfl, hc⟩; obtain ⟨a1, c1, rfl⟩ := own_slice hc.own)
 go_ret
 have hf := hc.fr.thn ((Fr.refl No w1).alloc (.cells #[.slice a1 n c1, .int .i64 0, .bool true] 156))
 refine ⟨w1.heap.size, _, rfl, ⟨Blk.new w1 _ _, ?_⟩, hc.fr.size, hc.new, hf⟩
 rw [HL.out]
 exact hc.own.alloc _
end Go.Proofs.YtnkjhicokcmmpaaGreat
namespace Go.Proofs.YtnkjhicokcmmpaaGreat
open Go.RowKit Go.Shelf
theorem rsized_yes (n : Nat) (hs : n = 1 ∨ n = 2 ∨ n = 4 ∨ n = 8) (w : World) : Calls Tryz.prog 91 #[.int .i64 n] w fun e w' => e = .returned (.bool true) ∧ w = w' := by
 rcases hs with rfl | rfl | rfl | rfl
 all_goals
   go_enter Tryz.func91, Tryz.ntmps91
   go_wp2
   go_ret
   exact ⟨rfl, rfl⟩
theorem num_succ (k n : Nat) : num (k + 1) n = UInt8.ofNat (n / 2 ^ (8 * k)) :: num k n := by
 unfold num numTo
 rw [List.range_succ_eq_map, List.map_cons, List.map_map]
 congr 1
 apply List.map_congr_left
 intro i hi
 have hi' : i < k := by simpa using hi
 show numByte (k + 1) n (i + 1) = numByte k n i
 unfold numByte
 congr 3
 omega
set_option maxRecDepth 100000 in
set_option maxHeartbeats 4000000 in
theorem refNum_any (size n : Nat) (hs : size = 1 ∨ size = 2 ∨ size = 4 ∨ size = 8) (hn : n < 2 ^ (8 * size)) (w : World) :
   Calls Tryz.prog 70 #[.int .i64 size, .int .u64 n] w fun e w' => ∃ v, e = .returned (.tuple #[v, .int .i64 0]) ∧ Own w' 5 1 v size ((num size n).map byt) ∧ (∀ k, v.ownBlock = some k → w.heap.size ≤ k) ∧ Fr No w w' := by
 obtain ⟨i0, hi0, hz0, hz1, hz2⟩ := info_parts Tryz.infoU8
 have hs8 : size ≤ 8 := by omega
 have HN := Lib.hid hn
 clear hn
 go_enter Tryz.func70, Tryz.ntmps70
 go_wp2_with (go_at_call 91; refine (rsized_yes _ hs _).mono ?_; rintro e w1 ⟨rfl, rfl⟩)
 go_loopw [1, 6, 7] (fun m v t wr => ∃ k : Nat, k ≤ size ∧ m = .int .u64 (n / 2 ^ (8 * k) : Nat) ∧ t = .int .i64 k ∧ Own wr 5 1 v k ((num k n).map byt) ∧ (∀ b, v.ownBlock = some b → w.heap.size ≤ b) ∧ Fr No w wr) (fun _ _ t _ => size - (intOf t).toNat)
 case atStart => exact ⟨0, Nat.zero_le _, by simp, rfl, World.ownsRow_nil _ _ _ _, by simp [Value.ownBlock], Fr.refl _ _⟩
 case round =>
   obtain ⟨k, hk, rfl, rfl, hO, hnew, hfr⟩ := hrel
   by_cases hlt : k < size
   · obtain ⟨a, c, rfl, hw⟩ := Win.of_own hO
     obtain ⟨m, hm⟩ : ∃ m, m = n / 2 ^ (8 * k) := ⟨_, rfl⟩
     rw [← hm]
     have HM := Lib.hid hm
     clear hm
     have hval : Hid (Value.int .u8 ((m : Int) % 256) = byt (UInt8.ofNat m)) := by
       show Value.int .u8 ((m : Int) % 256) = Value.int .u8 ((UInt8.ofNat m).toNat : Int)
       congr 1
     have hnew1 : Hid (Own (wr.alloc (.cells #[Value.int .u8 ((m : Int) % 256)] 5)) 5 1 (.slice (some ⟨wr.heap.size, 0, none⟩) 1 1) 1 [Value.int .u8 ((m : Int) % 256)]) :=
       Own.weak (B := 0) (World.ownsRow_lit (size := 1) wr #[Value.int .u8 ((m : Int) % 256)] 1 (Nat.zero_le _) (by unfold maxLen; omega) rfl)
     have HW := Lib.hid hw
     have hm1 : 1 + k ≤ maxLen := by unfold maxLen; omega
     have hm2 : (1 + k) * 1 ≤ 140737488355328 := by omega
     have h1c : Hid (∀ u ∈ (num k n).map byt, u.oneCell' = true) := byt_one _
     clear hw hO
     go_wp2_with (at_builtin; refine wpList_appW _ rfl (.tmp 19) (.tmp 20) 36 rfl 5 i0 (.int .u8 0) 1 Tryz.underlying36 hi0 hz0 hz1 hz2 rfl (.slice (some ⟨wr.heap.size, 0, none⟩) 1 1) 1 [Value.int .u8 ((m : Int) % 256)] rfl hnew1.out a k c ((num k n).map byt) rfl (HW.out.no ((Fr.refl No wr).alloc _)) h1c.out hm1 hm2 ?_; intro v2 w2 hap)
     go_roundw
     case rel =>
       have ho := hap.own
       rw [hval.out] at ho
       refine ⟨k + 1, by omega, ?_, by go_num, ?_, ?_, hfr.trans (((Fr.refl No wr).alloc _).trans hap.fr (fun x hx => .inr ?_)) (fun x hx => hx.elim)⟩
       · rw [show 8 * (k + 1) = 8 * k + 8 by omega, Nat.pow_add, ← Nat.div_div_eq_div_mul, ← HM.out]
         congr 1
         rw [show (m : Int) / 256 = ((m / 2 ^ 8 : Nat) : Int) by omega]
         refine wrap_u64 _ (Nat.lt_of_le_of_lt (Nat.div_le_self _ _) ?_)
         rw [HM.out]
         exact Nat.lt_of_le_of_lt (Nat.div_le_self _ _) (Nat.lt_of_lt_of_le HN.out (Nat.pow_le_pow_right (by decide) (by omega)))
       · rw [num_succ, ← HM.out, Nat.add_comm]
         exact ho
       · intro b hb
         have := hfr.size
         rcases hap.blk with e | ⟨k', e, hk'⟩
         · rw [e] at hb
           simp [Value.ownBlock] at hb
           omega
         · rw [e] at hb
           cases hb
           simp at hk'
           omega
       · simp [Value.ownBlock] at hx; omega
     case measure => (simp [intOf]; omega)
   · obtain rfl : k = size := by omega
     have h0 : n / 2 ^ (8 * k) = 0 := Nat.div_eq_of_lt HN.out
     rw [h0]
     clear h0
     go_wp2
     go_ret2
     exact ⟨_, rfl, hO, hnew, hfr⟩
def whTo (l : List UInt8) (k : Nat) : Nat := wh (l.take k)
theorem whTo_succ (l : List UInt8) (k : Nat) (hk : k < l.length) : whTo l (k + 1) = whTo l k * 256 + (l[k]).toNat := by
 unfold whTo
 rw [List.take_succ_eq_append_getElem hk, wh_snoc]
theorem whTo_lt (l : List UInt8) (k : Nat) (hk : k ≤ 7) : whTo l k < 2 ^ 56 := by
 unfold whTo
 refine Nat.lt_of_lt_of_le (wh_lt _) ?_
 have h1 : (l.take k).length ≤ 7 := by simp; omega
 exact Nat.le_trans (Nat.pow_le_pow_right (by decide) h1) (by decide)
set_option maxRecDepth 100000 in
set_option maxHeartbeats 4000000 in
theorem refWhole_any (a : Option Addr) (n c : Nat) (bs : List UInt8) (hn : n ≤ 8) (w : World) (h : Win w a n c (bs.map byt)) :
   Calls Tryz.prog 83 #[.slice a n c] w fun e w' => e = .returned (.int .u64 (wh bs : Nat)) ∧ w = w' := by
 have hl : bs.length = n := by have := h.len; simpa using this
 have HL := Lib.hid hl
 have hw := Lib.hid h
 clear hl h
 go_enter Tryz.func83, Tryz.ntmps83
 go_wp2
 go_loop [3, 4] (fun r t => ∃ k : Nat, k ≤ n ∧ r = .int .u64 (whTo bs k : Nat) ∧ t = .int .i64 k) (fun _ t => n - (intOf t).toNat)
 case atStart => exact ⟨0, Nat.zero_le _, rfl, rfl⟩
 case round =>
   obtain ⟨k, hk, rfl, rfl⟩ := hrel
   by_cases hlt : k < n
   · have hkb : k < bs.length := by rw [HL.out]; exact hlt
     obtain ⟨ad, u, rfl, hu, hcell⟩ := hw.out.at hlt
     have hc := whTo_lt bs k (by omega)
     have hsuc := whTo_succ bs k hkb
     have hx := (bs[k]).toNat_lt
     have hu' : u = .int .u8 ((bs[k]).toNat : Int) := by
       rw [List.getElem?_map, List.getElem?_eq_getElem hkb] at hu
       exact (Option.some.inj hu).symm
     subst hu'
     generalize (bs[k]).toNat = x at *
     obtain ⟨m, hm⟩ : ∃ m, m = whTo bs k := ⟨_, rfl⟩
     rw [← hm] at hc hsuc ⊢
     have HS := Lib.hid hsuc
     have hx1 : IntKind.u64.wrap (x : Int) = (x : Int) := wrap_u64 x (by omega)
     have hx2 : IntKind.u64.wrap (256 * (m : Int)) = 256 * (m : Int) := by
       rw [show 256 * (m : Int) = ((256 * m : Nat) : Int) by simp]
       exact wrap_u64 _ (by omega)
     have hx3 : IntKind.u64.wrap (256 * (m : Int) + (x : Int)) = 256 * (m : Int) + (x : Int) := by
       rw [show 256 * (m : Int) + (x : Int) = ((256 * m + x : Nat) : Int) by simp]
       exact wrap_u64 _ (by omega)
     have HX1 := Lib.hid hx1
     have HX2 := Lib.hid hx2
     have HX3 := Lib.hid hx3
     clear hsuc hm hu hc hx hx1 hx2 hx3
     have hx1 := HX1.out
     have hx2 := HX2.out
     have hx3 := HX3.out
     go_wp2
     go_round
     case rel => exact ⟨k + 1, by omega, (by rw [HS.out]; congr 1; simp [Int.mul_comm]), by go_num⟩
     case measure => (simp [intOf]; omega)
   · obtain rfl : k = n := by omega
     have hend : whTo bs k = wh bs := by unfold whTo; rw [List.take_of_length_le (by rw [HL.out]; exact Nat.le_refl _)]
     rw [hend]
     clear hend
     go_wp2
     go_ret
     exact ⟨rfl, rfl⟩
structure WIn (N : Nat) (w : World) (b : Nat) (v : Value) (bs : List UInt8) : Prop where
 at' : WrAt w b v bs
 lo : N ≤ b
 new : ∀ k, v.ownBlock = some k → N ≤ k
theorem WIn.no {N : Nat} {w w' : World} {b : Nat} {v : Value} {bs : List UInt8} (h : WIn N w b v bs) (hf : Fr No w w') : WIn N w' b v bs :=
 ⟨⟨h.at'.blk.fr hf (No.no _), h.at'.own.fr hf (fun _ _ => No.no _)⟩, h.lo, h.new⟩
abbrev From (N : Nat) (w w' : World) : Prop := Fr (fun k => N ≤ k) w w'
theorem From.t {N : Nat} {a b c : World} (h : From N a b) (k : From N b c) : From N a c := h.trans k (fun _ h => .inl h)
theorem Blk.from {N : Nat} {w w' : World} {b : Nat} {T : TypeId} {l : List Value} (h : Blk w b T l) (hf : From N w w') (hn : b < N) : Blk w' b T l := h.fr hf (by omega)
def Wrote1 (N b : Nat) (bs : List UInt8) (w : World) (e : Ending) (w' : World) : Prop := ∃ v', e = .returned (.int .i64 0) ∧ WIn N w' b v' bs ∧ From N w w'
theorem wrote_of {N b : Nat} {v v' : Value} {bs cs : List UInt8} {w w' : World} (h : WIn N w b v bs) (hz : N ≤ w.heap.size) (h1 : WrAt w' b v' cs) (h2 : Fr (fun k => k = b ∨ v.ownBlock = some k) w w') (h3 : AtOr w v v') : WIn N w' b v' cs ∧ From N w w' := by
 refine ⟨⟨h1, h.lo, fun k hk => (h3 k hk).elim (h.new k) (fun q => Nat.le_trans hz q)⟩, h2.mono ?_⟩
 rintro x (rfl | hx)
 · exact h.lo
 · exact h.new _ hx
theorem wnumN (N b : Nat) (v : Value) (bs : List UInt8) (size n : Nat) (hs : size = 1 ∨ size = 2 ∨ size = 4 ∨ size = 8) (hn : n < 2 ^ (8 * size)) (hl : bs.length ≤ 1000000) (w : World) (hz : N ≤ w.heap.size) (h : WIn N w b v bs) :
   Calls Tryz.prog 66 #[.pointer (some ⟨b, 0, none⟩), .int .i64 size, .int .u64 n] w (Wrote1 N b (bs ++ num size n) w) :=
 (wnum_any b v bs size n hs hn hl w h.at').mono fun e w' ⟨v', h1, h2, h3, h4⟩ => ⟨v', h1, wrote_of h hz h2 h3 h4⟩
theorem wrawN (N b : Nat) (v : Value) (bs cs : List UInt8) (a : Option Addr) (n c : Nat) (hl : bs.length + n ≤ 1000000) (w : World) (hz : N ≤ w.heap.size) (h : WIn N w b v bs) (hw : Win w a n c (cs.map byt)) :
   Calls Tryz.prog 65 #[.pointer (some ⟨b, 0, none⟩), .slice a n c] w (Wrote1 N b (bs ++ cs) w) :=
 (wraw_any b v bs cs a n c hl w h.at' hw).mono fun e w' ⟨v', h1, h2, h3, h4⟩ => ⟨v', h1, wrote_of h hz h2 h3 h4⟩
theorem wlenN (N b : Nat) (v : Value) (bs : List UInt8) (m : Nat) (hm : bs.length = m) (w : World) (h : WIn N w b v bs) :
   Calls Tryz.prog 67 #[.pointer (some ⟨b, 0, none⟩)] w fun e w' => e = .returned (.int .i64 (m : Nat)) ∧ w = w' := by
 subst hm
 exact wlen_any b v bs w h.at'
theorem wbytesN (N b : Nat) (v : Value) (bs : List UInt8) (m : Nat) (hm : bs.length = m) (h0 : 0 < m) (w : World) (h : WIn N w b v bs) (hl : m ≤ 1000000) :
   Calls Tryz.prog 69 #[.pointer (some ⟨b, 0, none⟩)] w fun e w' => ∃ g c, e = .returned (.slice (some ⟨g, 0, none⟩) m c) ∧ Own w' 5 1 (.slice (some ⟨g, 0, none⟩) m c) m (bs.map byt) ∧ w.heap.size ≤ g ∧ Fr No w w' := by
 subst hm
 refine (wbytes_any b v bs w h.at' hl).mono ?_
 rintro e w' ⟨v', rfl, h1, h2, _, h3⟩
 rcases h1.cases with ⟨_, e, _⟩ | ⟨g, c, rfl⟩
 · omega
 · exact ⟨g, c, rfl, h1, h2 g rfl, h3⟩
structure RIn (N : Nat) (w : World) (rb : Nat) (v : Value) (bs : List UInt8) (pos : Nat) : Prop where
 at' : RdAt w rb v bs pos
 pos : pos ≤ bs.length
 lo : N ≤ rb
 new : ∀ k, v.ownBlock = some k → N ≤ k
theorem RIn.no {N : Nat} {w w' : World} {rb pos : Nat} {v : Value} {bs : List UInt8} (h : RIn N w rb v bs pos) (hf : Fr No w w') : RIn N w' rb v bs pos := ⟨h.at'.no hf, h.pos, h.lo, h.new⟩
theorem rnumN (N rb pos size : Nat) (v : Value) (bs : List UInt8) (hl : bs.length ≤ 1000000) (hs : size = 1 ∨ size = 2 ∨ size = 4 ∨ size = 8) (w : World) (h : RIn N w rb v bs pos) :
   Calls Tryz.prog 79 #[.pointer (some ⟨rb, 0, none⟩), .int .i64 size] w fun e w' => ∃ (x : Nat) (c : Int) (pos' : Nat), e = .returned (.tuple #[.int .u64 x, .int .i64 c]) ∧ x < 256 ^ size ∧ (pos + size ≤ bs.length → x = wh ((bs.drop pos).take size) ∧ pos' = pos + size) ∧ RIn N w' rb v bs pos' ∧ From N w w' := by
 by_cases hp : pos + size ≤ bs.length
 · refine (rnum_yes rb pos size v bs hp hl hs w h.at').mono ?_
   rintro e w' ⟨rfl, h1, h2⟩
   refine ⟨_, _, _, rfl, ?_, fun _ => ⟨rfl, rfl⟩, ⟨h1, hp, h.lo, h.new⟩, h2.mono (fun k hk => by rw [hk]; exact h.lo)⟩
   have h3 := wh_lt ((bs.drop pos).take size)
   rwa [show ((bs.drop pos).take size).length = size by rw [List.length_take, List.length_drop]; omega] at h3
 · refine (rnum_no rb pos size v bs h.pos hp hl hs w h.at').mono ?_
   rintro e w' ⟨rfl, h1⟩
   exact ⟨0, 10, pos, rfl, Nat.pow_pos (by decide), fun hc => absurd hc hp, h.no h1, h1.no_any⟩
theorem rrawN (N rb pos n : Nat) (v : Value) (bs : List UInt8) (hl : bs.length ≤ 1000000) (w : World) (hz : N ≤ w.heap.size) (h : RIn N w rb v bs pos) :
   Calls Tryz.prog 78 #[.pointer (some ⟨rb, 0, none⟩), .int .i64 n] w fun e w' => ∃ (u : Value) (c : Int) (m pos' : Nat) (cs : List UInt8), e = .returned (.tuple #[u, .int .i64 c]) ∧ Own w' 5 1 u m (cs.map byt) ∧ m ≤ n ∧ (∀ k, u.ownBlock = some k → w.heap.size ≤ k) ∧ (pos + n ≤ bs.length → cs = (bs.drop pos).take n ∧ m = n ∧ pos' = pos + n) ∧ RIn N w' rb v bs pos' ∧ From N w w' := by
 by_cases hp : pos + n ≤ bs.length
 · refine (rraw_yes rb pos n v bs hp hl w h.at').mono ?_
   rintro e w' ⟨u, rfl, h1, h2, h3, h4⟩
   exact ⟨u, _, n, _, _, rfl, h1, Nat.le_refl _, h2, fun _ => ⟨rfl, rfl, rfl⟩, ⟨h3, hp, h.lo, h.new⟩, h4.mono (fun k hk => by rw [hk]; exact h.lo)⟩
 · refine (rraw_no rb pos n v bs h.pos hp hl w h.at').mono ?_
   rintro e w' ⟨rfl, h1⟩
   exact ⟨_, 10, 0, pos, [], rfl, World.ownsRow_nil _ _ _ _, Nat.zero_le _, fun k hk => by simp [Value.ownBlock] at hk, fun hc => absurd hc hp, h.no h1, h1.no_any⟩
theorem readN (a : Option Addr) (n c : Nat) (bs : List UInt8) (w : World) (h : Win w a n c (bs.map byt)) (hb : n ≤ 1000000) :
   Calls Tryz.prog 77 #[.slice a n c] w fun e w' => ∃ rb v, e = .returned (.pointer (some ⟨rb, 0, none⟩)) ∧ RIn w.heap.size w' rb v bs 0 ∧ Fr No w w' :=
 (read_any a n c bs w h hb).mono fun e w' ⟨rb, v, h1, h2, h3, h4, h5⟩ => ⟨rb, v, h1, ⟨h2, Nat.zero_le _, h3, h4⟩, h5⟩
theorem Tryz.makeB (n : Nat) (hn : n ≤ 1000000) (u : World) : (Instr.makeSlice 36 (.int .i64 n) (.int .i64 n)).run Tryz.prog u = .ok (.slice (some ⟨u.heap.size, 0, none⟩) n n) (u.alloc (.cells ((List.replicate n (0 : UInt8)).map byt).toArray 5)) := by
 obtain ⟨i0, hi, hz0, hz1, hz2⟩ := info_parts Tryz.infoU8
 have := run_makeSlice (P := Tryz.prog) u 36 5 i0 (.int .u8 0) Tryz.underlying36 hi hz0 .i64 .i64 n n (by omega) (Int.le_refl _) (by rw [hz1]; simp; omega) (by rw [hz2]; simp; omega) (by omega)
 rw [this]
 have e : madeCells (Value.int .u8 0).cells n = ((List.replicate n (0 : UInt8)).map byt).toArray := by
   apply Array.ext'
   rw [show (Value.int .u8 0).cells = #[Value.int .u8 0] from rfl, toList_madeCells_one]
   simp [byt]
 simp [hz1, e]
theorem equal_any (a a' : Option Addr) (n c n' c' : Nat) (bs cs : List UInt8) (w : World) (h : Win w a n c (bs.map byt)) (h' : Win w a' n' c' (cs.map byt)) :
   Calls Tryz.prog 80 #[.slice a n c, .slice a' n' c'] w fun e w' => e = .returned (.bool (decide (bs = cs))) ∧ w = w' := by
 have h1 := run_str (P := Tryz.prog) (src := 36) (dst := 9) Tryz.underlying36 Tryz.underlying5 Tryz.underlying9 h
 have h2 := run_str (P := Tryz.prog) (src := 36) (dst := 9) Tryz.underlying36 Tryz.underlying5 Tryz.underlying9 h'
 have he : ((str bs).toList == (str cs).toList) = decide (bs = cs) := by
   rw [str_list, str_list]
   by_cases hc : bs = cs <;> simp [hc]
 clear h h'
 go_enter Tryz.func80, Tryz.ntmps80
 go_wp2
 go_ret
 exact ⟨by rw [← he]; rfl, rfl⟩
end Go.Proofs.YtnkjhicokcmmpaaGreat
namespace Go.Proofs.YtnkjhicokcmmpaaGreat
def poly : Nat := 3988292384
def cs1 (c : Nat) : Nat := if c % 2 = 1 then (c / 2) ^^^ poly else c / 2
def csN : Nat → Nat → Nat
 | 0, c => c
 | k + 1, c => cs1 (csN k c)
def tab (i : Nat) : Nat := csN 8 i
theorem half_xor (a b : Nat) : (a ^^^ b) / 2 = a / 2 ^^^ b / 2 := by
 apply Nat.eq_of_testBit_eq
 intro i
 have h : ∀ x : Nat, (x / 2).testBit i = x.testBit (i + 1) := fun x => by
   have := Nat.testBit_div_two_pow (n := 1) x (i := i)
   simpa [Nat.add_comm] using this
 rw [h, Nat.testBit_xor, Nat.testBit_xor, h, h]
theorem odd_xor (a b : Nat) : (a ^^^ 2 * b) % 2 = a % 2 := by
 have h : ∀ x : Nat, x % 2 = (x.testBit 0).toNat := fun x => by
   rw [Nat.testBit_zero]
   have := Nat.mod_two_eq_zero_or_one x
   rcases this with h | h <;> simp [h]
 rw [h, h, Nat.testBit_xor]
 simp [Nat.testBit_zero]
theorem cs1_xor (a y : Nat) : cs1 (a ^^^ 2 * y) = cs1 a ^^^ y := by
 unfold cs1
 rw [odd_xor, half_xor, Nat.mul_div_cancel_left _ (by decide)]
 split
 · rw [Nat.xor_assoc, Nat.xor_assoc, Nat.xor_comm y poly]
 · rfl
theorem csN_xor (k a y : Nat) : csN k (a ^^^ 2 ^ k * y) = csN k a ^^^ y := by
 induction k generalizing y with
 | zero => simp [csN]
 | succ k ih =>
   show cs1 (csN k _) = cs1 (csN k a) ^^^ y
   rw [show 2 ^ (k + 1) * y = 2 ^ k * (2 * y) by rw [Nat.pow_succ]; simp [Nat.mul_assoc], ih, cs1_xor]
theorem split_xor (d k : Nat) : d = d % 2 ^ k ^^^ 2 ^ k * (d / 2 ^ k) := by
 apply Nat.eq_of_testBit_eq
 intro i
 rw [Nat.testBit_xor, Nat.testBit_mod_two_pow, Nat.testBit_two_pow_mul]
 by_cases h : i < k
 · simp [h, Nat.not_le.2 h]
 · have h' : k ≤ i := by omega
   simp [h, h', Nat.testBit_div_two_pow]
theorem csN_8 (d : Nat) : csN 8 d = (d / 256) ^^^ tab (d % 256) := by
 have h1 := csN_xor 8 (d % 2 ^ 8) (d / 2 ^ 8)
 rw [← split_xor d 8] at h1
 rw [h1, Nat.xor_comm]
 rfl
def rs1 (c b : Nat) : Nat := if (c ^^^ b) % 2 = 1 then (c / 2) ^^^ poly else c / 2
theorem rs1_eq (c b : Nat) (hb : b < 2) : rs1 c b = cs1 (c ^^^ b) := by
 unfold rs1 cs1
 have : (c ^^^ b) / 2 = c / 2 := by rw [half_xor, Nat.div_eq_of_lt hb, Nat.xor_zero]
 rw [this]
def rsN (x : Nat) : Nat → Nat → Nat
 | 0, c => c
 | k + 1, c => rs1 (rsN x k c) (x / 2 ^ k % 2)
theorem rsN_eq (x k c : Nat) : csN k (c ^^^ x) = rsN x k c ^^^ x / 2 ^ k := by
 induction k with
 | zero => simp [csN, rsN]
 | succ k ih =>
   show cs1 (csN k _) = rs1 (rsN x k c) _ ^^^ _
   rw [ih, rs1_eq _ _ (Nat.mod_lt _ (by decide))]
   obtain ⟨y, hy⟩ : ∃ y, y = x / 2 ^ k := ⟨_, rfl⟩
   have e : x / 2 ^ (k + 1) = y / 2 := by rw [hy, Nat.pow_succ, Nat.div_div_eq_div_mul]
   rw [e, ← hy]
   have h1 := split_xor y 1
   have h2 : y = y % 2 ^^^ 2 * (y / 2) := by simpa using h1
   have h3 : rsN x k c ^^^ y = (rsN x k c ^^^ y % 2) ^^^ 2 * (y / 2) := by
     rw [Nat.xor_assoc, ← h2]
   rw [h3, cs1_xor]
def csB (c x : Nat) : Nat := (c / 256) ^^^ tab ((c % 256) ^^^ x)
theorem csB_eq (c x : Nat) (hx : x < 256) : csB c x = rsN x 8 c := by
 have h1 := rsN_eq x 8 c
 rw [Nat.div_eq_of_lt (show x < 2 ^ 8 from hx), Nat.xor_zero] at h1
 rw [← h1, csN_8]
 unfold csB
 have hd : (c ^^^ x) / 256 = c / 256 := by
   apply Nat.eq_of_testBit_eq
   intro i
   have h : ∀ y : Nat, (y / 256).testBit i = y.testBit (i + 8) := fun y => by
     have := Nat.testBit_div_two_pow (n := 8) y (i := i)
     simpa [Nat.add_comm] using this
   rw [h, h, Nat.testBit_xor]
   have : x.testBit (i + 8) = false := Nat.testBit_lt_two_pow (Nat.lt_of_lt_of_le hx (by
     have : 2 ^ 8 ≤ 2 ^ (i + 8) := Nat.pow_le_pow_right (by decide) (by omega)
     simpa using this))
   simp [this]
 have hm : (c ^^^ x) % 256 = c % 256 ^^^ x := by
   have h2 : (c ^^^ x) % 2 ^ 8 = c % 2 ^ 8 ^^^ x % 2 ^ 8 := Nat.xor_mod_two_pow
   have h3 : x % 256 = x := Nat.mod_eq_of_lt hx
   simpa [h3] using h2
 rw [hd, hm]
theorem poly_lt : poly < 2 ^ 32 := by decide
theorem cs1_lt {c : Nat} (h : c < 2 ^ 32) : cs1 c < 2 ^ 32 := by
 unfold cs1
 split
 · exact Nat.xor_lt_two_pow (by omega) poly_lt
 · omega
theorem csN_lt {c : Nat} (h : c < 2 ^ 32) : ∀ k, csN k c < 2 ^ 32
 | 0 => h
 | k + 1 => cs1_lt (csN_lt h k)
theorem tab_lt {i : Nat} (h : i < 2 ^ 32) : tab i < 2 ^ 32 := csN_lt h 8
theorem csB_lt {c x : Nat} (h : c < 2 ^ 32) (hx : x < 256) : csB c x < 2 ^ 32 := by
 unfold csB
 refine Nat.xor_lt_two_pow (by omega) (tab_lt ?_)
 exact Nat.lt_of_lt_of_le (Nat.xor_lt_two_pow (n := 8) (Nat.mod_lt _ (by decide)) hx) (by decide)
theorem rs1_lt {c b : Nat} (h : c < 2 ^ 32) : rs1 c b < 2 ^ 32 := by
 unfold rs1
 split
 · exact Nat.xor_lt_two_pow (by omega) poly_lt
 · omega
theorem rsN_lt {c x : Nat} (h : c < 2 ^ 32) : ∀ k, rsN x k c < 2 ^ 32
 | 0 => h
 | k + 1 => rs1_lt (rsN_lt h k)
def regTo (l : List UInt8) (c : Nat) : Nat := l.foldl (fun c x => csB c x.toNat) c
theorem regTo_snoc (l : List UInt8) (x : UInt8) (c : Nat) : regTo (l ++ [x]) c = csB (regTo l c) x.toNat := by simp [regTo]
theorem regTo_lt {l : List UInt8} {c : Nat} (h : c < 2 ^ 32) : regTo l c < 2 ^ 32 := by
 unfold regTo
 induction l generalizing c with
 | nil => exact h
 | cons x l ih => exact ih (csB_lt h x.toNat_lt)
def sumOf (l : List UInt8) : Nat := 4294967295 - regTo l 4294967295
theorem sumOf_lt (l : List UInt8) : sumOf l < 2 ^ 32 := by unfold sumOf; omega
end Go.Proofs.YtnkjhicokcmmpaaGreat
namespace Go.Proofs.YtnkjhicokcmmpaaGreat
open Go.RowKit Go.Shelf
section
variable {P : Program}
def Tells {α : Type} (P : Program) (gf : Nat) (lb : Array Value) (encs : α → Array Value) (cb : Nat) (S : List α → Prop) (w : World) : Prop :=
 ∀ (l : Nat) (J : List α → World → Prop) (W : World), Below w.heap.size w W → (∀ pre A B, J pre A → Fr (fun k => k = cb) A B → J pre B) →
   (∀ pre x W1, J pre W1 → YieldAt Fence.wide 3 P l (encs x) W1 fun e W' => e = .returned (.bool true) ∧ J (pre ++ [x]) W' ∧ W'.heap[cb]? = W1.heap[cb]?) →
   J [] W →
   CallsIn Fence.wide 4 P gf (#[.func (.yield l) #[] #[]] ++ lb) W fun e W' => (∃ v, e = .returned v) ∧ ∃ xs, S xs ∧ J xs W'
theorem wp_tells {α : Type} {g : Operand} {ps : Array Tmp} {assign body : Code} {Q : Exit → Act → World → Prop} {a : Act} {w : World}
   {gf : Nat} {lb : Array Value} (hg : a.eval g = .func (.func gf) #[] lb) (eg : ∀ args w, (callFunc gf args).run P w = .ok (.enter gf args) w)
   {encs : α → Array Value} {cb : Nat} (hcb : cb < w.heap.size) {S : List α → Prop} (hseq : Tells P gf lb encs cb S w) (hps : ∀ x, (encs x).size = ps.size)
   (I : List α → World → Prop) (hI : OwnFrom w.heap.size I) (hIc : ∀ pre A B, I pre A → Fr (fun k => k = cb) A B → I pre B) (h0 : I [] w) (a₁ : α → Act)
   (hassign : ∀ (l : Nat) (x : α) (W : World) (K : Act → World → Prop), K (a₁ x) W →
     assign.wpIn (Fence.wide.inRound l) 3 P (Exit.then K (fun _ _ _ => False)) { tmps := (ps.zip (encs x)).foldl (fun t (p, v) => t.setIfInBounds p v) a.tmps, defers := [] } W)
   (hbody : ∀ (l : Nat) (pre : List α) (x : α) (W : World), I pre W → body.wpIn (Fence.wide.inRound l) 3 P (fun e _ W' => e = .normal ∧ KeepsOthers W W' ∧ W'.heap[cb]? = W.heap[cb]? ∧ I (pre ++ [x]) W') (a₁ x) W)
   (hdone : ∀ (D : Nat) (xs : List α) (W : World), w.heap.size ≤ D → S xs → I xs W → W.heap[D]? = some (.deferred (some [])) → Q .normal { a with defers := { target := .collected D, args := #[] } :: a.defers } W) :
   (Code.rangeFunc g ps assign body).wp P Q a w := by
 refine wpIn_wide.1 (wpIn_rangeFunc (F := Fence.wide) (n := 5) fun fn hfn => ?_)
 let rec_ : LoopState → Option Code → Loop := fun st pe => { state := st, pending := pe, fn, tmps := a.tmps, params := ps, assign, body, defers := w.heap.size }
 obtain ⟨W1, hW1⟩ : ∃ W1, W1 = (w.alloc (.deferred (some []))).alloc (.loop (rec_ .ready none)) := ⟨_, rfl⟩
 have hL1 : W1.heap[w.heap.size + 1]? = some (.loop (rec_ .ready none)) := by
   have := World.alloc_heap_new (w.alloc (.deferred (some []))) (.loop (rec_ .ready none))
   rw [World.size_alloc] at this
   rw [hW1]; exact this
 have hK1 : W1.heap[w.heap.size]? = some (.deferred (some [])) := by
   rw [hW1]; exact (Below.heap_alloc _ _ _ (by simp)).trans (World.alloc_heap_new w _)
 have hb1 : Below w.heap.size w W1 := by rw [hW1]; exact ((Below.refl _ w).alloc (Nat.le_refl _) _).alloc (by simp) _
 refine ⟨w.heap.size + 1, [{ target := .collected w.heap.size, args := #[] }], W1, { target := .fn (.func gf) lb, args := #[.func (.yield (w.heap.size + 1)) #[] #[]] }, W1, gf,
   #[.func (.yield (w.heap.size + 1)) #[] #[]] ++ lb, W1, ?_, ?_, ?_, ?_, fun _ => by omega, ?_⟩
 · rw [hW1]; exact run_enterLoop_outer _ _ _ _ _
 · simp only [resolve, hg]
   simp [go_sem]
 · intro f' _; trivial
 · simp [invoke, go_sem, eg]
 · refine (hseq (w.heap.size + 1) (fun pre W => I pre W ∧ W.heap[w.heap.size + 1]? = some (.loop (rec_ .ready none)) ∧ W.heap[w.heap.size]? = some (.deferred (some []))) W1 hb1 ?_ ?_ ⟨?_, hL1, hK1⟩).mono ?_
   · rintro pre A B ⟨h1, h2, h3⟩ hf
     exact ⟨hIc pre A B h1 hf, (hf.heap (Array.getElem?_eq_some_iff.1 h2).1 (by omega)).trans h2, (hf.heap (Array.getElem?_eq_some_iff.1 h3).1 (by omega)).trans h3⟩
   · rintro pre x W ⟨hi, hl, hk⟩
     have hlt : w.heap.size + 1 < W.heap.size := (Array.getElem?_eq_some_iff.1 hl).1
     have hy := run_yield (P := P) (args := encs x) hl (hps x)
     refine ⟨fn, _, assign, body, hy, roundIn_of_wpIn hfn (hassign _ x W _ ⟨_, run_beginRound hl rfl, ?_⟩)⟩
     have hl2 : (W.putObj (w.heap.size + 1) (.loop { rec_ .ready none with state := .busy })).heap[w.heap.size + 1]? = some (.loop { rec_ .ready none with state := .busy }) := World.putObj_heap_same hlt
     have hk2 : (W.putObj (w.heap.size + 1) (.loop { rec_ .ready none with state := .busy })).heap[w.heap.size]? = some (.deferred (some [])) := (World.putObj_heap_other (by omega)).trans hk
     refine wpIn_mono (hbody _ pre x _ (hI.putObj _ hi (by omega) hl rfl)) ?_
     rintro e a3 W3 ⟨rfl, hk3, hc3, hi3⟩
     have hl3 := hk3.same _ _ hl2 rfl
     refine ⟨_, _, run_endRound (P := P) none hl3, rfl, ⟨hI.putObj _ hi3 (by omega) hl3 rfl, World.putObj_heap_same (Array.getElem?_eq_some_iff.1 hl3).1, (World.putObj_heap_other (by omega)).trans (hk3.same _ _ hk2 rfl)⟩, ?_⟩
     rw [World.putObj_heap_other (by omega), hc3, World.putObj_heap_other (by omega)]
   · rw [hW1]; exact hI.alloc _ (hI.alloc _ h0)
   · rintro e W2 ⟨⟨v, rfl⟩, xs, hS, hi, hl, hk⟩
     exact ⟨none, _, run_endLoop (P := P) hl (by simp [rec_]), hdone _ xs _ (Nat.le_refl _) hS (hI.putObj _ hi (by omega) hl rfl) ((World.putObj_heap_other (by omega)).trans hk)⟩
theorem end_marks0 {fn : Func} {R : Ending → World → Prop} {tmps : Array Value} {D : Nat} {w : World} (hf : fn.results = #[]) (hK : w.heap[D]? = some (.deferred (some []))) (h : R (.returned (.tuple #[])) (w.putObj D (.deferred none))) :
   Exit.noGoto (noPanic (bodyPostM Fence.wide 5 P fn R)) .normal { tmps := tmps, defers := [{ target := .collected D, args := #[] }] } w := by
 show LeavesInM Fence.wide 5 P fn tmps R [_] .returning w
 refine ⟨by simp, .inl ⟨_, _, rfl, run_takeDeferred hK, ?_⟩⟩
 exact ⟨_, results_none hf _ _ _, h⟩
end
end Go.Proofs.YtnkjhicokcmmpaaGreat
/-
 The checksum's table: what its functions come to.
-/
namespace Go.Proofs.YtnkjhicokcmmpaaGreat
open Go.RowKit Go.Shelf
attribute [local go_sem] Oper.semAt_some
theorem ofInt_32 (a : Nat) (ha : a < 2 ^ 32) : (BitVec.ofInt 32 (a : Int)).toNat = a := by
 rw [BitVec.ofInt_natCast, BitVec.toNat_ofNat]
 exact Nat.mod_eq_of_lt ha
theorem wrap_u32 (a : Nat) (h : a < 2 ^ 32) : IntKind.u32.wrap (a : Int) = a := by
 simp [IntKind.wrap, IntKind.signed, IntKind.bits]
 omega
theorem and1_u32 (c : Nat) (hc : c < 2 ^ 32) : bits .and .u32 (c : Int) 1 = ((c % 2 : Nat) : Int) := by
 show IntKind.u32.wrap ((BitVec.ofInt 32 (c : Int) &&& BitVec.ofInt 32 ((1 : Nat) : Int)).toNat : Int) = _
 rw [BitVec.toNat_and, ofInt_32 _ hc, ofInt_32 _ (by decide), Nat.and_one_is_mod, wrap_u32 _ (by omega)]
theorem xor_u32 (a b : Nat) (ha : a < 2 ^ 32) (hb : b < 2 ^ 32) : bits .xor .u32 (a : Int) (b : Int) = ((a ^^^ b : Nat) : Int) := by
 show IntKind.u32.wrap ((BitVec.ofInt 32 (a : Int) ^^^ BitVec.ofInt 32 (b : Int)).toNat : Int) = _
 rw [BitVec.toNat_xor, ofInt_32 _ ha, ofInt_32 _ hb, wrap_u32 _ (Nat.xor_lt_two_pow ha hb)]
def lowsTo (c k : Nat) : List (Nat × Bool) := (List.range k).map fun k => (csN k c / 2, csN k c % 2 == 1)
theorem lowsTo_succ (c k : Nat) : lowsTo c (k + 1) = lowsTo c k ++ [(csN k c / 2, csN k c % 2 == 1)] := by simp [lowsTo, List.range_succ]
set_option maxRecDepth 100000 in
set_option maxHeartbeats 2000000 in
theorem lows1_tells (cb c0 : Nat) (hc0 : c0 < 2 ^ 32) (w : World) (hcb : Blk w cb 33 [.int .u32 c0]) :
   Tells Tryz.prog 140 #[.pointer (some ⟨cb, 0, none⟩)] (fun x : Nat × Bool => #[Value.int .u32 (x.1 : Nat), .bool x.2]) cb (fun xs => xs = lowsTo c0 8) w := by
 intro l J W hW hJ hY h0
 have hB : Blk W cb 33 [.int .u32 c0] := (hW.block cb hcb.lt).trans hcb
 clear hcb hW
 refine callsIn_of_wp Tryz.func140 rfl trivial ?_ rfl
 simp only [Tryz.ntmps140, List.size_toArray, List.length_cons, List.length_nil, Nat.reduceAdd, Nat.reduceSub, Array.replicate_succ, Array.replicate_zero, List.push_toArray, List.append_toArray, List.nil_append, List.cons_append]
 gi_wp2
 gi_loopw [4] (fun t wr => ∃ k : Nat, k ≤ 8 ∧ t = .int .i64 k ∧ J (lowsTo c0 k) wr ∧ Blk wr cb 33 [.int .u32 (csN k c0)]) (fun t _ => 8 - (intOf t).toNat)
 case atStart => exact ⟨0, Nat.zero_le _, rfl, h0, hB⟩
 case round =>
   obtain ⟨k, hk, rfl, hJs, hBr⟩ := hrel
   by_cases hlt : k < 8
   · have hc := csN_lt hc0 k
     obtain ⟨c, hcd⟩ : ∃ c, c = csN k c0 := ⟨_, rfl⟩
     rw [← hcd] at hBr hc
     have HT : Hid (lowsTo c0 (k + 1) = lowsTo c0 k ++ [(c / 2, c % 2 == 1)]) := by rw [hcd]; exact lowsTo_succ c0 k
     have HC : Hid (csN (k + 1) c0 = cs1 c) := by rw [hcd]; rfl
     clear hcd hB hc0
     have b0 := hBr.cell (j := 0) rfl
     have bf := hBr.free
     have bl := hBr.lt
     have hfs : Fr (fun k => k = cb) wr (wr.setCell ⟨cb, 0, none⟩ (.int .u32 ((c : Int) / 2))) := (Fr.refl (fun k => k = cb) wr).setCell (p := ⟨cb, 0, none⟩) (.inl rfl) _
     have hB2 : Blk (wr.setCell ⟨cb, 0, none⟩ (.int .u32 ((c : Int) / 2))) cb 33 [.int .u32 ((c : Int) / 2)] := hBr.set 0 _
     have hd2 : ((c / 2 : Nat) : Int) = (c : Int) / 2 := by omega
     by_cases hp : c % 2 = 1
     · have hand : bits .and .u32 (c : Int) 1 = 1 := by
         have := and1_u32 c hc
         rw [hp] at this
         exact this
       have hxor : bits .xor .u32 ((c : Int) / 2) 3988292384 = ((cs1 c : Nat) : Int) := by
         have := xor_u32 (c / 2) poly (by omega) (by decide)
         rw [hd2] at this
         rw [show ((3988292384 : Int)) = ((poly : Nat) : Int) by rfl, this]
         unfold cs1
         rw [if_pos hp]
       obtain ⟨fn, tmps, assign, body, hy, hR⟩ := hY (lowsTo c0 k) (c / 2, c % 2 == 1) _ (hJ _ _ _ hJs hfs)
       dsimp only at hy
       rw [hp, hd2, show ((1 : Nat) == 1) = true from rfl] at hy
       have HX := Lib.hid hxor
       clear hxor hd2
       gi_wp2
       refine hR.mono ?_
       rintro e W3 ⟨rfl, hJ3, hk3⟩
       have hB3 : Blk W3 cb 33 [.int .u32 ((c : Int) / 2)] := hk3.trans hB2
       have d0 := hB3.cell (j := 0) rfl
       have df := hB3.free
       have dl := hB3.lt
       have hxor := HX.out
       gi_wp2
       go_roundw
       case rel =>
         refine ⟨k + 1, by omega, by simp, ?_, ?_⟩
         · rw [HT.out]
           exact hJ _ _ _ hJ3 ((Fr.refl (fun k => k = cb) W3).setCell (p := ⟨cb, 0, none⟩) (.inl rfl) _)
         · rw [HC.out]
           exact hB3.set 0 _
       case measure => (simp [intOf]; try omega)
     · have hp0 : c % 2 = 0 := by omega
       have hand : bits .and .u32 (c : Int) 1 = 0 := by
         have := and1_u32 c hc
         rw [hp0] at this
         exact this
       have hcs : cs1 c = c / 2 := by unfold cs1; rw [if_neg hp]
       obtain ⟨fn, tmps, assign, body, hy, hR⟩ := hY (lowsTo c0 k) (c / 2, c % 2 == 1) _ (hJ _ _ _ hJs hfs)
       dsimp only at hy
       rw [hp0, hd2, show ((0 : Nat) == 1) = false from rfl] at hy
       have HX : Hid (((cs1 c : Nat) : Int) = (c : Int) / 2) := by rw [hcs]; exact hd2
       clear hd2 hcs
       gi_wp2
       refine hR.mono ?_
       rintro e W3 ⟨rfl, hJ3, hk3⟩
       have hB3 : Blk W3 cb 33 [.int .u32 ((c : Int) / 2)] := hk3.trans hB2
       gi_wp2
       go_roundw
       case rel =>
         refine ⟨k + 1, by omega, by simp, ?_, ?_⟩
         · rw [HT.out]
           exact hJ3
         · rw [HC.out, HX.out]
           exact hB3
       case measure => (simp [intOf]; try omega)
   · obtain rfl : k = 8 := by omega
     gi_wp2
     go_end0
     exact ⟨⟨_, rfl⟩, _, rfl, hJs⟩
theorem lows_any (c : Int) (w : World) : Calls Tryz.prog 135 #[.int .u32 c] w fun e w' => e = .returned (.func (.func 140) #[] #[.pointer (some ⟨w.heap.size, 0, none⟩)]) ∧ w.alloc (.cells #[.int .u32 c] 33) = w' := by
 go_enter Tryz.func135, Tryz.ntmps135
 go_wp2
 go_ret
 exact ⟨rfl, rfl⟩
def fillS (x : Nat × Bool) : Int := if x.2 then bits .xor .u32 (x.1 : Int) 3988292384 else x.1
def fillN (i : Nat) (l : List (Nat × Bool)) : Int := match l.getLast? with | some x => fillS x | none => i
theorem fillN_snoc (i : Nat) (l : List (Nat × Bool)) (x : Nat × Bool) : fillN i (l ++ [x]) = fillS x := by simp [fillN]
theorem fillN_8 (i : Nat) (hi : i < 2 ^ 32) : fillN i (lowsTo i 8) = ((tab i : Nat) : Int) := by
 rw [lowsTo_succ, fillN_snoc]
 have hc := csN_lt hi 7
 have hx := xor_u32 (csN 7 i / 2) poly (by omega) (by decide)
 show (if (csN 7 i % 2 == 1) = true then _ else _) = ((cs1 (csN 7 i) : Nat) : Int)
 unfold cs1
 by_cases hp : csN 7 i % 2 = 1
 · rw [if_pos hp, if_pos (by simp [hp])]
   exact hx
 · rw [if_neg hp, if_neg (by simp [hp])]
set_option maxRecDepth 100000 in
set_option maxHeartbeats 4000000 in
theorem fill_any (tb i : Nat) (hi : i < 256) (l : List Value) (hl : l.length = 256) (w : World) (h : Blk w tb 185 l) :
   Calls Tryz.prog 123 #[.pointer (some ⟨tb, 0, none⟩), .int .i64 i] w fun e w' => (∃ v, e = .returned v) ∧ Blk w' tb 185 (l.set i (.int .u32 (tab i))) ∧ Fr (fun k => k = tb) w w' := by
 have hi32 : i < 2 ^ 32 := by omega
 have hwr : IntKind.u32.wrap (i : Int) = i := wrap_u32 _ hi32
 have htl := h.lt
 refine calls_of_marks Tryz.func123 rfl ?_
 simp only [Tryz.ntmps123, List.size_toArray, List.length_cons, List.length_nil, Nat.reduceAdd, Nat.reduceSub, Array.replicate_succ, Array.replicate_zero, List.push_toArray, List.append_toArray, List.nil_append, List.cons_append]
 go_wp2
 go_step3
 go_wp2
 go_step3
 go_wp2_with (go_at_call 135; refine (lows_any _ _).mono ?_; rintro e w1 ⟨rfl, rfl⟩)
 have hN : Blk ((w.alloc (.cells #[.int .u32 i] 33)).alloc (.cells #[.int .u32 i] 33)) w.heap.size 33 [.int .u32 i] := (Blk.new w _ _).alloc _
 have hC : Blk ((w.alloc (.cells #[.int .u32 i] 33)).alloc (.cells #[.int .u32 i] 33)) (w.heap.size + 1) 33 [.int .u32 i] := by
   have := Blk.new (w.alloc (.cells #[.int .u32 i] 33)) 33 [.int .u32 i]
   rwa [World.size_alloc] at this
 have hfr1 : Fr No w ((w.alloc (.cells #[.int .u32 i] 33)).alloc (.cells #[.int .u32 i] 33)) := ((Fr.refl No w).alloc _).alloc _
 generalize (w.alloc (.cells #[.int .u32 i] 33)).alloc (.cells #[.int .u32 i] 33) = w1 at *
 have hz := hC.lt
 refine wp_tells (gf := 140) (lb := #[.pointer (some ⟨w.heap.size + 1, 0, none⟩)]) rfl (enters_of Tryz.func140 (by kernel_rfl) rfl) (cb := w.heap.size + 1) hz
   (lows1_tells (w.heap.size + 1) i hi32 w1 hC) (fun _ => rfl)
   (fun pre W => Blk W w.heap.size 33 [.int .u32 (fillN i pre)] ∧ Fr (fun k => k = w.heap.size ∨ k = w.heap.size + 1) w1 W)
   ?hI ?hIc ⟨hN, Fr.refl _ _⟩ (fun x : Nat × Bool => { tmps := #[.pointer (some ⟨tb, 0, none⟩), .int .i64 i, undef, undef, .pointer (some ⟨w.heap.size, 0, none⟩), .int .u32 (x.1 : Nat), .bool x.2, .int .i64 i, .int .u32 i, .int .u32 i, .func (.func 140) #[] #[.pointer (some ⟨w.heap.size + 1, 0, none⟩)], .int .u32 (x.1 : Nat), .bool x.2, undef, undef, undef, undef, undef, undef, undef, undef, undef, undef, undef], defers := [] }) ?assign ?body ?done
 case hI =>
   rintro s A B row ⟨h1, h3⟩ hg hr
   exact ⟨h1.fr ((Fr.refl (fun k => w1.heap.size ≤ k) A).grown hg (fun k hk => .inl (hr k hk).1)) (by omega), h3.grown hg (fun k hk => .inr (hr k hk).1)⟩
 case hIc =>
   rintro pre A B ⟨h1, h3⟩ hf
   exact ⟨h1.fr hf (by omega), h3.trans hf (fun k hk => .inl (.inr hk))⟩
 case assign =>
   intro ll x W K hK
   gi_wp2
   exact hK
 case body =>
   rintro ll pre x W ⟨hW1, hW3⟩
   have hb0 := hW1.cell (j := 0) rfl
   have hbf := hW1.free
   have hbl := hW1.lt
   obtain ⟨low, out⟩ := x
   cases out
   · gi_wp2
     refine ⟨KeepsOthers.setCell _ _ _, Below.heap_setCell _ _ _ _ (by show w.heap.size + 1 ≠ w.heap.size; omega), ?_, hW3.setCell (p := ⟨w.heap.size, 0, none⟩) (.inl (.inl rfl)) _⟩
     rw [fillN_snoc]
     exact hW1.set 0 _
   · gi_wp2
     refine ⟨(KeepsOthers.setCell _ _ _).trans (KeepsOthers.setCell _ _ _), (Below.heap_setCell _ _ _ _ (by show w.heap.size + 1 ≠ w.heap.size; omega)).trans (Below.heap_setCell _ _ _ _ (by show w.heap.size + 1 ≠ w.heap.size; omega)), ?_, (hW3.setCell (p := ⟨w.heap.size, 0, none⟩) (.inl (.inl rfl)) _).setCell (p := ⟨w.heap.size, 0, none⟩) (.inl (.inl rfl)) _⟩
     rw [fillN_snoc]
     exact (hW1.set 0 _).set 0 _
 case done =>
   rintro D ys W hD rfl ⟨hW1, hW3⟩ hK
   rw [fillN_8 i hi32] at hW1
   have hb0 := hW1.cell (j := 0) rfl
   have hbl := hW1.lt
   have hT := (h.fr hfr1 (No.no _)).fr hW3 (by omega)
   have t0 := hT.cell (j := i) (v := l[i]'(by omega)) (List.getElem?_eq_getElem (by omega))
   have tf := hT.free
   have tl := hT.lt
   go_wp2
   go_region
   all_goals go_wp2
   all_goals
     have hB2 : Blk (W.setCell ⟨tb, i, none⟩ (.int .u32 (tab i))).drew tb 185 (l.set i (.int .u32 (tab i))) := (hT.set i _).drew
     have hk2 : (W.setCell ⟨tb, i, none⟩ (.int .u32 (tab i))).drew.heap[D]? = some (.deferred (some [])) := (Below.heap_setCell W ⟨tb, i, none⟩ _ D (fun e => hT.neDef hK e.symm)).trans hK
     refine end_marks0 rfl hk2 ⟨⟨_, rfl⟩, hB2.putObj (hB2.neDef hk2) _, ?_⟩
     have hf1 : Fr (fun k => k = tb) w W := (hfr1.no_any (S := fun k => k = tb)).trans hW3 (fun k hk => .inr (by omega))
     exact ((hf1.setCell (p := ⟨tb, i, none⟩) (.inl rfl) _).drew).putObj (.inr (by have := hfr1.size; omega)) _
end Go.Proofs.YtnkjhicokcmmpaaGreat
/-
 The checksum of bytes: what the program's functions come to.
-/
namespace Go.Proofs.YtnkjhicokcmmpaaGreat
open Go.RowKit Go.Shelf
attribute [local go_sem] Oper.semAt_some
def tabTo (k : Nat) : List Value := (List.range 256).map fun j => if j < k then .int .u32 (tab j : Nat) else .int .u32 0
theorem tabTo_len (k : Nat) : (tabTo k).length = 256 := by simp [tabTo]
theorem tabTo_succ (k : Nat) (hk : k < 256) : (tabTo k).set k (.int .u32 (tab k : Nat)) = tabTo (k + 1) := by
 apply List.ext_getElem
 · simp [tabTo]
 · intro i h1 h2
   rw [List.getElem_set]
   simp only [tabTo, List.getElem_map, List.getElem_range]
   split
   · rename_i e; subst e; rw [if_pos (by omega)]
   · rename_i e
     by_cases hi : i < k
     · rw [if_pos hi, if_pos (by omega)]
     · rw [if_neg hi, if_neg (by omega)]
theorem tabTo_get (i : Nat) (hi : i < 256) : (tabTo 256)[i]? = some (.int .u32 (tab i : Nat)) := by
 simp [tabTo, hi]
def crcTo (l : List UInt8) (k : Nat) : Nat := regTo (l.take k) 4294967295
theorem crcTo_lt (l : List UInt8) (k : Nat) : crcTo l k < 2 ^ 32 := regTo_lt (by decide)
theorem crcTo_succ (l : List UInt8) (k : Nat) (hk : k < l.length) : crcTo l (k + 1) = csB (crcTo l k) (l[k]).toNat := by
 unfold crcTo
 rw [List.take_succ_eq_append_getElem hk, regTo_snoc]
theorem not_u32 (c : Nat) (h : c < 2 ^ 32) : bits .xor .u32 IntKind.u32.max (c : Int) = ((4294967295 - c : Nat) : Int) := by
 have h1 := xor_u32 4294967295 c (by decide) h
 have h2 : 4294967295 ^^^ c = 4294967295 - c := by
   apply Nat.eq_of_testBit_eq
   intro i
   have h3 := Nat.testBit_two_pow_sub_succ h i
   rw [show 2 ^ 32 - (c + 1) = 4294967295 - c by omega] at h3
   rw [h3, Nat.testBit_xor]
   have h4 : (4294967295 : Nat).testBit i = decide (i < 32) := Nat.testBit_two_pow_sub_one 32 i
   rw [h4]
   by_cases hi : i < 32
   · simp [hi]
   · have : c.testBit i = false := Nat.testBit_lt_two_pow (Nat.lt_of_lt_of_le h (Nat.pow_le_pow_right (by decide) (by omega)))
     simp [hi, this]
 rw [h2] at h1
 exact h1
theorem xor_u8 (c x : Nat) (hx : x < 256) : bits .xor .u8 ((c : Int) % 256) (x : Int) = ((c % 256 ^^^ x : Nat) : Int) := by
 have h8 : ∀ a : Nat, a < 256 → (BitVec.ofInt 8 (a : Int)).toNat = a := fun a ha => by
   rw [BitVec.ofInt_natCast, BitVec.toNat_ofNat]
   exact Nat.mod_eq_of_lt ha
 have hl : c % 256 ^^^ x < 256 := Nat.xor_lt_two_pow (n := 8) (Nat.mod_lt _ (by decide)) hx
 show IntKind.u8.wrap ((BitVec.ofInt 8 ((c : Int) % 256) ^^^ BitVec.ofInt 8 (x : Int)).toNat : Int) = _
 rw [show (c : Int) % 256 = ((c % 256 : Nat) : Int) by simp, BitVec.toNat_xor, h8 _ (Nat.mod_lt _ (by decide)), h8 _ hx]
 generalize c % 256 ^^^ x = m at *
 simp [IntKind.wrap, IntKind.signed, IntKind.bits]
 omega
theorem tab0 : (tabTo 0).toArray = Tryz.zeroCells185 := by kernel_rfl
set_option maxRecDepth 100000 in
set_option maxHeartbeats 4000000 in
theorem known_any (w : World) : Calls Tryz.prog 112 #[] w fun e w' => e = .returned (.pointer (some ⟨w.heap.size, 0, none⟩)) ∧ Blk w' w.heap.size 185 (tabTo 256) ∧ Fr No w w' := by
 go_enter Tryz.func112, Tryz.ntmps112
 go_wp2
 have hB : Blk (w.alloc (.cells Tryz.zeroCells185 185)) w.heap.size 185 (tabTo 0) := by
   have h := Blk.new w 185 (tabTo 0)
   rw [tab0] at h
   exact h
 have hf : Fr No w (w.alloc (.cells Tryz.zeroCells185 185)) := (Fr.refl No w).alloc _
 generalize w.alloc (.cells Tryz.zeroCells185 185) = w0 at *
 go_loopw [5] (fun t wr => ∃ k : Nat, k ≤ 256 ∧ t = .int .i64 k ∧ Blk wr w.heap.size 185 (tabTo k) ∧ Fr No w wr) (fun t _ => 256 - (intOf t).toNat)
 case atStart => exact ⟨0, Nat.zero_le _, rfl, hB, hf⟩
 case round =>
   obtain ⟨k, hk, rfl, hT, hfr⟩ := hrel
   clear hB hf
   by_cases hlt : k < 256
   · go_wp2_with (go_at_call 123; refine (fill_any w.heap.size k hlt _ (tabTo_len k) _ hT).mono ?_; rintro e w1 ⟨⟨v, rfl⟩, h1, h2⟩)
     go_roundw
     case rel =>
       rw [tabTo_succ k hlt] at h1
       exact ⟨k + 1, by omega, by go_num, h1, hfr.trans h2 (fun x hx => .inr (by omega))⟩
     case measure => (simp [intOf]; omega)
   · obtain rfl : k = 256 := by omega
     have hl := hT.lt
     go_wp2
     go_ret
     exact ⟨rfl, hT, hfr⟩
set_option maxRecDepth 100000 in
set_option maxHeartbeats 4000000 in
theorem crcMore_any (a : Option Addr) (n c : Nat) (bs : List UInt8) (w : World) (h : Win w a n c (bs.map byt)) (hb : n ≤ 1000000) :
   Calls Tryz.prog 90 #[.int .u32 0, .slice a n c] w fun e w' => e = .returned (.int .u32 (sumOf bs : Nat)) ∧ Fr No w w' := by
 have hl : bs.length = n := by have := h.len; simpa using this
 have HL := Lib.hid hl
 have hw := Lib.hid h
 clear hl h
 go_enter Tryz.func90, Tryz.ntmps90
 go_wp2_with (go_at_call 112; refine (known_any _).mono ?_; rintro e w1 ⟨rfl, hT, hf1⟩)
 have hst : Value.int .u32 (bits .xor .u32 IntKind.u32.max 0) = .int .u32 (crcTo bs 0 : Nat) := by
   have h0 : bits .xor .u32 IntKind.u32.max 0 = ((4294967295 - 0 : Nat) : Int) := not_u32 0 (by decide)
   rw [h0]
   rfl
 rw [hst]
 have HT := Lib.hid hT
 clear hst hT
 go_loopw [6, 14] (fun r t wr => ∃ k : Nat, k ≤ n ∧ r = .int .u32 (crcTo bs k : Nat) ∧ t = .int .i64 k ∧ Fr No w1 wr) (fun _ t _ => n - (intOf t).toNat)
 case atStart => exact ⟨0, Nat.zero_le _, rfl, rfl, Fr.refl _ _⟩
 case round =>
   obtain ⟨k, hk, rfl, rfl, hfr⟩ := hrel
   by_cases hlt : k < n
   · have hkb : k < bs.length := by rw [HL.out]; exact hlt
     obtain ⟨ad, u, rfl, hu, hcell⟩ := (hw.out.no (hf1.thn hfr)).at hlt
     have hc := crcTo_lt bs k
     have hsuc := crcTo_succ bs k hkb
     obtain ⟨c', hcd⟩ : ∃ c', c' = crcTo bs k := ⟨_, rfl⟩
     rw [← hcd] at hc hsuc ⊢
     have hx := (bs[k]).toNat_lt
     have hu' : u = .int .u8 ((bs[k]).toNat : Int) := by
       rw [List.getElem?_map, List.getElem?_eq_getElem hkb] at hu
       exact (Option.some.inj hu).symm
     subst hu'
     generalize (bs[k]).toNat = x at *
     obtain ⟨m, hm⟩ : ∃ m, m = c' % 256 ^^^ x := ⟨_, rfl⟩
     have hml : m < 256 := by rw [hm]; exact Nat.xor_lt_two_pow (n := 8) (Nat.mod_lt _ (by decide)) hx
     have hidx : bits .xor .u8 ((c' : Int) % 256) (x : Int) = (m : Int) := by rw [xor_u8 c' x hx, hm]
     have hTr := HT.out.fr hfr (No.no _)
     have ht := hTr.cell (j := m) (tabTo_get m hml)
     have hxor : bits .xor .u32 ((c' : Int) / 256) ((tab m : Nat) : Int) = ((csB c' x : Nat) : Int) := by
       have h1 := xor_u32 (c' / 256) (tab m) (by omega) (tab_lt (by omega))
       rw [show ((c' / 256 : Nat) : Int) = (c' : Int) / 256 by omega] at h1
       rw [h1]
       unfold csB
       rw [hm]
     have HS := Lib.hid hsuc
     have hmi : (m : Int) < 256 := by omega
     have htl := hTr.lt
     clear hsuc hm hcd hu
     go_wp2
     go_roundw
     case rel => exact ⟨k + 1, by omega, by rw [HS.out], by go_num, hfr⟩
     case measure => (simp [intOf]; omega)
   · obtain rfl : k = n := by omega
     have hend : bits .xor .u32 IntKind.u32.max ((crcTo bs k : Nat) : Int) = ((sumOf bs : Nat) : Int) := by
       rw [not_u32 _ (crcTo_lt bs k)]
       unfold sumOf crcTo
       rw [List.take_of_length_le (by rw [HL.out]; exact Nat.le_refl _)]
     have HE := Lib.hid hend
     clear hend
     go_wp2
     go_ret
     exact ⟨by rw [← HE.out]; rfl, hf1.thn hfr⟩
theorem crcOf_any (a : Option Addr) (n c : Nat) (bs : List UInt8) (w : World) (h : Win w a n c (bs.map byt)) (hb : n ≤ 1000000) :
   Calls Tryz.prog 68 #[.slice a n c] w fun e w' => e = .returned (.int .u32 (sumOf bs : Nat)) ∧ Fr No w w' := by
 go_enter Tryz.func68, Tryz.ntmps68
 go_wp2_with (go_at_call 90; refine (crcMore_any a n c bs _ h hb).mono ?_; rintro e w1 ⟨rfl, hf1⟩)
 go_ret
 exact ⟨rfl, hf1⟩
end Go.Proofs.YtnkjhicokcmmpaaGreat
namespace Go.Proofs.YtnkjhicokcmmpaaGreat
open Go.RowKit Go.Shelf
theorem step_any (c b : Nat) (hc : c < 2 ^ 32) (hb : b < 2) (w : World) : Calls Tryz.prog 113 #[.int .u32 c, .int .u32 b] w fun e w' => e = .returned (.int .u32 (rs1 c b : Nat)) ∧ w = w' := by
 have hx : bits .xor .u32 (c : Int) (b : Int) = ((c ^^^ b : Nat) : Int) := xor_u32 c b hc (by omega)
 have hc2 : ((c / 2 : Nat) : Int) = (c : Int) / 2 := by omega
 have hxp : bits .xor .u32 ((c : Int) / 2) 3988292384 = ((c / 2 ^^^ poly : Nat) : Int) := by
   have := xor_u32 (c / 2) poly (by omega) (by decide)
   rw [hc2] at this
   exact this
 by_cases hp : (c ^^^ b) % 2 = 1
 · have hd : rs1 c b = c / 2 ^^^ poly := by unfold rs1; rw [if_pos hp]
   have ht : (((c ^^^ b : Nat) : Int) % 2 == 1) = true := by simp; omega
   rw [hd]
   clear hd hc2
   go_enter Tryz.func113, Tryz.ntmps113
   go_wp2
   go_ret
   exact ⟨rfl, rfl⟩
 · have hd : rs1 c b = c / 2 := by unfold rs1; rw [if_neg hp]
   have ht : (((c ^^^ b : Nat) : Int) % 2 == 1) = false := by simp; omega
   rw [hd, hc2]
   clear hd hc2 hxp
   go_enter Tryz.func113, Tryz.ntmps113
   go_wp2
   go_ret
   exact ⟨rfl, rfl⟩
theorem step_mod (c y : Nat) (hc : c < 2 ^ 32) (w : World) : Calls Tryz.prog 113 #[.int .u32 c, .int .u32 ((y : Int) % 2)] w fun e w' => e = .returned (.int .u32 (rs1 c (y % 2) : Nat)) ∧ w = w' := by
 rw [show (y : Int) % 2 = ((y % 2 : Nat) : Int) by omega]
 exact step_any c (y % 2) hc (Nat.mod_lt _ (by decide)) w
set_option maxRecDepth 100000 in
set_option maxHeartbeats 4000000 in
theorem refMore_any (a : Option Addr) (n c : Nat) (bs : List UInt8) (w : World) (h : Win w a n c (bs.map byt)) (hb : n ≤ 1000000) :
   Calls Tryz.prog 92 #[.int .u32 0, .slice a n c] w fun e w' => e = .returned (.int .u32 (sumOf bs : Nat)) ∧ w = w' := by
 have hl : bs.length = n := by have := h.len; simpa using this
 have HL := Lib.hid hl
 have hw := Lib.hid h
 clear hl h
 go_enter Tryz.func92, Tryz.ntmps92
 go_wp2
 have hst : Value.int .u32 4294967295 = .int .u32 (crcTo bs 0 : Nat) := rfl
 rw [hst]
 clear hst
 go_loop [5, 6] (fun r t => ∃ k : Nat, k ≤ n ∧ r = .int .u32 (crcTo bs k : Nat) ∧ t = .int .i64 k) (fun _ t => n - (intOf t).toNat)
 case atStart => exact ⟨0, Nat.zero_le _, rfl, rfl⟩
 case round =>
   obtain ⟨k, hk, rfl, rfl⟩ := hrel
   by_cases hlt : k < n
   · have hkb : k < bs.length := by rw [HL.out]; exact hlt
     obtain ⟨ad, u, rfl, hu, hcell⟩ := hw.out.at hlt
     have hc := crcTo_lt bs k
     have hsuc := crcTo_succ bs k hkb
     obtain ⟨c', hcd⟩ : ∃ c', c' = crcTo bs k := ⟨_, rfl⟩
     rw [← hcd] at hc hsuc ⊢
     have hx := (bs[k]).toNat_lt
     have hu' : u = .int .u8 ((bs[k]).toNat : Int) := by
       rw [List.getElem?_map, List.getElem?_eq_getElem hkb] at hu
       exact (Option.some.inj hu).symm
     subst hu'
     generalize (bs[k]).toNat = x at *
     rw [csB_eq c' x hx] at hsuc
     have HS := Lib.hid hsuc
     have hxw : IntKind.u32.wrap (x : Int) = (x : Int) := wrap_u32 x (by omega)
     clear hsuc hcd hu
     go_wp2
     go_loop [5, 7, 8] (fun r y j => ∃ m : Nat, m ≤ 8 ∧ r = .int .u32 (rsN x m c' : Nat) ∧ y = .int .u32 (x / 2 ^ m : Nat) ∧ j = .int .i64 m) (fun _ _ j => 8 - (intOf j).toNat)
     case atStart => exact ⟨0, Nat.zero_le _, rfl, by simp, rfl⟩
     case round =>
       obtain ⟨m, hm, rfl, rfl, rfl⟩ := hrel
       by_cases hml : m < 8
       · have hr := rsN_lt (x := x) hc m
         have hs1 : Hid (rsN x (m + 1) c' = rs1 (rsN x m c') (x / 2 ^ m % 2)) := rfl
         have hs2 : Hid (x / 2 ^ (m + 1) = x / 2 ^ m / 2) := by
           show x / 2 ^ (m + 1) = x / 2 ^ m / 2
           rw [Nat.pow_succ, Nat.div_div_eq_div_mul]
         have hyb : x / 2 ^ m ≤ 255 := Nat.le_trans (Nat.div_le_self _ _) (by omega)
         generalize rsN x m c' = r at *
         generalize x / 2 ^ m = y at *
         go_wp2_with (go_at_call 113; refine (step_mod r y hr _).mono ?_; rintro e w1 ⟨rfl, rfl⟩)
         go_round
         case rel => exact ⟨m + 1, by omega, by rw [hs1.out], (by rw [hs2.out]; congr 1), by go_num⟩
         case measure => (simp [intOf]; omega)
       · obtain rfl : m = 8 := by omega
         go_wp2
         go_round
         case rel => exact ⟨k + 1, by omega, by rw [HS.out], by go_num⟩
         case measure => (simp [intOf]; omega)
   · obtain rfl : k = n := by omega
     have hend : sumOf bs = 4294967295 - crcTo bs k := by
       unfold sumOf crcTo
       rw [List.take_of_length_le (by rw [HL.out]; exact Nat.le_refl _)]
     have hlt2 := crcTo_lt bs k
     have HE := Lib.hid hend
     clear hend
     generalize crcTo bs k = c' at *
     have hsub : IntKind.u32.wrap (4294967295 - (c' : Int)) = ((4294967295 - c' : Nat) : Int) := by
       rw [show (4294967295 - (c' : Int)) = ((4294967295 - c' : Nat) : Int) by omega]
       exact wrap_u32 _ (by omega)
     go_wp2
     go_ret
     exact ⟨by rw [HE.out]; rfl, rfl⟩
theorem refOf_any (a : Option Addr) (n c : Nat) (bs : List UInt8) (w : World) (h : Win w a n c (bs.map byt)) (hb : n ≤ 1000000) :
   Calls Tryz.prog 71 #[.slice a n c] w fun e w' => e = .returned (.int .u32 (sumOf bs : Nat)) ∧ w = w' := by
 go_enter Tryz.func71, Tryz.ntmps71
 go_wp2_with (go_at_call 92; refine (refMore_any a n c bs _ h hb).mono ?_; rintro e w1 ⟨rfl, rfl⟩)
 go_ret
 exact ⟨rfl, rfl⟩
structure RootD where
 n : Nat
 len : Int
 sum : Nat
structure RootD.Fits (r : RootD) : Prop where
 n : r.n < 2 ^ 64
 sum : r.sum < 2 ^ 32
def RootD.cells (r : RootD) : List Value := [.int .u64 r.n, .int .i64 r.len, .int .u32 r.sum]
def RootD.ok (r : RootD) : Bool := !(r.n == 0) && !(decide (r.len < 0)) && !(decide (3072 < r.len))
def rootFront (r : RootD) : List UInt8 := [81, 82, 1, 0] ++ num 8 r.n ++ num 4 r.len.toNat ++ num 4 r.sum ++ List.replicate 96 0
def rootBytes (r : RootD) : List UInt8 := rootFront r ++ num 4 (sumOf (rootFront r)) ++ num 8 r.n
theorem rootFront_len (r : RootD) : (rootFront r).length = 116 := by simp [rootFront, num_len]
theorem rootBytes_len (r : RootD) : (rootBytes r).length = 128 := by simp [rootBytes, rootFront_len, num_len]
set_option maxRecDepth 100000 in
set_option maxHeartbeats 1000000 in
theorem encode_ok (r : RootD) (hf : r.Fits) (hr : r.ok = true) (w : World) :
   Calls Tryz.prog 42 #[.agg r.cells.toArray] w fun e w' => ∃ g c, e = .returned (.tuple #[.slice (some ⟨g, 0, none⟩) 128 c, .int .i64 0]) ∧ Own w' 5 1 (.slice (some ⟨g, 0, none⟩) 128 c) 128 ((rootBytes r).map byt) ∧ w.heap.size ≤ g ∧ Fr No w w' := by
 obtain ⟨n, len, sum⟩ := r
 simp only [RootD.ok, Bool.and_eq_true, Bool.not_eq_true', beq_eq_false_iff_ne, decide_eq_false_iff_not] at hr
 obtain ⟨⟨hr1, hr2⟩, hr3⟩ := hr
 obtain ⟨L, rfl⟩ : ∃ L : Nat, len = (L : Int) := ⟨len.toNat, by omega⟩
 have hL : L ≤ 3072 := by omega
 have hn0 : ((n : Int) == 0) = false := by simp; omega
 have hLw : IntKind.u64.wrap (L : Int) = (L : Int) := wrap_u64 L (by omega)
 have hsw : IntKind.u64.wrap (sum : Int) = (sum : Int) := wrap_u64 sum (Nat.lt_of_lt_of_le hf.sum (by decide))
 have kc := fun (w : World) (C : Array Value) (n c g : Nat) (hg : g = w.heap.size) => Joins.run_convert_bytes_const_at (P := Tryz.prog) w 36 5 C n c g hg Tryz.underlying36 Tryz.underlying5
 have hd1 : decide ((L : Int) < 0) = false := by simp
 have hd2 : decide (3072 < (L : Int)) = false := by simp; omega
 have HF := Lib.hid hf
 clear hf hr1 hr2 hr3
 show Calls _ _ #[.agg #[.int .u64 n, .int .i64 (L : Int), .int .u32 sum]] _ _
 go_enter Tryz.func42, Tryz.ntmps42
 go_wp2_with fail
 obtain ⟨N, hN⟩ : ∃ N, N = w.heap.size + 1 := ⟨_, rfl⟩
 have kR : Blk (((w.alloc (.cells #[.int .u64 n, .int .i64 L, .int .u32 sum] 35)).alloc (.cells #[.slice none 0 0] 120)).alloc (.cells #[.int .u8 81, .int .u8 82, .int .u8 1, .int .u8 0] 5 (4, 5))) w.heap.size 35 [.int .u64 n, .int .i64 L, .int .u32 sum] := ((Blk.new w _ _).alloc _).alloc _
 have hW0 : WIn N (((w.alloc (.cells #[.int .u64 n, .int .i64 L, .int .u32 sum] 35)).alloc (.cells #[.slice none 0 0] 120)).alloc (.cells #[.int .u8 81, .int .u8 82, .int .u8 1, .int .u8 0] 5 (4, 5))) N (.slice none 0 0) [] := by
   refine ⟨⟨?_, World.ownsRow_nil _ _ _ _⟩, Nat.le_refl _, fun k hk => by simp [Value.ownBlock] at hk⟩
   have := Blk.new (w.alloc (.cells #[.int .u64 n, .int .i64 L, .int .u32 sum] 35)) 120 [.slice none 0 0]
   rw [World.size_alloc, ← hN] at this
   exact this.alloc _
 have hC : Win (((w.alloc (.cells #[.int .u64 n, .int .i64 L, .int .u32 sum] 35)).alloc (.cells #[.slice none 0 0] 120)).alloc (.cells #[.int .u8 81, .int .u8 82, .int .u8 1, .int .u8 0] 5 (4, 5))) (some ⟨w.heap.size + 1 + 1, 0, none⟩) 4 4 (([81, 82, 1, 0] : List UInt8).map byt) := by
   have := win_const ((w.alloc (.cells #[.int .u64 n, .int .i64 L, .int .u32 sum] 35)).alloc (.cells #[.slice none 0 0] 120)) 5 [.int .u8 81, .int .u8 82, .int .u8 1, .int .u8 0] (by unfold maxLen; simp)
   rw [World.size_alloc, World.size_alloc] at this
   exact this
 have f0 : Fr No w (((w.alloc (.cells #[.int .u64 n, .int .i64 L, .int .u32 sum] 35)).alloc (.cells #[.slice none 0 0] 120)).alloc (.cells #[.int .u8 81, .int .u8 82, .int .u8 1, .int .u8 0] 5 (4, 5))) := (((Fr.refl No w).alloc _).alloc _).alloc _
 have hz0 : N ≤ (((w.alloc (.cells #[.int .u64 n, .int .i64 L, .int .u32 sum] 35)).alloc (.cells #[.slice none 0 0] 120)).alloc (.cells #[.int .u8 81, .int .u8 82, .int .u8 1, .int .u8 0] 5 (4, 5))).heap.size := by simp; omega
 generalize ((w.alloc (.cells #[.int .u64 n, .int .i64 L, .int .u32 sum] 35)).alloc (.cells #[.slice none 0 0] 120)).alloc (.cells #[.int .u8 81, .int .u8 82, .int .u8 1, .int .u8 0] 5 (4, 5)) = w0 at *
 have hbN : w.heap.size < N := by omega
 rw [← hN]
 rw [← hN] at hC
 have HN := Lib.hid hN
 clear hN kc
 refine (wrawN N N _ [] [81, 82, 1, 0] _ 4 4 (by simp) _ hz0 hW0 hC).mono ?_
 rintro e w1 ⟨v1, rfl, h1, g1⟩
 have k1 := kR.from g1 hbN
 have z1 : N ≤ w1.heap.size := Nat.le_trans hz0 g1.size
 have c1 := k1.cell (j := 0) rfl
 clear hW0 hC
 go_wp2_with fail
 refine (wnumN N N v1 _ 8 n (by omega) HF.out.n (by simp) _ z1 h1).mono ?_
 rintro e w2 ⟨v2, rfl, h2, g2⟩
 have k2 := k1.from g2 hbN
 have z2 : N ≤ w2.heap.size := Nat.le_trans z1 g2.size
 have c2 := k2.cell (j := 1) rfl
 clear c1 h1
 go_wp2_with fail
 refine (wnumN N N v2 _ 4 L (by omega) (by omega) (by simp [num_len]) _ z2 h2).mono ?_
 rintro e w3 ⟨v3, rfl, h3, g3⟩
 have k3 := k2.from g3 hbN
 have z3 : N ≤ w3.heap.size := Nat.le_trans z2 g3.size
 have c3 := k3.cell (j := 2) rfl
 clear c2 h2
 go_wp2_with fail
 refine (wnumN N N v3 _ 4 sum (by omega) HF.out.sum (by simp [num_len]) _ z3 h3).mono ?_
 rintro e w4 ⟨v4, rfl, h4, g4⟩
 have k4 := k3.from g4 hbN
 have z4 : N ≤ w4.heap.size := Nat.le_trans z3 g4.size
 clear c3 h3
 go_wp2_with fail
 refine (wlenN N N v4 _ 20 (by simp [num_len]) _ h4).mono ?_
 rintro e w5 ⟨rfl, rfl⟩
 have hmk : ∀ u : World, (Instr.makeSlice 36 (.int .i64 96) (.int .i64 96)).run Tryz.prog u = .ok (.slice (some ⟨u.heap.size, 0, none⟩) 96 96) (u.alloc (.cells ((List.replicate 96 (0 : UInt8)).map byt).toArray 5)) := Tryz.makeB 96 (by decide)
 obtain ⟨zz, hzz⟩ : ∃ zz : Array Value, zz = ((List.replicate 96 (0 : UInt8)).map byt).toArray := ⟨_, rfl⟩
 rw [← hzz] at hmk
 have HZZ := Lib.hid hzz
 clear hzz
 go_wp2_with fail
 have f4 : Fr No w4 (w4.alloc (.cells zz 5)) := (Fr.refl No w4).alloc _
 have hZ : Win (w4.alloc (.cells zz 5)) (some ⟨w4.heap.size, 0, none⟩) 96 96 ((List.replicate 96 (0 : UInt8)).map byt) := by
   rw [HZZ.out]
   exact Win.of_own' (Own.of_blk (sp := []) (by rw [List.append_nil]; exact Blk.new w4 _ _) (by simp) (by simp) (Nat.le_refl _) (by unfold maxLen; simp))
 have z4' : N ≤ (w4.alloc (.cells zz 5)).heap.size := Nat.le_trans z4 f4.size
 have h4' := h4.no f4
 refine (wrawN N N v4 _ (List.replicate 96 0) _ 96 96 (by simp [num_len]) _ z4' h4' hZ).mono ?_
 rintro e w5 ⟨v5, rfl, h5, g5⟩
 have k5 := (k4.fr f4 (No.no _)).from g5 hbN
 have z5 : N ≤ w5.heap.size := Nat.le_trans z4' g5.size
 have hfr5 : From N w0 w5 := ((((g1.t g2).t g3).t g4).t (f4.no_any)).t g5
 clear h4 h4' hZ hmk k4 k3 k2 k1 kR g1 g2 g3 g4 g5
 have hfront : [81, 82, 1, 0] ++ num 8 n ++ num 4 L ++ num 4 sum ++ List.replicate 96 0 = rootFront ⟨n, L, sum⟩ := rfl
 rw [List.nil_append, hfront] at h5
 clear hfront
 obtain ⟨fr, hfrd⟩ : ∃ fr, fr = rootFront ⟨n, (L : Int), sum⟩ := ⟨_, rfl⟩
 have hfl : fr.length = 116 := by rw [hfrd]; exact rootFront_len _
 rw [← hfrd] at h5
 have HFR := Lib.hid hfrd
 clear hfrd
 go_wp2_with fail
 refine (wbytesN N N v5 fr 116 hfl (by decide) _ h5 (by decide)).mono ?_
 rintro e w6 ⟨ga, ca, rfl, o6, p6, g6⟩
 go_wp2_with fail
 refine (crcOf_any _ 116 ca fr _ (Win.of_own' o6) (by decide)).mono ?_
 rintro e w7 ⟨rfl, g7⟩
 have h7 := (h5.no g6).no g7
 have z7 : N ≤ w7.heap.size := Nat.le_trans z5 (Nat.le_trans g6.size g7.size)
 have k7 := (k5.fr g6 (No.no _)).fr g7 (No.no _)
 have hcw : IntKind.u64.wrap ((sumOf fr : Nat) : Int) = ((sumOf fr : Nat) : Int) := wrap_u64 _ (Nat.lt_trans (sumOf_lt fr) (by decide))
 clear h5 o6 k5
 go_wp2_with fail
 refine (wnumN N N v5 fr 4 (sumOf fr) (by omega) (sumOf_lt fr) (by omega) _ z7 h7).mono ?_
 rintro e w8 ⟨v8, rfl, h8, g8⟩
 have k8 := k7.from g8 hbN
 have z8 : N ≤ w8.heap.size := Nat.le_trans z7 g8.size
 have c8 := k8.cell (j := 0) rfl
 clear h7 hcw
 go_wp2_with fail
 refine (wnumN N N v8 _ 8 n (by omega) HF.out.n (by simp [num_len, hfl]) _ z8 h8).mono ?_
 rintro e w9 ⟨v9, rfl, h9, g9⟩
 clear c8 h8
 go_wp2_with fail
 refine (wbytesN N N v9 _ 128 (by simp [num_len, hfl]) (by decide) _ h9 (by decide)).mono ?_
 rintro e w10 ⟨gb, cb, rfl, o10, p10, g10⟩
 go_wp2
 go_ret2
 have hall : From N w0 w10 := (((hfr5.t (g6.thn g7).no_any).t g8).t g9).t g10.no_any
 refine ⟨gb, cb, rfl, ?_, ?_, f0.trans hall (fun k hk => .inr (by omega))⟩
 · rw [HFR.out] at o10
   exact o10
 · have := f0.size
   have := hall.size
   have := g9.size
   have := hfr5.size
   have := g6.size
   have := g7.size
   have := g8.size
   omega
set_option maxRecDepth 100000 in
set_option maxHeartbeats 1000000 in
theorem encode_bad (r : RootD) (hr : r.ok = false) (w : World) :
   Calls Tryz.prog 42 #[.agg r.cells.toArray] w fun e w' => e = .returned (.tuple #[.slice none 0 0, .int .i64 60]) ∧ Fr No w w' := by
 obtain ⟨n, L, sum⟩ := r
 have h3 : n = 0 ∨ (n ≠ 0 ∧ L < 0) ∨ (n ≠ 0 ∧ ¬ L < 0 ∧ 3072 < L) := by
   by_cases h0 : n = 0
   · exact .inl h0
   · by_cases h1 : L < 0
     · exact .inr (.inl ⟨h0, h1⟩)
     · refine .inr (.inr ⟨h0, h1, ?_⟩)
       simp [RootD.ok, h0, h1] at hr
       omega
 clear hr
 show Calls _ _ #[.agg #[.int .u64 n, .int .i64 L, .int .u32 sum]] _ _
 rcases h3 with rfl | ⟨h0, h1⟩ | ⟨h0, h1, h2⟩
 · go_enter Tryz.func42, Tryz.ntmps42
   go_wp2
   go_ret2
   exact ⟨rfl, (Fr.refl No w).alloc _⟩
 · have hn0 : ((n : Int) == 0) = false := by simp; omega
   have hd1 : decide (L < 0) = true := by simp; omega
   go_enter Tryz.func42, Tryz.ntmps42
   go_wp2
   go_ret2
   exact ⟨rfl, (Fr.refl No w).alloc _⟩
 · have hn0 : ((n : Int) == 0) = false := by simp; omega
   have hd1 : decide (L < 0) = false := by simp; omega
   have hd2 : decide (3072 < L) = true := by simp; omega
   go_enter Tryz.func42, Tryz.ntmps42
   go_wp2
   go_ret2
   exact ⟨rfl, (Fr.refl No w).alloc _⟩
set_option maxRecDepth 100000 in
set_option maxHeartbeats 1000000 in
theorem refEncode_bad (r : RootD) (hr : r.ok = false) (w : World) :
   Calls Tryz.prog 44 #[.agg r.cells.toArray] w fun e w' => e = .returned (.tuple #[.slice none 0 0, .int .i64 60]) ∧ Fr No w w' := by
 obtain ⟨n, L, sum⟩ := r
 have h3 : n = 0 ∨ (n ≠ 0 ∧ L < 0) ∨ (n ≠ 0 ∧ ¬ L < 0 ∧ 3072 < L) := by
   by_cases h0 : n = 0
   · exact .inl h0
   · by_cases h1 : L < 0
     · exact .inr (.inl ⟨h0, h1⟩)
     · refine .inr (.inr ⟨h0, h1, ?_⟩)
       simp [RootD.ok, h0, h1] at hr
       omega
 clear hr
 show Calls _ _ #[.agg #[.int .u64 n, .int .i64 L, .int .u32 sum]] _ _
 rcases h3 with rfl | ⟨h0, h1⟩ | ⟨h0, h1, h2⟩
 · go_enter Tryz.func44, Tryz.ntmps44
   go_wp2
   go_ret2
   exact ⟨rfl, (Fr.refl No w).alloc _⟩
 · have hn0 : ((n : Int) == 0) = false := by simp; omega
   have hd1 : decide (L < 0) = true := by simp; omega
   go_enter Tryz.func44, Tryz.ntmps44
   go_wp2
   go_ret2
   exact ⟨rfl, (Fr.refl No w).alloc _⟩
 · have hn0 : ((n : Int) == 0) = false := by simp; omega
   have hd1 : decide (L < 0) = false := by simp; omega
   have hd2 : decide (3072 < L) = true := by simp; omega
   go_enter Tryz.func44, Tryz.ntmps44
   go_wp2
   go_ret2
   exact ⟨rfl, (Fr.refl No w).alloc _⟩
structure OIn (N : Nat) (w : World) (v : Value) (bs : List UInt8) : Prop where
 own : Own w 5 1 v bs.length (bs.map byt)
 new : ∀ k, v.ownBlock = some k → N ≤ k
theorem OIn.no {N : Nat} {w w' : World} {v : Value} {bs : List UInt8} (h : OIn N w v bs) (hf : Fr No w w') : OIn N w' v bs := ⟨h.own.fr hf (fun _ _ => No.no _), h.new⟩
theorem OIn.app {N : Nat} {w0 w w' : World} {m : Nat} {v v' : Value} {bs cs : List UInt8} (h : OIn N w0 v bs) (hz : N ≤ w0.heap.size) (h0 : Fr No w0 w) (hap : Appended w 5 1 v bs.length m (bs.map byt ++ cs.map byt) v' w') (hm : cs.length = m) : OIn N w' v' (bs ++ cs) ∧ From N w0 w' := by
 subst hm
 have ho := hap.own
 rw [← List.map_append, ← List.length_append] at ho
 refine ⟨⟨ho, fun k hk => ?_⟩, h0.no_any.trans hap.fr (fun k hk => .inl (h.new k hk))⟩
 rcases hap.atOr (Nat.le_refl _) k hk with e | e
 · exact h.new k e
 · exact Nat.le_trans hz (Nat.le_trans h0.size e)
theorem OIn.step {N : Nat} {w0 w w' : World} {m : Nat} {v v' : Value} {bs : List UInt8} (cs : List UInt8) (h : OIn N w0 v bs) (hz : N ≤ w0.heap.size) (h0 : Fr No w0 w) (hap : Appended w 5 1 v bs.length m (bs.map byt ++ cs.map byt) v' w') (hm : cs.length = m) :
   ∃ b1, Hid (b1 = bs ++ cs) ∧ Hid (b1.length = bs.length + m) ∧ OIn N w' v' b1 ∧ From N w0 w' := by
 obtain ⟨h1, h2⟩ := h.app hz h0 hap hm
 exact ⟨bs ++ cs, rfl, by show (bs ++ cs).length = bs.length + m; rw [List.length_append, hm], h1, h2⟩
set_option maxRecDepth 100000 in
set_option maxHeartbeats 1000000 in
theorem refEncode_ok (r : RootD) (hf : r.Fits) (hr : r.ok = true) (w : World) :
   Calls Tryz.prog 44 #[.agg r.cells.toArray] w fun e w' => ∃ v, e = .returned (.tuple #[v, .int .i64 0]) ∧ OIn w.heap.size w' v (rootBytes r) ∧ Fr No w w' := by
 obtain ⟨i0, hi0, hz0, hz1, hz2⟩ := info_parts Tryz.infoU8
 obtain ⟨n, len, sum⟩ := r
 simp only [RootD.ok, Bool.and_eq_true, Bool.not_eq_true', beq_eq_false_iff_ne, decide_eq_false_iff_not] at hr
 obtain ⟨⟨hr1, hr2⟩, hr3⟩ := hr
 obtain ⟨L, rfl⟩ : ∃ L : Nat, len = (L : Int) := ⟨len.toNat, by omega⟩
 have hL : L ≤ 3072 := by omega
 have hn0 : ((n : Int) == 0) = false := by simp; omega
 have hLw : IntKind.u64.wrap (L : Int) = (L : Int) := wrap_u64 L (by omega)
 have hsw : IntKind.u64.wrap (sum : Int) = (sum : Int) := wrap_u64 sum (Nat.lt_of_lt_of_le hf.sum (by decide))
 have hd1 : decide ((L : Int) < 0) = false := by simp
 have hd2 : decide (3072 < (L : Int)) = false := by simp; omega
 have HF := Lib.hid hf
 clear hf hr1 hr2 hr3
 show Calls _ _ #[.agg #[.int .u64 n, .int .i64 (L : Int), .int .u32 sum]] _ _
 have kR : Blk (w.alloc (.cells #[.int .u64 n, .int .i64 L, .int .u32 sum] 35)) w.heap.size 35 [.int .u64 n, .int .i64 L, .int .u32 sum] := Blk.new w _ _
 have f0 : Fr No w (w.alloc (.cells #[.int .u64 n, .int .i64 L, .int .u32 sum] 35)) := (Fr.refl No w).alloc _
 have hz0' : w.heap.size < (w.alloc (.cells #[.int .u64 n, .int .i64 L, .int .u32 sum] 35)).heap.size := by simp
 go_enter Tryz.func44, Tryz.ntmps44
 go_wp2_with fail
 generalize w.alloc (.cells #[.int .u64 n, .int .i64 L, .int .u32 sum] 35) = w0 at *
 refine (refNum_any 8 n (by omega) HF.out.n _).mono ?_
 rintro e w1 ⟨vn, rfl, on, nn, g1⟩
 have k1 := kR.fr g1 (No.no _)
 have c1 := k1.cell (j := 1) rfl
 obtain ⟨an, cn, rfl, wn⟩ := Win.of_own on
 go_wp2_with fail
 refine (refNum_any 4 L (by omega) (by omega) _).mono ?_
 rintro e w2 ⟨vl, rfl, ol, nl, g2⟩
 obtain ⟨al, cl, rfl, wl⟩ := Win.of_own ol
 have k2 := k1.fr g2 (No.no _)
 have c2 := k2.cell (j := 2) rfl
 have hz2' : w.heap.size < w2.heap.size := Nat.lt_of_lt_of_le hz0' (Nat.le_trans g1.size g2.size)
 have fz : Fr No w2 (w2.alloc (.cells #[.int .u8 81, .int .u8 82, .int .u8 1, .int .u8 0] 5)) := (Fr.refl No w2).alloc _
 have hB0 : OIn w2.heap.size (w2.alloc (.cells #[.int .u8 81, .int .u8 82, .int .u8 1, .int .u8 0] 5)) (.slice (some ⟨w2.heap.size, 0, none⟩) 4 4) [81, 82, 1, 0] :=
   ⟨Own.of_blk (n := 4) (cap := 4) (xs := ([81, 82, 1, 0] : List UInt8).map byt) (sp := []) (Blk.new w2 5 (([81, 82, 1, 0] : List UInt8).map byt)) rfl rfl (Nat.le_refl _) (by unfold maxLen; decide), fun k hk => by simp [Value.ownBlock] at hk; omega⟩
 have HB0 := Lib.hid hB0
 have WN := Lib.hid ((wn.no g2).no fz)
 have WL := Lib.hid wl
 have HK : Hid (∀ l : List UInt8, ∀ u ∈ l.map byt, u.oneCell' = true) := byt_one
 have hmx : ∀ a : Nat, a ≤ 1000 → a ≤ maxLen := fun a h => by unfold maxLen; omega
 have HMX := Lib.hid hmx
 have hlb : ∀ ad, al = some ad → ¬ w2.heap.size ≤ ad.block := fun ad hd => by have := ol.lt (k := ad.block) (by rw [hd]; rfl); omega
 have HLB := Lib.hid hlb
 have hnb : ∀ ad, an = some ad → ¬ w2.heap.size ≤ ad.block := fun ad hd => by have := on.lt (k := ad.block) (by rw [hd]; rfl); have := g2.size; omega
 have HNB := Lib.hid hnb
 clear on nn ol nl c1 hB0 wn wl hmx hlb hnb
 go_wp2_with (first
   | (at_builtin; refine wpList_appW _ rfl (.tmp 39) (.tmp 40) 36 rfl 5 i0 (.int .u8 0) 1 Tryz.underlying36 hi0 hz0 hz1 hz2 rfl (.slice (some ⟨w2.heap.size, 0, none⟩) 4 4) 4 (([81, 82, 1, 0] : List UInt8).map byt) rfl HB0.out.own an 8 cn ((num 8 n).map byt) rfl WN.out (HK.out _) (HMX.out _ (by omega)) (by omega) ?_; intro v3 w3 hap3; obtain ⟨b3, e3, l3, q3, r3⟩ := HB0.out.step (num 8 n) (by simp) (Fr.refl No _) hap3 (num_len _ _); have z3 := (fz.thn (Fr.refl No _)).size)
   | (at_builtin; refine wpList_appW _ rfl (.tmp 42) (.tmp 43) 36 rfl 5 i0 (.int .u8 0) 1 Tryz.underlying36 hi0 hz0 hz1 hz2 rfl v3 _ _ rfl q3.own al 4 cl ((num 4 L).map byt) rfl (WL.out.fr (S := fun k => w2.heap.size ≤ k) (fz.no_any.trans r3 (fun k h => .inl h)) (HLB.out)) (HK.out _) (HMX.out _ (by have := l3.out; simp at this; omega)) (by have := l3.out; simp at this; omega) ?_; intro v4 w4 hap4; obtain ⟨b4, e4, l4, q4, r4⟩ := q3.step (num 4 L) (Nat.le_trans z3 r3.size) (Fr.refl No _) hap4 (num_len _ _); have k4 := ((k2.fr fz (No.no _)).from r3 hz2').from r4 hz2'; have c4 := k4.cell (j := 2) rfl))
 have z4 : w2.heap.size ≤ w4.heap.size := Nat.le_trans (Nat.le_trans z3 r3.size) r4.size
 refine (refNum_any 4 sum (by omega) HF.out.sum _).mono ?_
 rintro e w5 ⟨vs, rfl, os, ns, g5⟩
 obtain ⟨as', cs, rfl, ws⟩ := Win.of_own os
 have WS := Lib.hid ws
 have q5 := q4.no g5
 have z5 : w2.heap.size ≤ w5.heap.size := Nat.le_trans z4 g5.size
 clear ws os ns c4 hap3 hap4
 go_wp2_with (at_builtin; refine wpList_appW _ rfl (.tmp 52) (.tmp 53) 36 rfl 5 i0 (.int .u8 0) 1 Tryz.underlying36 hi0 hz0 hz1 hz2 rfl v4 _ _ rfl q5.own as' 4 cs ((num 4 sum).map byt) rfl WS.out (HK.out _) (HMX.out _ (by have := l4.out; have := l3.out; simp at this; omega)) (by have := l4.out; have := l3.out; simp at this; omega) ?_; intro v6 w6 hap6; obtain ⟨b6, e6, l6, q6, r6⟩ := q5.step (num 4 sum) z5 (Fr.refl No _) hap6 (num_len _ _))
 have hl6 : b6.length = 20 := by have := l6.out; have := l4.out; have := l3.out; simp at this; omega
 have he6 : b6 = [81, 82, 1, 0] ++ num 8 n ++ num 4 L ++ num 4 sum := by rw [e6.out, e4.out, e3.out]
 have hr6 : From w2.heap.size w2 w6 := From.t (From.t (fz.no_any.trans r3 (fun k h => .inl h)) r4) (From.t g5.no_any r6)
 have HE6 := Lib.hid he6
 have hR : From w2.heap.size (w2.alloc (.cells #[.int .u8 81, .int .u8 82, .int .u8 1, .int .u8 0] 5)) w6 := From.t (From.t r3 r4) (From.t g5.no_any r6)
 have HR := Lib.hid hR
 clear hR
 have HL6 := Lib.hid hl6
 clear hap6 he6 hl6 r3 r4 r6 e3 e4 e6 l3 l4 l6
 obtain ⟨a6, c6, hv6⟩ := own_slice q6.own
 rw [HL6.out] at hv6
 subst hv6
 have z6 : w2.heap.size ≤ w6.heap.size := hr6.size
 have q6' : OIn w2.heap.size w6 (.slice a6 20 c6) (b6 ++ List.replicate 0 0) := by simpa using q6
 have Q6 := Lib.hid q6'
 clear q6 q6' q5 q4 q3
 go_loopw [8] (fun s wr => ∃ (k : Nat) (a : Option Addr) (c : Nat), k ≤ 96 ∧ s = .slice a (20 + k) c ∧ OIn w2.heap.size wr (.slice a (20 + k) c) (b6 ++ List.replicate k 0) ∧ From w2.heap.size w6 wr) (fun s _ => 116 - (match s with | .slice _ n _ => n | _ => 0))
 case atStart => exact ⟨0, a6, c6, Nat.zero_le _, rfl, Q6.out, Fr.refl _ _⟩
 case round =>
   obtain ⟨k, a, c, hk, rfl, hO, hfr⟩ := hrel
   have hbl : (b6 ++ List.replicate k 0).length = 20 + k := by rw [List.length_append, HL6.out, List.length_replicate]
   obtain ⟨bk, hbk⟩ : ∃ bk, bk = b6 ++ List.replicate k 0 := ⟨_, rfl⟩
   rw [← hbk] at hO hbl
   have HBK := Lib.hid hbk
   have HBL := Lib.hid hbl
   have zr : w2.heap.size ≤ wr.heap.size := Nat.le_trans z6 hfr.size
   have hown : Own wr 5 1 (.slice a (20 + k) c) (20 + k) (bk.map byt) := by have h := hO.own; rw [hbl] at h; exact h
   clear hbk hbl
   by_cases hlt : k < 96
   · have hn1 : Hid (Win (wr.alloc (.cells #[.int .u8 0] 5)) (some ⟨wr.heap.size, 0, none⟩) 1 1 (([0] : List UInt8).map byt)) :=
       Win.of_own' (T := 5) (Own.of_blk (n := 1) (cap := 1) (xs := ([0] : List UInt8).map byt) (sp := []) (Blk.new wr 5 (([0] : List UInt8).map byt)) rfl rfl (Nat.le_refl _) (by unfold maxLen; decide))
     have hownA : Hid (Own (wr.alloc (.cells #[.int .u8 0] 5)) 5 1 (.slice a (20 + k) c) (20 + k) (bk.map byt)) := hown.alloc _
     have hd : decide (20 + k < 116) = true := by simp; omega
     have fa : Fr No wr (wr.alloc (.cells #[.int .u8 0] 5)) := (Fr.refl No wr).alloc _
     clear hown
     go_wp2_with (at_builtin; refine wpList_appW _ rfl (.tmp 58) (.tmp 59) 36 rfl 5 i0 (.int .u8 0) 1 Tryz.underlying36 hi0 hz0 hz1 hz2 rfl (.slice a (20 + k) c) (20 + k) (bk.map byt) rfl hownA.out (some ⟨wr.heap.size, 0, none⟩) 1 1 (([0] : List UInt8).map byt) rfl hn1.out (HK.out _) (HMX.out _ (by omega)) (by omega) ?_; intro v7 w7 hap7; obtain ⟨a7, c7, rfl⟩ := app_slice hap7)
     go_roundw
     case rel =>
       have hap7' : Appended (wr.alloc (.cells #[.int .u8 0] 5)) 5 1 (.slice a (20 + k) c) bk.length 1 (bk.map byt ++ ([0] : List UInt8).map byt) (.slice a7 (20 + k + 1) c7) w7 := by rw [HBL.out]; exact hap7
       obtain ⟨q1, q2⟩ := hO.app zr fa hap7' rfl
       refine ⟨k + 1, a7, c7, by omega, rfl, ?_, hfr.t q2⟩
       rw [HBK.out, List.append_assoc] at q1
       rw [List.replicate_succ']
       exact q1
     case measure => (simp; omega)
   · obtain rfl : k = 96 := by omega
     have hbf : bk = rootFront ⟨n, (L : Int), sum⟩ := by rw [HBK.out, HE6.out]; rfl
     have HBF := Lib.hid hbf
     have hd : decide (20 + 96 < 116) = false := by decide
     have hcw : IntKind.u64.wrap ((sumOf bk : Nat) : Int) = ((sumOf bk : Nat) : Int) := wrap_u64 _ (Nat.lt_trans (sumOf_lt bk) (by decide))
     clear hbf hd
     have hown' : Own wr 5 1 (.slice a 116 c) 116 (bk.map byt) := hown
     have hO' : OIn w2.heap.size wr (.slice a 116 c) bk := hO
     obtain ⟨a', c', ev, hwin⟩ := Win.of_own hown'
     injection ev with ev1 ev2 ev3
     subst ev1
     subst ev3
     clear hown hO hown'
     go_wp2_with fail
     refine (refOf_any a 116 c bk _ hwin (by decide)).mono ?_
     rintro e w8 ⟨rfl, rfl⟩
     go_wp2_with fail
     refine (refNum_any 4 (sumOf bk) (by omega) (sumOf_lt bk) _).mono ?_
     rintro e w9 ⟨vo, rfl, oo, no, g9⟩
     obtain ⟨ao, co, rfl, wo⟩ := Win.of_own oo
     have WO := Lib.hid wo
     have q9 := hO'.no g9
     have z9 : w2.heap.size ≤ w9.heap.size := Nat.le_trans zr g9.size
     clear wo oo no hcw hwin
     go_wp2_with (first
       | (at_builtin; refine wpList_appW _ rfl (.tmp 68) (.tmp 69) 36 rfl 5 i0 (.int .u8 0) 1 Tryz.underlying36 hi0 hz0 hz1 hz2 rfl (.slice a 116 c) bk.length (bk.map byt) rfl q9.own ao 4 co ((num 4 (sumOf bk)).map byt) rfl WO.out (HK.out _) (HMX.out _ (by have := HBL.out; omega)) (by have := HBL.out; omega) ?_; intro v10 w10 hap10; obtain ⟨b10, e10, l10, q10, r10⟩ := q9.step (num 4 (sumOf bk)) z9 (Fr.refl No _) hap10 (num_len _ _); have z10 := Nat.le_trans z9 r10.size)
       | (at_builtin; refine wpList_appW _ rfl (.tmp 70) (.tmp 71) 36 rfl 5 i0 (.int .u8 0) 1 Tryz.underlying36 hi0 hz0 hz1 hz2 rfl v10 _ _ rfl q10.own an 8 cn ((num 8 n).map byt) rfl (WN.out.fr (S := fun k => w2.heap.size ≤ k) (HR.out.t (hfr.t (From.t g9.no_any r10))) HNB.out) (HK.out _) (HMX.out _ (by have := HBL.out; have := l10.out; omega)) (by have := HBL.out; have := l10.out; omega) ?_; intro v11 w11 hap11; obtain ⟨b11, e11, l11, q11, r11⟩ := q10.step (num 8 n) z10 (Fr.refl No _) hap11 (num_len _ _)))
     go_ret2
     have hall : From w2.heap.size w2 w11 := From.t (hr6.t hfr) (From.t (From.t g9.no_any r10) r11)
     have hlo : w.heap.size ≤ w2.heap.size := by omega
     refine ⟨v11, rfl, ⟨?_, fun k hk => Nat.le_trans hlo (q11.new k hk)⟩, (((f0.thn g1).thn g2).trans hall (fun k hk => .inr (Nat.le_trans hlo hk)))⟩
     have hfin : b11 = rootBytes ⟨n, (L : Int), sum⟩ := by rw [e11.out, e10.out, HBF.out]; rfl
     rw [← hfin]
     exact q11.own
def rootAt (b : List UInt8) : RootD := ⟨wh ((b.drop 4).take 8), (wh ((b.drop 12).take 4) : Nat), wh ((b.drop 16).take 4)⟩
def decRoot (b : List UInt8) : Option RootD := if b.length = 128 ∧ (rootAt b).ok = true ∧ rootBytes (rootAt b) = b then some (rootAt b) else none
def RootD.zero : RootD := ⟨0, 0, 0⟩
def decV (b : List UInt8) : Value := .agg ((decRoot b).getD .zero).cells.toArray
def decE (b : List UInt8) : Int := if (decRoot b).isSome then 0 else 60
theorem dec_some {b : List UInt8} {r : RootD} (hX : b.length = 128 → r = rootAt b) (hok : r.ok = true) (h : rootBytes r = b) : decRoot b = some r := by
 have hl : b.length = 128 := by rw [← h]; exact rootBytes_len r
 have := hX hl
 subst this
 unfold decRoot
 rw [if_pos ⟨hl, hok, h⟩]
theorem dec_none {b : List UInt8} {r : RootD} (hX : b.length = 128 → r = rootAt b) (h : r.ok = false ∨ rootBytes r ≠ b) : decRoot b = none := by
 unfold decRoot
 refine if_neg (fun ⟨h1, h2, h3⟩ => ?_)
 rw [← hX h1] at h2 h3
 rcases h with h | h
 · rw [h] at h2; cases h2
 · exact h h3
theorem Fr.fresh {w w' : World} (h : Fr (fun k => k = w.heap.size) w w') : Fr No w w' := ⟨h.os, h.tape, h.output, h.size, fun k hk _ => h.block k hk (by omega)⟩
set_option maxRecDepth 100000 in
set_option maxHeartbeats 1000000 in
theorem decode_any (a : Option Addr) (n c : Nat) (b : List UInt8) (w : World) (h : Win w a n c (b.map byt)) (hb : n ≤ 1000) :
   Calls Tryz.prog 53 #[.slice a n c] w fun e w' => e = .returned (.tuple #[decV b, .int .i64 (decE b)]) ∧ Fr No w w' := by
 have hbl : b.length = n := by have := h.len; simpa using this
 have hbm : b.length ≤ 1000000 := by omega
 have kB : Blk (w.alloc (.cells #[.int .u64 0, .int .i64 0, .int .u32 0] 35)) w.heap.size 35 [.int .u64 0, .int .i64 0, .int .u32 0] := Blk.new w _ _
 have f0 : Fr No w (w.alloc (.cells #[.int .u64 0, .int .i64 0, .int .u32 0] 35)) := (Fr.refl No w).alloc _
 have hz0 : w.heap.size < (w.alloc (.cells #[.int .u64 0, .int .i64 0, .int .u32 0] 35)).heap.size := by simp
 have HBL := Lib.hid hbl
 clear hbl
 go_enter Tryz.func53, Tryz.ntmps53
 go_wp2_with fail
 generalize w.alloc (.cells #[.int .u64 0, .int .i64 0, .int .u32 0] 35) = w0 at *
 refine (readN a n c b _ (h.no f0) (by omega)).mono ?_
 rintro e w1 ⟨rb, v, rfl, h1, g1⟩
 go_wp2_with fail
 refine (rrawN w0.heap.size rb 0 4 v b hbm _ g1.size h1).mono ?_
 rintro e w2 ⟨u2, c2, m2, p2, cs2, rfl, _, _, _, e2, h2, g2⟩
 have E2 := Lib.hid e2
 clear e2 h1
 go_wp2_with fail
 refine (rnumN w0.heap.size rb p2 8 v b hbm (by omega) _ h2).mono ?_
 rintro e w3 ⟨x3, c3, p3, rfl, l3, e3, h3, g3⟩
 have E3 := Lib.hid e3
 clear e3 h2
 go_wp2_with fail
 refine (rnumN w0.heap.size rb p3 4 v b hbm (by omega) _ h3).mono ?_
 rintro e w4 ⟨x4, c4, p4, rfl, l4, e4, h4, g4⟩
 have E4 := Lib.hid e4
 clear e4 h3
 go_wp2_with fail
 refine (rnumN w0.heap.size rb p4 4 v b hbm (by omega) _ h4).mono ?_
 rintro e w5 ⟨x5, c5, p5, rfl, l5, e5, h5, g5⟩
 have E5 := Lib.hid e5
 clear e5 h4
 have hX : b.length = 128 → (⟨x3, (x4 : Int), x5⟩ : RootD) = rootAt b := by
   intro hl
   obtain ⟨-, -, hp2⟩ := E2.out (by omega)
   obtain ⟨hx3, hp3⟩ := E3.out (by omega)
   obtain ⟨hx4, hp4⟩ := E4.out (by omega)
   obtain ⟨hx5, hp5⟩ := E5.out (by omega)
   unfold rootAt
   rw [hx3, hx4, hx5, hp4, hp3, hp2]
 have hF : RootD.Fits ⟨x3, (x4 : Int), x5⟩ := ⟨by simpa using l3, by simpa using l5⟩
 have hall : From w0.heap.size w0 w5 := From.t (g1.no_any) ((From.t g2 g3).t (From.t g4 g5))
 have k5 := kB.from hall hz0
 have hw4 : wrap64 (x4 : Int) = (x4 : Int) := Go.IntWalk.wrap64_in _ (by simp at l4; omega)
 have hw5 : IntKind.u32.wrap (x5 : Int) = (x5 : Int) := wrap_u32 x5 (by simpa using l5)
 have HX := Lib.hid hX
 have HF := Lib.hid hF
 clear g1 g2 g3 g4 g5 h5 kB hX hF l3 l4 l5 E2 E3 E4 E5
 have hfa : Fr No w0 w0 := Fr.refl No w0
 have hfin : ∀ W : World, From w0.heap.size w0 W → Fr (fun k => k = w.heap.size) w W := fun W hW => (f0.no_any (S := fun k => k = w.heap.size)).trans hW (fun k hk => .inr (by omega))
 have HFIN := Lib.hid hfin
 clear hfin hfa
 obtain ⟨X, hXd⟩ : ∃ X : RootD, X = ⟨x3, (x4 : Int), x5⟩ := ⟨_, rfl⟩
 rcases Bool.eq_false_or_eq_true X.ok with hok | hok
 · go_wp2_with fail
   have fb : Fr No w5 (w5.alloc (.cells #[.int .u64 x3, .int .i64 x4, .int .u32 x5] 35)) := (Fr.refl No w5).alloc _
   have kX : Blk (w5.alloc (.cells #[.int .u64 x3, .int .i64 x4, .int .u32 x5] 35)) w5.heap.size 35 [.int .u64 x3, .int .i64 x4, .int .u32 x5] := Blk.new w5 _ _
   refine (encode_ok ⟨x3, (x4 : Int), x5⟩ HF.out (by rw [← hXd]; exact hok) _).mono ?_
   rintro e w6 ⟨g6, c6, rfl, o6, n6, f6⟩
   have k6 := (k5.fr fb (No.no _)).fr f6 (No.no _)
   have kX6 := kX.fr f6 (No.no _)
   have hw6 : Win w6 a n c (b.map byt) := h.old (S := fun k => w0.heap.size ≤ k) (f0.no_any.trans (hall.t ((fb.thn f6).no_any)) (fun k hk => .inl hk)) (fun k hk => by omega)
   rw [← hXd] at o6
   have HX2 := Lib.hid hXd
   clear hXd
   have q0 := kX6.cell (j := 0) rfl
   have q1 := kX6.cell (j := 1) rfl
   have q2 := kX6.cell (j := 2) rfl
   have rl := k6.lt
   have rf := k6.free
   have r0 := k6.cell (j := 0) rfl
   have r1 := k6.cell (j := 1) rfl
   have r2 := k6.cell (j := 2) rfl
   have hall6 : From w0.heap.size w0 w6 := hall.t ((fb.thn f6).no_any)
   by_cases heq : rootBytes X = b
   · have hd : decide (rootBytes X = b) = true := decide_eq_true heq
     have hdec : decRoot b = some X := dec_some (by rw [HX2.out]; exact HX.out) hok heq
     have HD := Lib.hid hdec
     clear hdec heq
     go_wp2_with (go_at_call 80; refine (equal_any _ _ 128 c6 n c (rootBytes X) b _ (Win.of_own' o6) hw6).mono ?_; rintro e w7 ⟨rfl, rfl⟩; rw [hd])
     have kE : Blk (((w6.setCell ⟨w.heap.size, 0, none⟩ (.int .u64 x3)).setCell ⟨w.heap.size, 1, none⟩ (.int .i64 x4)).setCell ⟨w.heap.size, 2, none⟩ (.int .u32 x5)) w.heap.size 35 [.int .u64 x3, .int .i64 x4, .int .u32 x5] := ((k6.set 0 _).set 1 _).set 2 _
     have z0 := kE.cell (j := 0) rfl
     have z1 := kE.cell (j := 1) rfl
     have z2 := kE.cell (j := 2) rfl
     refine bodyPost_ret (v := .tuple #[decV b, .int .i64 (decE b)]) ?_ rfl ⟨rfl, ?_⟩
     · unfold decV decE
       rw [HD.out, HX2.out]
       simp [results, Tryz.results53, go_sem, z0, z1, z2, RootD.cells]
     · exact (((HFIN.out w6 hall6).setCell (p := ⟨w.heap.size, 0, none⟩) (.inl rfl) _).setCell (p := ⟨w.heap.size, 1, none⟩) (.inl rfl) _).setCell (p := ⟨w.heap.size, 2, none⟩) (.inl rfl) _ |>.fresh
   · have hd : decide (rootBytes X = b) = false := decide_eq_false heq
     have hdec : decRoot b = none := dec_none (by rw [HX2.out]; exact HX.out) (.inr heq)
     have HD := Lib.hid hdec
     clear hdec heq
     go_wp2_with (go_at_call 80; refine (equal_any _ _ 128 c6 n c (rootBytes X) b _ (Win.of_own' o6) hw6).mono ?_; rintro e w7 ⟨rfl, rfl⟩; rw [hd])
     have kE : Blk (((w6.setCell ⟨w.heap.size, 0, none⟩ (.int .u64 0)).setCell ⟨w.heap.size, 1, none⟩ (.int .i64 0)).setCell ⟨w.heap.size, 2, none⟩ (.int .u32 0)) w.heap.size 35 [.int .u64 0, .int .i64 0, .int .u32 0] := ((k6.set 0 _).set 1 _).set 2 _
     have z0 := kE.cell (j := 0) rfl
     have z1 := kE.cell (j := 1) rfl
     have z2 := kE.cell (j := 2) rfl
     refine bodyPost_ret (v := .tuple #[decV b, .int .i64 (decE b)]) ?_ rfl ⟨rfl, ?_⟩
     · unfold decV decE
       rw [HD.out]
       simp [results, Tryz.results53, go_sem, z0, z1, z2, RootD.cells, RootD.zero]
     · exact (((HFIN.out w6 hall6).setCell (p := ⟨w.heap.size, 0, none⟩) (.inl rfl) _).setCell (p := ⟨w.heap.size, 1, none⟩) (.inl rfl) _).setCell (p := ⟨w.heap.size, 2, none⟩) (.inl rfl) _ |>.fresh
 · have hdec : decRoot b = none := dec_none (by rw [hXd]; exact HX.out) (.inl hok)
   have HD := Lib.hid hdec
   clear hdec
   go_wp2_with fail
   have fb : Fr No w5 (w5.alloc (.cells #[.int .u64 x3, .int .i64 x4, .int .u32 x5] 35)) := (Fr.refl No w5).alloc _
   refine (encode_bad ⟨x3, (x4 : Int), x5⟩ (by rw [← hXd]; exact hok) _).mono ?_
   rintro e w6 ⟨rfl, f6⟩
   have k6 := (k5.fr fb (No.no _)).fr f6 (No.no _)
   have hall6 : From w0.heap.size w0 w6 := hall.t ((fb.thn f6).no_any)
   have rl := k6.lt
   have rf := k6.free
   have r0 := k6.cell (j := 0) rfl
   have r1 := k6.cell (j := 1) rfl
   have r2 := k6.cell (j := 2) rfl
   clear hXd
   go_wp2
   have kE : Blk (((w6.setCell ⟨w.heap.size, 0, none⟩ (.int .u64 0)).setCell ⟨w.heap.size, 1, none⟩ (.int .i64 0)).setCell ⟨w.heap.size, 2, none⟩ (.int .u32 0)) w.heap.size 35 [.int .u64 0, .int .i64 0, .int .u32 0] := ((k6.set 0 _).set 1 _).set 2 _
   have z0 := kE.cell (j := 0) rfl
   have z1 := kE.cell (j := 1) rfl
   have z2 := kE.cell (j := 2) rfl
   refine bodyPost_ret (v := .tuple #[decV b, .int .i64 (decE b)]) ?_ rfl ⟨rfl, ?_⟩
   · unfold decV decE
     rw [HD.out]
     simp [results, Tryz.results53, go_sem, z0, z1, z2, RootD.cells, RootD.zero]
   · exact (((HFIN.out w6 hall6).setCell (p := ⟨w.heap.size, 0, none⟩) (.inl rfl) _).setCell (p := ⟨w.heap.size, 1, none⟩) (.inl rfl) _).setCell (p := ⟨w.heap.size, 2, none⟩) (.inl rfl) _ |>.fresh
theorem whole_part {w w' : World} {ad : Addr} {n c : Nat} {b : List UInt8} (h : Win w (some ad) n c (b.map byt)) (hf : Fr No w w') (k m : Nat) (hk : k + m ≤ n) (hm : m ≤ 8) (hc : c ≠ k) (hk0 : k ≠ 0) :
   Calls Tryz.prog 83 #[.slice (some ⟨ad.block, ad.off + k, none⟩) m (c - k)] w' fun e w'' => e = .returned (.int .u64 (wh ((b.drop k).take m) : Nat)) ∧ w' = w'' := by
 have h1 := ((h.no hf).drop (k := k) (by omega)).take (k := m) (by omega)
 rw [if_neg hc, ← List.map_drop, ← List.map_take] at h1
 have e : Option.map (·.add k) (some ad) = some ⟨ad.block, ad.off + k, none⟩ := by simp [Addr.add, hk0]
 rw [e] at h1
 exact refWhole_any _ m (c - k) _ hm w' h1
set_option maxRecDepth 100000 in
set_option maxHeartbeats 1000000 in
theorem refDecode_short (a : Option Addr) (n c : Nat) (b : List UInt8) (w : World) (h : Win w a n c (b.map byt)) (hn : n ≠ 128) :
   Calls Tryz.prog 58 #[.slice a n c] w fun e w' => e = .returned (.tuple #[decV b, .int .i64 (decE b)]) ∧ Fr No w w' := by
 have hbl : b.length = n := by have := h.len; simpa using this
 have hdec : decRoot b = none := by
   unfold decRoot
   refine if_neg (fun hc => hn (by rw [← hbl]; exact hc.1))
 have HD := Lib.hid hdec
 have kB : Blk (w.alloc (.cells #[.int .u64 0, .int .i64 0, .int .u32 0] 35)) w.heap.size 35 [.int .u64 0, .int .i64 0, .int .u32 0] := Blk.new w _ _
 have f0 : Fr No w (w.alloc (.cells #[.int .u64 0, .int .i64 0, .int .u32 0] 35)) := (Fr.refl No w).alloc _
 have hd : (n == 128) = false := by simp; exact hn
 have hd' : (n != 128) = true := by simp; exact hn
 clear hdec hbl
 go_enter Tryz.func58, Tryz.ntmps58
 have rf := kB.free
 go_wp2
 have z0 := kB.cell (j := 0) rfl
 have z1 := kB.cell (j := 1) rfl
 have z2 := kB.cell (j := 2) rfl
 refine bodyPost_ret (v := .tuple #[decV b, .int .i64 (decE b)]) ?_ rfl ⟨rfl, ?_⟩
 · unfold decV decE
   rw [HD.out]
   simp [results, Tryz.results58, go_sem, z0, z1, z2, RootD.cells, RootD.zero]
 · exact f0
set_option maxRecDepth 100000 in
set_option maxHeartbeats 1000000 in
theorem refDecode_128 (ad : Addr) (c : Nat) (b : List UInt8) (w : World) (h : Win w (some ad) 128 c (b.map byt)) :
   Calls Tryz.prog 58 #[.slice (some ad) 128 c] w fun e w' => e = .returned (.tuple #[decV b, .int .i64 (decE b)]) ∧ Fr No w w' := by
 have hbl : b.length = 128 := by have := h.len; simpa using this
 have hcap := h.cap
 have hmax := h.max
 unfold maxLen at hmax
 have m12 : (12 : Int) ≤ (c : Int) := by omega
 have m16 : (16 : Int) ≤ (c : Int) := by omega
 have m20 : (20 : Int) ≤ (c : Int) := by omega
 have n4 : ¬ c = 4 := by omega
 have n12 : ¬ c = 12 := by omega
 have n16 : ¬ c = 16 := by omega
 have HBL := Lib.hid hbl
 have hlo : ∀ k : Nat, wh ((b.drop k).take 4) < 2 ^ 32 := fun k => by
   refine Nat.lt_of_lt_of_le (wh_lt _) ?_
   have : ((b.drop k).take 4).length ≤ 4 := by simp; omega
   exact Nat.le_trans (Nat.pow_le_pow_right (by decide) this) (by decide)
 have hw4 : wrap64 ((wh ((b.drop 12).take 4) : Nat) : Int) = ((wh ((b.drop 12).take 4) : Nat) : Int) := Go.IntWalk.wrap64_in _ (by have := hlo 12; omega)
 have hw4' : IntKind.i64.wrap ((wh ((b.drop 12).take 4) : Nat) : Int) = ((wh ((b.drop 12).take 4) : Nat) : Int) := by rw [IntKind.wrap_i64]; have := hlo 12; omega
 have hw5 : IntKind.u32.wrap ((wh ((b.drop 16).take 4) : Nat) : Int) = ((wh ((b.drop 16).take 4) : Nat) : Int) := wrap_u32 _ (hlo 16)
 have kB : Blk (w.alloc (.cells #[.int .u64 0, .int .i64 0, .int .u32 0] 35)) w.heap.size 35 [.int .u64 0, .int .i64 0, .int .u32 0] := Blk.new w _ _
 have f0 : Fr No w (w.alloc (.cells #[.int .u64 0, .int .i64 0, .int .u32 0] 35)) := (Fr.refl No w).alloc _
 have HW := Lib.hid h
 have HLO := Lib.hid hlo
 clear hbl hlo h
 go_enter Tryz.func58, Tryz.ntmps58
 go_wp2_with fail
 generalize w.alloc (.cells #[.int .u64 0, .int .i64 0, .int .u32 0] 35) = w0 at *
 go_cut [4] (fun s4 wx => s4 = .pointer (some ⟨w0.heap.size, 0, none⟩) ∧ Blk wx w0.heap.size 35 (rootAt b).cells ∧ Fr No w0 wx)
 case first =>
  go_region_held3 (fun _ => True) (exact trivial) (first | ((with_reducible refine (whole_part HW.out ?_ 4 8 (by decide) (by decide) n4 (by decide)).mono ?_); (first | exact f0.thn ((Fr.refl No w0).drew) | exact f0.thn (((Fr.refl No w0).alloc _).drew)); rintro e w1 ⟨rfl, rfl⟩) | ((with_reducible refine (whole_part HW.out ?_ 12 4 (by decide) (by decide) n12 (by decide)).mono ?_); (first | exact f0.thn ((Fr.refl No w0).drew) | exact f0.thn (((Fr.refl No w0).alloc _).drew)); rintro e w1 ⟨rfl, rfl⟩) | ((with_reducible refine (whole_part HW.out ?_ 16 4 (by decide) (by decide) n16 (by decide)).mono ?_); (first | exact f0.thn ((Fr.refl No w0).drew) | exact f0.thn (((Fr.refl No w0).alloc _).drew)); rintro e w1 ⟨rfl, rfl⟩))
  all_goals go_wp2_with fail
  all_goals go_meet
  all_goals exact ⟨rfl, Blk.new w0 _ _, ((Fr.refl No w0).alloc _).drew⟩
 case rest =>
   rename World => w1
   obtain ⟨rfl, hX, f1⟩ := hcut
   have hF : (rootAt b).Fits := ⟨by
     have := wh_lt ((b.drop 4).take 8)
     refine Nat.lt_of_lt_of_le this (Nat.le_trans (Nat.pow_le_pow_right (by decide) (show _ ≤ 8 by simp; omega)) (by decide)), HLO.out 16⟩
   have hself : rootAt b = ⟨wh ((b.drop 4).take 8), ((wh ((b.drop 12).take 4) : Nat) : Int), wh ((b.drop 16).take 4)⟩ := rfl
   have hw : Win w1 (some ad) 128 c (b.map byt) := HW.out.no (f0.thn f1)
   have k1 := kB.fr f1 (No.no _)
   obtain ⟨x3, h3⟩ : ∃ x, x = wh ((b.drop 4).take 8) := ⟨_, rfl⟩
   obtain ⟨x4, h4⟩ : ∃ x, x = wh ((b.drop 12).take 4) := ⟨_, rfl⟩
   obtain ⟨x5, h5⟩ : ∃ x, x = wh ((b.drop 16).take 4) := ⟨_, rfl⟩
   rw [← h3, ← h4, ← h5] at hself
   rw [hself] at hX hF
   have q0 := hX.cell (j := 0) rfl
   have q1 := hX.cell (j := 1) rfl
   have q2 := hX.cell (j := 2) rfl
   have HS := Lib.hid hself
   have hfw : Fr No w w1 := f0.thn f1
   obtain ⟨X, hXd⟩ : ∃ X : RootD, X = ⟨x3, (x4 : Int), x5⟩ := ⟨_, rfl⟩
   have HXD := Lib.hid hXd
   clear hself h3 h4 h5 hw4 hw4' hw5 kB hXd
   rcases Bool.eq_false_or_eq_true X.ok with hok | hok
   · go_wp2_with fail
     refine (refEncode_ok ⟨x3, (x4 : Int), x5⟩ hF (by rw [← HXD.out]; exact hok) _).mono ?_
     rintro e w6 ⟨v6, rfl, o6, f6⟩
     have k6 := k1.fr f6 (No.no _)
     have kX6 := hX.fr f6 (No.no _)
     have hw6 := hw.no f6
     rw [← HXD.out] at o6
     have ho6 := o6.own
     rw [rootBytes_len] at ho6
     obtain ⟨a6, c6, rfl, wn6⟩ := Win.of_own ho6
     have q0 := kX6.cell (j := 0) rfl
     have q1 := kX6.cell (j := 1) rfl
     have q2 := kX6.cell (j := 2) rfl
     have rl := k6.lt
     have rf := k6.free
     have r0 := k6.cell (j := 0) rfl
     have r1 := k6.cell (j := 1) rfl
     have r2 := k6.cell (j := 2) rfl
     have s1 := run_str (P := Tryz.prog) (src := 36) (dst := 9) Tryz.underlying36 Tryz.underlying5 Tryz.underlying9 wn6
     have s2 := run_str (P := Tryz.prog) (src := 36) (dst := 9) Tryz.underlying36 Tryz.underlying5 Tryz.underlying9 hw6
     have hfin := (hfw.thn f6).no_any (S := fun k => k = w.heap.size)
     by_cases heq : rootBytes X = b
     · have hdec : decRoot b = some X := dec_some (fun _ => by rw [HXD.out, HS.out]) hok heq
       have HD := Lib.hid hdec
       have hd : ((str (rootBytes X)).toList == (str b).toList) = true := by rw [heq]; simp
       have hd' : ((str (rootBytes X)).toList != (str b).toList) = false := by rw [heq]; simp
       clear hdec heq
       go_wp2
       have kE : Blk (((w6.setCell ⟨w.heap.size, 0, none⟩ (.int .u64 x3)).setCell ⟨w.heap.size, 1, none⟩ (.int .i64 x4)).setCell ⟨w.heap.size, 2, none⟩ (.int .u32 x5)) w.heap.size 35 [.int .u64 x3, .int .i64 x4, .int .u32 x5] := ((k6.set 0 _).set 1 _).set 2 _
       have z0 := kE.cell (j := 0) rfl
       have z1 := kE.cell (j := 1) rfl
       have z2 := kE.cell (j := 2) rfl
       refine bodyPost_ret (v := .tuple #[decV b, .int .i64 (decE b)]) ?_ rfl ⟨rfl, ?_⟩
       · unfold decV decE
         rw [HD.out, HXD.out]
         simp [results, Tryz.results58, go_sem, z0, z1, z2, RootD.cells]
       · exact (((hfin).setCell (p := ⟨w.heap.size, 0, none⟩) (.inl rfl) _).setCell (p := ⟨w.heap.size, 1, none⟩) (.inl rfl) _).setCell (p := ⟨w.heap.size, 2, none⟩) (.inl rfl) _ |>.fresh
     · have hdec : decRoot b = none := dec_none (r := X) (fun _ => by rw [HXD.out, HS.out]) (.inr heq)
       have HD := Lib.hid hdec
       have hne : (str (rootBytes X)).toList ≠ (str b).toList := by rw [str_list, str_list]; exact heq
       have hd : ((str (rootBytes X)).toList == (str b).toList) = false := by simpa using hne
       have hd' : ((str (rootBytes X)).toList != (str b).toList) = true := by simpa using hne
       clear hdec heq hne
       go_wp2
       have kE : Blk (((w6.setCell ⟨w.heap.size, 0, none⟩ (.int .u64 0)).setCell ⟨w.heap.size, 1, none⟩ (.int .i64 0)).setCell ⟨w.heap.size, 2, none⟩ (.int .u32 0)) w.heap.size 35 [.int .u64 0, .int .i64 0, .int .u32 0] := ((k6.set 0 _).set 1 _).set 2 _
       have z0 := kE.cell (j := 0) rfl
       have z1 := kE.cell (j := 1) rfl
       have z2 := kE.cell (j := 2) rfl
       refine bodyPost_ret (v := .tuple #[decV b, .int .i64 (decE b)]) ?_ rfl ⟨rfl, ?_⟩
       · unfold decV decE
         rw [HD.out]
         simp [results, Tryz.results58, go_sem, z0, z1, z2, RootD.cells, RootD.zero]
       · exact (((hfin).setCell (p := ⟨w.heap.size, 0, none⟩) (.inl rfl) _).setCell (p := ⟨w.heap.size, 1, none⟩) (.inl rfl) _).setCell (p := ⟨w.heap.size, 2, none⟩) (.inl rfl) _ |>.fresh
   · have hdec : decRoot b = none := dec_none (r := X) (fun _ => by rw [HXD.out, HS.out]) (.inl hok)
     have HD := Lib.hid hdec
     clear hdec
     go_wp2_with fail
     refine (refEncode_bad ⟨x3, (x4 : Int), x5⟩ (by rw [← HXD.out]; exact hok) _).mono ?_
     rintro e w6 ⟨rfl, f6⟩
     have k6 := k1.fr f6 (No.no _)
     have rl := k6.lt
     have rf := k6.free
     have r0 := k6.cell (j := 0) rfl
     have r1 := k6.cell (j := 1) rfl
     have r2 := k6.cell (j := 2) rfl
     have hfin := (hfw.thn f6).no_any (S := fun k => k = w.heap.size)
     go_wp2
     have kE : Blk (((w6.setCell ⟨w.heap.size, 0, none⟩ (.int .u64 0)).setCell ⟨w.heap.size, 1, none⟩ (.int .i64 0)).setCell ⟨w.heap.size, 2, none⟩ (.int .u32 0)) w.heap.size 35 [.int .u64 0, .int .i64 0, .int .u32 0] := ((k6.set 0 _).set 1 _).set 2 _
     have z0 := kE.cell (j := 0) rfl
     have z1 := kE.cell (j := 1) rfl
     have z2 := kE.cell (j := 2) rfl
     refine bodyPost_ret (v := .tuple #[decV b, .int .i64 (decE b)]) ?_ rfl ⟨rfl, ?_⟩
     · unfold decV decE
       rw [HD.out]
       simp [results, Tryz.results58, go_sem, z0, z1, z2, RootD.cells, RootD.zero]
     · exact (((hfin).setCell (p := ⟨w.heap.size, 0, none⟩) (.inl rfl) _).setCell (p := ⟨w.heap.size, 1, none⟩) (.inl rfl) _).setCell (p := ⟨w.heap.size, 2, none⟩) (.inl rfl) _ |>.fresh
end Go.Proofs.YtnkjhicokcmmpaaGreat
namespace Go.Proofs.YtnkjhicokcmmpaaGreat
open Go.RowKit

end Go.Proofs.YtnkjhicokcmmpaaGreat
namespace Go.Proofs.YtnkjhicokcmmpaaGreat.Sm
open Go Go.RowKit
def rootP (x : AV) : Option (RootD × Prop) := match aggP x with
 | some [a, b, c] => match intA a, intA b, intA c with
   | some (.u64, n), some (.i64, L), some (.u32, s) => some (⟨n.toNat, L, s.toNat⟩, (0 ≤ n ∧ n < 18446744073709551616) ∧ 0 ≤ s ∧ s < 4294967296)
   | _, _, _ => none
 | _ => none
theorem rootP_sound {ρ : Env} {x : AV} {u : Value} {r : RootD × Prop} (h : rootP x = some r) (hC : r.2) (hx : VR ρ x u) : u = .agg r.1.cells.toArray ∧ r.1.Fits := by
 unfold rootP at h
 split at h
 · rename_i a b c hl
   split at h
   · rename_i n L s ha hb hc
     cases h
     obtain ⟨⟨h1, h2⟩, h3, h4⟩ := hC
     obtain ⟨vs, rfl, k⟩ := aggP_sound hl hx
     cases k with
     | cons e1 k =>
     cases k with
     | cons e2 k =>
     cases k with
     | cons e3 k =>
     cases k
     obtain rfl := intA_sound ha e1
     obtain rfl := intA_sound hb e2
     obtain rfl := intA_sound hc e3
     refine ⟨?_, ⟨?_, ?_⟩⟩
     · simp only [RootD.cells]
       rw [Int.toNat_of_nonneg h1, Int.toNat_of_nonneg h3]
     · show n.toNat < 2 ^ 64
       omega
     · show s.toNat < 2 ^ 32
       omega
   · cases h
 · cases h
def rootAV (r : RootD) : List AV := [.sy (.int .u64 (r.n : Int)), .sy (.int .i64 r.len), .sy (.int .u32 (r.sum : Int))]
theorem rootAV_VR (ρ : Env) (r : RootD) : VR ρ (.agg (rootAV r)) (.agg r.cells.toArray) := .agg (.cons (.sy _) (.cons (.sy _) (.cons (.sy _) .nil)))
def rencB (r : RootD) : List UInt8 := if r.ok = true then rootBytes r else []
def rencE (r : RootD) : Int := if r.ok = true then 0 else 60
def rencF : CF := oneF 42 fun args H n => match args with
 | [x] => match rootP x with
   | some r => some ((.tup [.ow n (rencB r.1).length, .sy (.int .i64 (rencE r.1))], tput H n (.bb 5 (rencB r.1)), n + 1), r.2)
   | none => none
 | _ => none
theorem rencF_ok : FOk Tryz.prog rencF := by
 refine oneF_ok tab Tryz.func42 (by kernel_rfl) ?_
 intro args H n r h hc w0 ρ w vs hr hvs
 split at h
 · rename_i ax
   split at h
   · rename_i r hra
     cases h
     cases hvs with
     | cons e1 t1 =>
     cases t1
     obtain ⟨rfl, hfit⟩ := rootP_sound hra hc e1
     simp only [rencB, rencE]
     by_cases hq : r.1.ok = true
     · simp only [if_pos hq]
       have hl := rootBytes_len r.1
       rw [hl]
       refine (encode_ok r.1 hfit hq w).mono ?_
       rintro o w' ⟨g, cg, rfl, hown, hg, hfr⟩
       obtain ⟨sp, hB, h1, h2, h3, h4⟩ := hown.blk
       obtain ⟨q1, q2⟩ := hr.newB (c := cg) (B := .bb 5 (rootBytes r.1)) hfr hB hg rfl ⟨sp, rfl, by simpa using h2, h4⟩
       exact ⟨_, _, rfl, .tup (.cons (.ow 128 (Env.set_same _ _ _) h3 h4) (.cons (.sy _) .nil)), q1, q2⟩
     · simp only [if_neg hq]
       refine (encode_bad r.1 (by simpa using hq) w).mono ?_
       rintro o w' ⟨rfl, hfr⟩
       exact ⟨ρ, _, rfl, .tup (.cons (.ow0 _) (.cons (.sy _) .nil)), (hr.old hfr).put _, Ext.put (hr.old hfr) _⟩
   · cases h
 · cases h
def decR (b : List UInt8) : RootD := (decRoot b).getD .zero
def rdecF : CF := oneF 53 fun args H n => match args with
 | [p] => match bsrc p H with
   | some b => some ((.tup [.agg (rootAV (decR b.1)), .sy (.int .i64 (decE b.1))], H, n), b.2 ∧ b.1.length ≤ 1000)
   | none => none
 | _ => none
theorem rdecF_ok : FOk Tryz.prog rdecF := by
 refine oneF_ok tab Tryz.func53 (by kernel_rfl) ?_
 intro args H n r h hc w0 ρ w vs hr hvs
 split at h
 · rename_i ap
   split at h
   · rename_i b hp
     cases h
     cases hvs with
     | cons e1 t1 =>
     cases t1
     obtain ⟨a, c, rfl, hw⟩ := bsrc_sound hr hp hc.1 e1
     refine (decode_any a b.1.length c b.1 w hw hc.2).mono ?_
     rintro o w' ⟨rfl, hfr⟩
     exact ⟨ρ, _, rfl, .tup (.cons (rootAV_VR ρ _) (.cons (.sy _) .nil)), hr.old hfr, Ext.refl _ _ _⟩
   · cases h
 · cases h
noncomputable abbrev S8 : Sy := sym Tryz.prog (orF (orF writeF flushF) (orF rencF rdecF)) readG
theorem s8_ok : S8.Ok Tryz.prog := sym_ok (orF_ok (orF_ok writeF_ok flushF_ok) (orF_ok rencF_ok rdecF_ok)) readG_ok tab mix
def saveD (d : DiskD) (r : RootD) : DiskD × Int :=
 if r.ok = false then (d, 60) else if (writeD d ((r.n : Int) % 2) (rootBytes r)).2 ≠ 0 then writeD d ((r.n : Int) % 2) (rootBytes r) else flushD (writeD d ((r.n : Int) % 2) (rootBytes r)).1
def evenR (b : List UInt8) : Option RootD := if decE b = 0 ∧ ((decR b).n : Int) % 2 = 0 then some (decR b) else none
def oddR (b : List UInt8) : Option RootD := if decE b = 0 ∧ ((decR b).n : Int) % 2 = 1 then some (decR b) else none
theorem evenR_no {b : List UInt8} (h : ¬ decE b = 0) : evenR b = none := if_neg (fun q => h q.1)
theorem evenR_no2 {b : List UInt8} (h : ¬ ((decR b).n : Int) % 2 = 0) : evenR b = none := if_neg (fun q => h q.2)
theorem evenR_yes {b : List UInt8} (h : decE b = 0) (h2 : ((decR b).n : Int) % 2 = 0) : evenR b = some (decR b) := if_pos ⟨h, h2⟩
theorem oddR_no {b : List UInt8} (h : ¬ decE b = 0) : oddR b = none := if_neg (fun q => h q.1)
theorem oddR_no2 {b : List UInt8} (h : ¬ ((decR b).n : Int) % 2 = 1) : oddR b = none := if_neg (fun q => h q.2)
theorem oddR_yes {b : List UInt8} (h : decE b = 0) (h2 : ((decR b).n : Int) % 2 = 1) : oddR b = some (decR b) := if_pos ⟨h, h2⟩
theorem par_lt {a b : Nat} (h : ¬ a < b) (h1 : (a : Int) % 2 = 0) (h2 : (b : Int) % 2 = 1) : b < a := by omega
def bothL : Option RootD → Option RootD → List RootD
 | some a, some b => if b.n < a.n then [a, b] else [b, a]
 | some a, none => [a]
 | none, some b => [b]
 | none, none => []
def bothD (d : DiskD) : List RootD × Int := match (readD d 0).1 with
 | none => ([], (readD d 0).2)
 | some a => match (readD d 1).1 with
   | none => ([], (readD d 1).2)
   | some b => (bothL (evenR a) (oddR b), 0)
def loadD (d : DiskD) : RootD × Int := ((bothD d).1.headD .zero, (bothD d).2)
theorem load_none0 {d : DiskD} (h : (readD d 0).1 = none) : loadD d = (.zero, (readD d 0).2) := by
 have : bothD d = ([], (readD d 0).2) := by unfold bothD; rw [h]
 unfold loadD; rw [this]; rfl
theorem load_none1 {d : DiskD} {a : List UInt8} (ha : readD d 0 = (some a, 0)) (h : (readD d 1).1 = none) : loadD d = (.zero, (readD d 1).2) := by
 have : bothD d = ([], (readD d 1).2) := by unfold bothD; rw [ha, h]
 unfold loadD; rw [this]; rfl
theorem load_both {d : DiskD} {a b : List UInt8} (ha : readD d 0 = (some a, 0)) (hb : readD d 1 = (some b, 0)) : loadD d = ((bothL (evenR a) (oddR b)).headD .zero, 0) := by
 have : bothD d = (bothL (evenR a) (oddR b), 0) := by unfold bothD; rw [ha, hb]
 unfold loadD; rw [this]
theorem load_end {d : DiskD} {x : AV} {H : Tr AB} {X : RootD} {E : Int} (hw : loadD d = (X, E)) (hx : leA x (.tup [.agg (rootAV X), .sy (.int .i64 E)])) (hH : H.get 0 = some (.obj (.disk d))) :
   leA x (.tup [.agg (rootAV (loadD d).1), .sy (.int .i64 (loadD d).2)]) ∧ endL [.obj (.disk d)] 0 H ∧ endE [] H := by
 rw [hw]
 exact ⟨hx, ⟨⟨_, hH, leB_refl _⟩, trivial⟩, trivial⟩
theorem readD_none {d : DiskD} {z : Int} (h : (readD d z).1.isSome = false) : (readD d z).1 = none ∧ ¬ (readD d z).2 = 0 := by
 unfold readD at *
 split at h
 · rename_i h1; rw [if_pos h1]; exact ⟨rfl, by decide⟩
 · rename_i h1
   rw [if_neg h1]
   split at h
   · rename_i h2; rw [if_pos h2]; exact ⟨rfl, by decide⟩
   · rename_i h2
     rw [if_neg h2]
     split at h
     · rename_i h3; rw [if_pos h3]; exact ⟨rfl, by decide⟩
     · cases h
theorem rencE_zero {r : RootD} (h : rencE r = 0) : r.ok = true ∧ rencB r = rootBytes r := by
 unfold rencE at h
 by_cases hq : r.ok = true
 · exact ⟨hq, if_pos hq⟩
 · rw [if_neg hq] at h; cases h
set_option maxHeartbeats 4000000 in
set_option maxRecDepth 100000 in
theorem save_to (hS : S8.Ok Tryz.prog) (d : DiskD) (r : RootD) (n : Nat) (hf : r.Fits) (hd : d.In n) (hn : n < 1000000000) : To S8 Tryz.prog 14 (startOf Tryz.prog 14 [.ptr 0 0, .agg (rootAV r)] (memF [.obj (.disk d)] 0 .e) 1) (fun x H' _ => leA x (.sy (.int .i64 (saveD d r).2)) ∧ endL [.obj (.disk (saveD d r).1)] 0 H' ∧ endE [] H') := by
 have f1 := hf.n
 have f2 := hf.sum
 have hF := hd.fine
 have hT : List.take (rencB r).length (rencB r) = rencB r := List.take_length
 refine To.R (C := ((0 : Int) ≤ r.n ∧ r.n < (18446744073709551616 : Int)) ∧ (0 : Int) ≤ r.sum ∧ r.sum < (4294967296 : Int)) (h := ?_)
 refine To.Bn (rencE r = 0) (h := ?_) (g := ?_)
 · intro h1
   have hq : r.ok = false := by
     cases hc : r.ok with
     | false => rfl
     | true => exact absurd (if_pos hc) h1
   have e0 : rencE r = 60 := by unfold rencE; rw [hq]; rfl
   have hw : saveD d r = (d, 60) := by unfold saveD; rw [if_pos hq]
   refine To.R (h := ?_)
   refine To.E (AV.sy (Value.int IntKind.i64 (rencE r))) (hq := ?_)
   exact ⟨⟨rfl, by rw [hw]; exact e0⟩, ⟨⟨.obj (.disk d), by kernel_rfl, congrArg Ob.disk (by rw [hw])⟩, trivial⟩, trivial⟩
 · intro h1
   obtain ⟨hok, hB⟩ := rencE_zero h1
   have hX : List.take (rencB r).length (rencB r) = rootBytes r := by rw [List.take_length, hB]
   refine To.R (C := ((0 : Int) ≤ r.n ∧ (0 : Int) < 2) ∧ fits IntKind.i64 (r.n % 2) ∧ (rencB r).length ≤ (rencB r).length ∧ d.Fine) (h := ?_)
   refine To.Bn ((writeD d (r.n % 2) (List.take (rencB r).length (rencB r))).snd = 0) (h := ?_) (g := ?_)
   · intro h2
     rw [hX] at h2
     have hw : saveD d r = writeD d ((r.n : Int) % 2) (rootBytes r) := by unfold saveD; rw [if_neg (by simp [hok]), if_pos h2]
     refine To.R (h := ?_)
     refine To.E (AV.sy (Value.int IntKind.i64 (writeD d (r.n % 2) (List.take (rencB r).length (rencB r))).snd)) (hq := ?_)
     exact ⟨⟨rfl, by rw [hw, hX]⟩, ⟨⟨.obj (.disk (writeD d ((r.n : Int) % 2) (List.take (rencB r).length (rencB r))).1), by kernel_rfl, congrArg Ob.disk (by rw [hw, hX])⟩, trivial⟩, trivial⟩
   · intro h2
     rw [hX] at h2
     have hw : saveD d r = flushD (writeD d ((r.n : Int) % 2) (rootBytes r)).1 := by unfold saveD; rw [if_neg (by simp [hok]), if_neg (by simp [h2])]
     refine To.R (C := (writeD d (r.n % 2) (List.take (rencB r).length (rencB r))).fst.Fine) (hc := ?_) (h := ?_); (and_intros <;> try exact cl)
     · exact (hd.write hn _ _).fine
     refine To.E (AV.sy (Value.int IntKind.i64 ((fun d ↦ (flushD d).snd) (writeD d (r.n % 2) (List.take (rencB r).length (rencB r))).fst))) (hq := ?_)
     exact ⟨⟨rfl, by rw [hw, hX]⟩, ⟨⟨.obj (.disk (flushD (writeD d ((r.n : Int) % 2) (List.take (rencB r).length (rencB r))).1).1), by kernel_rfl, congrArg Ob.disk (by rw [hw, hX])⟩, trivial⟩, trivial⟩
def rootQ : AV → Option (RootD × Prop)
 | .agg [a, b, c] => match intA a, intA b, intA c with
   | some (.u64, n), some (.i64, L), some (.u32, s) => some (⟨n.toNat, L, s.toNat⟩, (0 ≤ n ∧ n < 18446744073709551616) ∧ 0 ≤ s ∧ s < 4294967296)
   | _, _, _ => none
 | _ => none
theorem intA_le {x : AV} {k : IntKind} {z y : Int} (h : intA x = some (k, z)) (e : z = y) (σ : Nat → Option Nat) : leA (renA σ x) (.sy (.int k y)) := by
 subst e
 unfold intA at h
 split at h
 · cases h; exact ⟨rfl, rfl⟩
 · cases h; exact ⟨rfl, rfl⟩
 · cases h
theorem rootQ_le {x : AV} {r : RootD × Prop} (h : rootQ x = some r) (hC : r.2) (σ : Nat → Option Nat) : leA (renA σ x) (.agg (rootAV r.1)) ∧ r.1.Fits := by
 unfold rootQ at h
 split at h
 · rename_i a b c
   split at h
   · rename_i n L s ha hb hc
     cases h
     obtain ⟨⟨h1, h2⟩, h3, h4⟩ := hC
     refine ⟨⟨intA_le ha (Int.toNat_of_nonneg h1).symm σ, intA_le hb rfl σ, intA_le hc (Int.toNat_of_nonneg h3).symm σ, trivial⟩, ⟨?_, ?_⟩⟩
     · show n.toNat < 2 ^ 64
       omega
     · show s.toNat < 2 ^ 32
       omega
   · cases h
 · cases h
def saveF : CF := oneX 14 fun args H => match args with
 | [.ptr i 0, x] => match H.get i, rootQ x with
   | some (.obj (.disk d)), some r => some { μ := [i], args := [.ptr 0 0, .agg (rootAV r.1)], L := [.obj (.disk d)], res := .sy (.int .i64 (saveD d r.1).2), L' := [.obj (.disk (saveD d r.1).1)], E := [], C := r.2 ∧ d.In d.writes.toNat ∧ d.writes.toNat < 1000000000 }
   | _, _ => none
 | _ => none
theorem readD_some {d : DiskD} {z : Int} (h : (readD d z).1.isSome = true) : ∃ a, readD d z = (some a, 0) := by
 unfold readD at *
 split at h
 · cases h
 · split at h
   · cases h
   · split at h
     · cases h
     · rename_i h1 h2 h3
       rw [if_neg h1, if_neg h2, if_neg h3]
       exact ⟨_, rfl⟩
set_option maxHeartbeats 4000000 in
set_option maxRecDepth 100000 in
theorem load_to (hS : S8.Ok Tryz.prog) (d : DiskD) (hd : d.Fine) : To S8 Tryz.prog 28 (startOf Tryz.prog 28 [.ptr 0 0] (memF [.obj (.disk d)] 0 .e) 1) (fun x H' _ => leA x (.tup [.agg (rootAV (loadD d).1), .sy (.int .i64 (loadD d).2)]) ∧ endL [.obj (.disk d)] 0 H' ∧ endE [] H') := by
 refine To.R (h := ?_)
 refine To.B ((readD d 0).fst.isSome) (C := d.Fine) (h := ?_) (g := ?_)
 · intro h1
   obtain ⟨a, ha⟩ := readD_some h1
   have hla := readD_len hd ha
   have hA : List.take ((readD d 0).1.getD []).length ((readD d 0).1.getD []) = a := by rw [ha, Option.getD_some, List.take_length]
   refine To.R (C := ((readD d 0).fst.getD []).length ≤ ((readD d 0).fst.getD []).length ∧ (List.take ((readD d 0).fst.getD []).length ((readD d 0).fst.getD [])).length ≤ 1000) (hc := ?_) (h := ?_); (and_intros <;> try exact cl)
   · rw [hA]; omega
   refine To.Bn (decE (List.take ((readD d 0).fst.getD []).length ((readD d 0).fst.getD [])) = 0) (h := ?_) (g := ?_)
   · intro h2
     rw [hA] at h2
     refine To.R (h := ?_)
     refine To.B ((readD d 1).fst.isSome) (C := d.Fine) (h := ?_) (g := ?_)
     · intro g1
       obtain ⟨b, hb⟩ := readD_some g1
       have hlb := readD_len hd hb
       have hB : List.take ((readD d 1).1.getD []).length ((readD d 1).1.getD []) = b := by rw [hb, Option.getD_some, List.take_length]
       have hlw := load_both ha hb
       refine To.R (C := ((readD d 1).fst.getD []).length ≤ ((readD d 1).fst.getD []).length ∧ (List.take ((readD d 1).fst.getD []).length ((readD d 1).fst.getD [])).length ≤ 1000) (hc := ?_) (h := ?_); (and_intros <;> try exact cl)
       · rw [hB]; omega
       refine To.Bn (decE (List.take ((readD d 1).fst.getD []).length ((readD d 1).fst.getD [])) = 0) (h := ?_) (g := ?_)
       · intro g2
         rw [hB] at g2
         have hw : loadD d = (.zero, 0) := by rw [hlw, evenR_no h2, oddR_no g2]; rfl
         refine To.R (h := ?_)
         refine To.E (AV.tup [AV.agg [AV.v (Value.int IntKind.u64 0), AV.v (Value.int IntKind.i64 0), AV.v (Value.int IntKind.u32 0)], AV.v (Value.int IntKind.i64 0)]) (hq := ?_)
         exact load_end hw ⟨⟨⟨rfl, rfl⟩, ⟨rfl, rfl⟩, ⟨rfl, rfl⟩, trivial⟩, ⟨rfl, rfl⟩, trivial⟩ (by kernel_rfl)
       · intro g2
         rw [hB] at g2
         refine To.R (C := ((0 : Int) ≤ (decR (List.take ((readD d 1).fst.getD []).length ((readD d 1).fst.getD []))).n ∧ (0 : Int) < 2) ∧ fits IntKind.i64 ((decR (List.take ((readD d 1).fst.getD []).length ((readD d 1).fst.getD []))).n % 2) ∧ Same (AV.v (Value.int IntKind.i64 1))) (h := ?_)
         refine To.Bn (((decR (List.take ((readD d 1).fst.getD []).length ((readD d 1).fst.getD []))).n : Int) % 2 = 1) (h := ?_) (g := ?_)
         · intro g3
           rw [hB] at g3
           have hw : loadD d = (.zero, 0) := by rw [hlw, evenR_no h2, oddR_no2 g3]; rfl
           refine To.R (h := ?_)
           refine To.E (AV.tup [AV.agg [AV.v (Value.int IntKind.u64 0), AV.v (Value.int IntKind.i64 0), AV.v (Value.int IntKind.u32 0)], AV.v (Value.int IntKind.i64 0)]) (hq := ?_)
           exact load_end hw ⟨⟨⟨rfl, rfl⟩, ⟨rfl, rfl⟩, ⟨rfl, rfl⟩, trivial⟩, ⟨rfl, rfl⟩, trivial⟩ (by kernel_rfl)
         · intro g3
           rw [hB] at g3
           have hw : loadD d = (decR b, 0) := by rw [hlw, evenR_no h2, oddR_yes g2 g3]; rfl
           refine To.R (h := ?_)
           refine To.E (AV.tup [AV.agg [AV.sy (Value.int IntKind.u64 (decR (List.take ((readD d 1).fst.getD []).length ((readD d 1).fst.getD []))).n), AV.sy (Value.int IntKind.i64 (decR (List.take ((readD d 1).fst.getD []).length ((readD d 1).fst.getD []))).len), AV.sy (Value.int IntKind.u32 (decR (List.take ((readD d 1).fst.getD []).length ((readD d 1).fst.getD []))).sum)], AV.v (Value.int IntKind.i64 0)]) (hq := ?_)
           exact load_end hw ⟨⟨⟨rfl, by rw [hB]⟩, ⟨rfl, by rw [hB]⟩, ⟨rfl, by rw [hB]⟩, trivial⟩, ⟨rfl, rfl⟩, trivial⟩ (by kernel_rfl)
     · intro g1
       obtain ⟨hb, hbe⟩ := readD_none g1
       refine To.R (C := True ∧ 0 ≤ 1000) (h := ?_)
       refine To.Yn (decE [] = 0) (hp := dk) (h := ?_)
       refine To.R (h := ?_)
       refine To.Yn ((readD d 1).snd = 0) (h := ?_)
       refine To.R (h := ?_)
       refine To.Yn ((readD d 1).snd = 0) (h := ?_)
       have hw : loadD d = (.zero, (readD d 1).2) := load_none1 ha hb
       refine To.R (h := ?_)
       refine To.E (AV.tup [AV.agg [AV.v (Value.int IntKind.u64 0), AV.v (Value.int IntKind.i64 0), AV.v (Value.int IntKind.u32 0)], AV.sy (Value.int IntKind.i64 (readD d 1).snd)]) (hq := ?_)
       exact load_end hw ⟨⟨⟨rfl, rfl⟩, ⟨rfl, rfl⟩, ⟨rfl, rfl⟩, trivial⟩, ⟨rfl, rfl⟩, trivial⟩ (by kernel_rfl)
   · intro h2
     rw [hA] at h2
     refine To.R (C := ((0 : Int) ≤ (decR (List.take ((readD d 0).fst.getD []).length ((readD d 0).fst.getD []))).n ∧ (0 : Int) < 2) ∧ fits IntKind.i64 ((decR (List.take ((readD d 0).fst.getD []).length ((readD d 0).fst.getD []))).n % 2) ∧ Same (AV.v (Value.int IntKind.i64 0))) (h := ?_)
     refine To.Bn (((decR (List.take ((readD d 0).fst.getD []).length ((readD d 0).fst.getD []))).n : Int) % 2 = 0) (h := ?_) (g := ?_)
     · intro h3
       rw [hA] at h3
       refine To.R (h := ?_)
       refine To.B ((readD d 1).fst.isSome) (C := d.Fine) (h := ?_) (g := ?_)
       · intro g1
         obtain ⟨b, hb⟩ := readD_some g1
         have hlb := readD_len hd hb
         have hB : List.take ((readD d 1).1.getD []).length ((readD d 1).1.getD []) = b := by rw [hb, Option.getD_some, List.take_length]
         have hlw := load_both ha hb
         refine To.R (C := ((readD d 1).fst.getD []).length ≤ ((readD d 1).fst.getD []).length ∧ (List.take ((readD d 1).fst.getD []).length ((readD d 1).fst.getD [])).length ≤ 1000) (hc := ?_) (h := ?_); (and_intros <;> try exact cl)
         · rw [hB]; omega
         refine To.Bn (decE (List.take ((readD d 1).fst.getD []).length ((readD d 1).fst.getD [])) = 0) (h := ?_) (g := ?_)
         · intro g2
           rw [hB] at g2
           have hw : loadD d = (.zero, 0) := by rw [hlw, evenR_no2 h3, oddR_no g2]; rfl
           refine To.R (h := ?_)
           refine To.E (AV.tup [AV.agg [AV.v (Value.int IntKind.u64 0), AV.v (Value.int IntKind.i64 0), AV.v (Value.int IntKind.u32 0)], AV.v (Value.int IntKind.i64 0)]) (hq := ?_)
           exact load_end hw ⟨⟨⟨rfl, rfl⟩, ⟨rfl, rfl⟩, ⟨rfl, rfl⟩, trivial⟩, ⟨rfl, rfl⟩, trivial⟩ (by kernel_rfl)
         · intro g2
           rw [hB] at g2
           refine To.R (C := ((0 : Int) ≤ (decR (List.take ((readD d 1).fst.getD []).length ((readD d 1).fst.getD []))).n ∧ (0 : Int) < 2) ∧ fits IntKind.i64 ((decR (List.take ((readD d 1).fst.getD []).length ((readD d 1).fst.getD []))).n % 2) ∧ Same (AV.v (Value.int IntKind.i64 1))) (h := ?_)
           refine To.Bn (((decR (List.take ((readD d 1).fst.getD []).length ((readD d 1).fst.getD []))).n : Int) % 2 = 1) (h := ?_) (g := ?_)
           · intro g3
             rw [hB] at g3
             have hw : loadD d = (.zero, 0) := by rw [hlw, evenR_no2 h3, oddR_no2 g3]; rfl
             refine To.R (h := ?_)
             refine To.E (AV.tup [AV.agg [AV.v (Value.int IntKind.u64 0), AV.v (Value.int IntKind.i64 0), AV.v (Value.int IntKind.u32 0)], AV.v (Value.int IntKind.i64 0)]) (hq := ?_)
             exact load_end hw ⟨⟨⟨rfl, rfl⟩, ⟨rfl, rfl⟩, ⟨rfl, rfl⟩, trivial⟩, ⟨rfl, rfl⟩, trivial⟩ (by kernel_rfl)
           · intro g3
             rw [hB] at g3
             have hw : loadD d = (decR b, 0) := by rw [hlw, evenR_no2 h3, oddR_yes g2 g3]; rfl
             refine To.R (h := ?_)
             refine To.E (AV.tup [AV.agg [AV.sy (Value.int IntKind.u64 (decR (List.take ((readD d 1).fst.getD []).length ((readD d 1).fst.getD []))).n), AV.sy (Value.int IntKind.i64 (decR (List.take ((readD d 1).fst.getD []).length ((readD d 1).fst.getD []))).len), AV.sy (Value.int IntKind.u32 (decR (List.take ((readD d 1).fst.getD []).length ((readD d 1).fst.getD []))).sum)], AV.v (Value.int IntKind.i64 0)]) (hq := ?_)
             exact load_end hw ⟨⟨⟨rfl, by rw [hB]⟩, ⟨rfl, by rw [hB]⟩, ⟨rfl, by rw [hB]⟩, trivial⟩, ⟨rfl, rfl⟩, trivial⟩ (by kernel_rfl)
       · intro g1
         obtain ⟨hb, hbe⟩ := readD_none g1
         refine To.R (C := True ∧ 0 ≤ 1000) (h := ?_)
         refine To.Yn (decE [] = 0) (hp := dk) (h := ?_)
         refine To.R (h := ?_)
         refine To.Yn ((readD d 1).snd = 0) (h := ?_)
         refine To.R (h := ?_)
         refine To.Yn ((readD d 1).snd = 0) (h := ?_)
         have hw : loadD d = (.zero, (readD d 1).2) := load_none1 ha hb
         refine To.R (h := ?_)
         refine To.E (AV.tup [AV.agg [AV.v (Value.int IntKind.u64 0), AV.v (Value.int IntKind.i64 0), AV.v (Value.int IntKind.u32 0)], AV.sy (Value.int IntKind.i64 (readD d 1).snd)]) (hq := ?_)
         exact load_end hw ⟨⟨⟨rfl, rfl⟩, ⟨rfl, rfl⟩, ⟨rfl, rfl⟩, trivial⟩, ⟨rfl, rfl⟩, trivial⟩ (by kernel_rfl)
     · intro h3
       rw [hA] at h3
       refine To.R (h := ?_)
       refine To.B ((readD d 1).fst.isSome) (C := d.Fine) (h := ?_) (g := ?_)
       · intro g1
         obtain ⟨b, hb⟩ := readD_some g1
         have hlb := readD_len hd hb
         have hB : List.take ((readD d 1).1.getD []).length ((readD d 1).1.getD []) = b := by rw [hb, Option.getD_some, List.take_length]
         have hlw := load_both ha hb
         refine To.R (C := ((readD d 1).fst.getD []).length ≤ ((readD d 1).fst.getD []).length ∧ (List.take ((readD d 1).fst.getD []).length ((readD d 1).fst.getD [])).length ≤ 1000) (hc := ?_) (h := ?_); (and_intros <;> try exact cl)
         · rw [hB]; omega
         refine To.Bn (decE (List.take ((readD d 1).fst.getD []).length ((readD d 1).fst.getD [])) = 0) (h := ?_) (g := ?_)
         · intro g2
           rw [hB] at g2
           have hw : loadD d = (decR a, 0) := by rw [hlw, evenR_yes h2 h3, oddR_no g2]; rfl
           refine To.R (h := ?_)
           refine To.E (AV.tup [AV.agg [AV.sy (Value.int IntKind.u64 (decR (List.take ((readD d 0).fst.getD []).length ((readD d 0).fst.getD []))).n), AV.sy (Value.int IntKind.i64 (decR (List.take ((readD d 0).fst.getD []).length ((readD d 0).fst.getD []))).len), AV.sy (Value.int IntKind.u32 (decR (List.take ((readD d 0).fst.getD []).length ((readD d 0).fst.getD []))).sum)], AV.v (Value.int IntKind.i64 0)]) (hq := ?_)
           exact load_end hw ⟨⟨⟨rfl, by rw [hA]⟩, ⟨rfl, by rw [hA]⟩, ⟨rfl, by rw [hA]⟩, trivial⟩, ⟨rfl, rfl⟩, trivial⟩ (by kernel_rfl)
         · intro g2
           rw [hB] at g2
           refine To.R (C := ((0 : Int) ≤ (decR (List.take ((readD d 1).fst.getD []).length ((readD d 1).fst.getD []))).n ∧ (0 : Int) < 2) ∧ fits IntKind.i64 ((decR (List.take ((readD d 1).fst.getD []).length ((readD d 1).fst.getD []))).n % 2) ∧ Same (AV.v (Value.int IntKind.i64 1))) (h := ?_)
           refine To.Bn (((decR (List.take ((readD d 1).fst.getD []).length ((readD d 1).fst.getD []))).n : Int) % 2 = 1) (h := ?_) (g := ?_)
           · intro g3
             rw [hB] at g3
             have hw : loadD d = (decR a, 0) := by rw [hlw, evenR_yes h2 h3, oddR_no2 g3]; rfl
             refine To.R (h := ?_)
             refine To.E (AV.tup [AV.agg [AV.sy (Value.int IntKind.u64 (decR (List.take ((readD d 0).fst.getD []).length ((readD d 0).fst.getD []))).n), AV.sy (Value.int IntKind.i64 (decR (List.take ((readD d 0).fst.getD []).length ((readD d 0).fst.getD []))).len), AV.sy (Value.int IntKind.u32 (decR (List.take ((readD d 0).fst.getD []).length ((readD d 0).fst.getD []))).sum)], AV.v (Value.int IntKind.i64 0)]) (hq := ?_)
             exact load_end hw ⟨⟨⟨rfl, by rw [hA]⟩, ⟨rfl, by rw [hA]⟩, ⟨rfl, by rw [hA]⟩, trivial⟩, ⟨rfl, rfl⟩, trivial⟩ (by kernel_rfl)
           · intro g3
             rw [hB] at g3
             refine To.R (h := ?_)
             refine To.Bd (((decR (List.take ((readD d 0).fst.getD []).length ((readD d 0).fst.getD []))).n : Int) < (decR (List.take ((readD d 1).fst.getD []).length ((readD d 1).fst.getD []))).n) (h := ?_) (g := ?_)
             · intro g4
               rw [hA, hB] at g4
               have hw : loadD d = (decR b, 0) := by rw [hlw, evenR_yes h2 h3, oddR_yes g2 g3]; exact congrArg (fun l => (List.headD l RootD.zero, (0 : Int))) (if_neg (by omega))
               refine To.R (h := ?_)
               refine To.E (AV.tup [AV.agg [AV.sy (Value.int IntKind.u64 (decR (List.take ((readD d 1).fst.getD []).length ((readD d 1).fst.getD []))).n), AV.sy (Value.int IntKind.i64 (decR (List.take ((readD d 1).fst.getD []).length ((readD d 1).fst.getD []))).len), AV.sy (Value.int IntKind.u32 (decR (List.take ((readD d 1).fst.getD []).length ((readD d 1).fst.getD []))).sum)], AV.v (Value.int IntKind.i64 0)]) (hq := ?_)
               exact load_end hw ⟨⟨⟨rfl, by rw [hB]⟩, ⟨rfl, by rw [hB]⟩, ⟨rfl, by rw [hB]⟩, trivial⟩, ⟨rfl, rfl⟩, trivial⟩ (by kernel_rfl)
             · intro g4
               rw [hA, hB] at g4
               have hw : loadD d = (decR a, 0) := by rw [hlw, evenR_yes h2 h3, oddR_yes g2 g3]; exact congrArg (fun l => (List.headD l RootD.zero, (0 : Int))) (if_pos (par_lt (by omega) h3 g3))
               refine To.R (h := ?_)
               refine To.E (AV.tup [AV.agg [AV.sy (Value.int IntKind.u64 (decR (List.take ((readD d 0).fst.getD []).length ((readD d 0).fst.getD []))).n), AV.sy (Value.int IntKind.i64 (decR (List.take ((readD d 0).fst.getD []).length ((readD d 0).fst.getD []))).len), AV.sy (Value.int IntKind.u32 (decR (List.take ((readD d 0).fst.getD []).length ((readD d 0).fst.getD []))).sum)], AV.v (Value.int IntKind.i64 0)]) (hq := ?_)
               exact load_end hw ⟨⟨⟨rfl, by rw [hA]⟩, ⟨rfl, by rw [hA]⟩, ⟨rfl, by rw [hA]⟩, trivial⟩, ⟨rfl, rfl⟩, trivial⟩ (by kernel_rfl)
       · intro g1
         obtain ⟨hb, hbe⟩ := readD_none g1
         refine To.R (C := True ∧ 0 ≤ 1000) (h := ?_)
         refine To.Yn (decE [] = 0) (hp := dk) (h := ?_)
         refine To.R (h := ?_)
         refine To.Yn ((readD d 1).snd = 0) (h := ?_)
         refine To.R (h := ?_)
         refine To.Yn ((readD d 1).snd = 0) (h := ?_)
         have hw : loadD d = (.zero, (readD d 1).2) := load_none1 ha hb
         refine To.R (h := ?_)
         refine To.E (AV.tup [AV.agg [AV.v (Value.int IntKind.u64 0), AV.v (Value.int IntKind.i64 0), AV.v (Value.int IntKind.u32 0)], AV.sy (Value.int IntKind.i64 (readD d 1).snd)]) (hq := ?_)
         exact load_end hw ⟨⟨⟨rfl, rfl⟩, ⟨rfl, rfl⟩, ⟨rfl, rfl⟩, trivial⟩, ⟨rfl, rfl⟩, trivial⟩ (by kernel_rfl)
 · intro h1
   obtain ⟨ha, hae⟩ := readD_none h1
   refine To.R (C := True ∧ 0 ≤ 1000) (h := ?_)
   refine To.Yn (decE [] = 0) (hp := dk) (h := ?_)
   refine To.R (h := ?_)
   refine To.Yn ((readD d 0).snd = 0) (h := ?_)
   refine To.R (h := ?_)
   refine To.Yn ((readD d 0).snd = 0) (h := ?_)
   have hw : loadD d = (.zero, (readD d 0).2) := load_none0 ha
   refine To.R (h := ?_)
   refine To.E (AV.tup [AV.agg [AV.v (Value.int IntKind.u64 0), AV.v (Value.int IntKind.i64 0), AV.v (Value.int IntKind.u32 0)], AV.sy (Value.int IntKind.i64 (readD d 0).snd)]) (hq := ?_)
   exact load_end hw ⟨⟨⟨rfl, rfl⟩, ⟨rfl, rfl⟩, ⟨rfl, rfl⟩, trivial⟩, ⟨rfl, rfl⟩, trivial⟩ (by kernel_rfl)
def loadF : CF := oneX 28 fun args H => match args with
 | [.ptr i 0] => match H.get i with
   | some (.obj (.disk d)) => some { μ := [i], args := [.ptr 0 0], L := [.obj (.disk d)], res := .tup [.agg (rootAV (loadD d).1), .sy (.int .i64 (loadD d).2)], L' := [.obj (.disk d)], E := [], C := d.Fine }
   | _ => none
 | _ => none
theorem inS1 (i : Nat) : inS [i] i = some 0 := by simp [inS, posL]
theorem saveF_ok : FOk Tryz.prog saveF := oneX_ok s8_ok tab Tryz.func14 (by kernel_rfl) fun {args H n e} h hC => by
 split at h
 · rename_i i x
   split at h
   · rename_i d r hB hr
     cases h
     obtain ⟨h1, h2, h3⟩ := hC
     refine ⟨by simp, ⟨⟨_, hB, rfl, leB_refl _⟩, trivial⟩, rfl, ?_, ⟨by simp, by simp⟩, ?_, by kernel_rfl, ?_⟩
     · simp only [renL, renA, inS1]
       exact ⟨leA_refl _, (rootQ_le hr h1 _).1, trivial⟩
     · intro w0 ρ w vs hr' hv j hj
       simp at hj
       subst hj
       exact .inl <| VRs.bind hv (j, True) (by simp [bindL, bindA]) trivial
     · exact save_to s8_ok d r.1 _ (rootQ_le hr h1 (fun _ => none)).2 h2 h3
   · cases h
 · cases h
theorem loadF_ok : FOk Tryz.prog loadF := oneX_ok s8_ok tab Tryz.func28 (by kernel_rfl) fun {args H n e} h hC => by
 split at h
 · rename_i i
   split at h
   · rename_i d hB
     cases h
     refine ⟨by simp, ⟨⟨_, hB, rfl, leB_refl _⟩, trivial⟩, rfl, ?_, ⟨by simp, by simp⟩, ?_, by kernel_rfl, load_to s8_ok d hC⟩
     · simp only [renL, renA, inS1]
       exact leL_refl _
     · intro w0 ρ w vs hr hv j hj
       simp at hj
       subst hj
       exact .inl <| VRs.bind hv (j, True) (by simp [bindL, bindA]) trivial
   · cases h
 · cases h
def rowsOf {α : Type} [Inhabited α] (g : α → List AV) (l : List α) : Nat → List AV := fun r => g (l.getD r default)
theorem rows_open {P : Program} {α : Type} [Inhabited α] {t e : TypeId} {k : Nat} (hk : 0 < k) (g : α → List AV) (Wf : α → Prop) (ht : P.underlying t = some (.slice e)) (hc : P.cellsOf e = k)
   {w : World} (one : ∀ {cs : List Value}, Rd P w e cs → ∃ o, VRs0 (imOf w) (g o) cs ∧ Wf o) {a : Option Addr} {n c : Nat} (h : Rd P w t [.slice a n c]) :
   ∃ l : List α, l.length = n ∧ VR0 (imOf w) (.im k l.length (rowsOf g l)) (.slice a n c) ∧ ∀ o ∈ l, Wf o := by
 obtain ⟨a', n', c', e1, h1, h2, h3, h4⟩ := h.slice ht hc
 injection e1 with e1 _
 injection e1 with e1 e2 e3
 subst e1
 subst e2
 subst e3
 cases a with
 | none =>
   obtain ⟨rfl, rfl⟩ := h3 rfl
   exact ⟨[], rfl, .im (winE_nil _ _) (fun r hr => absurd hr (Nat.not_lt_zero _)), fun o ho => by cases ho⟩
 | some ad =>
   have each : ∀ i, i < n → ∃ p : α × List Value, (p.2.length = k ∧ ∀ (j : Nat) (u : Value), p.2[j]? = some u → w.cell? ((ad.add (i * k)).add j) = some u) ∧ VRs0 (imOf w) (g p.1) p.2 ∧ Wf p.1 := by
     intro i hi
     obtain ⟨cs, he'⟩ := h4 ad rfl i hi
     obtain ⟨o, h5, h6⟩ := one he'.rd
     exact ⟨(o, cs), ⟨he'.len, he'.cell⟩, h5, h6⟩
   obtain ⟨f, hf⟩ := Go.Deep.choose_lt each
   have hl : ((List.range n).map fun r => (f r).1).length = n := by simp
   have hopf : ∀ r, r < n → rowsOf g ((List.range n).map fun r => (f r).1) r = g (f r).1 := fun r hr => by simp [rowsOf, List.getD_eq_getElem?_getD, hr]
   have hlen7 : ∀ (m : Nat), m ≤ n → (((List.range m).map fun r => (f r).2).flatten).length = m * k := by
     intro m
     induction m with
     | zero => intro _; simp
     | succ m ih =>
       intro hm
       rw [List.range_succ, List.map_append, List.flatten_append, List.length_append, ih (by omega)]
       have := (hf m (by omega)).1.1
       simp [this, Nat.succ_mul]
   have hrow : ∀ (m r : Nat), m ≤ n → r < m → ((((List.range m).map fun r => (f r).2).flatten).drop (r * k)).take k = (f r).2 := by
     intro m
     induction m with
     | zero => intro r _ hr; omega
     | succ m ih =>
       intro r hm hr
       have hlm := hlen7 m (by omega)
       have h7 := (hf r (by omega)).1.1
       rw [List.range_succ, List.map_append, List.flatten_append]
       by_cases e : r = m
       · subst e
         rw [List.drop_append_of_le_length (by omega), List.drop_of_length_le (by omega), List.nil_append]
         simp [List.take_of_length_le (Nat.le_of_eq h7)]
       · have hr' : r < m := by omega
         have hle : (r + 1) * k ≤ m * k := Nat.mul_le_mul_right k hr'
         rw [Nat.succ_mul] at hle
         rw [List.drop_append_of_le_length (by rw [hlm]; omega), List.take_append_of_le_length (by rw [List.length_drop, hlm]; omega)]
         exact ih r (by omega) hr'
   refine ⟨(List.range n).map fun r => (f r).1, hl, ?_, fun o ho => ?_⟩
   · rw [hl]
     refine .im (vs := ((List.range n).map fun r => (f r).2).flatten) ⟨hlen7 n (Nat.le_refl _), h1, h2, (fun e => by cases e), fun ad' hd j u hu => ?_⟩ (fun r hr => ?_)
     · cases hd
       have hj : j < n * k := by
         have := (List.getElem?_eq_some_iff.1 hu).1
         rwa [hlen7 n (Nat.le_refl _)] at this
       have hr : j / k < n := Nat.div_lt_of_lt_mul (by rwa [Nat.mul_comm] at hj)
       have hjk : j / k * k + j % k = j := by rw [Nat.mul_comm]; exact Nat.div_add_mod j k
       have hc := (hf (j / k) hr).1.2 (j % k) u (by
         rw [← hrow n (j / k) (Nat.le_refl _) hr, List.getElem?_take, if_pos (Nat.mod_lt _ hk), List.getElem?_drop]
         rw [hjk]; exact hu)
       have e : (ad.add (j / k * k)).add (j % k) = ad.add j := by
         rw [add_add, hjk]
       rw [e] at hc
       exact imOf_cell hc
     · rw [hrow n r (Nat.le_refl _) hr, hopf r hr]
       exact (hf r hr).2.1
   · obtain ⟨r, hr, rfl⟩ := List.mem_map.1 ho
     exact (hf r (List.mem_range.1 hr)).2.2
structure RD where
 stays : List (List UInt8)
 cache : List (List UInt8)
 c : CrashD
 many : Int
 down : Bool
def rfallAt (c : CrashD) (k : Nat) (v s : List UInt8) : List UInt8 := if v = [] then s else v.take (keptN c k) ++ s.drop (keptN c k)
def rfallD (r : RD) (c : CrashD) : RD := ⟨(List.range r.stays.length).map fun k => rfallAt c k (r.cache.getD k []) (r.stays.getD k []), List.replicate r.cache.length [], CrashD.none, r.many, true⟩
def RD.put (r : RD) (z : Int) (b : List UInt8) : RD := { r with cache := r.cache.set z.toNat b, many := r.many + 1 }
def RD.tick (r : RD) : RD := { r with c := { r.c with w := r.c.w - 1 } }
def rwriteD (r : RD) (z : Int) (b : List UInt8) : RD × Int :=
 if r.down then (r, 31) else if ¬ (0 ≤ z) then (r, 30) else if ¬ (z < r.stays.length) then (r, 30) else if b.length ≠ 128 then (r, 30) else
 if r.c.w = 0 then (r.put z b, 0) else if 0 < r.c.w - 1 then ((r.put z b).tick, 0) else (rfallD (r.put z b).tick (r.put z b).tick.c, 31)
def rreadD (r : RD) (z : Int) : List UInt8 × Int :=
 if r.down then ([], 31) else if ¬ (0 ≤ z) then ([], 30) else if ¬ (z < r.stays.length) then ([], 30) else
 (if r.cache.getD z.toNat [] = [] then r.stays.getD z.toNat [] else r.cache.getD z.toNat [], 0)
def rflushL (r : RD) : List (List UInt8) := (List.range r.stays.length).map fun k => if r.cache.getD k [] = [] then r.stays.getD k [] else r.cache.getD k []
def rflushD (r : RD) : RD × Int := if r.down then (r, 31) else ({ r with stays := rflushL r, cache := List.replicate r.cache.length [] }, 0)
def rarmD (r : RD) (c : CrashD) : RD × Int := if c.w < 1 then (r, 2) else ({ r with c := c }, 0)
def rdownD (r : RD) (c : CrashD) : RD × Int := if r.down then (r, 31) else (rfallD r c, 0)
def rspoilD (r : RD) (z : Int) (b : List UInt8) : RD × Int :=
 if ¬ (0 ≤ z) then (r, 30) else if ¬ (z < r.stays.length) then (r, 30) else if b.length ≠ 128 then (r, 30) else ({ r with stays := r.stays.set z.toNat b }, 0)
def rnewD (n : Nat) : RD := ⟨List.replicate n (List.replicate 128 0), List.replicate n [], CrashD.none, 0, false⟩
structure RD.Ok (r : RD) : Prop where
 len : r.cache.length = r.stays.length
 le : r.stays.length ≤ 4096
 st : ∀ k, k < r.stays.length → (r.stays.getD k []).length = 128
 ca : ∀ k, k < r.stays.length → r.cache.getD k [] = [] ∨ (r.cache.getD k []).length = 128
 cw : 0 ≤ r.c.w ∧ fits .i64 r.c.w
 keep : r.c.keep.length ≤ 1000000
 many : 0 ≤ r.many ∧ r.many ≤ 4000000000000000000
structure GoesR (d : DiskD) (r : RD) : Prop where
 stays : r.stays = d.stays
 len : r.cache.length = d.stays.length
 cache : ∀ k, k < d.stays.length → r.cache.getD k [] = (getM d.waits k).getD []
 c : r.c = d.crash
 many : r.many = d.writes
 down : r.down = d.down
theorem GoesR.ok {d : DiskD} {r : RD} (h : GoesR d r) (hd : d.Fine) : r.Ok := by
 refine ⟨by rw [h.len, h.stays], by rw [h.stays]; exact hd.ok.le, fun k hk => ?_, fun k hk => ?_, by rw [h.c]; exact hd.cw, by rw [h.c]; exact hd.keep, by rw [h.many]; exact hd.wr⟩
 · rw [h.stays] at hk ⊢
   exact hd.ok.rows _ (by rw [List.getD_eq_getElem?_getD, List.getElem?_eq_getElem hk]; simp)
 · rw [h.stays] at hk
   rw [h.cache k hk]
   cases hv : getM d.waits k with
   | none => exact .inl rfl
   | some v =>
     right
     have hm : (k : Int) ∈ d.waits.map (·.1) := by rw [← getM_isSome, hv]; rfl
     obtain ⟨v', g1, g2⟩ := getM_mem hm
     rw [hv] at g1; cases g1
     exact (hd.ok.keys _ g2).2.2
theorem getM_len' {d : DiskD} (hd : d.Ok) {z : Int} {v : List UInt8} (h : getM d.waits z = some v) : v.length = 128 := by
 have hm : z ∈ d.waits.map (·.1) := by rw [← getM_isSome, h]; rfl
 obtain ⟨v', g1, g2⟩ := getM_mem hm
 rw [h] at g1; cases g1
 exact (hd.keys _ g2).2.2
theorem GoesR.fall {d : DiskD} {r : RD} (h : GoesR d r) (hd : d.Ok) (c : CrashD) : GoesR (fallD d c) (rfallD r c) := by
 have hl : (fallD d c).stays.length = d.stays.length := fallL_len _ _ _ _
 refine ⟨?_, ?_, fun k hk => ?_, rfl, h.many, rfl⟩
 · refine rows_ext ?_ fun k hk => ?_
   · rw [hl]
     simp [rfallD, h.stays]
   · have hk' : k < d.stays.length := by simpa [rfallD, h.stays] using hk
     show _ = (fallL d.waits c (keysD d.waits) d.stays).getD k []
     rw [fallL_at hd c hk']
     unfold rfallD
     rw [List.getD_eq_getElem?_getD, List.getElem?_map, List.getElem?_range (by rw [h.stays]; exact hk')]
     simp only [Option.map_some, Option.getD_some]
     rw [h.cache k hk', h.stays]
     unfold rfallAt fallAt
     cases hv : getM d.waits k with
     | none => rfl
     | some v =>
       have := getM_len' hd hv
       rw [if_neg (by intro e; simp at e; rw [e] at this; cases this)]
       rfl
 · simp [rfallD, h.len, hl]
 · rw [hl] at hk
   have : (fallD d c).waits = [] := rfl
   rw [this]
   simp [rfallD, getM, List.getD_eq_getElem?_getD, List.getElem?_replicate]
   split <;> rfl
theorem GoesR.put {d : DiskD} {r : RD} (h : GoesR d r) {z : Int} (h0 : 0 ≤ z) (_h1 : z < d.stays.length) {b : List UInt8} (hb : b.length = 128) : GoesR (d.put z b) (r.put z b) := by
 refine ⟨h.stays, ?_, fun k hk => ?_, h.c, by show r.many + 1 = d.writes + 1; rw [h.many], h.down⟩
 · show (r.cache.set z.toNat b).length = _
   rw [List.length_set]; exact h.len
 · show (r.cache.set z.toNat b).getD k [] = (getM (putM d.waits z (b.take 128)) k).getD []
   have hk' : k < d.stays.length := hk
   rw [getM_putM, List.take_of_length_le (by omega)]
   by_cases e : (k : Int) = z
   · rw [if_pos e]
     have : z.toNat = k := by omega
     rw [this]
     simp [List.getD_eq_getElem?_getD, List.getElem?_set, h.len, hk']
   · rw [if_neg e]
     have : ¬ z.toNat = k := by omega
     rw [← h.cache k hk']
     simp [List.getD_eq_getElem?_getD, List.getElem?_set, this]
theorem GoesR.tick {d : DiskD} {r : RD} (h : GoesR d r) : GoesR d.tick r.tick :=
 ⟨h.stays, h.len, h.cache, by show ({ r.c with w := r.c.w - 1 } : CrashD) = { d.crash with w := d.crash.w - 1 }; rw [h.c], h.many, h.down⟩
theorem GoesR.write {d : DiskD} {r : RD} (h : GoesR d r) (hd : d.Ok) (z : Int) (b : List UInt8) : GoesR (writeD d z b).1 (rwriteD r z b).1 ∧ (rwriteD r z b).2 = (writeD d z b).2 := by
 unfold writeD rwriteD
 rw [h.down, h.stays, h.c]
 split
 · exact ⟨h, rfl⟩
 · split
   · exact ⟨h, rfl⟩
   · split
     · exact ⟨h, rfl⟩
     · split
       · exact ⟨h, rfl⟩
       · rename_i h1 h2 h3 h4
         have hb : b.length = 128 := by omega
         have hp := h.put (z := z) (by omega) (by omega) hb
         have hpo : (d.put z b).tick.Ok := (hd.put (by omega) (by omega) (by rw [List.length_take]; omega)).of rfl rfl
         split
         · exact ⟨hp, rfl⟩
         · split
           · exact ⟨hp.tick, rfl⟩
           · refine ⟨?_, rfl⟩
             have := hp.tick.fall hpo (d.put z b).tick.crash
             rwa [show (d.put z b).tick.crash = (r.put z b).tick.c from hp.tick.c.symm] at this ⊢
theorem GoesR.read {d : DiskD} {r : RD} (h : GoesR d r) (hd : d.Ok) (z : Int) : rreadD r z = ((readD d z).1.getD [], (readD d z).2) := by
 unfold readD rreadD
 rw [h.down, h.stays]
 split
 · rfl
 · split
   · rfl
   · split
     · rfl
     · rename_i h1 h2 h3
       have hz : z.toNat < d.stays.length := by omega
       have hc := h.cache z.toNat hz
       rw [show ((z.toNat : Nat) : Int) = z by omega] at hc
       rw [hc]
       cases hv : getM d.waits z with
       | none => rfl
       | some v =>
         have := getM_len' hd hv
         simp only [Option.getD_some]
         rw [if_neg (by intro e; rw [e] at this; cases this)]
theorem GoesR.flush {d : DiskD} {r : RD} (h : GoesR d r) (hd : d.Ok) : GoesR (flushD d).1 (rflushD r).1 ∧ (rflushD r).2 = (flushD d).2 := by
 unfold flushD rflushD
 rw [h.down]
 split
 · exact ⟨h, rfl⟩
 · refine ⟨⟨?_, ?_, fun k hk => ?_, h.c, h.many, rfl⟩, rfl⟩
   · refine rows_ext ?_ fun k hk => ?_
     · simp [rflushL, h.stays, flushL_len]
     · have hk' : k < d.stays.length := by simpa [rflushL, h.stays] using hk
       show (rflushL r).getD k [] = (flushL d.waits (keysD d.waits) d.stays).getD k []
       rw [flushL_at hd hk']
       unfold rflushL
       rw [List.getD_eq_getElem?_getD, List.getElem?_map, List.getElem?_range (by rw [h.stays]; exact hk')]
       simp only [Option.map_some, Option.getD_some]
       rw [h.cache k hk', h.stays]
       cases hv : getM d.waits k with
       | none => rfl
       | some v =>
         have := getM_len' hd hv
         simp only [Option.getD_some]
         rw [if_neg (by intro e; rw [e] at this; cases this)]
   · simp [flushL_len, h.len]
   · simp only [List.getD_eq_getElem?_getD, List.getElem?_replicate, getM, Option.getD_none]
     split <;> rfl
theorem GoesR.boot {d : DiskD} {r : RD} (h : GoesR d r) : GoesR (bootD d) { r with down := false } := ⟨h.stays, h.len, h.cache, h.c, h.many, rfl⟩
theorem GoesR.down_ {d : DiskD} {r : RD} (h : GoesR d r) (hd : d.Ok) (c : CrashD) : GoesR (downD d c).1 (rdownD r c).1 ∧ (rdownD r c).2 = (downD d c).2 := by
 unfold downD rdownD
 rw [h.down]
 split
 · exact ⟨h, rfl⟩
 · exact ⟨h.fall hd c, rfl⟩
theorem GoesR.arm {d : DiskD} {r : RD} (h : GoesR d r) (c : CrashD) : GoesR (armD d c).1 (rarmD r c).1 ∧ (rarmD r c).2 = (armD d c).2 := by
 unfold armD rarmD
 split
 · exact ⟨h, rfl⟩
 · exact ⟨⟨h.stays, h.len, h.cache, rfl, h.many, h.down⟩, rfl⟩
theorem GoesR.spoil {d : DiskD} {r : RD} (h : GoesR d r) (z : Int) (b : List UInt8) : GoesR (spoilD d z b).1 (rspoilD r z b).1 ∧ (rspoilD r z b).2 = (spoilD d z b).2 := by
 unfold spoilD rspoilD
 rw [h.stays]
 split
 · exact ⟨h, rfl⟩
 · split
   · exact ⟨h, rfl⟩
   · split
     · exact ⟨h, rfl⟩
     · rename_i h1 h2 h3
       refine ⟨⟨?_, ?_, fun k hk => ?_, h.c, h.many, h.down⟩, rfl⟩
       · show d.stays.set _ _ = d.stays.set _ _
         rw [List.take_of_length_le (by omega)]
       · show _ = (d.stays.set _ _).length
         rw [List.length_set]; exact h.len
       · have hk' : k < d.stays.length := by simpa using hk
         exact h.cache k hk'
theorem goes_new {n : Nat} : GoesR (newD n) (rnewD n) :=
 ⟨rfl, by simp [newD, rnewD], fun k hk => by
   simp only [newD, rnewD, getM, List.getD_eq_getElem?_getD, List.getElem?_replicate, Option.getD_none]
   split <;> rfl, rfl, rfl, rfl⟩
end Go.Proofs.YtnkjhicokcmmpaaGreat.Sm
namespace Go.Proofs.YtnkjhicokcmmpaaGreat
open Go.RowKit Go.Shelf





end Go.Proofs.YtnkjhicokcmmpaaGreat
namespace Go.Proofs.YtnkjhicokcmmpaaGreat

end Go.Proofs.YtnkjhicokcmmpaaGreat
namespace Go.Proofs.YtnkjhicokcmmpaaGreat
open Go.RowKit

end Go.Proofs.YtnkjhicokcmmpaaGreat
namespace Go.Proofs.YtnkjhicokcmmpaaGreat.Sm
open Go Go.RowKit

def bysF (l : List (List UInt8)) : Nat → List AV := rowsOf (fun b => [AV.by8 b]) l
theorem Ex.calls {S : Sy} {P : Program} (hok : S.Ok P) {f : FuncId} {e : Ex} {args : List AV} {H : Tr AB} {n : Nat} (o : e.Ok S P f args H n) {w0 : Bs} {ρ : Env} {w : World} {vs : List Value} (hr : HR w0 ρ H n w) (hv : VRs ρ args vs) :
   Calls P f vs.toArray w (fun ev w' => ∃ ρ' v, ev = .returned v ∧ VR ρ' (e.out H n).1.1 v ∧ HR w0 ρ' (e.out H n).1.2.1 (e.out H n).1.2.2 w' ∧ Ext ρ ρ' H (e.out H n).1.2.1 n (e.out H n).1.2.2) := by
 obtain ⟨F, hFt⟩ := hr.foot
 obtain ⟨hl, hseen⟩ := seenL_at o.seen
 have hbd := o.bnd hr hv
 have hkm : ∀ i ∈ e.μ, ∀ (T : TypeId) (l : List AV), H.get i = some (.mem T none l) → ρ i ≠ none := fun i hi T l hq => (hbd i hi).elim id (fun h => absurd hq (h T l))
 have hin := hr.inner hFt o.nd hl hseen hkm
 have hva : VRs (inEnv ρ e.μ) e.args vs := leL_VRs o.arg (hv.ren (inEnv_ren o.nd))
 refine (To.calls hok (startOf_some o.st) o.run hin hva).mono ?_
 rintro ev w' ⟨x, H', n', ρ', v, ⟨h1, h2, h3⟩, rfl, hx, hr'⟩
 have hE : ∀ p j : Nat, (e.E.map (·.1))[p]? = some j → ∃ q, e.E[p]? = some q ∧ q.1 = j := fun p j hp => by
   rw [List.getElem?_map] at hp
   cases hq : e.E[p]? with
   | none => rw [hq] at hp; cases hp
   | some q => rw [hq] at hp; cases hp; exact ⟨q, rfl, rfl⟩
 have hlt : ∀ i ∈ e.μ, i < n := fun i hi => by
   rcases Nat.lt_or_ge i n with h | h
   · exact h
   · obtain ⟨j, hj⟩ := List.mem_iff_getElem?.1 hi
     obtain ⟨B, g1, _⟩ := hseen j i hj
     rw [(hr.top h).2] at g1; cases g1
 have hput := fun q => putL_get (σ := e.σ n) (H := H) o.nd o.len q
 have hmem : ∀ q, (memF (e.E.map fun p => renB (e.σ n) p.2) n (putL (e.σ n) e.μ e.L' H)).get q = if n ≤ q ∧ q < n + e.E.length then (e.E.map fun p => renB (e.σ n) p.2)[q - n]? else (putL (e.σ n) e.μ e.L' H).get q := fun q => by
   rw [memF_get, List.length_map]
 have key := hr.outer (H2 := memF (e.E.map fun p => renB (e.σ n) p.2) n (putL (e.σ n) e.μ e.L' H)) (E := e.E.map (·.1)) hFt o.nd (fun i hi => by
     obtain ⟨j, hj⟩ := List.mem_iff_getElem?.1 hi
     obtain ⟨B, g1, g2, _⟩ := hseen j i hj
     exact ⟨B, g1, g2, fun T l e => hkm i hi T l (by rw [g1, e])⟩) o.new.1 (fun j hj => by
     obtain ⟨p, hp, rfl⟩ := List.mem_map.1 hj
     exact o.new.2 p hp) hr' (fun q hq hm => by
     rw [hmem, if_neg (by omega)]
     exact (hput q).2 hm) (fun j i hj => by
     have hi := List.mem_of_getElem? hj
     have := hlt i hi
     have hjl : j < e.μ.length := (List.getElem?_eq_some_iff.1 hj).1
     obtain ⟨B0, g1, g2⟩ := endL_at h2 j _ (List.getElem?_eq_getElem (by rw [o.len]; exact hjl))
     refine ⟨_, ?_, B0, by rwa [Nat.zero_add] at g1, leB_ren _ g2⟩
     rw [hmem, if_neg (by omega), (hput i).1 j hj, List.getElem?_eq_getElem (by rw [o.len]; exact hjl)]; rfl) (fun p j hp => by
     obtain ⟨q, hq, rfl⟩ := hE p j hp
     have hpl : p < e.E.length := (List.getElem?_eq_some_iff.1 hq).1
     obtain ⟨B0, g1, g2⟩ := endE_at h3 q (List.mem_of_getElem? hq)
     refine ⟨_, ?_, B0, g1, leB_ren _ g2⟩
     rw [hmem, if_pos (by omega), Nat.add_sub_cancel_left, List.getElem?_map, hq]; rfl) (fun q hq => by
     rw [List.length_map] at hq
     rw [hmem, if_neg (by omega)]
     by_cases hm : q ∈ e.μ
     · have := hlt q hm; omega
     · rw [(hput q).2 hm]; exact (hr.top (by omega)).2)
 rw [List.length_map] at key
 exact ⟨_, v, rfl, (leA_VR h1 hx).ren (outS_ren hr hlt o.new.1 hr'), key.1, key.2⟩
def oneXG (F : FuncId) (K : List AV → Tr AB → Option (Bool × Prop × (Bool → Ex))) : CG := oneG F fun args H => match K args H with
 | some r => some (r.1, r.2.1, fun n v => ((r.2.2 v).out H n).1)
 | none => none
theorem oneXG_ok {S : Sy} {P : Program} (hok : S.Ok P) (ht : (P.funcs.toList.all fun fn => !(fn.name == "runtime.NumGoroutine")) = true) {F : FuncId} {fn : Func} (hF : P.funcs[F]? = some fn) (hb : fn.body.isSome = true) {K : List AV → Tr AB → Option (Bool × Prop × (Bool → Ex))}
   (h : ∀ {args H n r}, K args H = some r → r.2.1 → (r.2.2 r.1).Ok S P F args H n) : GOk P (oneXG F K) :=
 oneG_ok ht hF hb fun {args H r} hk hC {w0 ρ w vs n} hr hv => by
   split at hk
   · rename_i q hq
     cases hk
     exact Ex.calls hok (h (n := n) hq hC) hr hv
   · cases hk
theorem endL_cons {B0 B : AB} {l : List AB} {k : Nat} {H : Tr AB} (h : H.get k = some B0) (hl : leB B0 B) (t : endL l (k + 1) H) : endL (B :: l) k H := ⟨⟨B0, h, hl⟩, t⟩
theorem endL_nil {k : Nat} {H : Tr AB} : endL [] k H := trivial
theorem endE_nil {H : Tr AB} : endE [] H := trivial
theorem of_eqP {P C : Prop} (h : P = C) (c : C) : P := h ▸ c


def byF : List AV → List UInt8
 | [.by8 b] => b
 | _ => []
def recsF (n : Nat) (f : Nat → List AV) : List (List UInt8) := (List.range n).map fun r => byF (f r)
theorem recsF_len (n : Nat) (f : Nat → List AV) : (recsF n f).length = n := by simp [recsF]
theorem recs_bys (l : List (List UInt8)) : recsF l.length (bysF l) = l := by
 unfold recsF
 apply List.ext_getElem?
 intro j
 by_cases h : j < l.length
 · rw [List.getElem?_map, List.getElem?_range h]
   simp [bysF, rowsOf, byF, h]
 · rw [List.getElem?_eq_none (by simp; omega), List.getElem?_eq_none (by omega)]
/-! The state. -/
def slotsZ (i : Nat) (y : Bool) (B : AB) (kp : List Nat) (T : Tr AV) : Nat → Nat → List AV
 | 0, _ => []
 | k + 1, s => cond (memS s kp) (frzA i y B (At T s)) .any :: slotsZ i y B kp T k (s + 1)
def askT (i : Nat) (y : Bool) (B : AB) (kp : List Nat) (T : Tr AV) : Nat → Nat → List Prop
 | 0, _ => []
 | k + 1, s => cond (memS s kp) (askZ i y B (At T s)) [] ++ askT i y B kp T k (s + 1)
theorem slotsZ_get (i : Nat) (y : Bool) (B : AB) (kp : List Nat) (T : Tr AV) : ∀ (k s q : Nat), q < k → (slotsZ i y B kp T k s)[q]? = some (cond (memS (s + q) kp) (frzA i y B (At T (s + q))) .any)
 | 0, _, q, h => by omega
 | k + 1, s, 0, _ => rfl
 | k + 1, s, q + 1, h => by
   simp only [slotsZ, List.getElem?_cons_succ]
   rw [slotsZ_get i y B kp T k (s + 1) q (by omega), show s + 1 + q = s + (q + 1) by omega]
theorem slotsZ_len (i : Nat) (y : Bool) (B : AB) (kp : List Nat) (T : Tr AV) : ∀ (k s : Nat), (slotsZ i y B kp T k s).length = k
 | 0, _ => rfl
 | k + 1, s => by simp [slotsZ, slotsZ_len i y B kp T k]
theorem askT_get {i : Nat} {y : Bool} {B : AB} {kp : List Nat} {T : Tr AV} : ∀ {k s q : Nat}, q < k → All (askT i y B kp T k s) → memS (s + q) kp = true → All (askZ i y B (At T (s + q)))
 | 0, _, q, h, _, _ => by omega
 | k + 1, s, 0, _, ha, hm => by
   have := All.left ha
   rw [show s + 0 = s from rfl] at hm ⊢
   rwa [hm] at this
 | k + 1, s, q + 1, h, ha, hm => by
   have := askT_get (q := q) (by omega) (All.right ha) (by rwa [show s + 1 + q = s + (q + 1) by omega])
   rwa [show s + 1 + q = s + (q + 1) by omega] at this
theorem TR.frz {i : Nat} {y : Bool} {B : AB} {ρ : Env} {I : Im} (hI : ρ.im.le I) (hl : LeafOk i y B ρ I) {nt : Nat} {T : Tr AV} {ts : Array Value} (h : TR ρ nt T ts) (kp : List Nat) (ha : All (askT i y B kp T nt 0)) :
   TR (frzE ρ i I) nt (argsT (slotsZ i y B kp T nt 0) 0 .e) ts := by
 refine ⟨h.1, fun s => ?_⟩
 rw [At_argsT, slotsZ_len]
 by_cases hs : s < nt
 · rw [if_pos ⟨Nat.zero_le _, by omega⟩, Nat.sub_zero, slotsZ_get _ _ _ _ _ _ _ _ hs]
   simp only [Option.getD_some, Nat.zero_add]
   cases hm : memS s kp with
   | true =>
     have hz := askT_get hs ha (by rwa [Nat.zero_add])
     rw [Nat.zero_add] at hz
     exact (h.2 s).frz hI hl hz
   | false => exact .any _
 · rw [if_neg (by omega)]
   have : ts.getD s undef = undef := by
     rw [Array.getD_eq_getD_getElem?, Array.getElem?_eq_none (by rw [h.1]; omega)]; rfl
   rw [this]
   exact .v _
def frzB (i : Nat) (y : Bool) (B : AB) : AB → AB
 | .mem T z l => .mem T z (frzL i y B l)
 | C => C
def askB (i : Nat) (y : Bool) (B : AB) : AB → List Prop
 | .mem _ _ l => askZs i y B l
 | _ => []
def noB (i : Nat) : AB → Bool
 | .loop _ _ _ nt T _ _ _ d => noT i T nt && !(Nat.beq d i)
 | .map l _ => noE i l
 | _ => true
def blksZ (i : Nat) (y : Bool) (B : AB) (H : Tr AB) : Nat → Nat → List AB
 | 0, _ => []
 | k + 1, s => (cond (Nat.beq s i) .dead (match H.get s with | some C => frzB i y B C | none => .dead)) :: blksZ i y B H k (s + 1)
def askH (i : Nat) (y : Bool) (B : AB) (H : Tr AB) : Nat → Nat → List Prop
 | 0, _ => []
 | k + 1, s => cond (Nat.beq s i) [] (match H.get s with | some C => askB i y B C | none => []) ++ askH i y B H k (s + 1)
def noH (i : Nat) (H : Tr AB) : Nat → Nat → Bool
 | 0, _ => true
 | k + 1, s => cond (Nat.beq s i) true (match H.get s with | some C => noB i C | none => true) && noH i H k (s + 1)
def noGz (i : Nat) (H : Tr AB) : Nat → Nat → Bool
 | 0, _ => true
 | k + 1, s => (match H.get s with | some (.mem _ none l) => noL i l | _ => true) && noGz i H k (s + 1)
theorem blksZ_get (i : Nat) (y : Bool) (B : AB) (H : Tr AB) : ∀ (k s q : Nat), q < k → (blksZ i y B H k s)[q]? = some (cond (Nat.beq (s + q) i) .dead (match H.get (s + q) with | some C => frzB i y B C | none => .dead))
 | 0, _, q, h => by omega
 | k + 1, s, 0, _ => rfl
 | k + 1, s, q + 1, h => by
   simp only [blksZ, List.getElem?_cons_succ]
   rw [blksZ_get i y B H k (s + 1) q (by omega), show s + 1 + q = s + (q + 1) by omega]
theorem blksZ_len (i : Nat) (y : Bool) (B : AB) (H : Tr AB) : ∀ (k s : Nat), (blksZ i y B H k s).length = k
 | 0, _ => rfl
 | k + 1, s => by simp [blksZ, blksZ_len i y B H k]
theorem askH_get {i : Nat} {y : Bool} {B : AB} {H : Tr AB} : ∀ {k s q : Nat} {C : AB}, q < k → All (askH i y B H k s) → Nat.beq (s + q) i = false → H.get (s + q) = some C → All (askB i y B C)
 | 0, _, q, C, h, _, _, _ => by omega
 | k + 1, s, 0, C, _, ha, hb, hC => by
   have := All.left ha
   rw [show s + 0 = s from rfl] at hb hC
   rwa [hb, hC] at this
 | k + 1, s, q + 1, C, h, ha, hb, hC => askH_get (q := q) (by omega) (All.right ha) (by rwa [show s + 1 + q = s + (q + 1) by omega]) (by rwa [show s + 1 + q = s + (q + 1) by omega])
theorem noH_get {i : Nat} {H : Tr AB} : ∀ {k s q : Nat} {C : AB}, q < k → noH i H k s = true → Nat.beq (s + q) i = false → H.get (s + q) = some C → noB i C = true
 | 0, _, q, C, h, _, _, _ => by omega
 | k + 1, s, 0, C, _, ha, hb, hC => by
   simp only [noH, Bool.and_eq_true] at ha
   have := ha.1
   rw [show s + 0 = s from rfl] at hb hC
   rwa [hb, hC] at this
 | k + 1, s, q + 1, C, h, ha, hb, hC => by
   simp only [noH, Bool.and_eq_true] at ha
   exact noH_get (q := q) (by omega) ha.2 (by rwa [show s + 1 + q = s + (q + 1) by omega]) (by rwa [show s + 1 + q = s + (q + 1) by omega])
theorem noGz_get {i : Nat} {H : Tr AB} : ∀ {k s q : Nat} {T : TypeId} {l : List AV}, q < k → noGz i H k s = true → H.get (s + q) = some (.mem T none l) → noL i l = true
 | 0, _, q, T, l, h, _, _ => by omega
 | k + 1, s, 0, T, l, _, ha, hC => by
   simp only [noGz, Bool.and_eq_true] at ha
   have := ha.1
   rw [show s + 0 = s from rfl] at hC
   rwa [hC] at this
 | k + 1, s, q + 1, T, l, h, ha, hC => by
   simp only [noGz, Bool.and_eq_true] at ha
   exact noGz_get (q := q) (by omega) ha.2 (by rwa [show s + 1 + q = s + (q + 1) by omega])
theorem noT_at {i : Nat} {T : Tr AV} : ∀ {k s : Nat}, noT i T k = true → s < k → noA i (At T s) = true
 | 0, s, _, h => absurd h (Nat.not_lt_zero _)
 | k + 1, s, h, hs => by
   simp only [noT, Bool.and_eq_true] at h
   by_cases e : s = k
   · subst e; exact h.1
   · exact noT_at h.2 (by omega)
theorem ERs.frzN {i : Nat} {y : Bool} {B : AB} {ρ : Env} {I : Im} (hI : ρ.im.le I) (hl : LeafOk i y B ρ I) {l : List (Value × AV × Nat)} {m : List MapEntry} (h : ERs ρ l m) : noE i l = true → ERs (frzE ρ i I) l m := by
 induction h with
 | nil => exact fun _ => .nil
 | cons h _ ih =>
   intro hn
   simp only [noE, Bool.and_eq_true] at hn
   exact .cons (h.frzN hI hl hn.1) (ih hn.2)
theorem undef_VR {i : Nat} {ρ : Env} {I : Im} (hI : ρ.im.le I) {x : AV} (h : VR ρ x undef) : VR (frzE ρ i I) x undef := by
 generalize hu : undef = u at h
 cases h with
 | v => subst hu; exact .v _
 | sy => subst hu; exact .sy _
 | any => exact .any _
 | tup e =>
   unfold undef at hu
   injection hu with hu
   have := congrArg Array.toList hu
   simp at this
   subst this
   cases e
   exact .tup .nil
 | _ => unfold undef at hu; cases hu
theorem BR.frz {i : Nat} {y : Bool} {B : AB} {ρ : Env} {I : Im} (hI : ρ.im.le I) (hl : LeafOk i y B ρ I) {c : Nat} {C : AB} {o : Obj} (h : BR ρ c C o) (ha : All (askB i y B C)) (hn : noB i C = true) : BR (frzE ρ i I) c (frzB i y B C) o := by
 cases C with
 | mem T z l => obtain ⟨vs, sp, fz, h1, h2⟩ := h; exact ⟨vs, sp, fz, h1.frz hI hl ha, h2⟩
 | loop st pd fn nt T ps asg bd d =>
   obtain ⟨ts, db, dc, h1, h2, h3⟩ := h
   simp only [noB, Bool.and_eq_true, Bool.not_eq_true'] at hn
   refine ⟨ts, db, dc, ⟨h1.1, fun s => ?_⟩, frzE_ne hn.2 h2, h3⟩
   by_cases hs : s < nt
   · exact (h1.2 s).frzN hI hl (noT_at hn.1 hs)
   · have e := h1.2 s
     have hu : ts.getD s undef = undef := by
       rw [Array.getD_eq_getD_getElem?, Array.getElem?_eq_none (by rw [h1.1]; omega)]; rfl
     rw [hu] at e ⊢
     exact undef_VR hI e
 | dfd => exact h
 | map l k => obtain ⟨m, h1, h2⟩ := h; exact ⟨m, h1.frzN hI hl hn, h2⟩
 | dead => exact h
 | bb => exact h
 | rw => obtain ⟨vs, sp, h1, h3, h4, h5, h6, h7⟩ := h; exact ⟨vs, sp, h1, h3, h4, h5, h6, fun r hr => (h7 r hr).mono hI⟩
 | obj => exact h
def frzM (i : Nat) (y : Bool) (B : AB) (H : Tr AB) (n : Nat) : Tr AB := memF (blksZ i y B H n 0) 0 .e
theorem frzM_get {i : Nat} {y : Bool} {B : AB} {H : Tr AB} {n : Nat} (q : Nat) : (frzM i y B H n).get q = if q < n then some (cond (Nat.beq q i) .dead (match H.get q with | some C => frzB i y B C | none => .dead)) else none := by
 unfold frzM
 rw [memF_get0]
 by_cases h : q < n
 · rw [if_pos h, blksZ_get _ _ _ _ _ _ _ h, Nat.zero_add]
 · rw [if_neg h, List.getElem?_eq_none (by rw [blksZ_len]; omega)]
theorem frzM_live {i : Nat} {y : Bool} {B : AB} {H : Tr AB} {n : Nat} {q : Nat} {C : AB} (h : (frzM i y B H n).get q = some C) (hl : C.live = true) : q ≠ i ∧ ∃ D, H.get q = some D ∧ C = frzB i y B D ∧ D.live = true ∧ D.isObj = C.isObj := by
 rw [frzM_get] at h
 split at h
 · simp only [Option.some.injEq] at h
   cases hb : Nat.beq q i with
   | true => rw [hb] at h; subst h; cases hl
   | false =>
     rw [hb, cond_false] at h
     have hne : q ≠ i := fun e => by subst e; simp at hb
     cases hq : H.get q with
     | none => rw [hq] at h; subst h; cases hl
     | some D =>
       rw [hq] at h
       subst h
       refine ⟨hne, D, rfl, rfl, ?_, ?_⟩
       · cases D <;> first | rfl | exact hl
       · cases D <;> rfl
 · cases h
section
variable {w0 : Bs} {w : World} {ρ : Env} {H : Tr AB} {n i : Nat} {B : AB} {y : Bool}
theorem HR.frz (hr : HR w0 ρ H n w) (hB : H.get i = some B) (hk : frzK B = true) (h0 : w0.ρ i = none ∧ ¬ w0.K i) (ha : All (askH i y B H n 0)) (hn : noH i H n 0 = true) (hG : ∀ g T l, w0.K g → H.get g = some (.mem T none l) → False) :
   HR w0 (frzE ρ i (frzIm ρ i w)) (frzM i y B H n) n w := by
 have hlive : B.live = true := by cases B <;> first | rfl | cases hk
 have hle := frzIm_le hr hB hlive
 have hl := leaf_ok (y := y) hr hB hk
 obtain ⟨F, hF⟩ := hr.foot
 have nme : ∀ {j : Nat} {p : Nat × Nat}, (frzE ρ i (frzIm ρ i w)) j = some p → j ≠ i ∧ ρ j = some p := fun {j p} h => by
   have h' : (if j = i then none else ρ j) = some p := h
   split at h'
   · cases h'
   · rename_i e; exact ⟨e, h'⟩
 refine ⟨fun {j b c C} h1 h2 => ?_, ⟨F, fun {j b c C} h1 h2 h3 => ?_, fun {j b c x} h1 h2 => ?_, fun {j k q p1 p2 C D} h1 h2 h3 h4 h5 h6 h7 h8 => ?_, fun {j k p C} h1 h2 h3 h4 => ?_⟩, fun {j} hj => ⟨?_, ?_⟩, fun {j b c} h1 => hr.base (nme h1).2, hr.fr, ⟨fun j b hj => ?_, fun b c hb => hle _ _ (hr.le.im _ _ hb)⟩, fun {b c} h1 => ?_, fun {b c} h1 => ?_, fun {j} hj => ⟨?_, (hr.kb hj).2.1, fun T l hl' => ?_⟩⟩
 · obtain ⟨hne, e⟩ := nme h1
   rw [frzM_get] at h2
   have hb : Nat.beq j i = false := by rw [beq_dec]; simpa using hne
   split at h2
   · rename_i hjn
     simp only [hb, cond_false, Option.some.injEq] at h2
     cases hq : H.get j with
     | none =>
       rw [hq] at h2
       subst h2
       have := (hr.base e).2
       exact ⟨w.heap[b], by simp [this], trivial⟩
     | some D =>
       rw [hq] at h2
       subst h2
       obtain ⟨o, ho, hbr⟩ := hr.blk e hq
       refine ⟨o, ho, hbr.frz hle hl (askH_get (q := j) hjn ha (by rwa [Nat.zero_add]) (by rwa [Nat.zero_add])) (noH_get (q := j) hjn hn (by rwa [Nat.zero_add]) (by rwa [Nat.zero_add]))⟩
   · cases h2
 · obtain ⟨hne, e⟩ := nme h1
   obtain ⟨_, D, g1, g2, g3, g4⟩ := frzM_live h2 h3
   rw [← g4]
   exact hF.one e g1 g3
 · obtain ⟨hne, e⟩ := nme h1
   obtain ⟨_, D, g1, g2, g3, g4⟩ := frzM_live h2 rfl
   have : D = .obj x := by cases D <;> first | exact g2.symm | (cases g2)
   subst this
   exact hF.obj e g1
 · obtain ⟨_, e1⟩ := nme h1
   obtain ⟨_, e2⟩ := nme h2
   obtain ⟨_, D1, a1, _, a3, _⟩ := frzM_live h3 h5
   obtain ⟨_, D2, b1, _, b3, _⟩ := frzM_live h4 h6
   exact hF.apart e1 e2 a1 b1 a3 b3 h7 h8
 · obtain ⟨hne, e⟩ := nme h1
   obtain ⟨_, D, g1, _, g3, _⟩ := frzM_live h2 h3
   have hth := hF.there e g1 g3 h4
   refine ⟨hth.1, hth.2.1, ?_⟩
   show frzIm ρ i w k = none
   rcases frzIm_cases ρ i w with e0 | ⟨b, c, L, T, fz, hi, _, e0⟩
   · rw [e0]; exact hth.2.2
   · rw [e0]
     have : k ≠ b := fun e' => by
       subst e'
       exact hne (hF.apart e hi g1 hB g3 hlive h4 (hF.one hi hB hlive).1)
     simp only [if_neg this]; exact hth.2.2
 · show (if j = i then none else ρ j) = none
   split
   · rfl
   · exact (hr.top hj).1
 · rw [frzM_get, if_neg (by omega)]
 · have hne : j ≠ i := fun e => by subst e; rw [h0.1] at hj; cases hj
   show (if j = i then none else ρ j) = some b
   rw [if_neg hne]; exact hr.le.nm _ _ hj
 · have h1' : frzIm ρ i w b = some c := h1
   rcases frzIm_cases ρ i w with e0 | ⟨b', c', L, T, fz, hi, hcell, e0⟩
   · rw [e0] at h1'; exact hr.im h1'
   · rw [e0] at h1'
     simp only at h1'
     split at h1'
     · rename_i e; subst e; cases h1'; exact ⟨T, fz, hcell⟩
     · exact hr.im h1'
 · have h1' : frzIm ρ i w b = some c := h1
   rcases frzIm_cases ρ i w with e0 | ⟨b', c', L, T, fz, hi, hcell, e0⟩
   · rw [e0] at h1'; exact hr.imn h1'
   · rw [e0] at h1'
     simp only at h1'
     split at h1'
     · rename_i e; subst e; exact .inr (hr.base hi).1
     · exact hr.imn h1'
 · show (if j = i then none else ρ j) = none
   split
   · rfl
   · exact (hr.kb hj).1
 · obtain ⟨_, D, g1, g2, _, _⟩ := frzM_live hl' rfl
   cases D <;> first | (cases g2; done) | skip
   rename_i T' z l0
   injection g2 with a1 a2 a3
   subst a2
   exact hG j _ _ hj g1
end
def frzFr (i : Nat) (y : Bool) (B : AB) (kp : List Nat) (fr : AFr) : AFr := { fr with T := argsT (slotsZ i y B kp fr.T fr.nt 0) 0 .e }
def frzS (i : Nat) (y : Bool) (B : AB) (kp : List Nat) (s : ASt) : ASt := ⟨frzFr i y B kp s.fr, s.cs, frzM i y B s.H s.n, s.n⟩
def sgZ (i : Nat) (j : Nat) : Option Nat := cond (Nat.beq j i) none (some j)
def frzOk (i : Nat) (B : AB) (s : ASt) : Bool := frzK B && Nat.ble s.fr.lo i && Nat.blt i s.n && okFr (sgZ i) s.fr && noH i s.H s.n 0 && cond (nilB s.cs) true (noGz i s.H s.fr.lo 0)
def frzAsk (i : Nat) (y : Bool) (B : AB) (kp : List Nat) (s : ASt) : List Prop := askT i y B kp s.fr.T s.fr.nt 0 ++ askH i y B s.H s.n 0
theorem sgZ_ren {ρ : Env} {i : Nat} {I : Im} : Ren (sgZ i) ρ (frzE ρ i ρ.im) := ⟨fun {j k} h => by
 unfold sgZ at h
 cases hb : Nat.beq j i with
 | true => rw [hb] at h; cases h
 | false =>
   rw [hb] at h; cases h
   have : ¬ j = i := fun e => by subst e; simp at hb
   show (if j = i then none else ρ j) = _
   rw [if_neg this], rfl⟩
theorem frzE_le {ρ : Env} {i : Nat} {I : Im} (h : ρ.im.le I) : (frzE ρ i ρ.im).le (frzE ρ i I) := ⟨fun _ _ h => h, h⟩
theorem sgZ_N {i j : Nat} (h : isN (sgZ i) j = true) : renN (sgZ i) j = j := by
 unfold isN sgZ at h
 unfold renN sgZ
 cases hb : Nat.beq j i with
 | true => rw [hb] at h; cases h
 | false => rfl
theorem sgZ_Is {i : Nat} : ∀ {l : List AItem}, okIs (sgZ i) l = true → renIs (sgZ i) l = l
 | [], _ => rfl
 | x :: l, h => by
   simp only [okIs, Bool.and_eq_true] at h
   simp only [renIs, sgZ_Is h.2]
   congr 1
   cases x <;> first | rfl | (simp only [okI] at h; simp only [renI, sgZ_N h.1])
theorem sgZ_Ns {i : Nat} : ∀ {l : List Nat}, okNs (sgZ i) l = true → renNs (sgZ i) l = l
 | [], _ => rfl
 | x :: l, h => by
   simp only [okNs, Bool.and_eq_true] at h
   simp only [renNs, sgZ_Ns h.2, sgZ_N h.1]
theorem sgZ_Ro {i : Nat} {x : Option Nat} (h : okRo (sgZ i) x = true) : renRo (sgZ i) x = x := by
 cases x with
 | none => rfl
 | some j => simp only [okRo] at h; simp only [renRo, sgZ_N h]
theorem StackR.lowZ [Kx] {P : Program} {w0 : Bs} {ρ ρ' : Env} {H H' : Tr AB} {hi : Nat} {l : List AFr} {m : List Frame} (h : StackR P w0 ρ H hi l m) (him : ρ.im.le ρ'.im) : (∀ i, i < hi → ρ' i = ρ i) → (l = [] ∨ ∀ g, g < hi → ρ g = none → Keeps H H' g) → StackR P w0 ρ' H' hi l m := by
 induction h with
 | nil h => exact fun _ _ => .nil h
 | @cons hi af fr l m h hlo t ih =>
   intro hlow hkeep
   have hk := hkeep.resolve_left nofun
   have e0 : ∀ j b, (ρ.upto hi) j = some b → (ρ'.upto hi) j = some b := fun j b hj => by
     rw [Env.upto_at] at hj ⊢
     split at hj
     · rename_i hj'; rw [if_pos hj', hlow j hj']; exact hj
     · cases hj
   have e : (ρ.upto hi).le (ρ'.upto hi) := ⟨e0, him⟩
   refine .cons (h.mono e (Nat.le_refl _) fun g hg hn => ?_) hlo (ih (fun i hi' => hlow i (Nat.lt_of_lt_of_le hi' hlo)) (.inr fun g hg hn => hk g (Nat.lt_of_lt_of_le hg hlo) hn))
   rw [Env.upto_at, if_pos hg] at hn
   refine ⟨?_, hk g hg hn⟩
   rw [Env.upto_at, if_pos hg, hlow g hg]; exact hn
theorem SR.frz [Kx] {P : Program} {w0 : Bs} {s : ASt} {fr : Frame} {cs : List Frame} {w : World} {i : Nat} {y : Bool} {B : AB} {kp : List Nat} (h : SR P w0 s fr cs w) (hB : s.H.get i = some B) (hok : frzOk i B s = true) (hA : All (frzAsk i y B kp s)) :
   SR P w0 (frzS i y B kp s) fr cs w := by
 obtain ⟨ρ, hr, hf, hlo, hst⟩ := h
 unfold frzOk at hok
 unfold frzAsk at hA
 simp only [Bool.and_eq_true, Nat.ble_eq, Nat.blt_eq] at hok
 obtain ⟨⟨⟨⟨⟨h1, h2⟩, h3⟩, h4⟩, h5⟩, h6⟩ := hok
 have hlive : B.live = true := by cases B <;> first | rfl | cases h1
 have hle := frzIm_le hr hB hlive
 have hl := leaf_ok (y := y) hr hB h1
 have hbase := hst.base
 have h0 : w0.ρ i = none ∧ ¬ w0.K i := by
   constructor
   · cases hq : w0.ρ i with
     | none => rfl
     | some p => exfalso; have := hbase i (.inl (by rw [hq]; nofun)); omega
   · intro hq; have := hbase i (.inr hq); omega
 have hr' := hr.frz (y := y) hB h1 h0 (All.right hA) h5 (fun g T l hg e => (hr.kb hg).2.2 T l e)
 have hren : Ren (sgZ i) ρ (frzE ρ i ρ.im) := sgZ_ren (I := ρ.im)
 unfold okFr at h4
 simp only [Bool.and_eq_true] at h4
 obtain ⟨⟨⟨q1, q2⟩, q3⟩, q4⟩ := h4
 refine ⟨frzE ρ i (frzIm ρ i w), hr', ?_, hlo, ?_⟩
 · obtain ⟨front, rest, g1, g2, g3⟩ := hf.todo
   have d1 := hf.ds.ren hren q3
   rw [sgZ_Ns q3] at d1
   have d2 := hf.ro.ren hren q4
   rw [sgZ_Ro q4] at d2
   have d3 := g2.ren hren q2
   rw [sgZ_Is q2] at d3
   refine ⟨hf.fn, hf.kind, hf.mode, d1.mono (frzE_le hle), d2.mono (frzE_le hle), front, rest, g1, d3.mono (frzE_le hle), ?_⟩
   show RgR P _ _ s.fr.lo s.n true s.fr.nt _ s.fr.rg front fr.tmps
   cases hrg : s.fr.rg with
   | no => rw [hrg] at g3; exact ⟨g3.1, g3.2.frz hle hl kp (All.left hA)⟩
   | pl ops l => rw [hrg] at g3; exact ⟨g3.1, g3.2.frz hle hl kp (All.left hA)⟩
   | dr => rw [hrg] at q1; cases q1
 · show StackR P w0 (frzE ρ i (frzIm ρ i w)) (frzM i y B s.H s.n) s.fr.lo s.cs cs
   refine StackR.lowZ hst hle (fun j hj => ?_) ?_
   · show (if j = i then none else ρ j) = ρ j
     rw [if_neg (by omega)]
   · cases hcs : s.cs with
     | nil => exact .inl rfl
     | cons a l =>
       right
       rw [hcs] at h6
       simp only [nilB, cond_false] at h6
       intro g hg hn T l hl'
       show (frzM i y B s.H s.n).get g = _
       have hlt : Nat.beq g i = false := by rw [beq_dec]; simp; omega
       rw [frzM_get, if_pos (by omega), hlt, hl']
       have := noGz_get (q := g) hg h6 (by rw [Nat.zero_add]; exact hl')
       simp only [cond_false, frzB, (noL_frz this).1]
section
variable {S : Sy} {P : Program} {f : FuncId} {s : ASt} {Q : AV → Tr AB → Nat → Prop}
def bAt (s : ASt) (i : Nat) : AB := match s.H.get i with | some B => B | none => .dead
theorem To.frz (i : Nat) (y : Bool) (kp : List Nat) (hok : frzOk i (bAt s i) s = true) {C : Prop} (hC : conjL (frzAsk i y (bAt s i) kp s) = C) (hc : C) (h : To S P f (frzS i y (bAt s i) kp s) Q) : To S P f s Q :=
 fun w0 base fr cs w hr => h w0 base fr cs w (by
   have hB : s.H.get i = some (bAt s i) := by
     unfold bAt at hok ⊢
     cases hq : s.H.get i with
     | some B => rfl
     | none => rw [hq] at hok; simp [frzOk, frzK] at hok
   exact @SR.frz S.true_ _ _ _ _ _ _ _ _ _ _ hr hB hok (conjL_all (hC ▸ hc)))
end
/-! Rows are told less closely. -/
theorem bare_VRs' {ρ : Env} : ∀ {l : List AV} {us : List Value}, VRs0 ρ.im l us → VRs ρ l us
 | _, _, .nil => .nil
 | _, _, .cons e t => .cons (bare_VR e) (bare_VRs' t)
theorem leL_VRs0 {I : Im} {l m : List AV} {us : List Value} (h : leL l m) (hb : bareL m = true) (k : VRs0 I l us) : VRs0 I m us :=
 bareL_VRs (ρ := ⟨fun _ => none, I⟩) hb (leL_VRs h (bare_VRs' (ρ := ⟨fun _ => none, I⟩) k))
theorem HR.rows {w0 : Bs} {w : World} {ρ : Env} {H : Tr AB} {n i : Nat} {T : TypeId} {ww m : Nat} {f f' : Nat → List AV} (hr : HR w0 ρ H n w) (hB : H.get i = some (.rw T ww m f)) (hA : ∀ r, r < m → leL (f r) (f' r) ∧ bareL (f' r) = true) : HR w0 ρ (tput H i (.rw T ww m f')) n w := by
 obtain ⟨F, hF⟩ := hr.foot
 have hin : i < n := by
   rcases Nat.lt_or_ge i n with h | h
   · exact h
   · rw [(hr.top h).2] at hB; cases hB
 have get : ∀ {j : Nat} {C : AB}, (tput H i (.rw T ww m f')).get j = some C → ∃ D, H.get j = some D ∧ D.live = C.live ∧ D.isObj = C.isObj ∧ (j ≠ i → C = D) ∧ ∀ x, C = .obj x → D = .obj x := fun {j C} hq => by
   rw [get_tput] at hq
   split at hq
   · rename_i e; subst e; cases hq; exact ⟨_, hB, rfl, rfl, fun h => absurd rfl h, fun x h => by cases h⟩
   · exact ⟨C, hq, rfl, rfl, fun _ => rfl, fun _ h => h⟩
 refine ⟨fun {j b c C} h1 h2 => ?_, ⟨F, fun h1 h2 h3 => ?_, fun h1 h2 => ?_, fun h1 h2 h3 h4 h5 h6 => ?_, fun h1 h2 h3 => ?_⟩, fun {j} hj => ⟨(hr.top hj).1, ?_⟩, hr.base, hr.fr, hr.le, hr.im, hr.imn, fun {j} hk => ⟨(hr.kb hk).1, (hr.kb hk).2.1, fun T' l => ?_⟩⟩
 · rw [get_tput] at h2
   split at h2
   · rename_i e
     subst e
     cases h2
     obtain ⟨o, ho, vs, sp, g1, g2, g3, g4, g5, g6⟩ := hr.blk h1 hB
     exact ⟨o, ho, vs, sp, g1, g2, g3, g4, g5, fun r hr' => leL_VRs0 (hA r hr').1 (hA r hr').2 (g6 r hr')⟩
   · exact hr.blk h1 h2
 · obtain ⟨D, g1, g2, g3, _, _⟩ := get h2
   rw [← g3]; exact hF.one h1 g1 (g2.trans h3)
 · obtain ⟨D, g1, _, _, _, g5⟩ := get h2
   exact hF.obj h1 (g5 _ rfl ▸ g1)
 · obtain ⟨D, g1, g2, _⟩ := get h3
   obtain ⟨D', k1, k2, _⟩ := get h4
   exact hF.apart h1 h2 g1 k1 (g2.trans h5) (k2.trans h6)
 · obtain ⟨D, g1, g2, _⟩ := get h2
   exact hF.there h1 g1 (g2.trans h3)
 · rw [get_tput, if_neg (by omega)]; exact (hr.top hj).2
 · rw [get_tput]
   split
   · exact nofun
   · exact (hr.kb hk).2.2 T' l
def rowS (i : Nat) (f' : Nat → List AV) (s : ASt) : ASt := ⟨s.fr, s.cs, (match s.H.get i with | some (.rw T w n _) => tput s.H i (.rw T w n f') | _ => s.H), s.n⟩
def rowOk (s : ASt) : Bool := okRg s.fr.rg
def rowAsk (i : Nat) (f' : Nat → List AV) (s : ASt) : Prop := match s.H.get i with
 | some (.rw _ _ n f) => ∀ r, r < n → leL (f r) (f' r) ∧ bareL (f' r) = true
 | _ => True
theorem SR.rows [Kx] {P : Program} {w0 : Bs} {s : ASt} {fr : Frame} {cs : List Frame} {w : World} {i : Nat} {f' : Nat → List AV} (h : SR P w0 s fr cs w) (hok : rowOk s = true) (hA : rowAsk i f' s) : SR P w0 (rowS i f' s) fr cs w := by
 obtain ⟨ρ, hr, hf, hlo, hst⟩ := h
 unfold rowAsk at hA
 unfold rowS
 split at hA
 · rename_i T ww m f hB
   have hkeep : ∀ g, Keeps s.H (tput s.H i (.rw T ww m f')) g := fun g T' l hq => by
     rw [get_tput]
     split
     · rename_i e; subst e; rw [hB] at hq; cases hq
     · exact hq
   refine ⟨ρ, hr.rows hB hA, ?_, hlo, ?_⟩
   · obtain ⟨front, rest, g1, g2, g3⟩ := hf.todo
     refine ⟨hf.fn, hf.kind, hf.mode, hf.ds, hf.ro, front, rest, g1, g2, ?_⟩
     show RgR P _ _ s.fr.lo s.n true s.fr.nt _ s.fr.rg front fr.tmps
     unfold rowOk at hok
     cases hrg : s.fr.rg with
     | no => rw [hrg] at g3; exact g3
     | pl ops l => rw [hrg] at g3; exact g3
     | dr => rw [hrg] at hok; cases hok
   · exact hst.mono (Env.le_refl _) fun g _ hn => ⟨hn, hkeep g⟩
 · exact ⟨ρ, hr, hf, hlo, hst⟩
section
variable {S : Sy} {P : Program} {f : FuncId} {s : ASt} {Q : AV → Tr AB → Nat → Prop}
theorem To.rows (i : Nat) (f' : Nat → List AV) (hok : rowOk s = true) {C : Prop} (hC : rowAsk i f' s = C) (hc : C) (h : To S P f (rowS i f' s) Q) : To S P f s Q :=
 fun w0 base fr cs w hr => h w0 base fr cs w (@SR.rows S.true_ _ _ _ _ _ _ _ _ hr hok (hC ▸ hc))
end
/-! A bool that is not written out, in a slot. -/
def setS (t : Nat) (v : AV) (s : ASt) : ASt := ⟨{ s.fr with T := tput s.fr.T t v }, s.cs, s.H, s.n⟩
theorem SR.setS [Kx] {P : Program} {w0 : Bs} {s : ASt} {fr : Frame} {cs : List Frame} {w : World} {t : Nat} {x : Value} (h : SR P w0 s fr cs w) (hok : rowOk s = true) (ht : At s.fr.T t = .sy x) : SR P w0 (Sm.setS t (.v x) s) fr cs w := by
 obtain ⟨ρ, hr, hf, hlo, hst⟩ := h
 refine ⟨ρ, hr, ?_, hlo, hst⟩
 obtain ⟨front, rest, g1, g2, g3⟩ := hf.todo
 have tr : ∀ {ts : Array Value}, TR ρ s.fr.nt s.fr.T ts → TR ρ s.fr.nt (tput s.fr.T t (.v x)) ts := fun h => ⟨h.1, fun q => by
   have e : At (tput s.fr.T t (.v x)) q = if q = t then .v x else At s.fr.T q := by
     unfold At
     rw [get_tput]
     by_cases h : q = t
     · simp [h]
     · simp [h]
   rw [e]
   split
   · rename_i hq
     subst hq
     have := h.2 q
     rw [ht] at this
     cases this
     exact .v _
   · exact h.2 q⟩
 refine ⟨hf.fn, hf.kind, hf.mode, hf.ds, hf.ro, front, rest, g1, g2, ?_⟩
 show RgR P ρ s.H s.fr.lo s.n true s.fr.nt _ s.fr.rg front fr.tmps
 unfold rowOk at hok
 cases hrg : s.fr.rg with
 | no => rw [hrg] at g3; exact ⟨g3.1, tr g3.2⟩
 | pl ops l => rw [hrg] at g3; exact ⟨g3.1, tr g3.2⟩
 | dr => rw [hrg] at hok; cases hok
section
variable {S : Sy} {P : Program} {f : FuncId} {s : ASt} {Q : AV → Tr AB → Nat → Prop}
theorem To.bool1 (t : Nat) {b : Bool} (c : Bool) (ht : At s.fr.T t = .sy (.bool b)) (hok : rowOk s = true) (hb : b = c) (h : To S P f (Sm.setS t (.v (.bool c)) s) Q) : To S P f s Q :=
 fun w0 base fr cs w hr => h w0 base fr cs w (by subst hb; exact @SR.setS S.true_ _ _ _ _ _ _ _ _ hr hok ht)
theorem To.bool2 (t : Nat) (b : Bool) (ht : At s.fr.T t = .sy (.bool b)) (hok : rowOk s = true) (h1 : b = true → To S P f (Sm.setS t (.v (.bool true)) s) Q) (h2 : b = false → To S P f (Sm.setS t (.v (.bool false)) s) Q) : To S P f s Q := by
 cases hb : b with
 | true => exact To.bool1 t true ht hok hb (h1 hb)
 | false => exact To.bool1 t false ht hok hb (h2 hb)
end
def rblk (r : RD) : List AB := [.mem 45 none [.ow 1 r.stays.length, .ow 2 r.cache.length, ivA r.c.w, .im 1 r.c.keep.length (intsF r.c.keep), ivA r.c.torn, ivA r.c.at_, ivA r.many, .sy (.bool r.down)],
 .rw 36 1 r.stays.length (bysF r.stays), .rw 36 1 r.cache.length (bysF r.cache)]
def isrcJ (x : AV) : Option (List Int × Prop) :=
 match x with
 | .v (.slice none 0 0) => some ([], True)
 | .im 1 n f => some (numsF n f, ∀ r, r < n → f r = intsF (numsF n f) r)
 | _ => none
theorem isrcJ_le {x : AV} {r : List Int × Prop} (h : isrcJ x = some r) (hC : r.2) (σ : Nat → Option Nat) : leA (renA σ x) (.im 1 r.1.length (intsF r.1)) := by
 unfold isrcJ at h
 split at h
 · cases h; simp only [renA]; unfold leA; rfl
 · cases h; simp only [renA]; unfold leA; exact ⟨rfl, (numsF_len _ _).symm, hC⟩
 · cases h
theorem intA_leS {x : AV} {k : IntKind} {z : Int} (h : intA x = some (k, z)) (σ : Nat → Option Nat) : leA (renA σ x) (.sy (.int k z)) := by
 unfold intA at h
 split at h
 · cases h; exact ⟨rfl, rfl⟩
 · cases h; exact ⟨rfl, rfl⟩
 · cases h
theorem boolA_leS {x : AV} {b : Bool} (h : boolA x = some b) (σ : Nat → Option Nat) : leA (renA σ x) (.sy (.bool b)) := by
 unfold boolA at h
 split at h
 · cases h; rfl
 · cases h; rfl
 · cases h
def rOf (H : Tr AB) (i : Nat) : Option (RD × (Nat × Nat) × Prop) :=
 match H.get i with
 | some (.mem T none [.ow p N, .ow q M, cw, kp, ct, ca, mn, dn]) => match H.get p, H.get q with
   | some (.rw T1 w1 N' f), some (.rw T2 w2 M' g) => match intA cw, isrcJ kp, intA ct, intA ca, intA mn, boolA dn with
     | some (.i64, w), some ks, some (.i64, t), some (.i64, a), some (.i64, m), some b =>
       cond (Nat.beq T 45 && Nat.beq T1 36 && Nat.beq T2 36 && Nat.beq w1 1 && Nat.beq w2 1 && !(Nat.beq i p) && !(Nat.beq i q) && !(Nat.beq p q))
         (some (⟨recsF N f, recsF M g, ⟨w, ks.1, t, a⟩, m, b⟩, (p, q), N' = N ∧ M' = M ∧ (∀ r, r < N → f r = bysF (recsF N f) r) ∧ (∀ r, r < M → g r = bysF (recsF M g) r) ∧ ks.2)) none
     | _, _, _, _, _, _ => none
   | _, _ => none
 | _ => none
theorem inR1 {i p q : Nat} : inS [i, p, q] i = some 0 := by simp [inS, posL]
theorem inR2 {i p q : Nat} (h : i ≠ p) : inS [i, p, q] p = some 1 := by simp [inS, posL, h.symm]
theorem inR3 {i p q : Nat} (h : i ≠ q) (k : p ≠ q) : inS [i, p, q] q = some 2 := by simp [inS, posL, h.symm, k.symm]
theorem rOf_nd {H : Tr AB} {i p q : Nat} {r : RD} {C : Prop} (h : rOf H i = some (r, (p, q), C)) : i ≠ p ∧ i ≠ q ∧ p ≠ q := by
 unfold rOf at h
 split at h
 · rename_i T p' N q' M cw kp ct ca mn dn h0
   split at h
   · rename_i T1 w1 N' f T2 w2 M' g h1 h2
     split at h
     · rename_i w ks t a m b hw hk ht ha hm hd
       cases hb : (Nat.beq T 45 && Nat.beq T1 36 && Nat.beq T2 36 && Nat.beq w1 1 && Nat.beq w2 1 && !(Nat.beq i p') && !(Nat.beq i q') && !(Nat.beq p' q')) with
       | false => rw [hb] at h; cases h
       | true =>
         rw [hb] at h
         cases h
         simp only [Bool.and_eq_true, Bool.not_eq_true', beq_dec, decide_eq_false_iff_not] at hb
         exact ⟨hb.1.1.2, hb.1.2, hb.2⟩
     · cases h
   · cases h
 · cases h
theorem rOf_seen {H : Tr AB} {i p q : Nat} {r : RD} {C : Prop} (h : rOf H i = some (r, (p, q), C)) (hC : C) : seenL H (inS [i, p, q]) [i, p, q] (rblk r) ∧ (∀ (T : TypeId) (l : List AV), H.get p ≠ some (.mem T none l)) ∧ (∀ (T : TypeId) (l : List AV), H.get q ≠ some (.mem T none l)) := by
 have hnd := rOf_nd h
 unfold rOf at h
 split at h
 · rename_i T p' N q' M cw kp ct ca mn dn h0
   split at h
   · rename_i T1 w1 N' f T2 w2 M' g h1 h2
     split at h
     · rename_i w ks t a m b hw hk ht ha hm hd
       cases hb : (Nat.beq T 45 && Nat.beq T1 36 && Nat.beq T2 36 && Nat.beq w1 1 && Nat.beq w2 1 && !(Nat.beq i p') && !(Nat.beq i q') && !(Nat.beq p' q')) with
       | false => rw [hb] at h; cases h
       | true =>
         rw [hb] at h
         cases h
         simp only [Bool.and_eq_true, beq_dec, decide_eq_true_eq] at hb
         obtain ⟨⟨⟨⟨⟨⟨⟨rfl, rfl⟩, rfl⟩, rfl⟩, rfl⟩, _⟩, _⟩, _⟩ := hb
         obtain ⟨rfl, rfl, c3, c4, c5⟩ := hC
         refine ⟨⟨⟨_, h0, rfl, rfl, rfl, ?_⟩, ⟨_, h1, rfl, rfl, rfl, (recsF_len _ _).symm, c3⟩, ⟨_, h2, rfl, rfl, rfl, (recsF_len _ _).symm, c4⟩, trivial⟩, ⟨fun T l e => ?_, fun T l e => ?_⟩⟩
         · simp only [renL, renA, inR2 hnd.1, inR3 hnd.2.1 hnd.2.2]
           exact ⟨⟨rfl, (recsF_len _ _).symm⟩, ⟨rfl, (recsF_len _ _).symm⟩, intA_leS hw _, isrcJ_le hk c5 _, intA_leS ht _, intA_leS ha _, intA_leS hm _, boolA_leS hd _, trivial⟩
         · rw [h1] at e; cases e
         · rw [h2] at e; cases e
     · cases h
   · cases h
 · cases h
abbrev RFn := RD → List AV → Option ((List AV × AV × RD) × Prop)
def rK (f : RFn) (args : List AV) (H : Tr AB) : Option Ex := match args with
 | .ptr i 0 :: rest => match rOf H i with
   | some (r, (p, q), C) => match f r rest with
     | some ((ys, x, r'), C') => some { μ := [i, p, q], args := .ptr 0 0 :: ys, L := rblk r, res := x, L' := rblk r', E := [], C := C ∧ C' }
     | none => none
   | none => none
 | _ => none
theorem rX_ok {S : Sy} (hok : S.Ok Tryz.prog) {F : FuncId} {fn : Func} (hF : Tryz.prog.funcs[F]? = some fn) (hb : fn.body.isSome = true) {f : RFn}
   (h : ∀ {r rest ys x r' C}, f r rest = some ((ys, x, r'), C) → C → (∀ σ, leL (renL σ rest) ys) ∧ (startF (tabOf Tryz.prog) F (.ptr 0 0 :: ys) (memF (rblk r) 0 .e) 3).isSome = true ∧ To S Tryz.prog F (startOf Tryz.prog F (.ptr 0 0 :: ys) (memF (rblk r) 0 .e) 3) (fun y H' _ => leA y x ∧ endL (rblk r') 0 H')) :
   FOk Tryz.prog (oneX F (rK f)) := oneX_ok hok tab hF hb fun {args H n e} hk hC => by
 unfold rK at hk
 split at hk
 · rename_i i rest
   split at hk
   · rename_i r p q C hr
     split at hk
     · rename_i ys x r' C' hf
       cases hk
       obtain ⟨c1, c2⟩ : C ∧ C' := hC
       obtain ⟨hs, hp, hq⟩ := rOf_seen hr c1
       obtain ⟨n1, n2, n3⟩ := rOf_nd hr
       obtain ⟨g0, g1, g2⟩ := h hf c2
       refine ⟨by simp [n1, n2, n3], hs, rfl, ?_, ⟨by simp, by simp⟩, ?_, g1, To.mono g2 fun y H' n' hq => ⟨hq.1, hq.2, trivial⟩⟩
       · simp only [renL, renA, inR1]
         exact ⟨leA_refl _, g0 _⟩
       · intro w0 ρ w vs hr0 hv j hj
         simp at hj
         rcases hj with rfl | rfl | rfl
         · exact .inl (VRs.bind hv (j, True) (by simp [bindL, bindA]) trivial)
         · exact .inr hp
         · exact .inr hq
     · cases hk
   · cases hk
 · cases hk
def crashA (x : AV) : Option (CrashD × Prop) := match x with
 | .agg [cw, kp, ct, ca] => match intA cw, isrcJ kp, intA ct, intA ca with
   | some (.i64, w), some ks, some (.i64, t), some (.i64, a) => some (⟨w, ks.1, t, a⟩, ks.2)
   | _, _, _, _ => none
 | _ => none
theorem crashA_le {x : AV} {r : CrashD × Prop} (h : crashA x = some r) (hC : r.2) (σ : Nat → Option Nat) : leA (renA σ x) (.agg (crashF r.1)) := by
 unfold crashA at h
 split at h
 · split at h
   · rename_i hw hk ht ha
     cases h
     simp only [renA, renL]
     exact ⟨intA_leS hw _, isrcJ_le hk hC _, intA_leS ht _, intA_leS ha _, trivial⟩
   · cases h
 · cases h
def rfallS (r : RD) (c : CrashD) (a : Nat) : List (List UInt8) := (List.range r.stays.length).map fun k => if k < a then rfallAt c k (r.cache.getD k []) (r.stays.getD k []) else r.stays.getD k []
def rfallC (r : RD) (a : Nat) : List (List UInt8) := (List.range r.cache.length).map fun k => if k < a then [] else r.cache.getD k []
theorem rfallS_len (r : RD) (c : CrashD) (a : Nat) : (rfallS r c a).length = r.stays.length := by simp [rfallS]
theorem rfallC_len (r : RD) (a : Nat) : (rfallC r a).length = r.cache.length := by simp [rfallC]
theorem rfallS_at {r : RD} {c : CrashD} {a k : Nat} (h : k < r.stays.length) : (rfallS r c a).getD k [] = if k < a then rfallAt c k (r.cache.getD k []) (r.stays.getD k []) else r.stays.getD k [] := by
 unfold rfallS
 rw [List.getD_eq_getElem?_getD, List.getElem?_map, List.getElem?_range h]; rfl
theorem rfallC_at {r : RD} {a k : Nat} (h : k < r.cache.length) : (rfallC r a).getD k [] = if k < a then [] else r.cache.getD k [] := by
 unfold rfallC
 rw [List.getD_eq_getElem?_getD, List.getElem?_map, List.getElem?_range h]; rfl
theorem bysF_get (l : List (List UInt8)) (k : Nat) : bysF l k = [.by8 (l.getD k [])] := rfl
def partB (n : Int) (v s : List UInt8) (k : Nat) : List UInt8 := (List.range k).map fun (j : Nat) => if (j : Int) < n then v.getD j 0 else s.getD j 0
def keepN (c : CrashD) (z : Int) (i : Nat) : Int := if z ∈ c.keep.take i then 128 else if c.torn = z then c.at_ else 0
theorem keepN_succ (c : CrashD) (a i : Nat) (h : i < c.keep.length) : keepN c a (i + 1) = if c.keep.getD i 0 = (a : Int) then 128 else keepN c a i := by
 unfold keepN
 have := mem_take_succ h (a : Int)
 by_cases e : c.keep.getD i 0 = (a : Int)
 · rw [if_pos e, if_pos (this.2 (.inr e.symm))]
 · rw [if_neg e]
   by_cases q : (a : Int) ∈ c.keep.take i
   · rw [if_pos q, if_pos (this.2 (.inl q))]
   · rw [if_neg q, if_neg (fun h => (this.1 h).elim q (fun h => e h.symm))]
theorem keepN_all (c : CrashD) (a : Nat) {i : Nat} (h : c.keep.length ≤ i) : keepN c a i = if (a : Int) ∈ c.keep then 128 else if c.torn = a then c.at_ else 0 := by
 unfold keepN
 rw [List.take_of_length_le h]
theorem rfallS_next {r : RD} {c : CrashD} {a k : Nat} {b : List UInt8} (hk : k < r.stays.length) (h : (r.cache.getD a [] = [] ∧ b = r.stays.getD a []) ∨ b = rfallAt c a (r.cache.getD a []) (r.stays.getD a [])) :
   (if k = a then b else (rfallS r c a).getD k []) = (rfallS r c (a + 1)).getD k [] := by
 rw [rfallS_at hk, rfallS_at hk]
 by_cases e : k = a
 · subst e
   rw [if_pos rfl, if_pos (by omega)]
   rcases h with ⟨h1, h2⟩ | h
   · unfold rfallAt; rw [if_pos h1]; exact h2
   · exact h
 · rw [if_neg e]
   by_cases q : k < a
   · rw [if_pos q, if_pos (by omega)]
   · rw [if_neg q, if_neg (by omega)]
theorem rfallC_next {r : RD} {a k : Nat} (hk : k < r.cache.length) : (if k = a then [] else (rfallC r a).getD k []) = (rfallC r (a + 1)).getD k [] := by
 rw [rfallC_at hk, rfallC_at hk]
 by_cases e : k = a
 · subst e; rw [if_pos rfl, if_pos (by omega)]
 · rw [if_neg e]
   by_cases q : k < a
   · rw [if_pos q, if_pos (by omega)]
   · rw [if_neg q, if_neg (by omega)]
theorem rfallS_same {r : RD} {c : CrashD} {a k : Nat} (hk : k < r.stays.length) (h : r.cache.getD a [] = []) : (rfallS r c a).getD k [] = (rfallS r c (a + 1)).getD k [] := by
 rw [← rfallS_next hk (b := (rfallS r c a).getD a []) (.inl ⟨h, ?_⟩)]
 · by_cases e : k = a
   · rw [if_pos e, e]
   · rw [if_neg e]
 · by_cases q : a < r.stays.length
   · rw [rfallS_at q, if_neg (by omega)]
   · simp [rfallS, List.getD_eq_getElem?_getD, q]
theorem rfallC_same {r : RD} {a k : Nat} (hk : k < r.cache.length) (h : r.cache.getD a [] = []) : (rfallC r a).getD k [] = (rfallC r (a + 1)).getD k [] := by
 rw [← rfallC_next hk]
 by_cases e : k = a
 · rw [if_pos e, e]
   by_cases q : a < r.cache.length
   · rw [rfallC_at q, if_neg (by omega)]; exact h
   · omega
 · rw [if_neg e]
theorem partB_len (n : Int) (v s : List UInt8) (k : Nat) : (partB n v s k).length = k := by simp [partB]
theorem partB_succ (n : Int) (v s : List UInt8) (k : Nat) : partB n v s (k + 1) = partB n v s k ++ [if (k : Int) < n then v.getD k 0 else s.getD k 0] := by
 unfold partB
 rw [List.range_succ, List.map_append]; rfl
theorem bysU_push (l : List UInt8) (b : UInt8) : ∀ r, r < l.length + 1 → rwPush (bysU l) l.length [.sy (.int .u8 (b.toNat : Int))] r = bysU (l ++ [b]) r := fun r hr => by
 unfold rwPush bysU
 by_cases h : r = l.length
 · subst h
   have e : Nat.blt l.length l.length = false := by
     cases h : Nat.blt l.length l.length with
     | false => rfl
     | true => rw [Nat.blt_eq] at h; omega
   rw [e]
   simp [List.getD_eq_getElem?_getD]
 · have h' : r < l.length := by omega
   have e : Nat.blt r l.length = true := by rw [Nat.blt_eq]; exact h'
   rw [e]
   simp [List.getD_eq_getElem?_getD, List.getElem?_append_left h']
theorem partB_push_v {n : Int} {v s : List UInt8} {k : Nat} (h : (k : Int) < n) : ∀ r, r < k + 1 → rwPush (bysU (partB n v s k)) k [.sy (.int .u8 ((v.getD k 0).toNat : Int))] r = bysU (partB n v s (k + 1)) r := by
 have := bysU_push (partB n v s k) (v.getD k 0)
 rw [partB_len] at this
 rw [partB_succ, if_pos h]; exact this
theorem partB_push_s {n : Int} {v s : List UInt8} {k : Nat} (h : ¬ (k : Int) < n) : ∀ r, r < k + 1 → rwPush (bysU (partB n v s k)) k [.sy (.int .u8 ((s.getD k 0).toNat : Int))] r = bysU (partB n v s (k + 1)) r := by
 have := bysU_push (partB n v s k) (s.getD k 0)
 rw [partB_len] at this
 rw [partB_succ, if_neg h]; exact this
theorem partB_all {c : CrashD} {a : Nat} {kn : Int} {v s : List UInt8} (hk : kn = if (a : Int) ∈ c.keep then 128 else if c.torn = a then c.at_ else 0) (hv : v.length = 128) (hs : s.length = 128) : partB kn v s 128 = rfallAt c a v s := by
 have hK : keptN c a = (max 0 (min kn 128)).toNat := by
   unfold keptN
   rw [hk]
   split
   · rfl
   · split <;> rfl
 obtain ⟨K, hK1⟩ : ∃ K, K = keptN c a := ⟨_, rfl⟩
 rw [← hK1] at hK
 unfold rfallAt
 rw [if_neg (by intro e; rw [e] at hv; cases hv), ← hK1]
 have hKl : K ≤ 128 := by omega
 apply List.ext_getElem?
 intro j
 by_cases h1 : j < 128
 · have e0 : (partB kn v s 128)[j]? = some (if (j : Int) < kn then v.getD j 0 else s.getD j 0) := by
     unfold partB; rw [List.getElem?_map, List.getElem?_range h1]; rfl
   rw [e0]
   by_cases q : j < K
   · rw [if_pos (by omega), List.getElem?_append_left (by rw [List.length_take]; omega), List.getElem?_take, if_pos q]
     rw [List.getD_eq_getElem?_getD, List.getElem?_eq_getElem (by omega)]; rfl
   · rw [if_neg (by omega), List.getElem?_append_right (by rw [List.length_take]; omega), List.getElem?_drop, List.length_take]
     rw [show K + (j - min K v.length) = j by omega]
     rw [List.getD_eq_getElem?_getD, List.getElem?_eq_getElem (by omega)]; rfl
 · rw [List.getElem?_eq_none (by rw [partB_len]; omega), List.getElem?_eq_none (by rw [List.length_append, List.length_take, List.length_drop]; omega)]
theorem rwSet_bys (l : List (List UInt8)) (a : Nat) (b : List UInt8) (k : Nat) : rwSet (bysF l) a 0 [.by8 b] k = [.by8 (if k = a then b else l.getD k [])] := by
 unfold rwSet
 rw [beq_dec]
 by_cases e : k = a
 · subst e; simp [spliceA, bysF, rowsOf]
 · simp only [e, decide_false, cond_false, if_false]; rfl
set_option maxHeartbeats 4000000 in
set_option maxRecDepth 100000 in
theorem rfall_to (hok : S0.Ok Tryz.prog) (r : RD) (c : CrashD) (hr : r.Ok) (hk : c.keep.length ≤ 1000000) :
   To S0 Tryz.prog 47 (startOf Tryz.prog 47 [.ptr 0 0, .agg [ivA c.w, .im 1 c.keep.length (intsF c.keep), ivA c.torn, ivA c.at_]] (memF (rblk r) 0 .e) 3)
     (fun x H' _ => leA x (.tup []) ∧ endL (rblk (rfallD r c)) 0 H') := by
 have hlen := hr.len
 have hle := hr.le
 refine To.R (k := 11) (h := ?_)
 refine To.L (L := [LN.old 3]) (kp := [4, 3, 0]) (C := (Same IntKind.i64 ∧ (0 : Int) = (↑(0 : Nat) : Int)) ∧ (Same 36 ∧ Same 1 ∧ Same r.stays.length ∧ (∀ (r_1 : Nat), r_1 < r.stays.length → bysF r.stays r_1 = bysF (rfallS r c 0) r_1)) ∧ Same 36 ∧ Same 1 ∧ Same r.cache.length ∧ (∀ (r_1 : Nat), r_1 < r.cache.length → bysF r.cache r_1 = bysF (rfallC r 0) r_1)) (st := fun (a : Nat) => (⟨(⟨47, 100, (slotT 100 [(0, AV.ptr 0 0), (3, AV.ptr 3 0), (4, AV.sy (Value.int IntKind.i64 a))]), ARg.no, [(AItem.code (subC (bodyC Tryz.prog 47) [1, 0, 1, 0, 0])), (AItem.inLoop (subC (bodyC Tryz.prog 47) [1, 0, 1, 0, 0])), (AItem.inBlock 0), (AItem.code (subC (bodyC Tryz.prog 47) [1, 1]))], [], false, none, 3⟩ : AFr), [], memF [AB.mem 45 none [AV.ow 1 r.stays.length, AV.ow 2 r.cache.length, AV.sy (Value.int IntKind.i64 r.c.w), AV.im 1 r.c.keep.length (intsF r.c.keep), AV.sy (Value.int IntKind.i64 r.c.torn), AV.sy (Value.int IntKind.i64 r.c.at_), AV.sy (Value.int IntKind.i64 r.many), AV.sy (Value.bool r.down)], AB.rw 36 1 r.stays.length (bysF (rfallS r c a)), AB.rw 36 1 r.cache.length (bysF (rfallC r a)), AB.mem 39 none [AV.sy (Value.int IntKind.i64 c.w), AV.im 1 c.keep.length (intsF c.keep), AV.sy (Value.int IntKind.i64 c.torn), AV.sy (Value.int IntKind.i64 c.at_)]] 0 Tr.e, 4⟩ : ASt)) (hc := ?_) (h := ?_) (fun (t : Nat) => [(4, ivA (t : Int))]) (fun t => [(1, .rw 36 1 r.stays.length (bysF (rfallS r c t))), (2, .rw 36 1 r.cache.length (bysF (rfallC r t)))]) (fun t => t ≤ r.cache.length) (fun t => r.cache.length - t) (0)
 · refine ⟨⟨rfl, rfl⟩, ⟨rfl, rfl, rfl, fun k hk => ?_⟩, rfl, rfl, rfl, fun k hk => ?_⟩
   · rw [bysF_get, bysF_get, rfallS_at hk]; rfl
   · rw [bysF_get, bysF_get, rfallC_at hk]; rfl
 intro t ha ih
 refine To.R (h := ?_)
 refine To.Bd ((t : Int) < r.cache.length) (h := ?_) (g := ?_)
 · intro h1
   have hac : t < r.cache.length := by omega
   have has : t < r.stays.length := by omega
   have hv := rfallC_at (a := t) hac
   have hs := rfallS_at (c := c) (a := t) has
   rw [if_neg (by omega)] at hv hs
   have hi1 : t + 1 ≤ r.cache.length := hac
   have hi2 : r.cache.length - (t + 1) < r.cache.length - t := by omega
   refine To.R (C := ((0 : Int) ≤ t ∧ (t : Int) < r.cache.length) ∧ t < r.cache.length ∧ True) (h := ?_)
   refine To.Bd (((rfallC r t).getD t default).length = (0 : Int)) (h := ?_) (g := ?_)
   · intro h2
     refine To.R (k := 9) (C := fits IntKind.i64 (t + 1)) (h := ?_)
     refine To.K (L := [LN.old 3]) (kp := [4, 3, 0]) (ov := [(4, AV.sy (Value.int IntKind.i64 (↑(t + 1) : Int)))]) (ob := [(1, AB.rw 36 1 r.stays.length (bysF (rfallS r c (t + 1)))), (2, AB.rw 36 1 r.cache.length (bysF (rfallC r (t + 1))))]) (C := (Same IntKind.i64 ∧ (↑t : Int) + 1 = (↑(t + 1) : Int)) ∧ (36 = 36 ∧ Same 1 ∧ Same r.stays.length ∧ (∀ (r_1 : Nat), r_1 < r.stays.length → bysF (rfallS r c t) r_1 = bysF (rfallS r c (t + 1)) r_1)) ∧ 36 = 36 ∧ Same 1 ∧ Same r.cache.length ∧ (∀ (r_1 : Nat), r_1 < r.cache.length → bysF (rfallC r t) r_1 = bysF (rfallC r (t + 1)) r_1)) (hc := ?_) (ih (t + 1) hi1 hi2)
     have h2' : (((rfallC r t).getD t []).length : Int) = 0 := h2
     have he : r.cache.getD t [] = [] := by rw [← hv]; exact List.eq_nil_of_length_eq_zero (by omega)
     refine ⟨⟨rfl, Int.natCast_succ _⟩, ⟨rfl, rfl, rfl, fun k hk => ?_⟩, rfl, rfl, rfl, fun k hk => ?_⟩
     · rw [bysF_get, bysF_get, rfallS_same hk he]
     · rw [bysF_get, bysF_get, rfallC_same hk he]
   · intro h2
     refine To.R (h := ?_)
     refine To.Bd (c.torn = t) (h := ?_) (g := ?_)
     · intro h3
       have hk0 : keepN c t 0 = _ := if_neg (by simp)
       refine To.R (k := 14) (h := ?_)
       refine To.L (L := [LN.old 3]) (kp := [6, 5, 4, 3, 0]) (C := (Same IntKind.i64 ∧ (0 : Int) = (↑(0 : Nat) : Int)) ∧ Same IntKind.i64 ∧ c.at_ = keepN c t 0) (st := fun (a : Nat) => (⟨(⟨47, 100, (slotT 100 [(0, AV.ptr 0 0), (3, AV.ptr 3 0), (4, AV.sy (Value.int IntKind.i64 t)), (5, AV.sy (Value.int IntKind.i64 (keepN c t a))), (6, AV.sy (Value.int IntKind.i64 a))]), ARg.no, [(AItem.code (subC (bodyC Tryz.prog 47) [1, 0, 1, 0, 0, 1, 0, 0, 1, 1, 1, 0, 1, 0, 0])), (AItem.inLoop (subC (bodyC Tryz.prog 47) [1, 0, 1, 0, 0, 1, 0, 0, 1, 1, 1, 0, 1, 0, 0])), (AItem.inBlock 2), (AItem.code (subC (bodyC Tryz.prog 47) [1, 0, 1, 0, 0, 1, 0, 0, 1, 1, 1, 1])), (AItem.inBlock 1), (AItem.code (subC (bodyC Tryz.prog 47) [1, 0, 1, 0, 0, 1, 1])), (AItem.inLoop (subC (bodyC Tryz.prog 47) [1, 0, 1, 0, 0])), (AItem.inBlock 0), (AItem.code (subC (bodyC Tryz.prog 47) [1, 1]))], [], false, none, 3⟩ : AFr), [], memF [AB.mem 45 none [AV.ow 1 r.stays.length, AV.ow 2 r.cache.length, AV.sy (Value.int IntKind.i64 r.c.w), AV.im 1 r.c.keep.length (intsF r.c.keep), AV.sy (Value.int IntKind.i64 r.c.torn), AV.sy (Value.int IntKind.i64 r.c.at_), AV.sy (Value.int IntKind.i64 r.many), AV.sy (Value.bool r.down)], AB.rw 36 1 r.stays.length (bysF (rfallS r c t)), AB.rw 36 1 r.cache.length (bysF (rfallC r t)), AB.mem 39 none [AV.sy (Value.int IntKind.i64 c.w), AV.im 1 c.keep.length (intsF c.keep), AV.sy (Value.int IntKind.i64 c.torn), AV.sy (Value.int IntKind.i64 c.at_)]] 0 Tr.e, 4⟩ : ASt)) (h := ?_) (fun (i : Nat) => [(6, ivA (i : Int)), (5, ivA (keepN c t i))]) (fun _ => []) (fun i => i ≤ c.keep.length) (fun i => c.keep.length - i) (0)
       intro i hi ihi
       have hks := keepN_succ c t i
       refine To.R (h := ?_)
       refine To.Bd ((i : Int) < c.keep.length) (h := ?_) (g := ?_)
       · intro h4
         have hic : i < c.keep.length := by omega
         have hj1 : i + 1 ≤ c.keep.length := hic
         have hj2 : c.keep.length - (i + 1) < c.keep.length - i := by omega
         have hks := hks hic
         refine To.R (C := ((0 : Int) ≤ i ∧ (i : Int) < c.keep.length) ∧ True) (h := ?_)
         refine To.Bd (c.keep.getD i 0 = t) (h := ?_) (g := ?_)
         · intro h5
           refine To.R (k := 12) (C := fits IntKind.i64 (i + 1)) (h := ?_)
           refine To.K (L := [LN.old 3]) (kp := [6, 5, 4, 3, 0]) (ov := [(6, AV.sy (Value.int IntKind.i64 (↑(i + 1) : Int))), (5, AV.sy (Value.int IntKind.i64 (keepN c (↑t : Int) (i + 1))))]) (C := (Same IntKind.i64 ∧ (↑i : Int) + 1 = (↑(i + 1) : Int)) ∧ Same IntKind.i64 ∧ 128 = keepN c t (i + 1)) (ihi (i + 1) hj1 hj2)
         · intro h5
           refine To.R (k := 10) (C := fits IntKind.i64 (i + 1)) (h := ?_)
           refine To.K (L := [LN.old 3]) (kp := [6, 5, 4, 3, 0]) (ov := [(6, AV.sy (Value.int IntKind.i64 (↑(i + 1) : Int))), (5, AV.sy (Value.int IntKind.i64 (keepN c (↑t : Int) (i + 1))))]) (C := (Same IntKind.i64 ∧ (↑i : Int) + 1 = (↑(i + 1) : Int)) ∧ Same IntKind.i64 ∧ keepN c t i = keepN c t (i + 1)) (ihi (i + 1) hj1 hj2)
       · intro h4
         have hki := keepN_all c t (i := i) (by omega)
         refine To.R (k := 14) (h := ?_)
         obtain ⟨kn, hkn⟩ : ∃ kn, kn = keepN c t i := ⟨_, rfl⟩
         obtain ⟨v, hv0⟩ : ∃ v, v = (rfallC r t).getD t [] := ⟨_, rfl⟩
         obtain ⟨s, hs0⟩ : ∃ s, s = (rfallS r c t).getD t [] := ⟨_, rfl⟩
         refine To.L (L := [LN.old 3, LN.new (AB.rw 5 1 0 (bysU (partB kn v s 0)))]) (kp := [8, 7, 5, 4, 3, 0]) (C := (Same IntKind.i64 ∧ (0 : Int) = (↑(0 : Nat) : Int)) ∧ Same 0 ∧ (Same IntKind.i64 ∧ keepN c t i = kn) ∧ 5 = 5 ∧ Same 1 ∧ Same 0 ∧ (∀ (r : Nat), r < 0 → bysU (partB kn v s 0) r = bysU (partB kn v s 0) r)) (st := fun (a : Nat) => (⟨(⟨47, 100, (slotT 100 [(0, AV.ptr 0 0), (3, AV.ptr 3 0), (4, AV.sy (Value.int IntKind.i64 t)), (5, AV.sy (Value.int IntKind.i64 kn)), (7, AV.ow 4 a), (8, AV.sy (Value.int IntKind.i64 a))]), ARg.no, [(AItem.code (subC (bodyC Tryz.prog 47) [1, 0, 1, 0, 0, 1, 0, 0, 1, 1, 1, 1, 1, 0, 1, 0, 0])), (AItem.inLoop (subC (bodyC Tryz.prog 47) [1, 0, 1, 0, 0, 1, 0, 0, 1, 1, 1, 1, 1, 0, 1, 0, 0])), (AItem.inBlock 4), (AItem.code (subC (bodyC Tryz.prog 47) [1, 0, 1, 0, 0, 1, 0, 0, 1, 1, 1, 1, 1, 1])), (AItem.inBlock 1), (AItem.code (subC (bodyC Tryz.prog 47) [1, 0, 1, 0, 0, 1, 1])), (AItem.inLoop (subC (bodyC Tryz.prog 47) [1, 0, 1, 0, 0])), (AItem.inBlock 0), (AItem.code (subC (bodyC Tryz.prog 47) [1, 1]))], [], false, none, 3⟩ : AFr), [], memF [AB.mem 45 none [AV.ow 1 r.stays.length, AV.ow 2 r.cache.length, AV.sy (Value.int IntKind.i64 r.c.w), AV.im 1 r.c.keep.length (intsF r.c.keep), AV.sy (Value.int IntKind.i64 r.c.torn), AV.sy (Value.int IntKind.i64 r.c.at_), AV.sy (Value.int IntKind.i64 r.many), AV.sy (Value.bool r.down)], AB.rw 36 1 r.stays.length (bysF (rfallS r c t)), AB.rw 36 1 r.cache.length (bysF (rfallC r t)), AB.mem 39 none [AV.sy (Value.int IntKind.i64 c.w), AV.im 1 c.keep.length (intsF c.keep), AV.sy (Value.int IntKind.i64 c.torn), AV.sy (Value.int IntKind.i64 c.at_)], AB.rw 5 1 a (bysU (partB kn v s a))] 0 Tr.e, 5⟩ : ASt)) (h := ?_) (fun (k : Nat) => [(8, ivA (k : Int)), (7, .ow 4 k), (5, ivA kn)]) (fun k => [(4, .rw 5 1 k (bysU (partB kn v s k)))]) (fun k => k ≤ 128) (fun k => 128 - k) (0)
         intro k hk1 ihk
         have hlv : ((rfallC r t).getD t default).length = 128 := by
           rcases hr.ca t has with e | e
           · rw [← hv] at e
             exact absurd (show (((rfallC r t).getD t default).length : Int) = 0 by rw [show (rfallC r t).getD t default = [] from e]; rfl) h2
           · rw [← hv] at e; exact e
         have hls : ((rfallS r c t).getD t default).length = 128 := by
           have := hr.st t has
           rw [← hs] at this; exact this
         refine To.R (h := ?_)
         refine To.Bd (k < (128 : Int)) (h := ?_) (g := ?_)
         · intro h6
           refine To.R (h := ?_)
           refine To.Bd (k < kn) (h := ?_) (g := ?_)
           · intro h7
             have hps := partB_push_v (n := kn) (v := v) (s := s) h7
             have hq1 : k + 1 ≤ 128 := by omega
             have hq2 : 128 - (k + 1) < 128 - k := by omega
             refine To.R (k := 25) (C := ((0 : Int) ≤ t ∧ (t : Int) < r.cache.length) ∧ t < r.cache.length ∧ ((0 : Int) ≤ k ∧ (k : Int) < ((rfallC r t).getD t default).length) ∧ True ∧ (Same k ∧ k ≤ 1073741824) ∧ fits IntKind.i64 (k + 1)) (h := ?_)
             refine To.K (L := [LN.old 3, LN.old 6]) (kp := [8, 7, 5, 4, 3, 0]) (ov := [(8, AV.sy (Value.int IntKind.i64 (↑(k + 1) : Int)))]) (ob := [(4, AB.rw 5 1 (k + 1) (bysU (partB kn v s (k + 1))))]) (C := (Same IntKind.i64 ∧ (↑k : Int) + 1 = (↑(k + 1) : Int)) ∧ 5 = 5 ∧ Same 1 ∧ Same (k + 1) ∧ (∀ (r_1 : Nat), r_1 < k + 1 → rwPush (bysU (partB kn v s k)) k [AV.sy (Value.int IntKind.u8 (((rfallC r t).getD t default).getD k 0).toNat)] r_1 = bysU (partB kn v s (k + 1)) r_1)) (hc := ?_) (ihk (k + 1) hq1 hq2)
             refine ⟨⟨rfl, Int.natCast_succ _⟩, rfl, rfl, rfl, fun q hq => ?_⟩
             rw [← hps q hq]
             first | rw [hv0]; rfl | rw [hs0]; rfl
           · intro h7
             have hps := partB_push_s (n := kn) (v := v) (s := s) h7
             have hq1 : k + 1 ≤ 128 := by omega
             have hq2 : 128 - (k + 1) < 128 - k := by omega
             refine To.R (k := 25) (C := ((0 : Int) ≤ t ∧ (t : Int) < r.stays.length) ∧ t < r.stays.length ∧ ((0 : Int) ≤ k ∧ (k : Int) < ((rfallS r c t).getD t default).length) ∧ True ∧ (Same k ∧ k ≤ 1073741824) ∧ fits IntKind.i64 (k + 1)) (h := ?_)
             refine To.K (L := [LN.old 3, LN.old 6]) (kp := [8, 7, 5, 4, 3, 0]) (ov := [(8, AV.sy (Value.int IntKind.i64 (↑(k + 1) : Int)))]) (ob := [(4, AB.rw 5 1 (k + 1) (bysU (partB kn v s (k + 1))))]) (C := (Same IntKind.i64 ∧ (↑k : Int) + 1 = (↑(k + 1) : Int)) ∧ 5 = 5 ∧ Same 1 ∧ Same (k + 1) ∧ (∀ (r_1 : Nat), r_1 < k + 1 → rwPush (bysU (partB kn v s k)) k [AV.sy (Value.int IntKind.u8 (((rfallS r c t).getD t default).getD k 0).toNat)] r_1 = bysU (partB kn v s (k + 1)) r_1)) (hc := ?_) (ihk (k + 1) hq1 hq2)
             refine ⟨⟨rfl, Int.natCast_succ _⟩, rfl, rfl, rfl, fun q hq => ?_⟩
             rw [← hps q hq]
             first | rw [hv0]; rfl | rw [hs0]; rfl
         · intro h6
           refine To.R (k := 1) (h := ?_)
           refine To.frz 4 true [48, 8, 7, 5, 4, 3, 0] (by kernel_rfl) (C := k ≤ k ∧ ByteRows k (bysU (partB kn v s k))) (by kernel_rfl) ?_ ?_; (and_intros <;> try exact cl)
           · exact byteRows_bysU _ _
           have hk8 : k = 128 := by omega
           have hby : bytesF k (bysU (partB kn v s k)) = rfallAt c t (r.cache.getD t []) (r.stays.getD t []) := by
             have e := bytesF_bysU (partB kn v s k)
             rw [partB_len] at e
             rw [e, hk8, ← hv, ← hs, ← hv0, ← hs0]
             exact partB_all (hkn.trans hki) (by rw [hv0]; exact hlv) (by rw [hs0]; exact hls)
           refine To.R (k := 29) (C := ((0 : Int) ≤ t ∧ (t : Int) < r.stays.length) ∧ t < r.stays.length ∧ ((0 : Int) ≤ t ∧ (t : Int) < r.cache.length) ∧ t < r.cache.length ∧ fits IntKind.i64 (t + 1)) (h := ?_)
           refine To.rows 2 (bysF (rfallC r (t + 1))) (by kernel_rfl) (C := (∀ (r_1 : Nat), r_1 < r.cache.length → leL (rwSet (bysF (rfallC r t)) t 0 [AV.v (Value.slice none 0 0)] r_1) (bysF (rfallC r (t + 1)) r_1) ∧ bareL (bysF (rfallC r (t + 1)) r_1) = true)) (by kernel_rfl) ?_ ?_
           · intro q hq
             rw [bysF_get, ← rfallC_next hq]
             unfold rwSet
             rw [beq_dec]
             by_cases e : q = t
             · subst e; simp only [decide_true, cond_true, if_true]; exact ⟨⟨rfl, trivial⟩, rfl⟩
             · simp only [e, decide_false, cond_false, if_false]; exact ⟨leL_refl _, rfl⟩
           refine To.K (L := [LN.old 3]) (kp := [4, 3, 0]) (ov := [(4, AV.sy (Value.int IntKind.i64 (↑(t + 1) : Int)))]) (ob := [(1, AB.rw 36 1 r.stays.length (bysF (rfallS r c (t + 1))))]) (C := (Same IntKind.i64 ∧ (↑t : Int) + 1 = (↑(t + 1) : Int)) ∧ 36 = 36 ∧ Same 1 ∧ Same r.stays.length ∧ (∀ (r_1 : Nat), r_1 < r.stays.length → rwSet (bysF (rfallS r c t)) t 0 [AV.by8 (bytesF k (bysU (partB kn v s k)))] r_1 = bysF (rfallS r c (t + 1)) r_1)) (hc := ?_) (ih (t + 1) hi1 hi2)
           refine ⟨⟨rfl, Int.natCast_succ _⟩, rfl, rfl, rfl, fun q hq => ?_⟩
           rw [rwSet_bys, hby, rfallS_next hq (.inr rfl)]
           rfl
     · intro h3
       have hk0 : keepN c t 0 = _ := if_neg (by simp)
       refine To.R (k := 10) (h := ?_)
       refine To.L (L := [LN.old 3]) (kp := [6, 5, 4, 3, 0]) (C := (Same IntKind.i64 ∧ (0 : Int) = (↑(0 : Nat) : Int)) ∧ Same IntKind.i64 ∧ 0 = keepN c t 0) (st := fun (a : Nat) => (⟨(⟨47, 100, (slotT 100 [(0, AV.ptr 0 0), (3, AV.ptr 3 0), (4, AV.sy (Value.int IntKind.i64 t)), (5, AV.sy (Value.int IntKind.i64 (keepN c t a))), (6, AV.sy (Value.int IntKind.i64 a))]), ARg.no, [(AItem.code (subC (bodyC Tryz.prog 47) [1, 0, 1, 0, 0, 1, 0, 0, 1, 1, 1, 0, 1, 0, 0])), (AItem.inLoop (subC (bodyC Tryz.prog 47) [1, 0, 1, 0, 0, 1, 0, 0, 1, 1, 1, 0, 1, 0, 0])), (AItem.inBlock 2), (AItem.code (subC (bodyC Tryz.prog 47) [1, 0, 1, 0, 0, 1, 0, 0, 1, 1, 1, 1])), (AItem.inBlock 1), (AItem.code (subC (bodyC Tryz.prog 47) [1, 0, 1, 0, 0, 1, 1])), (AItem.inLoop (subC (bodyC Tryz.prog 47) [1, 0, 1, 0, 0])), (AItem.inBlock 0), (AItem.code (subC (bodyC Tryz.prog 47) [1, 1]))], [], false, none, 3⟩ : AFr), [], memF [AB.mem 45 none [AV.ow 1 r.stays.length, AV.ow 2 r.cache.length, AV.sy (Value.int IntKind.i64 r.c.w), AV.im 1 r.c.keep.length (intsF r.c.keep), AV.sy (Value.int IntKind.i64 r.c.torn), AV.sy (Value.int IntKind.i64 r.c.at_), AV.sy (Value.int IntKind.i64 r.many), AV.sy (Value.bool r.down)], AB.rw 36 1 r.stays.length (bysF (rfallS r c t)), AB.rw 36 1 r.cache.length (bysF (rfallC r t)), AB.mem 39 none [AV.sy (Value.int IntKind.i64 c.w), AV.im 1 c.keep.length (intsF c.keep), AV.sy (Value.int IntKind.i64 c.torn), AV.sy (Value.int IntKind.i64 c.at_)]] 0 Tr.e, 4⟩ : ASt)) (h := ?_) (fun (i : Nat) => [(6, ivA (i : Int)), (5, ivA (keepN c t i))]) (fun _ => []) (fun i => i ≤ c.keep.length) (fun i => c.keep.length - i) (0)
       intro i hi ihi
       have hks := keepN_succ c t i
       refine To.R (h := ?_)
       refine To.Bd ((i : Int) < c.keep.length) (h := ?_) (g := ?_)
       · intro h4
         have hic : i < c.keep.length := by omega
         have hj1 : i + 1 ≤ c.keep.length := hic
         have hj2 : c.keep.length - (i + 1) < c.keep.length - i := by omega
         have hks := hks hic
         refine To.R (C := ((0 : Int) ≤ i ∧ (i : Int) < c.keep.length) ∧ True) (h := ?_)
         refine To.Bd (c.keep.getD i 0 = t) (h := ?_) (g := ?_)
         · intro h5
           refine To.R (k := 12) (C := fits IntKind.i64 (i + 1)) (h := ?_)
           refine To.K (L := [LN.old 3]) (kp := [6, 5, 4, 3, 0]) (ov := [(6, AV.sy (Value.int IntKind.i64 (↑(i + 1) : Int))), (5, AV.sy (Value.int IntKind.i64 (keepN c (↑t : Int) (i + 1))))]) (C := (Same IntKind.i64 ∧ (↑i : Int) + 1 = (↑(i + 1) : Int)) ∧ Same IntKind.i64 ∧ 128 = keepN c t (i + 1)) (ihi (i + 1) hj1 hj2)
         · intro h5
           refine To.R (k := 10) (C := fits IntKind.i64 (i + 1)) (h := ?_)
           refine To.K (L := [LN.old 3]) (kp := [6, 5, 4, 3, 0]) (ov := [(6, AV.sy (Value.int IntKind.i64 (↑(i + 1) : Int))), (5, AV.sy (Value.int IntKind.i64 (keepN c (↑t : Int) (i + 1))))]) (C := (Same IntKind.i64 ∧ (↑i : Int) + 1 = (↑(i + 1) : Int)) ∧ Same IntKind.i64 ∧ keepN c t i = keepN c t (i + 1)) (ihi (i + 1) hj1 hj2)
       · intro h4
         have hki := keepN_all c t (i := i) (by omega)
         refine To.R (k := 14) (h := ?_)
         obtain ⟨kn, hkn⟩ : ∃ kn, kn = keepN c t i := ⟨_, rfl⟩
         obtain ⟨v, hv0⟩ : ∃ v, v = (rfallC r t).getD t [] := ⟨_, rfl⟩
         obtain ⟨s, hs0⟩ : ∃ s, s = (rfallS r c t).getD t [] := ⟨_, rfl⟩
         refine To.L (L := [LN.old 3, LN.new (AB.rw 5 1 0 (bysU (partB kn v s 0)))]) (kp := [8, 7, 5, 4, 3, 0]) (C := (Same IntKind.i64 ∧ (0 : Int) = (↑(0 : Nat) : Int)) ∧ Same 0 ∧ (Same IntKind.i64 ∧ keepN c t i = kn) ∧ 5 = 5 ∧ Same 1 ∧ Same 0 ∧ (∀ (r : Nat), r < 0 → bysU (partB kn v s 0) r = bysU (partB kn v s 0) r)) (st := fun (a : Nat) => (⟨(⟨47, 100, (slotT 100 [(0, AV.ptr 0 0), (3, AV.ptr 3 0), (4, AV.sy (Value.int IntKind.i64 t)), (5, AV.sy (Value.int IntKind.i64 kn)), (7, AV.ow 4 a), (8, AV.sy (Value.int IntKind.i64 a))]), ARg.no, [(AItem.code (subC (bodyC Tryz.prog 47) [1, 0, 1, 0, 0, 1, 0, 0, 1, 1, 1, 1, 1, 0, 1, 0, 0])), (AItem.inLoop (subC (bodyC Tryz.prog 47) [1, 0, 1, 0, 0, 1, 0, 0, 1, 1, 1, 1, 1, 0, 1, 0, 0])), (AItem.inBlock 4), (AItem.code (subC (bodyC Tryz.prog 47) [1, 0, 1, 0, 0, 1, 0, 0, 1, 1, 1, 1, 1, 1])), (AItem.inBlock 1), (AItem.code (subC (bodyC Tryz.prog 47) [1, 0, 1, 0, 0, 1, 1])), (AItem.inLoop (subC (bodyC Tryz.prog 47) [1, 0, 1, 0, 0])), (AItem.inBlock 0), (AItem.code (subC (bodyC Tryz.prog 47) [1, 1]))], [], false, none, 3⟩ : AFr), [], memF [AB.mem 45 none [AV.ow 1 r.stays.length, AV.ow 2 r.cache.length, AV.sy (Value.int IntKind.i64 r.c.w), AV.im 1 r.c.keep.length (intsF r.c.keep), AV.sy (Value.int IntKind.i64 r.c.torn), AV.sy (Value.int IntKind.i64 r.c.at_), AV.sy (Value.int IntKind.i64 r.many), AV.sy (Value.bool r.down)], AB.rw 36 1 r.stays.length (bysF (rfallS r c t)), AB.rw 36 1 r.cache.length (bysF (rfallC r t)), AB.mem 39 none [AV.sy (Value.int IntKind.i64 c.w), AV.im 1 c.keep.length (intsF c.keep), AV.sy (Value.int IntKind.i64 c.torn), AV.sy (Value.int IntKind.i64 c.at_)], AB.rw 5 1 a (bysU (partB kn v s a))] 0 Tr.e, 5⟩ : ASt)) (h := ?_) (fun (k : Nat) => [(8, ivA (k : Int)), (7, .ow 4 k), (5, ivA kn)]) (fun k => [(4, .rw 5 1 k (bysU (partB kn v s k)))]) (fun k => k ≤ 128) (fun k => 128 - k) (0)
         intro k hk1 ihk
         have hlv : ((rfallC r t).getD t default).length = 128 := by
           rcases hr.ca t has with e | e
           · rw [← hv] at e
             exact absurd (show (((rfallC r t).getD t default).length : Int) = 0 by rw [show (rfallC r t).getD t default = [] from e]; rfl) h2
           · rw [← hv] at e; exact e
         have hls : ((rfallS r c t).getD t default).length = 128 := by
           have := hr.st t has
           rw [← hs] at this; exact this
         refine To.R (h := ?_)
         refine To.Bd (k < (128 : Int)) (h := ?_) (g := ?_)
         · intro h6
           refine To.R (h := ?_)
           refine To.Bd (k < kn) (h := ?_) (g := ?_)
           · intro h7
             have hps := partB_push_v (n := kn) (v := v) (s := s) h7
             have hq1 : k + 1 ≤ 128 := by omega
             have hq2 : 128 - (k + 1) < 128 - k := by omega
             refine To.R (k := 25) (C := ((0 : Int) ≤ t ∧ (t : Int) < r.cache.length) ∧ t < r.cache.length ∧ ((0 : Int) ≤ k ∧ (k : Int) < ((rfallC r t).getD t default).length) ∧ True ∧ (Same k ∧ k ≤ 1073741824) ∧ fits IntKind.i64 (k + 1)) (h := ?_)
             refine To.K (L := [LN.old 3, LN.old 6]) (kp := [8, 7, 5, 4, 3, 0]) (ov := [(8, AV.sy (Value.int IntKind.i64 (↑(k + 1) : Int)))]) (ob := [(4, AB.rw 5 1 (k + 1) (bysU (partB kn v s (k + 1))))]) (C := (Same IntKind.i64 ∧ (↑k : Int) + 1 = (↑(k + 1) : Int)) ∧ 5 = 5 ∧ Same 1 ∧ Same (k + 1) ∧ (∀ (r_1 : Nat), r_1 < k + 1 → rwPush (bysU (partB kn v s k)) k [AV.sy (Value.int IntKind.u8 (((rfallC r t).getD t default).getD k 0).toNat)] r_1 = bysU (partB kn v s (k + 1)) r_1)) (hc := ?_) (ihk (k + 1) hq1 hq2)
             refine ⟨⟨rfl, Int.natCast_succ _⟩, rfl, rfl, rfl, fun q hq => ?_⟩
             rw [← hps q hq]
             first | rw [hv0]; rfl | rw [hs0]; rfl
           · intro h7
             have hps := partB_push_s (n := kn) (v := v) (s := s) h7
             have hq1 : k + 1 ≤ 128 := by omega
             have hq2 : 128 - (k + 1) < 128 - k := by omega
             refine To.R (k := 25) (C := ((0 : Int) ≤ t ∧ (t : Int) < r.stays.length) ∧ t < r.stays.length ∧ ((0 : Int) ≤ k ∧ (k : Int) < ((rfallS r c t).getD t default).length) ∧ True ∧ (Same k ∧ k ≤ 1073741824) ∧ fits IntKind.i64 (k + 1)) (h := ?_)
             refine To.K (L := [LN.old 3, LN.old 6]) (kp := [8, 7, 5, 4, 3, 0]) (ov := [(8, AV.sy (Value.int IntKind.i64 (↑(k + 1) : Int)))]) (ob := [(4, AB.rw 5 1 (k + 1) (bysU (partB kn v s (k + 1))))]) (C := (Same IntKind.i64 ∧ (↑k : Int) + 1 = (↑(k + 1) : Int)) ∧ 5 = 5 ∧ Same 1 ∧ Same (k + 1) ∧ (∀ (r_1 : Nat), r_1 < k + 1 → rwPush (bysU (partB kn v s k)) k [AV.sy (Value.int IntKind.u8 (((rfallS r c t).getD t default).getD k 0).toNat)] r_1 = bysU (partB kn v s (k + 1)) r_1)) (hc := ?_) (ihk (k + 1) hq1 hq2)
             refine ⟨⟨rfl, Int.natCast_succ _⟩, rfl, rfl, rfl, fun q hq => ?_⟩
             rw [← hps q hq]
             first | rw [hv0]; rfl | rw [hs0]; rfl
         · intro h6
           refine To.R (k := 1) (h := ?_)
           refine To.frz 4 true [48, 8, 7, 5, 4, 3, 0] (by kernel_rfl) (C := k ≤ k ∧ ByteRows k (bysU (partB kn v s k))) (by kernel_rfl) ?_ ?_; (and_intros <;> try exact cl)
           · exact byteRows_bysU _ _
           have hk8 : k = 128 := by omega
           have hby : bytesF k (bysU (partB kn v s k)) = rfallAt c t (r.cache.getD t []) (r.stays.getD t []) := by
             have e := bytesF_bysU (partB kn v s k)
             rw [partB_len] at e
             rw [e, hk8, ← hv, ← hs, ← hv0, ← hs0]
             exact partB_all (hkn.trans hki) (by rw [hv0]; exact hlv) (by rw [hs0]; exact hls)
           refine To.R (k := 29) (C := ((0 : Int) ≤ t ∧ (t : Int) < r.stays.length) ∧ t < r.stays.length ∧ ((0 : Int) ≤ t ∧ (t : Int) < r.cache.length) ∧ t < r.cache.length ∧ fits IntKind.i64 (t + 1)) (h := ?_)
           refine To.rows 2 (bysF (rfallC r (t + 1))) (by kernel_rfl) (C := (∀ (r_1 : Nat), r_1 < r.cache.length → leL (rwSet (bysF (rfallC r t)) t 0 [AV.v (Value.slice none 0 0)] r_1) (bysF (rfallC r (t + 1)) r_1) ∧ bareL (bysF (rfallC r (t + 1)) r_1) = true)) (by kernel_rfl) ?_ ?_
           · intro q hq
             rw [bysF_get, ← rfallC_next hq]
             unfold rwSet
             rw [beq_dec]
             by_cases e : q = t
             · subst e; simp only [decide_true, cond_true, if_true]; exact ⟨⟨rfl, trivial⟩, rfl⟩
             · simp only [e, decide_false, cond_false, if_false]; exact ⟨leL_refl _, rfl⟩
           refine To.K (L := [LN.old 3]) (kp := [4, 3, 0]) (ov := [(4, AV.sy (Value.int IntKind.i64 (↑(t + 1) : Int)))]) (ob := [(1, AB.rw 36 1 r.stays.length (bysF (rfallS r c (t + 1))))]) (C := (Same IntKind.i64 ∧ (↑t : Int) + 1 = (↑(t + 1) : Int)) ∧ 36 = 36 ∧ Same 1 ∧ Same r.stays.length ∧ (∀ (r_1 : Nat), r_1 < r.stays.length → rwSet (bysF (rfallS r c t)) t 0 [AV.by8 (bytesF k (bysU (partB kn v s k)))] r_1 = bysF (rfallS r c (t + 1)) r_1)) (hc := ?_) (ih (t + 1) hi1 hi2)
           refine ⟨⟨rfl, Int.natCast_succ _⟩, rfl, rfl, rfl, fun q hq => ?_⟩
           rw [rwSet_bys, hby, rfallS_next hq (.inr rfl)]
           rfl
 · intro h1
   have hca : t = r.cache.length := by omega
   have e1 : (rfallD r c).stays = rfallS r c t := by
     refine rows_ext (by simp [rfallD, rfallS]) fun k hk => ?_
     have hk' : k < r.stays.length := by simpa [rfallD] using hk
     rw [rfallS_at hk', if_pos (by omega)]
     unfold rfallD
     rw [List.getD_eq_getElem?_getD, List.getElem?_map, List.getElem?_range hk']; rfl
   have e2 : (rfallD r c).cache = rfallC r t := by
     refine rows_ext (by simp [rfallD, rfallC]) fun k hk => ?_
     have hk' : k < r.cache.length := by simpa [rfallD] using hk
     rw [rfallC_at hk', if_pos (by omega)]
     unfold rfallD
     rw [List.getD_eq_getElem?_getD, List.getElem?_replicate, if_pos hk']; rfl
   have e3 := rfallS_len r c t
   have e4 := rfallC_len r t
   refine To.R (h := ?_)
   refine To.E (AV.tup []) (hq := ?_)
   unfold rblk
   rw [e1, e2]
   rw [e3, e4]
   refine ⟨(of_eqP (C := True) (by kernel_rfl) (by (and_intros <;> try exact cl))), (endL_cons (B0 := AB.mem 45 none [AV.ow 1 r.stays.length, AV.ow 2 r.cache.length, AV.v (Value.int IntKind.i64 0), AV.v (Value.slice none 0 0), AV.v (Value.int IntKind.i64 0), AV.v (Value.int IntKind.i64 0), AV.sy (Value.int IntKind.i64 r.many), AV.v (Value.bool true)]) (by kernel_rfl) (of_eqP (C := 45 = 45 ∧ (none : Option Nat) = none ∧ (Same 1 ∧ Same r.stays.length) ∧ (Same 2 ∧ Same r.cache.length) ∧ (Same IntKind.i64 ∧ 0 = (rfallD r c).c.w) ∧ Same 0 ∧ (Same IntKind.i64 ∧ 0 = (rfallD r c).c.torn) ∧ (Same IntKind.i64 ∧ 0 = (rfallD r c).c.at_) ∧ (Same IntKind.i64 ∧ r.many = (rfallD r c).many) ∧ true = (rfallD r c).down ∧ True) (by kernel_rfl) ?_) (endL_cons (B0 := AB.rw 36 1 r.stays.length (bysF (rfallS r c t))) (by kernel_rfl) (of_eqP (C := 36 = 36 ∧ Same 1 ∧ Same r.stays.length ∧ (∀ (r_1 : Nat), r_1 < r.stays.length → bysF (rfallS r c t) r_1 = bysF (rfallS r c t) r_1)) (by kernel_rfl) (by (and_intros <;> try exact cl))) (endL_cons (B0 := AB.rw 36 1 r.cache.length (bysF (rfallC r t))) (by kernel_rfl) (of_eqP (C := 36 = 36 ∧ Same 1 ∧ Same r.cache.length ∧ (∀ (r_1 : Nat), r_1 < r.cache.length → bysF (rfallC r t) r_1 = bysF (rfallC r t) r_1)) (by kernel_rfl) (by (and_intros <;> try exact cl))) endL_nil)))⟩
   exact ⟨rfl, rfl, ⟨rfl, rfl⟩, ⟨rfl, rfl⟩, ⟨rfl, rfl⟩, rfl, ⟨rfl, rfl⟩, ⟨rfl, rfl⟩, ⟨rfl, rfl⟩, rfl, trivial⟩
end Go.Proofs.YtnkjhicokcmmpaaGreat.Sm
