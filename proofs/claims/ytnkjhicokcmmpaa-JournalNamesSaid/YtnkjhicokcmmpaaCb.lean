/-
  The checksum's table: what its functions come to.
-/
import Derived.Test.YtnkjhicokcmmpaaCa
import Derived.Test.YtnkjhicokcmmpaaSeq
import Derived.Test.YtnkjhicokcmmpaaOb
import Derived.Laws.Bits64b
namespace Go.Proofs.Ytnkjhicokcmmpaa
open Go.RowKit Go.Shelf
attribute [local go_sem] Oper.semAt_some

theorem ofInt_32 (a : Nat) (ha : a < 2 ^ 32) : (BitVec.ofInt 32 (a : Int)).toNat = a := by
  rw [BitVec.ofInt_natCast, BitVec.toNat_ofNat]
  exact Nat.mod_eq_of_lt ha
theorem wrap_u32 (a : Nat) (h : a < 2 ^ 32) : IntKind.u32.wrap (a : Int) = a := by
  simp [IntKind.wrap, IntKind.signed, IntKind.bits]
  omega
theorem and1_u32 (c : Nat) (hc : c < 2 ^ 32) : bits .and .u32 (c : Int) 1 = ((c % 2 : Nat) : Int) := by
  show IntKind.u32.wrap ((BitVec.ofInt 32 (c : Int) &&& BitVec.ofInt 32 ((1 : Nat) : Int)).toNat : Int) = _
  rw [BitVec.toNat_and, ofInt_32 _ hc, ofInt_32 _ (by decide), Nat.and_one_is_mod, wrap_u32 _ (by omega)]
theorem xor_u32 (a b : Nat) (ha : a < 2 ^ 32) (hb : b < 2 ^ 32) : bits .xor .u32 (a : Int) (b : Int) = ((a ^^^ b : Nat) : Int) := by
  show IntKind.u32.wrap ((BitVec.ofInt 32 (a : Int) ^^^ BitVec.ofInt 32 (b : Int)).toNat : Int) = _
  rw [BitVec.toNat_xor, ofInt_32 _ ha, ofInt_32 _ hb, wrap_u32 _ (Nat.xor_lt_two_pow ha hb)]

def lowsTo (c k : Nat) : List (Nat × Bool) := (List.range k).map fun k => (csN k c / 2, csN k c % 2 == 1)
theorem lowsTo_succ (c k : Nat) : lowsTo c (k + 1) = lowsTo c k ++ [(csN k c / 2, csN k c % 2 == 1)] := by simp [lowsTo, List.range_succ]

set_option maxRecDepth 100000 in
set_option maxHeartbeats 2000000 in
theorem lows1_tells (cb c0 : Nat) (hc0 : c0 < 2 ^ 32) (w : World) (hcb : Blk w cb 23 [.int .u32 c0]) :
    Tells Try.prog 160 #[.pointer (some ⟨cb, 0, none⟩)] (fun x : Nat × Bool => #[Value.int .u32 (x.1 : Nat), .bool x.2]) cb (fun xs => xs = lowsTo c0 8) w := by
  intro l J W hW hJ hY h0
  have hB : Blk W cb 23 [.int .u32 c0] := (hW.block cb hcb.lt).trans hcb
  clear hcb hW
  refine callsIn_of_wp Try.func160 rfl trivial ?_ rfl
  simp only [Try.ntmps160, List.size_toArray, List.length_cons, List.length_nil, Nat.reduceAdd, Nat.reduceSub, Array.replicate_succ, Array.replicate_zero, List.push_toArray, List.append_toArray, List.nil_append, List.cons_append]
  gi_wp2
  gi_loopw [4] (fun t wr => ∃ k : Nat, k ≤ 8 ∧ t = .int .i64 k ∧ J (lowsTo c0 k) wr ∧ Blk wr cb 23 [.int .u32 (csN k c0)]) (fun t _ => 8 - (intOf t).toNat)
  case atStart => exact ⟨0, Nat.zero_le _, rfl, h0, hB⟩
  case round =>
    obtain ⟨k, hk, rfl, hJs, hBr⟩ := hrel
    by_cases hlt : k < 8
    · have hc := csN_lt hc0 k
      obtain ⟨c, hcd⟩ : ∃ c, c = csN k c0 := ⟨_, rfl⟩
      rw [← hcd] at hBr hc
      have HT : Hid (lowsTo c0 (k + 1) = lowsTo c0 k ++ [(c / 2, c % 2 == 1)]) := by rw [hcd]; exact lowsTo_succ c0 k
      have HC : Hid (csN (k + 1) c0 = cs1 c) := by rw [hcd]; rfl
      clear hcd hB hc0
      have b0 := hBr.cell (j := 0) rfl
      have bf := hBr.free
      have bl := hBr.lt
      have hfs : Fr (fun k => k = cb) wr (wr.setCell ⟨cb, 0, none⟩ (.int .u32 ((c : Int) / 2))) := (Fr.refl (fun k => k = cb) wr).setCell (p := ⟨cb, 0, none⟩) (.inl rfl) _
      have hB2 : Blk (wr.setCell ⟨cb, 0, none⟩ (.int .u32 ((c : Int) / 2))) cb 23 [.int .u32 ((c : Int) / 2)] := hBr.set 0 _
      have hd2 : ((c / 2 : Nat) : Int) = (c : Int) / 2 := by omega
      by_cases hp : c % 2 = 1
      · have hand : bits .and .u32 (c : Int) 1 = 1 := by
          have := and1_u32 c hc
          rw [hp] at this
          exact this
        have hxor : bits .xor .u32 ((c : Int) / 2) 3988292384 = ((cs1 c : Nat) : Int) := by
          have := xor_u32 (c / 2) poly (by omega) (by decide)
          rw [hd2] at this
          rw [show ((3988292384 : Int)) = ((poly : Nat) : Int) by rfl, this]
          unfold cs1
          rw [if_pos hp]
        obtain ⟨fn, tmps, assign, body, hy, hR⟩ := hY (lowsTo c0 k) (c / 2, c % 2 == 1) _ (hJ _ _ _ hJs hfs)
        dsimp only at hy
        rw [hp, hd2, show ((1 : Nat) == 1) = true from rfl] at hy
        have HX := Lib.hid hxor
        clear hxor hd2
        gi_wp2
        refine hR.mono ?_
        rintro e W3 ⟨rfl, hJ3, hk3⟩
        have hB3 : Blk W3 cb 23 [.int .u32 ((c : Int) / 2)] := hk3.trans hB2
        have d0 := hB3.cell (j := 0) rfl
        have df := hB3.free
        have dl := hB3.lt
        have hxor := HX.out
        gi_wp2
        go_roundw
        case rel =>
          refine ⟨k + 1, by omega, by simp, ?_, ?_⟩
          · rw [HT.out]
            exact hJ _ _ _ hJ3 ((Fr.refl (fun k => k = cb) W3).setCell (p := ⟨cb, 0, none⟩) (.inl rfl) _)
          · rw [HC.out]
            exact hB3.set 0 _
        case measure => (simp [intOf]; try omega)
      · have hp0 : c % 2 = 0 := by omega
        have hand : bits .and .u32 (c : Int) 1 = 0 := by
          have := and1_u32 c hc
          rw [hp0] at this
          exact this
        have hcs : cs1 c = c / 2 := by unfold cs1; rw [if_neg hp]
        obtain ⟨fn, tmps, assign, body, hy, hR⟩ := hY (lowsTo c0 k) (c / 2, c % 2 == 1) _ (hJ _ _ _ hJs hfs)
        dsimp only at hy
        rw [hp0, hd2, show ((0 : Nat) == 1) = false from rfl] at hy
        have HX : Hid (((cs1 c : Nat) : Int) = (c : Int) / 2) := by rw [hcs]; exact hd2
        clear hd2 hcs
        gi_wp2
        refine hR.mono ?_
        rintro e W3 ⟨rfl, hJ3, hk3⟩
        have hB3 : Blk W3 cb 23 [.int .u32 ((c : Int) / 2)] := hk3.trans hB2
        gi_wp2
        go_roundw
        case rel =>
          refine ⟨k + 1, by omega, by simp, ?_, ?_⟩
          · rw [HT.out]
            exact hJ3
          · rw [HC.out, HX.out]
            exact hB3
        case measure => (simp [intOf]; try omega)
    · obtain rfl : k = 8 := by omega
      gi_wp2
      go_end0
      exact ⟨⟨_, rfl⟩, _, rfl, hJs⟩

theorem lows_any (c : Int) (w : World) : Calls Try.prog 154 #[.int .u32 c] w fun e w' => e = .returned (.func (.func 160) #[] #[.pointer (some ⟨w.heap.size, 0, none⟩)]) ∧ w.alloc (.cells #[.int .u32 c] 23) = w' := by
  go_enter Try.func154, Try.ntmps154
  go_wp2
  go_ret
  exact ⟨rfl, rfl⟩

/-- What a round of 'fill' makes of what it is told. -/
def fillS (x : Nat × Bool) : Int := if x.2 then bits .xor .u32 (x.1 : Int) 3988292384 else x.1
def fillN (i : Nat) (l : List (Nat × Bool)) : Int := match l.getLast? with | some x => fillS x | none => i
theorem fillN_snoc (i : Nat) (l : List (Nat × Bool)) (x : Nat × Bool) : fillN i (l ++ [x]) = fillS x := by simp [fillN]
theorem fillN_8 (i : Nat) (hi : i < 2 ^ 32) : fillN i (lowsTo i 8) = ((tab i : Nat) : Int) := by
  rw [lowsTo_succ, fillN_snoc]
  have hc := csN_lt hi 7
  have hx := xor_u32 (csN 7 i / 2) poly (by omega) (by decide)
  show (if (csN 7 i % 2 == 1) = true then _ else _) = ((cs1 (csN 7 i) : Nat) : Int)
  unfold cs1
  by_cases hp : csN 7 i % 2 = 1
  · rw [if_pos hp, if_pos (by simp [hp])]
    exact hx
  · rw [if_neg hp, if_neg (by simp [hp])]

set_option maxRecDepth 100000 in
set_option maxHeartbeats 4000000 in
theorem fill_any (tb i : Nat) (hi : i < 256) (l : List Value) (hl : l.length = 256) (w : World) (h : Blk w tb 181 l) :
    Calls Try.prog 137 #[.pointer (some ⟨tb, 0, none⟩), .int .i64 i] w fun e w' => (∃ v, e = .returned v) ∧ Blk w' tb 181 (l.set i (.int .u32 (tab i))) ∧ Fr (fun k => k = tb) w w' := by
  have hi32 : i < 2 ^ 32 := by omega
  have hwr : IntKind.u32.wrap (i : Int) = i := wrap_u32 _ hi32
  have htl := h.lt
  refine calls_of_marks Try.func137 rfl ?_
  simp only [Try.ntmps137, List.size_toArray, List.length_cons, List.length_nil, Nat.reduceAdd, Nat.reduceSub, Array.replicate_succ, Array.replicate_zero, List.push_toArray, List.append_toArray, List.nil_append, List.cons_append]
  go_wp2
  go_step3
  go_wp2
  go_step3
  go_wp2_with (go_at_call 154; refine (lows_any _ _).mono ?_; rintro e w1 ⟨rfl, rfl⟩)
  have hN : Blk ((w.alloc (.cells #[.int .u32 i] 23)).alloc (.cells #[.int .u32 i] 23)) w.heap.size 23 [.int .u32 i] := (Blk.new w _ _).alloc _
  have hC : Blk ((w.alloc (.cells #[.int .u32 i] 23)).alloc (.cells #[.int .u32 i] 23)) (w.heap.size + 1) 23 [.int .u32 i] := by
    have := Blk.new (w.alloc (.cells #[.int .u32 i] 23)) 23 [.int .u32 i]
    rwa [World.size_alloc] at this
  have hfr1 : Fr No w ((w.alloc (.cells #[.int .u32 i] 23)).alloc (.cells #[.int .u32 i] 23)) := ((Fr.refl No w).alloc _).alloc _
  generalize (w.alloc (.cells #[.int .u32 i] 23)).alloc (.cells #[.int .u32 i] 23) = w1 at *
  have hz := hC.lt
  refine wp_tells (gf := 160) (lb := #[.pointer (some ⟨w.heap.size + 1, 0, none⟩)]) rfl (enters_of Try.func160 (by kernel_rfl) rfl) (cb := w.heap.size + 1) hz
    (lows1_tells (w.heap.size + 1) i hi32 w1 hC) (fun _ => rfl)
    (fun pre W => Blk W w.heap.size 23 [.int .u32 (fillN i pre)] ∧ Fr (fun k => k = w.heap.size ∨ k = w.heap.size + 1) w1 W)
    ?hI ?hIc ⟨hN, Fr.refl _ _⟩ (fun x : Nat × Bool => { tmps := #[.pointer (some ⟨tb, 0, none⟩), .int .i64 i, undef, undef, .pointer (some ⟨w.heap.size, 0, none⟩), .int .u32 (x.1 : Nat), .bool x.2, .int .i64 i, .int .u32 i, .int .u32 i, .func (.func 160) #[] #[.pointer (some ⟨w.heap.size + 1, 0, none⟩)], .int .u32 (x.1 : Nat), .bool x.2, undef, undef, undef, undef, undef, undef, undef, undef, undef, undef, undef], defers := [] }) ?assign ?body ?done
  case hI =>
    rintro s A B row ⟨h1, h3⟩ hg hr
    exact ⟨h1.fr ((Fr.refl (fun k => w1.heap.size ≤ k) A).grown hg (fun k hk => .inl (hr k hk).1)) (by omega), h3.grown hg (fun k hk => .inr (hr k hk).1)⟩
  case hIc =>
    rintro pre A B ⟨h1, h3⟩ hf
    exact ⟨h1.fr hf (by omega), h3.trans hf (fun k hk => .inl (.inr hk))⟩
  case assign =>
    intro ll x W K hK
    gi_wp2
    exact hK
  case body =>
    rintro ll pre x W ⟨hW1, hW3⟩
    have hb0 := hW1.cell (j := 0) rfl
    have hbf := hW1.free
    have hbl := hW1.lt
    obtain ⟨low, out⟩ := x
    cases out
    · gi_wp2
      refine ⟨KeepsOthers.setCell _ _ _, Below.heap_setCell _ _ _ _ (by show w.heap.size + 1 ≠ w.heap.size; omega), ?_, hW3.setCell (p := ⟨w.heap.size, 0, none⟩) (.inl (.inl rfl)) _⟩
      rw [fillN_snoc]
      exact hW1.set 0 _
    · gi_wp2
      refine ⟨(KeepsOthers.setCell _ _ _).trans (KeepsOthers.setCell _ _ _), (Below.heap_setCell _ _ _ _ (by show w.heap.size + 1 ≠ w.heap.size; omega)).trans (Below.heap_setCell _ _ _ _ (by show w.heap.size + 1 ≠ w.heap.size; omega)), ?_, (hW3.setCell (p := ⟨w.heap.size, 0, none⟩) (.inl (.inl rfl)) _).setCell (p := ⟨w.heap.size, 0, none⟩) (.inl (.inl rfl)) _⟩
      rw [fillN_snoc]
      exact (hW1.set 0 _).set 0 _
  case done =>
    rintro D ys W hD rfl ⟨hW1, hW3⟩ hK
    rw [fillN_8 i hi32] at hW1
    have hb0 := hW1.cell (j := 0) rfl
    have hbl := hW1.lt
    have hT := (h.fr hfr1 (No.no _)).fr hW3 (by omega)
    have t0 := hT.cell (j := i) (v := l[i]'(by omega)) (List.getElem?_eq_getElem (by omega))
    have tf := hT.free
    have tl := hT.lt
    go_wp2
    go_region
    all_goals go_wp2
    all_goals
      have hB2 : Blk (W.setCell ⟨tb, i, none⟩ (.int .u32 (tab i))).drew tb 181 (l.set i (.int .u32 (tab i))) := (hT.set i _).drew
      have hk2 : (W.setCell ⟨tb, i, none⟩ (.int .u32 (tab i))).drew.heap[D]? = some (.deferred (some [])) := (Below.heap_setCell W ⟨tb, i, none⟩ _ D (fun e => hT.neDef hK e.symm)).trans hK
      refine end_marks0 rfl hk2 ⟨⟨_, rfl⟩, hB2.putObj (hB2.neDef hk2) _, ?_⟩
      have hf1 : Fr (fun k => k = tb) w W := (hfr1.no_any (S := fun k => k = tb)).trans hW3 (fun k hk => .inr (by omega))
      exact ((hf1.setCell (p := ⟨tb, i, none⟩) (.inl rfl) _).drew).putObj (.inr (by have := hfr1.size; omega)) _

end Go.Proofs.Ytnkjhicokcmmpaa
