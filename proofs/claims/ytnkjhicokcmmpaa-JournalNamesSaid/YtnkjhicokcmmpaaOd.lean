/-
  The reader of bytes: the number that the next bytes are.
-/
import Derived.Test.YtnkjhicokcmmpaaOc
import Derived.Laws.Bits64b
namespace Go.Proofs.Ytnkjhicokcmmpaa
open Go.RowKit Go.Shelf
attribute [local go_sem] Oper.semAt_some

theorem ahead_in (n : Nat) (a : Option Addr) (w : World) :
    CallsIn Fence.wide n Try.prog 122 #[.pointer a] w fun e w' => e = .returned (.func (.func 138) #[] #[.pointer (some ⟨w.heap.size, 0, none⟩)]) ∧ w.alloc (.cells #[.pointer a] 115) = w' := by
  refine callsIn_of_wp Try.func122 rfl trivial ?_ rfl
  simp only [Try.ntmps122, List.size_toArray, List.length_cons, List.length_nil, Nat.reduceAdd, Nat.reduceSub, Array.replicate_succ, Array.replicate_zero, List.push_toArray, List.append_toArray, List.nil_append, List.cons_append]
  gi_wp2
  go_ret
  exact ⟨rfl, rfl⟩

theorem ahead_stops (n : Nat) (hn : 1 ≤ n) (Bs n₀ rb pos : Nat) (v : Value) (bs : List UInt8) (hpos : pos ≤ bs.length) (hlen : bs.length ≤ 1000000) (w : World)
    (hBs : Blk w Bs 115 [.pointer (some ⟨rb, 0, none⟩)]) (hR : RdAt w rb v bs pos) (hn0 : ∀ k, v.ownBlock = some k → k < n₀) :
    SeqStopsK Fence.wide n Try.prog 138 #[.pointer (some ⟨Bs, 0, none⟩)] (fun x : Nat × UInt8 => #[Value.int .i64 (x.1 : Nat), byt x.2]) (Below n₀) (fun ys => ys = toldAll (bs.drop pos)) (fun pre => pre <+: toldAll (bs.drop pos)) (bs.drop pos).length w := fun l J Jx W hW hJ _ hY h0 => by
  have hB' : Blk W Bs 115 [.pointer (some ⟨rb, 0, none⟩)] := (hW.block Bs hBs.lt).trans hBs
  have hR' : RdAt W rb v bs pos := hR.fr (S := fun k => w.heap.size ≤ k) ⟨hW.os, hW.tape, hW.output, hW.size, fun k hk hn => hW.block k hk⟩ (by have := hR.blk.lt; omega) (fun k hk => by have := hR.own.lt hk; omega)
  refine ahead1_in n hn l Bs n₀ rb pos v bs hpos hlen J Jx hY W hB' hR' hn0 (fun N => ?_)
  exact hJ [] W (W.drewN N) none h0 ⟨rfl, rfl, rfl, Nat.le_refl _, fun _ _ _ => rfl⟩ (fun k hk => by cases hk)

/-- The number of some bytes, the first one going highest. -/
def wh (l : List UInt8) : Nat := l.foldl (fun n c => n * 256 + c.toNat) 0

/-- The register behind bytes. -/
def accS (m : Int) (c : UInt8) : Int := bits .or .u64 (IntKind.u64.wrap (m * 256)) (IntKind.u64.wrap (c.toNat : Int))
def accN (l : List (Nat × UInt8)) : Int := l.foldl (fun n x => accS n x.2) 0
theorem accN_snoc (l : List (Nat × UInt8)) (x : Nat × UInt8) : accN (l ++ [x]) = accS (accN l) x.2 := by simp [accN]
theorem wh_snoc (l : List UInt8) (c : UInt8) : wh (l ++ [c]) = wh l * 256 + c.toNat := by simp [wh]
theorem wh_lt (l : List UInt8) : wh l < 256 ^ l.length := by
  induction hn : l.length generalizing l with
  | zero =>
    have : l = [] := List.eq_nil_of_length_eq_zero hn
    subst this
    simp [wh]
  | succ n ih =>
    rcases List.eq_nil_or_concat l with rfl | ⟨l', c, rfl⟩
    · simp at hn
    · rw [List.concat_eq_append] at *
      simp at hn
      have h1 := ih l' hn
      have h2 : c.toNat < 256 := c.toNat_lt
      rw [wh_snoc, Nat.pow_succ]
      omega
theorem wrap_u64 (a : Nat) (h : a < 2 ^ 64) : IntKind.u64.wrap (a : Int) = a := by
  simp [IntKind.wrap, IntKind.signed, IntKind.bits]
  omega
theorem accS_nat (m : Nat) (c : UInt8) (hm : m < 2 ^ 56) : accS m c = ((m * 256 + c.toNat : Nat) : Int) := by
  have hc : c.toNat < 256 := c.toNat_lt
  unfold accS
  rw [show (m : Int) * 256 = ((m * 256 : Nat) : Int) by simp, wrap_u64 _ (by omega), wrap_u64 _ (by omega), bits_or_u64_nat _ _ (by omega) (by omega)]
  congr 1
  have := Nat.shiftLeft_add_eq_or_of_lt (i := 8) (b := c.toNat) hc m
  rw [Nat.shiftLeft_eq, show (2 : Nat) ^ 8 = 256 from rfl] at this
  omega
theorem accN_eq (l : List (Nat × UInt8)) : l.length ≤ 8 → accN l = (wh (l.map (·.2)) : Nat) := by
  induction hn : l.length generalizing l with
  | zero =>
    intro _
    have : l = [] := List.eq_nil_of_length_eq_zero hn
    subst this
    rfl
  | succ n ih =>
    intro h8
    rcases List.eq_nil_or_concat l with rfl | ⟨l', c, rfl⟩
    · simp at hn
    · rw [List.concat_eq_append] at *
      simp at hn
      have h1 := ih l' hn (by omega)
      have h2 := wh_lt (l'.map (·.2))
      rw [List.length_map, hn] at h2
      have h3 : 256 ^ n ≤ 256 ^ 7 := Nat.pow_le_pow_right (by decide) (by omega)
      rw [accN_snoc, h1, accS_nat _ _ (by omega), List.map_append]
      show _ = ((wh (l'.map (·.2) ++ [c.2]) : Nat) : Int)
      rw [wh_snoc]
theorem told_snd (l : List UInt8) (k : Nat) (hk : k ≤ l.length) : (told l k).map (·.2) = l.take k := by
  apply List.ext_getElem
  · simp [told]; omega
  · intro i h1 h2
    simp [told] at h1 ⊢
    have : i < l.length := by omega
    simp [this]
theorem told_fst {l : List UInt8} {k : Nat} {x : Nat × UInt8} (hx : x ∈ told l k) : x.1 < k := by
  obtain ⟨i, hi, rfl⟩ := List.mem_map.1 hx
  simpa using hi
theorem told_mem (l : List UInt8) {k i : Nat} (hi : i < k) : (i, l[i]?.getD 0) ∈ told l k := List.mem_map.2 ⟨i, by simpa using hi, rfl⟩

/-- A world in which two boxes were stored to, and the block of deferred calls is struck. -/
theorem two_boxes {w W : World} {N1 N2 D : Nat} {T1 T2 : TypeId} {x1 x2 y1 y2 : Value} (h1 : Blk W N1 T1 [x1]) (h2 : Blk W N2 T2 [x2]) (hne : N1 ≠ N2) (hK : W.heap[D]? = some (.deferred (some []))) (hf : Fr (fun k => k = N1 ∨ k = N2) w W) (hD : w.heap.size ≤ D) (o : Obj) :
    (((W.setCell ⟨N1, 0, none⟩ y1).setCell ⟨N2, 0, none⟩ y2).drew).heap[D]? = some (.deferred (some [])) ∧ Blk ((((W.setCell ⟨N1, 0, none⟩ y1).setCell ⟨N2, 0, none⟩ y2).drew).putObj D o) N1 T1 [y1] ∧ Blk ((((W.setCell ⟨N1, 0, none⟩ y1).setCell ⟨N2, 0, none⟩ y2).drew).putObj D o) N2 T2 [y2] ∧ Fr (fun k => k = N1 ∨ k = N2) w ((((W.setCell ⟨N1, 0, none⟩ y1).setCell ⟨N2, 0, none⟩ y2).drew).putObj D o) := by
  have n1 := h1.neDef hK
  have n2 := h2.neDef hK
  have b1 : Blk (((W.setCell ⟨N1, 0, none⟩ y1).setCell ⟨N2, 0, none⟩ y2).drew) N1 T1 [y1] := ((h1.set 0 y1).other (by show N1 ≠ N2; exact hne) y2).drew
  have b2 : Blk (((W.setCell ⟨N1, 0, none⟩ y1).setCell ⟨N2, 0, none⟩ y2).drew) N2 T2 [y2] := ((h2.other (by show N2 ≠ N1; exact fun e => hne e.symm) y1).set 0 y2).drew
  have hk : (((W.setCell ⟨N1, 0, none⟩ y1).setCell ⟨N2, 0, none⟩ y2).drew).heap[D]? = some (.deferred (some [])) := by
    refine Eq.trans (Below.heap_setCell _ ⟨N2, 0, none⟩ y2 D (fun e => n2 e.symm)) ?_
    exact Eq.trans (Below.heap_setCell _ ⟨N1, 0, none⟩ y1 D (fun e => n1 e.symm)) hK
  refine ⟨hk, b1.putObj n1 o, b2.putObj n2 o, ?_⟩
  exact (((hf.setCell (p := ⟨N1, 0, none⟩) (.inl (.inl rfl)) y1).setCell (p := ⟨N2, 0, none⟩) (.inl (.inr rfl)) y2).drew).putObj (.inr hD) o

set_option maxRecDepth 100000 in
set_option maxHeartbeats 4000000 in
theorem number_any (rb pos size : Nat) (v : Value) (bs : List UInt8) (hpos : pos ≤ bs.length) (hlen : bs.length ≤ 1000000) (hs1 : 1 ≤ size) (hs8 : size ≤ 8) (w : World) (h : RdAt w rb v bs pos) :
    Calls Try.prog 109 #[.pointer (some ⟨rb, 0, none⟩), .int .i64 size] w fun e w' =>
      (∃ x : Int, e = .returned (.tuple #[.int .u64 x, .bool (decide (pos + size ≤ bs.length))]) ∧ (pos + size ≤ bs.length → x = wh ((bs.drop pos).take size))) ∧ Fr No w w' := by
  refine calls_of_marks Try.func109 rfl ?_
  simp only [Try.ntmps109, List.size_toArray, List.length_cons, List.length_nil, Nat.reduceAdd, Nat.reduceSub, Array.replicate_succ, Array.replicate_zero, List.push_toArray, List.append_toArray, List.nil_append, List.cons_append]
  go_wp2
  go_step3
  go_wp2
  go_step3
  go_wp2_with (go_at_call 122; refine (callsIn_wide.1 (ahead_in 5 _ _)).mono ?_; rintro e w1 ⟨rfl, rfl⟩)
  have hS : Blk ((((w.alloc (.cells #[.int .i64 size] 3)).alloc (.cells #[.int .u64 0] 22)).alloc (.cells #[.bool false] 4)).alloc (.cells #[.pointer (some ⟨rb, 0, none⟩)] 115)) w.heap.size 3 [.int .i64 size] := (((Blk.new w _ _).alloc _).alloc _).alloc _
  have hN : Blk ((((w.alloc (.cells #[.int .i64 size] 3)).alloc (.cells #[.int .u64 0] 22)).alloc (.cells #[.bool false] 4)).alloc (.cells #[.pointer (some ⟨rb, 0, none⟩)] 115)) (w.heap.size + 1) 22 [.int .u64 0] := by
    have := Blk.new (w.alloc (.cells #[.int .i64 size] 3)) 22 [.int .u64 0]
    rw [World.size_alloc] at this
    exact (this.alloc _).alloc _
  have hI : Blk ((((w.alloc (.cells #[.int .i64 size] 3)).alloc (.cells #[.int .u64 0] 22)).alloc (.cells #[.bool false] 4)).alloc (.cells #[.pointer (some ⟨rb, 0, none⟩)] 115)) (w.heap.size + 1 + 1) 4 [.bool false] := by
    have := Blk.new ((w.alloc (.cells #[.int .i64 size] 3)).alloc (.cells #[.int .u64 0] 22)) 4 [.bool false]
    rw [World.size_alloc, World.size_alloc] at this
    exact this.alloc _
  have hX : Blk ((((w.alloc (.cells #[.int .i64 size] 3)).alloc (.cells #[.int .u64 0] 22)).alloc (.cells #[.bool false] 4)).alloc (.cells #[.pointer (some ⟨rb, 0, none⟩)] 115)) (w.heap.size + 1 + 1 + 1) 115 [.pointer (some ⟨rb, 0, none⟩)] := by
    have := Blk.new (((w.alloc (.cells #[.int .i64 size] 3)).alloc (.cells #[.int .u64 0] 22)).alloc (.cells #[.bool false] 4)) 115 [.pointer (some ⟨rb, 0, none⟩)]
    rwa [World.size_alloc, World.size_alloc, World.size_alloc] at this
  have hfr1 : Fr No w ((((w.alloc (.cells #[.int .i64 size] 3)).alloc (.cells #[.int .u64 0] 22)).alloc (.cells #[.bool false] 4)).alloc (.cells #[.pointer (some ⟨rb, 0, none⟩)] 115)) := ((((Fr.refl No w).alloc _).alloc _).alloc _).alloc _
  generalize (((w.alloc (.cells #[.int .i64 size] 3)).alloc (.cells #[.int .u64 0] 22)).alloc (.cells #[.bool false] 4)).alloc (.cells #[.pointer (some ⟨rb, 0, none⟩)] 115) = w1 at *
  have h1 := h.no hfr1
  have hz := hX.lt
  have hrl := h.blk.lt
  have hvl : ∀ k, v.ownBlock = some k → k < w.heap.size := fun k hk => h.own.lt hk
  refine wp_range (gf := 138) (lb := #[.pointer (some ⟨w.heap.size + 1 + 1 + 1, 0, none⟩)]) rfl (enters_of Try.func138 (by kernel_rfl) rfl)
    (ahead_stops 4 (by omega) (w.heap.size + 1 + 1 + 1) w.heap.size rb pos v bs hpos hlen w1 hX h1 hvl) belowK_t (belowK_b (by omega)) (Below.refl _ _) (fun _ => rfl)
    (fun pre W => Blk W (w.heap.size + 1) 22 [.int .u64 (accN pre)] ∧ (∀ x ∈ pre, x.1 + 1 ≠ size) ∧ Fr (fun k => k = w.heap.size + 1) w1 W)
    (fun c pre W => c = .exit 0 ∧ ∃ pre' x, pre = pre' ++ [x] ∧ x.1 + 1 = size ∧ (∀ x ∈ pre', x.1 + 1 ≠ size) ∧ Blk W (w.heap.size + 1) 22 [.int .u64 (accN pre)] ∧ Blk W (w.heap.size + 1 + 1) 4 [.bool true] ∧ Fr (fun k => k = w.heap.size + 1 ∨ k = w.heap.size + 1 + 1) w1 W)
    ?hI ?hIx ⟨hN, by simp, Fr.refl _ _⟩ (fun x : Nat × UInt8 => { tmps := #[.pointer (some ⟨rb, 0, none⟩), .int .i64 size, undef, .pointer (some ⟨w.heap.size, 0, none⟩), .pointer (some ⟨w.heap.size + 1, 0, none⟩), .pointer (some ⟨w.heap.size + 1 + 1, 0, none⟩), .int .i64 (x.1 : Nat), byt x.2, .pointer (some ⟨rb, 0, none⟩), .func (.func 138) #[] #[.pointer (some ⟨w.heap.size + 1 + 1 + 1, 0, none⟩)], .int .i64 (x.1 : Nat), byt x.2, undef, undef, undef, undef, undef, undef, undef, undef, undef, undef, undef], defers := [] }) ?assign ?body ?done ?stop
  case hI =>
    rintro s A B row ⟨h1, h2, h3⟩ hg hr
    exact ⟨h1.fr ((Fr.refl (fun k => w1.heap.size ≤ k) A).grown hg (fun k hk => .inl (hr k hk).1)) (by omega), h2, h3.grown hg (fun k hk => .inr (hr k hk).1)⟩
  case hIx =>
    rintro cc s A B row ⟨h0, pre', x, h1, h2, h3, h4, h5, h6⟩ hg hr
    exact ⟨h0, pre', x, h1, h2, h3, h4.fr ((Fr.refl (fun k => w1.heap.size ≤ k) A).grown hg (fun k hk => .inl (hr k hk).1)) (by omega), h5.fr ((Fr.refl (fun k => w1.heap.size ≤ k) A).grown hg (fun k hk => .inl (hr k hk).1)) (by omega), h6.grown hg (fun k hk => .inr (hr k hk).1)⟩
  case assign =>
    intro ll x W K hK
    gi_wp2
    exact hK
  case body =>
    rintro ll pre x W ⟨hW1, hW2, hW3⟩ _
    have hb0 := hW1.cell (j := 0) rfl
    have hbf := hW1.free
    have hbl := hW1.lt
    have hSW := hS.fr hW3 (by omega)
    have hIW := hI.fr hW3 (by omega)
    have s0 := hSW.cell (j := 0) rfl
    have i0 := hIW.cell (j := 0) rfl
    have if' := hIW.free
    have il := hIW.lt
    have hw1 : IntKind.i64.wrap ((size : Int) - 1) = (size : Int) - 1 := by rw [IntKind.wrap_i64]; omega
    obtain ⟨i, c⟩ := x
    obtain ⟨m, hm⟩ : ∃ m, m = accN pre := ⟨_, rfl⟩
    rw [← hm] at hb0
    have HM := Lib.hid hm
    clear hm
    by_cases hi : i + 1 = size
    · have ht : ((i : Int) == (size : Int) - 1) = true := by simp; omega
      unfold byt
      gi_wp2
      refine ⟨((KeepsOthers.setCell _ _ _).trans (KeepsOthers.setCell _ _ _)), rfl, pre, (i, c), rfl, hi, hW2, ?_, ?_, ?_⟩
      · rw [accN_snoc, ← HM.out]
        exact (hW1.set 0 _).other (by show w.heap.size + 1 ≠ w.heap.size + 1 + 1; omega) _
      · exact (hIW.other (by show w.heap.size + 1 + 1 ≠ w.heap.size + 1; omega) _).set 0 _
      · exact ((hW3.mono (fun k hk => .inl hk)).setCell (p := ⟨w.heap.size + 1, 0, none⟩) (.inl (.inl rfl)) _).setCell (p := ⟨w.heap.size + 1 + 1, 0, none⟩) (.inl (.inr rfl)) _
    · have ht : ((i : Int) == (size : Int) - 1) = false := by simp; omega
      unfold byt
      gi_wp2
      refine ⟨KeepsOthers.setCell _ _ _, (Below.refl _ _).setCell (p := ⟨w.heap.size + 1, 0, none⟩) (by show w.heap.size ≤ w.heap.size + 1; omega) _, ?_, ?_, hW3.setCell (p := ⟨w.heap.size + 1, 0, none⟩) (.inl rfl) _⟩
      · rw [accN_snoc, ← HM.out]
        exact hW1.set 0 _
      · intro x hx
        rcases List.mem_append.1 hx with hx | hx
        · exact hW2 x hx
        · simp at hx; subst hx; exact hi
  case done =>
    rintro D ys W hD rfl ⟨hW1, hW2, hW3⟩ hK
    have hno : ¬ pos + size ≤ bs.length := by
      intro hle
      have h1 : size - 1 < (bs.drop pos).length := by rw [List.length_drop]; omega
      exact hW2 _ (told_mem (bs.drop pos) h1) (by show size - 1 + 1 = size; omega)
    have hb0 := hW1.cell (j := 0) rfl
    have hbf := hW1.free
    have hbl := hW1.lt
    have hIW := hI.fr hW3 (by omega)
    have i0 := hIW.cell (j := 0) rfl
    have if' := hIW.free
    have il := hIW.lt
    go_wp2
    go_region
    all_goals go_wp2
    all_goals
      rw [Exit.noGoto_ret]
      obtain ⟨hk2, q1, q2, q3⟩ := two_boxes hW1 hIW (by omega) hK (hW3.mono (fun k hk => .inl hk)) hD (.deferred none) (y1 := .int .u64 (accN (toldAll (List.drop pos bs)))) (y2 := .bool false)
      have z1 := q1.cell (j := 0) rfl
      have z2 := q2.cell (j := 0) rfl
      have l1 := q1.lt
      have l2 := q2.lt
      refine end_marks (v := .tuple #[.int .u64 (accN (toldAll (List.drop pos bs))), .bool false]) hk2 (by simp [results, Try.results109, go_sem, z1, z2]) ⟨⟨_, by rw [decide_eq_false hno], fun hc => absurd hc hno⟩, ?_⟩
      exact hfr1.trans q3 (fun k hk => .inr (by omega))
  case stop =>
    rintro D cc pre W hD hSp ⟨rfl, pre', x, rfl, hx, hpre, hW1, hIW, hW3⟩ hK
    have hpl := hSp.length_le
    obtain ⟨k, hk⟩ : ∃ k, pre' ++ [x] = told (bs.drop pos) k ∧ k ≤ (bs.drop pos).length := by
      refine ⟨(pre' ++ [x]).length, ?_, ?_⟩
      · have h2 := told_prefix (l := bs.drop pos) (k := (pre' ++ [x]).length) (by unfold toldAll at hpl; rwa [told_len] at hpl)
        exact (List.prefix_of_prefix_length_le hSp h2 (by rw [told_len]; exact Nat.le_refl _)).eq_of_length (by rw [told_len])
      · unfold toldAll at hpl; rwa [told_len] at hpl
    obtain ⟨hk, hkl⟩ := hk
    have hk1 : k = pre'.length + 1 := by
      have := congrArg List.length hk
      rw [told_len] at this
      simpa using this.symm
    have hxl : x = (pre'.length, (bs.drop pos)[pre'.length]?.getD 0) := by
      rw [hk1, told_succ] at hk
      have := List.append_inj_right hk (by rw [told_len])
      simpa using this
    have hsz : k = size := by rw [hxl] at hx; omega
    have hyes : pos + size ≤ bs.length := by rw [List.length_drop] at hkl; omega
    have hval : accN (pre' ++ [x]) = (wh ((bs.drop pos).take size) : Nat) := by
      rw [hk, accN_eq _ (by rw [told_len]; omega), told_snd _ _ hkl, hsz]
    have hb0 := hW1.cell (j := 0) rfl
    have hbf := hW1.free
    have hbl := hW1.lt
    have i0 := hIW.cell (j := 0) rfl
    have if' := hIW.free
    have il := hIW.lt
    have HV := Lib.hid hval
    clear hval hxl hk hSp
    generalize accN (pre' ++ [x]) = m at *
    go_wp2
    go_region
    all_goals go_wp2
    all_goals
      rw [Exit.noGoto_ret]
      obtain ⟨hk2, q1, q2, q3⟩ := two_boxes hW1 hIW (by omega) hK hW3 hD (.deferred none) (y1 := .int .u64 m) (y2 := .bool true)
      have z1 := q1.cell (j := 0) rfl
      have z2 := q2.cell (j := 0) rfl
      refine end_marks (v := .tuple #[.int .u64 m, .bool true]) hk2 (by simp [results, Try.results109, go_sem, z1, z2]) ⟨⟨_, by rw [decide_eq_true hyes], fun _ => HV.out⟩, ?_⟩
      exact hfr1.trans q3 (fun k hk => .inr (by omega))

end Go.Proofs.Ytnkjhicokcmmpaa
