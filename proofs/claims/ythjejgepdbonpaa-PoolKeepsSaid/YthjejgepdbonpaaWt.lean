/-
  What the backward iterator over frames comes to.
-/
import Derived.Test.YthjejgepdbonpaaWr
import Derived.Test.YthjejgepdbonpaaRange
namespace Go.Proofs.Ythjejgepdbonpaa
open Go.RowKit Go.Shelf
attribute [local go_sem] Oper.semAt_some

/-- What lay below N is as it was, but for block ob. -/
def KpB (N ob : Nat) (W W' : World) : Prop := ∀ k, k < N → k ≠ ob → W'.heap[k]? = W.heap[k]?
theorem KpB.t {N ob : Nat} {A B C : World} (h : KpB N ob A B) (k : KpB N ob B C) : KpB N ob A C := fun i h1 h2 => (k i h1 h2).trans (h i h1 h2)
theorem KpB.b {N ob : Nat} {w : World} (hn : N ≤ w.heap.size) (W : World) (l : Nat) (o o' : Obj) (hl : w.heap.size ≤ l) (_ : W.heap[l]? = some o) (_ : o.isCells = false) (_ : o.isWalk = false) : KpB N ob W (W.putObj l o') :=
  fun k h1 _ => World.putObj_heap_other (by omega)
theorem Blk.kp {N ob : Nat} {W W' : World} {b : Nat} {T : TypeId} {l : List Value} (h : Blk W b T l) (hk : KpB N ob W W') (h1 : b < N) (h2 : b ≠ ob) : Blk W' b T l := (hk b h1 h2).trans h

/-- The last places first: of n, the first k that come. -/
def downTo (n k : Nat) : List Nat := (List.range k).map fun j => n - 1 - j
theorem downTo_succ (n k : Nat) : downTo n (k + 1) = downTo n k ++ [n - 1 - k] := by simp [downTo, List.range_succ]
theorem downTo_length (n k : Nat) : (downTo n k).length = k := by simp [downTo]
theorem downTo_prefix {n k : Nat} (hk : k ≤ n) : downTo n k <+: downTo n n := by
  unfold downTo
  obtain ⟨d, rfl⟩ := Nat.exists_eq_add_of_le hk
  rw [List.range_add, List.map_append]
  exact List.prefix_append _ _

set_option maxRecDepth 100000 in
set_option maxHeartbeats 2000000 in
theorem backward1_in (F : Fence) (n : Nat) (h7 : F.fn 36) (hro : F.round = none) (hn : 1 ≤ n) (l Bs N ob g c len : Nat) (ptrs : List Value) (hlen : len ≤ 1000000) (hpl : ptrs.length = len) (J Jx : List (Fin len) → World → Prop)
    (hY : ∀ pre (x : Fin len) W, J pre W → pre.length < len → YieldAt F (n - 1) Try.prog l #[.int .i64 (x.val : Int), ptrs[x.val]?.getD undef] W fun e W' =>
      (e = .returned (.bool true) ∧ J (pre ++ [x]) W' ∧ KpB N ob W W') ∨ (e = .returned (.bool false) ∧ Jx (pre ++ [x]) W'))
    (W : World) (hBs : Blk W Bs 62 [.slice (some ⟨g, 0, none⟩) len c]) (hO : Own W 68 1 (.slice (some ⟨g, 0, none⟩) len c) len ptrs) (hB : Bs < N) (hBo : Bs ≠ ob) (hg : g < N) (hgo : g ≠ ob) (h0 : J [] W) :
    CallsIn F n Try.prog 36 #[.func (.yield l) #[] #[], .pointer (some ⟨Bs, 0, none⟩)] W fun e W' => (∃ v, e = .returned v) ∧
      ((∃ ys, ys.map (·.val) = downTo len len ∧ J ys W') ∨ (∃ pre, pre.map (·.val) <+: downTo len len ∧ Jx pre W')) := by
  have b0 := hBs.cell (j := 0) rfl
  have HPL := Lib.hid hpl
  clear hpl
  refine callsIn_of_wp Try.func36 rfl h7 ?_ hro
  simp only [Try.ntmps36, List.size_toArray, List.length_cons, List.length_nil, Nat.reduceAdd, Nat.reduceSub, Array.replicate_succ, Array.replicate_zero, List.push_toArray, List.append_toArray, List.nil_append, List.cons_append]
  gi_wp2
  gi_loopw [3] (fun i wr => ∃ k : Nat, k ≤ len ∧ i = .int .i64 ((len : Int) - 1 - (k : Int)) ∧ (∃ xs : List (Fin len), xs.map (·.val) = downTo len k ∧ J xs wr) ∧ KpB N ob W wr)
    (fun i _ => (intOf i + 1).toNat)
  case atStart => exact ⟨0, Nat.zero_le _, by simp, ⟨[], rfl, h0⟩, fun _ _ _ => rfl⟩
  case round =>
    obtain ⟨k, hk, rfl, ⟨xs, hxs, hJs⟩, hnx⟩ := hrel
    by_cases hlt : k < len
    · have hBr := hBs.kp hnx hB hBo
      have hOr : Own wr 68 1 (.slice (some ⟨g, 0, none⟩) len c) len ptrs := by
        obtain ⟨sp, hB1, q1, q2, q3, q4⟩ := hO.blk
        exact Own.of_blk (hB1.kp hnx hg hgo) q1 q2 q3 q4
      have b1 := hBr.cell (j := 0) rfl
      obtain ⟨m, hm⟩ : ∃ m : Nat, (m : Int) = (len : Int) - 1 - (k : Int) := ⟨len - 1 - k, by omega⟩
      have hml : m < len := by omega
      have e1 : wr.cell? ⟨g, m, none⟩ = some (ptrs[m]?.getD undef) := by
        have hmp : m < ptrs.length := by rw [HPL.out]; exact hml
        have := hOr.cells (g := g) rfl m (ptrs[m]) (by simp)
        rw [Addr.add_lit, Nat.zero_add] at this
        rw [this]
        simp [hmp]
      have hmk : m = len - 1 - k := by omega
      have HMK := Lib.hid hmk
      rw [← hm]
      have hm1 : (m : Int) - 1 = (len : Int) - 1 - ((k + 1 : Nat) : Int) := by omega
      have HM1 := Lib.hid hm1
      clear hm hm1 hmk
      have hxl : xs.length = k := by rw [← List.length_map (·.val), hxs, downTo_length]
      have HX := Lib.hid hxs
      have HXL := Lib.hid hxl
      clear hxs hxl
      obtain ⟨fn, tmps, assign, body, hy, hR⟩ := hY _ ⟨m, hml⟩ wr hJs (by rw [HXL.out]; exact hlt)
      gi_wp2
      refine hR.mono ?_
      rintro e W3 (⟨rfl, hJ3, hk3⟩ | ⟨rfl, hJx3⟩)
      · gi_wp2
        go_roundw
        case rel => exact ⟨k + 1, by omega, by rw [HM1.out], ⟨_, by rw [List.map_append, HX.out, downTo_succ]; simp only [List.map_cons, List.map_nil]; rw [HMK.out], hJ3⟩, hnx.t hk3⟩
        case measure => simp [intOf] <;> omega
      · gi_wp2
        refine bodyPost_ret (results_none rfl _ _ _) rfl ?_
        refine ⟨⟨_, rfl⟩, .inr ⟨_, ?_, hJx3⟩⟩
        have := downTo_prefix (n := len) (k := k + 1) (by omega)
        rw [downTo_succ] at this
        rw [List.map_append, HX.out]
        simp only [List.map_cons, List.map_nil]
        rw [HMK.out]
        exact this
    · obtain rfl : k = len := by omega
      have hm1 : (k : Int) - 1 - (k : Int) = -1 := by omega
      rw [hm1]
      gi_wp2
      go_end0
      exact ⟨⟨_, rfl⟩, .inl ⟨_, hxs, hJs⟩⟩

set_option maxRecDepth 100000 in
set_option maxHeartbeats 1000000 in
theorem backward1_nil_in (F : Fence) (n : Nat) (h7 : F.fn 36) (hro : F.round = none) (l Bs : Nat) {α : Type} (J : List α → World → Prop)
    (W : World) (hBs : Blk W Bs 62 [.slice none 0 0]) (h0 : J [] W) :
    CallsIn F n Try.prog 36 #[.func (.yield l) #[] #[], .pointer (some ⟨Bs, 0, none⟩)] W fun e W' => (∃ v, e = .returned v) ∧ J [] W' := by
  have b0 := hBs.cell (j := 0) rfl
  refine callsIn_of_wp Try.func36 rfl h7 ?_ hro
  simp only [Try.ntmps36, List.size_toArray, List.length_cons, List.length_nil, Nat.reduceAdd, Nat.reduceSub, Array.replicate_succ, Array.replicate_zero, List.push_toArray, List.append_toArray, List.nil_append, List.cons_append]
  gi_wp2
  gi_loopw [3] (fun i wr => i = .int .i64 (-1) ∧ J [] wr) (fun _ _ => 0)
  case atStart => exact ⟨rfl, h0⟩
  case round =>
    obtain ⟨rfl, hJs⟩ := hrel
    gi_wp2
    go_end0
    exact ⟨⟨_, rfl⟩, hJs⟩

set_option maxHeartbeats 1000000 in
theorem backward_in (F : Fence) (n : Nat) (h5 : F.fn 29) (hro : F.round = none) (a : Option Addr) (len c : Nat) (w : World) :
    CallsIn F n Try.prog 29 #[.slice a len c] w fun e w' => e = .returned (.func (.func 36) #[] #[.pointer (some ⟨w.heap.size, 0, none⟩)]) ∧ w.alloc (.cells #[.slice a len c] 62) = w' := by
  refine callsIn_of_wp Try.func29 rfl h5 ?_ hro
  simp only [Try.ntmps29, List.size_toArray, List.length_cons, List.length_nil, Nat.reduceAdd, Nat.reduceSub, Array.replicate_succ, Array.replicate_zero, List.push_toArray, List.append_toArray, List.nil_append, List.cons_append]
  gi_wp2
  go_ret
  exact ⟨rfl, rfl⟩

theorem backward_stops (F : Fence) (n : Nat) (h7 : F.fn 36) (hro : F.round = none) (hn : 1 ≤ n) (Bs ob len : Nat) (sv : Value) (ptrs : List Value) (hlen : len ≤ 1000000) (w : World)
    (hBs : Blk w Bs 62 [sv]) (hO : Own w 68 1 sv len ptrs) (hBo : Bs ≠ ob) (hgo : ∀ k, sv.ownBlock = some k → k ≠ ob) :
    SeqStopsK F n Try.prog 36 #[.pointer (some ⟨Bs, 0, none⟩)] (fun x : Fin len => #[Value.int .i64 (x.val : Int), ptrs[x.val]?.getD undef]) (KpB w.heap.size ob) (fun ys => ys.map (·.val) = downTo len len) (fun pre => pre.map (·.val) <+: downTo len len) len w := fun l J Jx W hW _ _ hY h0 => by
  have hB' : Blk W Bs 62 [sv] := (hW.block Bs hBs.lt).trans hBs
  have hf : Fr (fun k => ¬ k < w.heap.size) w W := ⟨hW.os, hW.tape, hW.output, hW.size, fun k hk _ => hW.block k hk⟩
  have hO' : Own W 68 1 sv len ptrs := hO.fr hf (fun k hk => by have := hO.lt hk; omega)
  rcases hO'.cases with ⟨rfl, rfl, h2⟩ | ⟨g, c, rfl⟩
  · exact (backward1_nil_in F n h7 hro l Bs J W hB' h0).mono fun e W' ⟨he, hj⟩ => ⟨he, .inl ⟨_, rfl, hj⟩⟩
  · have hpl : ptrs.length = len := by have := hO.1; omega
    exact backward1_in F n h7 hro hn l Bs w.heap.size ob g c len ptrs hlen hpl J Jx hY W hB' hO' hBs.lt hBo (hO.lt rfl) (hgo g rfl) h0

end Go.Proofs.Ythjejgepdbonpaa
