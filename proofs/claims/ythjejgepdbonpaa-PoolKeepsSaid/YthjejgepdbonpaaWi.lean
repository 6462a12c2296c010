/-
  What the iterator over loose frames comes to.
-/
import Derived.Test.YthjejgepdbonpaaWh
import Derived.RangeFuncNested
import Derived.RangeFuncBound
import Derived.RangeFuncCalls
import Derived.RangeFuncLeaves
import Derived.Shelf.Abstract
import Derived.OwnWalkIn
import Derived.TacticsInMore
import Derived.LoopNIn
import Derived.LoopIn
namespace Go.Proofs.Ythjejgepdbonpaa
open Go.RowKit Go.Shelf
attribute [local go_sem] Oper.semAt_some

/-- The places of the frames that are not pinned, of the first k. -/
def looseTo (fs : List Frm) (k : Nat) : List Nat := (List.range k).filter fun i => match fs[i]? with | some x => x.pins == 0 | none => false
def loosePlaces (fs : List Frm) : List Nat := looseTo fs fs.length
theorem looseTo_hit {fs : List Frm} {k : Nat} (hk : k < fs.length) (h : (fs[k].pins == 0) = true) : looseTo fs (k + 1) = looseTo fs k ++ [k] := by
  unfold looseTo
  rw [List.range_succ, List.filter_append]
  simp [hk]
  simpa using h
theorem looseTo_miss {fs : List Frm} {k : Nat} (hk : k < fs.length) (h : (fs[k].pins == 0) = false) : looseTo fs (k + 1) = looseTo fs k := by
  unfold looseTo
  rw [List.range_succ, List.filter_append]
  simp [hk]
  simpa using h
theorem looseTo_length (fs : List Frm) (k : Nat) : (looseTo fs k).length ≤ k := by
  unfold looseTo
  exact Nat.le_trans (List.length_filter_le _ _) (by simp)
theorem looseTo_prefix (fs : List Frm) (k : Nat) (hk : k ≤ fs.length) : looseTo fs k <+: loosePlaces fs := by
  unfold loosePlaces looseTo
  obtain ⟨d, hd⟩ := Nat.exists_eq_add_of_le hk
  rw [hd, List.range_add, List.filter_append]
  exact List.prefix_append _ _
def Frm.ptr (x : Frm) : Value := .pointer (some ⟨x.b, 0, none⟩)

/-- Frames in a slice that the iterator reads. -/
structure FramesAt (w : World) (pb : Nat) (v0 v1 fv : Value) (fs : List Frm) : Prop where
  blk : Blk w pb 64 [v0, v1, fv]
  row : Own w 68 1 fv fs.length (fs.map Frm.ptr)
  frm : ∀ x ∈ fs, FrmAt w x
theorem FramesAt.no {w w' : World} {pb : Nat} {v0 v1 fv : Value} {fs : List Frm} (h : FramesAt w pb v0 v1 fv fs) (hf : Fr No w w') : FramesAt w' pb v0 v1 fv fs :=
  ⟨h.blk.fr hf (No.no _), h.row.fr hf (fun _ _ => No.no _), fun x hx => (h.frm x hx).no hf⟩
theorem FramesAt.below {w w' : World} {n : Nat} {pb : Nat} {v0 v1 fv : Value} {fs : List Frm} (h : FramesAt w pb v0 v1 fv fs) (hf : Below n w w') (hn : ∀ k, k < w.heap.size → (k = pb ∨ fv.ownBlock = some k ∨ (∃ x ∈ fs, k = x.b ∨ k = x.t.g)) → k < n) : FramesAt w' pb v0 v1 fv fs := by
  have hfr : Fr (fun k => ¬ k < n) w w' := ⟨hf.os, hf.tape, hf.output, hf.size, fun k _ hk => hf.block k (Decidable.byContradiction hk)⟩
  refine ⟨h.blk.fr hfr (fun hk => hk (hn _ h.blk.lt (.inl rfl))), h.row.fr hfr (fun k hk hk' => hk' (hn _ (h.row.lt hk) (.inr (.inl hk)))), fun x hx => (h.frm x hx).fr hfr (fun hk => hk (hn _ (h.frm x hx).blk.lt (.inr (.inr ⟨x, hx, .inl rfl⟩)))) (fun hk => hk (hn _ ((h.frm x hx).els.lt (k := x.t.g) rfl) (.inr (.inr ⟨x, hx, .inr rfl⟩))))⟩

set_option maxRecDepth 100000 in
set_option maxHeartbeats 2000000 in
/-- The iterator's closure: the places of the frames that are not pinned. -/
theorem loose1_in (F : Fence) (n : Nat) (h7 : F.fn 37) (hro : F.round = none) (hn : 1 ≤ n) (l Bs n₀ pb g c : Nat) (v0 v1 : Value) (fs : List Frm) (hlen : fs.length ≤ 1000000) (J Jx : List Nat → World → Prop)
    (hY : ∀ pre x W, J pre W → pre.length < fs.length → YieldAt F (n - 1) Try.prog l #[.int .i64 (x : Nat)] W fun e W' =>
      (e = .returned (.bool true) ∧ J (pre ++ [x]) W' ∧ Below n₀ W W') ∨ (e = .returned (.bool false) ∧ Jx (pre ++ [x]) W'))
    (W : World) (hBs : Blk W Bs 24 [.pointer (some ⟨pb, 0, none⟩)]) (hF : FramesAt W pb v0 v1 (.slice (some ⟨g, 0, none⟩) fs.length c) fs) (hB : Bs < n₀) (hFn : ∀ k, k < W.heap.size → (k = pb ∨ (Value.slice (some ⟨g, 0, none⟩) fs.length c).ownBlock = some k ∨ (∃ x ∈ fs, k = x.b ∨ k = x.t.g)) → k < n₀) (h0 : J [] W) :
    CallsIn F n Try.prog 37 #[.func (.yield l) #[] #[], .pointer (some ⟨Bs, 0, none⟩)] W fun e W' => (∃ v, e = .returned v) ∧
      ((∃ ys, ys = loosePlaces fs ∧ J ys W') ∨ (∃ pre, pre <+: loosePlaces fs ∧ Jx pre W')) := by
  have b0 := hBs.cell (j := 0) rfl
  have p2 := hF.blk.cell (j := 2) rfl
  refine callsIn_of_wp Try.func37 rfl h7 ?_ hro
  simp only [Try.ntmps37, List.size_toArray, List.length_cons, List.length_nil, Nat.reduceAdd, Nat.reduceSub, Array.replicate_succ, Array.replicate_zero, List.push_toArray, List.append_toArray, List.nil_append, List.cons_append]
  gi_wp2
  gi_loopw [10] (fun i wr => ∃ k : Nat, k ≤ fs.length ∧ i = .int .i64 k ∧ J (looseTo fs k) wr ∧ Below n₀ W wr)
    (fun i _ => fs.length - (intOf i).toNat)
  case atStart => exact ⟨0, Nat.zero_le _, rfl, h0, Below.refl _ _⟩
  case round =>
    obtain ⟨k, hk, rfl, hJs, hnx⟩ := hrel
    by_cases hlt : k < fs.length
    · have hFr := hF.below hnx hFn
      have hfk := hFr.frm _ (List.getElem_mem hlt)
      have e1 : wr.cell? ⟨g, k, none⟩ = some (.pointer (some ⟨(fs[k]'hlt).b, 0, none⟩)) := by
        have := hFr.row.cells (g := g) rfl k ((fs[k]'hlt).ptr) (by simp [hlt])
        rwa [Addr.add_lit, Nat.zero_add] at this
      have e2 := hfk.blk.cell (j := 4) rfl
      obtain ⟨bb, hbb⟩ : ∃ bb, bb = (fs[k]'hlt).b := ⟨_, rfl⟩
      obtain ⟨pp, hpp⟩ : ∃ pp, pp = (fs[k]'hlt).pins := ⟨_, rfl⟩
      rw [← hbb] at e1 e2
      rw [← hpp] at e2
      have HP := Lib.hid hpp
      clear hbb hpp hfk hFr
      by_cases hp : (pp == 0) = true
      · have hlp := looseTo_length fs k
        obtain ⟨fn, tmps, assign, body, hy, hR⟩ := hY _ k wr hJs (by omega)
        have HL : Hid (looseTo fs (k + 1) = looseTo fs k ++ [k]) := looseTo_hit hlt (by rw [← HP.out]; exact hp)
        clear hlp
        gi_wp2
        refine hR.mono ?_
        rintro e W3 (⟨rfl, hJ3, hk3⟩ | ⟨rfl, hJx3⟩)
        · gi_wp2
          go_roundw
          case rel => exact ⟨k + 1, by omega, by simp, by rw [HL.out]; exact hJ3, hnx.trans hk3⟩
          case measure => simp [intOf]; omega
        · gi_wp2
          refine bodyPost_ret (results_none rfl _ _ _) rfl ?_
          exact ⟨⟨_, rfl⟩, .inr ⟨_, by rw [← HL.out]; exact looseTo_prefix fs (k + 1) (by omega), hJx3⟩⟩
      · have hp' : (pp == 0) = false := by simpa using hp
        have HL : Hid (looseTo fs (k + 1) = looseTo fs k) := looseTo_miss hlt (by rw [← HP.out]; exact hp')
        clear hp
        gi_wp2
        refine ⟨by simp, ?_⟩
        gi_wp2
        go_roundw
        case rel => exact ⟨k + 1, by omega, by simp, by rw [HL.out]; exact hJs, hnx⟩
        case measure => simp [intOf]; omega
    · obtain rfl : k = fs.length := by omega
      gi_wp2
      go_end0
      exact ⟨⟨_, rfl⟩, .inl ⟨_, rfl, hJs⟩⟩

set_option maxRecDepth 100000 in
set_option maxHeartbeats 1000000 in
/-- .. of no frames. -/
theorem loose1_nil_in (F : Fence) (n : Nat) (h7 : F.fn 37) (hro : F.round = none) (l Bs pb : Nat) (v0 v1 : Value) (J : List Nat → World → Prop)
    (W : World) (hBs : Blk W Bs 24 [.pointer (some ⟨pb, 0, none⟩)]) (hF : Blk W pb 64 [v0, v1, .slice none 0 0]) (h0 : J [] W) :
    CallsIn F n Try.prog 37 #[.func (.yield l) #[] #[], .pointer (some ⟨Bs, 0, none⟩)] W fun e W' => (∃ v, e = .returned v) ∧ J [] W' := by
  have b0 := hBs.cell (j := 0) rfl
  have p2 := hF.cell (j := 2) rfl
  refine callsIn_of_wp Try.func37 rfl h7 ?_ hro
  simp only [Try.ntmps37, List.size_toArray, List.length_cons, List.length_nil, Nat.reduceAdd, Nat.reduceSub, Array.replicate_succ, Array.replicate_zero, List.push_toArray, List.append_toArray, List.nil_append, List.cons_append]
  gi_wp2
  gi_loopw [10] (fun i wr => i = .int .i64 0 ∧ J [] wr) (fun _ _ => 0)
  case atStart => exact ⟨rfl, h0⟩
  case round =>
    obtain ⟨rfl, hJs⟩ := hrel
    gi_wp2
    go_end0
    exact ⟨⟨_, rfl⟩, hJs⟩

set_option maxHeartbeats 1000000 in
theorem loose_in (F : Fence) (n : Nat) (h5 : F.fn 34) (hro : F.round = none) (a : Option Addr) (w : World) :
    CallsIn F n Try.prog 34 #[.pointer a] w fun e w' => e = .returned (.func (.func 37) #[] #[.pointer (some ⟨w.heap.size, 0, none⟩)]) ∧ w.alloc (.cells #[.pointer a] 24) = w' := by
  refine callsIn_of_wp Try.func34 rfl h5 ?_ hro
  simp only [Try.ntmps34, List.size_toArray, List.length_cons, List.length_nil, Nat.reduceAdd, Nat.reduceSub, Array.replicate_succ, Array.replicate_zero, List.push_toArray, List.append_toArray, List.nil_append, List.cons_append]
  gi_wp2
  go_ret
  exact ⟨rfl, rfl⟩

theorem loose_stops (F : Fence) (n : Nat) (h7 : F.fn 37) (hro : F.round = none) (hn : 1 ≤ n) (Bs n₀ pb : Nat) (v0 v1 fv : Value) (fs : List Frm) (hlen : fs.length ≤ 1000000) (w : World)
    (hBs : Blk w Bs 24 [.pointer (some ⟨pb, 0, none⟩)]) (hF : FramesAt w pb v0 v1 fv fs) (hn₀ : n₀ ≤ w.heap.size) (hB : Bs < n₀) (hFn : ∀ k, k < w.heap.size → (k = pb ∨ fv.ownBlock = some k ∨ (∃ x ∈ fs, k = x.b ∨ k = x.t.g)) → k < n₀) :
    SeqStopsK F n Try.prog 37 #[.pointer (some ⟨Bs, 0, none⟩)] (fun x : Nat => #[Value.int .i64 (x : Int)]) (Below n₀) (fun ys => ys = loosePlaces fs) (fun pre => pre <+: loosePlaces fs) fs.length w := fun l J Jx W hW _ _ hY h0 => by
  have hB' : Blk W Bs 24 [.pointer (some ⟨pb, 0, none⟩)] := (hW.block Bs hBs.lt).trans hBs
  have hF' : FramesAt W pb v0 v1 fv fs := hF.below (n := w.heap.size) hW (fun k hk _ => hk)
  have hFn' : ∀ k, k < W.heap.size → (k = pb ∨ fv.ownBlock = some k ∨ (∃ x ∈ fs, k = x.b ∨ k = x.t.g)) → k < n₀ := by
    intro k hk h
    refine hFn k ?_ h
    rcases h with rfl | h | ⟨x, hx, rfl | rfl⟩
    · exact hF.blk.lt
    · exact hF.row.lt h
    · exact (hF.frm x hx).blk.lt
    · exact (hF.frm x hx).els.lt (k := x.t.g) rfl
  rcases hF'.row.cases with ⟨rfl, h1, h2⟩ | ⟨g, c, rfl⟩
  · have e : fs = [] := List.eq_nil_of_length_eq_zero h1
    subst e
    exact (loose1_nil_in F n h7 hro l Bs pb v0 v1 J W hB' hF'.blk h0).mono fun e W' ⟨he, hj⟩ => ⟨he, .inl ⟨_, rfl, hj⟩⟩
  · exact loose1_in F n h7 hro hn l Bs n₀ pb g c v0 v1 fs hlen J Jx hY W hB' hF' hB hFn' h0

end Go.Proofs.Ythjejgepdbonpaa
