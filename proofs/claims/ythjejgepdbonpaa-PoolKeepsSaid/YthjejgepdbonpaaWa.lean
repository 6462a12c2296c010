/-
  Plain facts on the pool's smallest functions: none, key, clone, twin.
-/
import Derived.Test.YthjejgepdbonpaaHeap
import Derived.Deep.QuietTactic
import Derived.BigQuiet
import Derived.RegionTactic
import Derived.BigRegion
namespace Go.Proofs.Ythjejgepdbonpaa
open Go.RowKit

set_option maxHeartbeats 400000 in
theorem none_no (b : Nat) (t : TypeId) (v : Value) (w : World) (h : w.cell? ⟨b, 1, none⟩ = some (.iface t v)) :
    Calls Try.prog 22 #[.pointer (some ⟨b, 0, none⟩)] w fun e w' => e = .returned (.bool false) ∧ w = w' := by
  go_enter Try.func22, Try.ntmps22
  go_wp2
  go_ret
  exact ⟨rfl, rfl⟩

set_option maxHeartbeats 400000 in
theorem none_yes (b : Nat) (w : World) (h : w.cell? ⟨b, 1, none⟩ = some .nilIface) :
    Calls Try.prog 22 #[.pointer (some ⟨b, 0, none⟩)] w fun e w' => e = .returned (.bool true) ∧ w = w' := by
  go_enter Try.func22, Try.ntmps22
  go_wp2
  go_ret
  exact ⟨rfl, rfl⟩

set_option maxHeartbeats 400000 in
theorem none_nil (w : World) :
    Calls Try.prog 22 #[.pointer none] w fun e w' => e = .returned (.bool true) ∧ w = w' := by
  go_enter Try.func22, Try.ntmps22
  go_wp2
  go_ret
  exact ⟨rfl, rfl⟩

set_option maxHeartbeats 400000 in
theorem key_any (b : Nat) (x y : Int) (w : World) (hb : b < w.heap.size) (h0 : w.cell? ⟨b, 0, none⟩ = some (.int .i64 x)) (h1 : w.cell? ⟨b, 1, none⟩ = some (.int .i64 y)) :
    Calls Try.prog 27 #[.pointer (some ⟨b, 0, none⟩)] w fun e w' => e = .returned (.agg #[.int .i64 x, .int .i64 y]) ∧ Fr No w w' := by
  go_enter Try.func27, Try.ntmps27
  go_wp2
  go_region
  all_goals go_wp2
  all_goals refine bodyPost_ret (v := .agg #[.int .i64 x, .int .i64 y]) (by simp [results, Try.results27, go_sem]) rfl ⟨rfl, ?_⟩
  all_goals exact ((Fr.refl _ _).alloc _).drew

theorem Try.infoInt : (Try.prog.info? 2).map (fun i => (i.zero, i.size, i.bytes)) = some (some (.int .i64 0), 1, 8) := by kernel_rfl

theorem Try.eqI (w : World) (a : Option Addr) (n c n' c' : Nat) : (binOp .eql 41 (.slice a n c) (.slice none n' c')).run Try.prog w = .ok (.bool a.isNone) w :=
  Lib.run_eql_slice_nil w 41 2 a n c n' c' Try.underlying41

set_option maxHeartbeats 400000 in
theorem clone_nil (w : World) :
    Calls Try.prog 35 #[.slice none 0 0] w fun e w' => e = .returned (.slice none 0 0) ∧ w = w' := by
  have hnil := Try.eqI
  go_enter Try.func35, Try.ntmps35
  go_wp2
  go_ret
  exact ⟨rfl, rfl⟩

/-- What a clone comes to: new memory that holds the same. -/
def Cloned (T : TypeId) (n : Nat) (xs : List Value) (w : World) (e : Ending) (w' : World) : Prop :=
  ∃ v g c, e = .returned v ∧ v = .slice (some ⟨g, 0, none⟩) n c ∧ Own w' T 1 v n xs ∧ w.heap.size ≤ g ∧ Fr No w w'

theorem ints_one (xs : List Int) : ∀ u ∈ xs.map (Value.int .i64), u.oneCell' = true := by
  intro u hu
  obtain ⟨x, _, rfl⟩ := List.mem_map.1 hu
  rfl

set_option maxHeartbeats 400000 in
theorem clone_some (g n c : Nat) (xs : List Int) (w : World) (ho : Own w 2 1 (.slice (some ⟨g, 0, none⟩) n c) n (xs.map (Value.int .i64))) (hb : n * 8 ≤ 140737488355328) :
    Calls Try.prog 35 #[.slice (some ⟨g, 0, none⟩) n c] w (Cloned 2 n (xs.map (Value.int .i64)) w) := by
  have hnil := Try.eqI
  obtain ⟨i0, hi, hz0, hz1, hz2⟩ := info_parts Try.infoInt
  have hm : Hid (World.ownsRow (w.alloc (.cells #[] 2)) w.heap.size 2 1 (.slice (some ⟨w.heap.size, 0, none⟩) 0 0) 0 []) := World.ownsRow_made w #[] 0 (Nat.le_refl _) (Nat.zero_le _) rfl
  have hc : Hid (∀ j u, (xs.map (Value.int .i64))[j]? = some u → (w.alloc (.cells #[] 2)).cell? ((⟨g, 0, none⟩ : Addr).add j) = some u) := fun j u hu => (ho.alloc _).cells (g := g) rfl j u hu
  have hl : Hid ((xs.map (Value.int .i64)).length = n * 1) := ho.1
  have HK : Hid (∀ u ∈ xs.map (Value.int .i64), u.oneCell' = true) := ints_one xs
  go_enter Try.func35, Try.ntmps35
  go_wp2_with (at_builtin; refine wpList_append_own _ rfl (.tmp 5) (.tmp 6) 41 rfl w.heap.size 2 i0 (.int .i64 0) 1 8 Try.underlying41 hi hz0 hz1 hz2 rfl (by decide) _ 0 [] rfl hm.out ⟨g, 0, none⟩ n c (xs.map (Value.int .i64)) rfl hl.out hc.out HK.out ?b1 ?b2 ?b3 ?_)
  case b1 => unfold maxLen; omega
  case b2 => omega
  case b3 => simp
  intro v' w' hown hg hnone
  go_wp2
  go_ret
  rcases hown.2 with ⟨h2, h3⟩ | ⟨g', cap, cur, hv, hbg, hgg, r⟩
  · exact absurd h2 hnone
  · refine ⟨v', g', cap, rfl, by simpa using hv, by simpa using Own.weak hown, hbg, ?_⟩
    exact ((Fr.refl No w).alloc _).grown hg (fun k hk => by simp [Value.ownBlock] at hk; omega)

/-- What 'twin' comes to: the tile with elements in new memory. -/
def Twinned (T : TypeId) (f n k : Int) (m : Nat) (xs : List Value) (w : World) (e : Ending) (w' : World) : Prop :=
  ∃ g c, e = .returned (.agg #[.int .i64 f, .int .i64 n, .int .i64 k, .slice (some ⟨g, 0, none⟩) m c]) ∧ Own w' T 1 (.slice (some ⟨g, 0, none⟩) m c) m xs ∧ w.heap.size ≤ g ∧ Fr No w w'

set_option maxHeartbeats 400000 in
theorem twin_some (f n k : Int) (g m c : Nat) (xs : List Int) (w : World) (ho : Own w 2 1 (.slice (some ⟨g, 0, none⟩) m c) m (xs.map (Value.int .i64))) (hb : m * 8 ≤ 140737488355328) :
    Calls Try.prog 26 #[.agg #[.int .i64 f, .int .i64 n, .int .i64 k, .slice (some ⟨g, 0, none⟩) m c]] w (Twinned 2 f n k m (xs.map (Value.int .i64)) w) := by
  go_enter Try.func26, Try.ntmps26
  go_wp2_with fail
  refine (clone_some g m c xs _ ((ho.alloc _).alloc _) hb).mono ?_
  rintro e w1 ⟨v, g', c', rfl, rfl, h1, h2, h3⟩
  have hz := h3.size
  simp at hz h2
  have s0 : w.heap.size < w1.heap.size := by omega
  have s1 : w.heap.size + 1 < w1.heap.size := by omega
  have b0 : Blk w1 w.heap.size 43 [.int .i64 f, .int .i64 n, .int .i64 k, .slice (some ⟨g, 0, none⟩) m c] := ((Blk.new w _ _).alloc _).fr h3 (No.no _)
  have b1 : Blk w1 (w.heap.size + 1) 43 [.int .i64 0, .int .i64 0, .int .i64 0, .slice none 0 0] := (by simpa using Blk.new (w.alloc (.cells #[.int .i64 f, .int .i64 n, .int .i64 k, .slice (some ⟨g, 0, none⟩) m c] 43)) 43 [.int .i64 0, .int .i64 0, .int .i64 0, .slice none 0 0] : Blk _ _ _ _).fr h3 (No.no _)
  have c0 := b0.cell (j := 0) rfl
  have c1 := b0.cell (j := 1) rfl
  have c2 := b0.cell (j := 2) rfl
  have c3 := b0.cell (j := 3) rfl
  have d0 := b1.cell (j := 0) rfl
  have d1 := b1.cell (j := 1) rfl
  have d2 := b1.cell (j := 2) rfl
  have d3 := b1.cell (j := 3) rfl
  have f0 := b0.free
  have f1 := b1.free
  go_wp2
  refine bodyPost_ret (v := .agg #[.int .i64 f, .int .i64 n, .int .i64 k, .slice (some ⟨g', 0, none⟩) m c']) (by simp [results, Try.results26, go_sem, s0, s1, c0, c1, c2, d0, d1, d2, d3]) rfl ⟨g', c', rfl, ?_, by omega, ?_⟩
  · exact ((((h1.other (by simp [Value.ownBlock]; omega) _).other (by simp [Value.ownBlock]; omega) _).other (by simp [Value.ownBlock]; omega) _).other (by simp [Value.ownBlock]; omega) _).other (by simp [Value.ownBlock]; omega) _
  · exact ((((((((Fr.refl No w).alloc _).alloc _).thn h3).setCell (.inr (by simp)) _).setCell (.inr (by simp)) _).setCell (.inr (by simp)) _).setCell (.inr (by simp)) _).setCell (.inr (by simp)) _

set_option maxHeartbeats 400000 in
theorem rtwin_some (f n k : Int) (g m c : Nat) (xs : List Int) (w : World) (ho : Own w 2 1 (.slice (some ⟨g, 0, none⟩) m c) m (xs.map (Value.int .i64))) (hb : m * 8 ≤ 140737488355328) (h0 : 0 < m) :
    Calls Try.prog 57 #[.agg #[.int .i64 f, .int .i64 n, .int .i64 k, .slice (some ⟨g, 0, none⟩) m c]] w (Twinned 2 f n k m (xs.map (Value.int .i64)) w) := by
  obtain ⟨i0, hi, hz0, hz1, hz2⟩ := info_parts Try.infoInt
  have hc : Hid (∀ j u, (xs.map (Value.int .i64))[j]? = some u → ((w.alloc (.cells #[.int .i64 f, .int .i64 n, .int .i64 k, .slice (some ⟨g, 0, none⟩) m c] 43)).alloc (.cells #[.int .i64 0, .int .i64 0, .int .i64 0, .slice none 0 0] 43)).cell? ((⟨g, 0, none⟩ : Addr).add j) = some u) := fun j u hu => ((ho.alloc _).alloc _).cells (g := g) rfl j u hu
  have hl : Hid ((xs.map (Value.int .i64)).length = m * 1) := ho.1
  have HK : Hid (∀ u ∈ xs.map (Value.int .i64), u.oneCell' = true) := ints_one xs
  go_enter Try.func57, Try.ntmps57
  go_wp2_with (at_builtin; refine wpList_append_own _ rfl (.tmp 4) (.tmp 6) 41 rfl (w.heap.size + 2) 2 i0 (.int .i64 0) 1 8 Try.underlying41 hi hz0 hz1 hz2 rfl (by decide) _ 0 [] rfl (World.ownsRow_nil _ _ _ _) ⟨g, 0, none⟩ m c (xs.map (Value.int .i64)) rfl hl.out hc.out HK.out ?b1 ?b2 ?b3 ?_)
  case b1 => unfold maxLen; omega
  case b2 => omega
  case b3 => simp
  intro v' w1 hown hg hnone
  have h3 : Fr No ((w.alloc (.cells #[.int .i64 f, .int .i64 n, .int .i64 k, .slice (some ⟨g, 0, none⟩) m c] 43)).alloc (.cells #[.int .i64 0, .int .i64 0, .int .i64 0, .slice none 0 0] 43)) w1 := (Fr.refl No _).grown hg (fun k hk => by simp [Value.ownBlock] at hk)
  obtain ⟨g', c', rfl, h2⟩ : ∃ g' c', v' = .slice (some ⟨g', 0, none⟩) m c' ∧ w.heap.size + 2 ≤ g' := by
    rcases hown.2 with ⟨h2, h3⟩ | ⟨g', cap, cur, hv, hbg, hgg, r⟩
    · omega
    · exact ⟨g', cap, by simpa using hv, hbg⟩
  have h1 : Own w1 2 1 (.slice (some ⟨g', 0, none⟩) m c') m (xs.map (Value.int .i64)) := by simpa using Own.weak hown
  have hz := h3.size
  simp at hz
  have s0 : w.heap.size < w1.heap.size := by omega
  have s1 : w.heap.size + 1 < w1.heap.size := by omega
  have b0 : Blk w1 w.heap.size 43 [.int .i64 f, .int .i64 n, .int .i64 k, .slice (some ⟨g, 0, none⟩) m c] := ((Blk.new w _ _).alloc _).fr h3 (No.no _)
  have b1 : Blk w1 (w.heap.size + 1) 43 [.int .i64 0, .int .i64 0, .int .i64 0, .slice none 0 0] := (by simpa using Blk.new (w.alloc (.cells #[.int .i64 f, .int .i64 n, .int .i64 k, .slice (some ⟨g, 0, none⟩) m c] 43)) 43 [.int .i64 0, .int .i64 0, .int .i64 0, .slice none 0 0] : Blk _ _ _ _).fr h3 (No.no _)
  have c0 := b0.cell (j := 0) rfl
  have c1 := b0.cell (j := 1) rfl
  have c2 := b0.cell (j := 2) rfl
  have c3 := b0.cell (j := 3) rfl
  have d0 := b1.cell (j := 0) rfl
  have d1 := b1.cell (j := 1) rfl
  have d2 := b1.cell (j := 2) rfl
  have d3 := b1.cell (j := 3) rfl
  have f0 := b0.free
  have f1 := b1.free
  go_wp2
  refine bodyPost_ret (v := .agg #[.int .i64 f, .int .i64 n, .int .i64 k, .slice (some ⟨g', 0, none⟩) m c']) (by simp [results, Try.results57, go_sem, s0, s1, c0, c1, c2, d0, d1, d2, d3]) rfl ⟨g', c', rfl, ?_, by omega, ?_⟩
  · exact ((((h1.other (by simp [Value.ownBlock]; omega) _).other (by simp [Value.ownBlock]; omega) _).other (by simp [Value.ownBlock]; omega) _).other (by simp [Value.ownBlock]; omega) _).other (by simp [Value.ownBlock]; omega) _
  · exact ((((((((Fr.refl No w).alloc _).alloc _).thn h3).setCell (.inr (by simp)) _).setCell (.inr (by simp)) _).setCell (.inr (by simp)) _).setCell (.inr (by simp)) _).setCell (.inr (by simp)) _

end Go.Proofs.Ythjejgepdbonpaa
