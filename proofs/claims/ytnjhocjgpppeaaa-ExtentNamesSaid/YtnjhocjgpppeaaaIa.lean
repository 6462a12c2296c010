/-
  slices.Insert of one extent ahead of the end: in place where there is room, else in a new row.
-/
import Derived.Test.YtnjhocjgpppeaaaRows
import Derived.Test.YtnjhocjgpppeaaaHeap
import Derived.Shelf.Spec.SlicesInsertGrow
import Derived.Lib.AppendZerosOnto
import Derived.Deep.RegionLaw
import Derived.Lib.Hide
namespace Go.Proofs.Ytnjhocjgpppeaaa
open Go.RowKit Go.Shelf

theorem run_copy_z {P : Program} (w : World) (dT sT ty e : TypeId) (size b o dl dc : Nat) (a : Addr) (sn sc : Nat) (cs : List Value) (hu : P.underlying dT = some (.slice e)) (hsz : (sizeOf e).run P w = .ok size w)
    (hn : cs.length = Nat.min sn dl * size) (hcs : ∀ j v, cs[j]? = some v → w.cell? (a.add j) = some v) (hsp : ∀ j, j < cs.length → (w.cell? ⟨b, o + j, none⟩).isSome = true) (hfz : ∀ j, j < cs.length → w.frozen? ⟨b, o + j, none⟩ = false) (h1 : ∀ v ∈ cs, v.oneCell' = true) :
    (Builtin.copy_ #[dT, sT] ty #[.slice (some ⟨b, o, none⟩) dl dc, .slice (some a) sn sc]).run P w = .ok (goInt (Nat.min sn dl)) (w.setCells b o cs) := by
  have hl : (loadCells a (Nat.min sn dl * size)).run P w = .ok cs.toArray w := by rw [← hn]; exact run_loadCells_list (P := P) w a cs hcs
  have hst := run_storeCells_cells (P := P) b o cs 0 w (by simpa using hsp) (by simpa using hfz) h1
  simp only [Nat.add_zero] at hst
  unfold Builtin.copy_
  simp [run_underlying hu, Builtin.lenOf, hsz, Builtin.firstCells, hl, hst]

theorem blk_range {w : World} {b : Nat} {T : TypeId} {L : List Value} (h : Blk w b T L) (o k : Nat) : ∀ j v, ((L.drop o).take k)[j]? = some v → w.cell? ((⟨b, o, none⟩ : Addr).add j) = some v := fun j v hj => by
  rw [Addr.add_lit]
  rw [List.getElem?_take] at hj
  split at hj
  · rw [List.getElem?_drop] at hj
    exact h.cell hj
  · cases hj
theorem blk_some {w : World} {b : Nat} {T : TypeId} {L : List Value} (h : Blk w b T L) {j : Nat} (hj : j < L.length) : (w.cell? ⟨b, j, none⟩).isSome = true := by
  rw [h.cell (List.getElem?_eq_getElem hj)]; rfl

set_option maxHeartbeats 4000000 in
set_option maxRecDepth 100000 in
/-- There is room. -/
theorem insert_shift (w : World) (b d n c i : Nat) (L : List Value) (x0 x1 : Value) (hb : Blk w b 31 L) (hd : Blk w d 31 [x0, x1]) (hbd : d ≠ b) (hi : i < n) (hroom : n + 1 ≤ c) (hn31 : n ≤ 2147483648) (hL : L.length = c * 2)
    (h1 : ∀ v ∈ L.take (n * 2), v.oneCell' = true) (hx : ∀ v ∈ [x0, x1], v.oneCell' = true) :
    Calls Try.prog 45 #[.slice (some ⟨b, 0, none⟩) n c, .int .i64 i, .slice (some ⟨d, 0, none⟩) 1 1] w fun e w' =>
      e = .returned (.slice (some ⟨b, 0, none⟩) (n + 1) c) ∧ w' = (w.drew.setCells b ((i + 1) * 2) ((L.drop (i * 2)).take ((n - i) * 2))).setCells b (i * 2) [x0, x1] := by
  have hz2 : ¬ ((i : Int) = (n : Int)) := by omega
  have hz3 : ¬ ((c : Int) < (n : Int) + 1) := by omega
  have hsz : ∀ w, (sizeOf 31).run Try.prog w = .ok 2 w := fun _ => by kernel_rfl
  have hov : ∀ lb cb, (callFunc 46 #[.slice (some ⟨d, 0, none⟩) 1 1, .slice (some ⟨b, (i + 1) * 2, none⟩) lb cb]).run Try.prog w = .ok (.value (.bool false)) w := fun lb cb => by
    have hsa : w.shape? d = some (31, 2) := by
      have : w.heap[d]? = some (.cells [x0, x1].toArray 31 (0, 0)) := hd
      simp [World.shape?, this]
    have hsb : w.shape? b = some (31, c * 2) := by
      have : w.heap[b]? = some (.cells L.toArray 31 (0, 0)) := hb
      simp [World.shape?, this, hL]
    rw [run_callFunc_extern Try.func46 (by kernel_rfl) (by kernel_rfl) (by kernel_rfl) (e := Extern.SlicesOverlaps.overlaps #[26, 26] #[4]) (by kernel_rfl),
      Lib.run_overlaps_apart w 26 4 31 Try.underlying26 2 hsz ⟨d, 0, none⟩ ⟨b, (i + 1) * 2, none⟩ 1 1 lb cb hbd _ _ _ _ hsa hsb (by omega) (hd.free 0) (hd.free 2)]
    rfl
  have hcl : ((L.drop (i * 2)).take ((n - i) * 2)).length = (n - i) * 2 := by simp; omega
  have hw1 : IntKind.i64.wrap ((i : Int) + 1) = (i : Int) + 1 := by rw [IntKind.wrap_i64]; omega
  have hb1 : (0 : Int) ≤ (i : Int) + 1 := by omega
  have hin : i ≤ n := by omega
  have htn : ((i : Int) + 1).toNat = i + 1 := by omega
  have hb2 : ¬ (c = i + 1) := by omega
  have hb3 : (i : Int) ≤ (n : Int) + 1 := by omega
  have hb4 : ¬ (c = i) := by omega
  have hcp1 : ∀ ty dc sc, (Builtin.copy_ #[26, 26] ty #[.slice (some ⟨b, (i + 1) * 2, none⟩) (n - i) dc, .slice (some ⟨b, i * 2, none⟩) (n + 1 - i) sc]).run Try.prog w.drew = .ok (goInt (n - i : Nat)) (w.drew.setCells b ((i + 1) * 2) ((L.drop (i * 2)).take ((n - i) * 2))) := fun ty dc sc => by
    have hm : Nat.min (n + 1 - i) (n - i) = n - i := by simp only [Nat.min_def]; split <;> omega
    have := run_copy_z (P := Try.prog) w.drew 26 26 ty 31 2 b ((i + 1) * 2) (n - i) dc ⟨b, i * 2, none⟩ (n + 1 - i) sc ((L.drop (i * 2)).take ((n - i) * 2)) Try.underlying26 (hsz _)
      (by rw [hm, hcl]) (blk_range hb.drew _ _) (fun j hj => blk_some hb.drew (by omega)) (fun j hj => hb.drew.free _) (fun v hv => h1 v (by
        rw [show n * 2 = i * 2 + (n - i) * 2 by omega, List.take_add]
        exact List.mem_append.2 (.inr hv)))
    rw [hm] at this
    exact this
  obtain ⟨W1, hW1⟩ : ∃ W1, W1 = w.drew.setCells b ((i + 1) * 2) ((L.drop (i * 2)).take ((n - i) * 2)) := ⟨_, rfl⟩
  have hB1 : Blk W1 b 31 (L.take ((i + 1) * 2) ++ (L.drop (i * 2)).take ((n - i) * 2) ++ L.drop ((i + 1) * 2 + ((L.drop (i * 2)).take ((n - i) * 2)).length)) := by rw [hW1]; exact Blk.setCells ((L.drop (i * 2)).take ((n - i) * 2)) ((i + 1) * 2) hb.drew (by omega)
  have hB1l : (L.take ((i + 1) * 2) ++ (L.drop (i * 2)).take ((n - i) * 2) ++ L.drop ((i + 1) * 2 + ((L.drop (i * 2)).take ((n - i) * 2)).length)).length = c * 2 := by simp; omega
  have hD1 : Blk W1 d 31 [x0, x1] := by
    have hfr : Fr (fun k => k = b) w.drew (w.drew.setCells b ((i + 1) * 2) ((L.drop (i * 2)).take ((n - i) * 2))) := Fr.setCells _ _ (Fr.refl _ _) (.inl rfl)
    rw [hW1]
    exact hd.drew.fr hfr hbd
  have hcp2 : ∀ ty dc, (Builtin.copy_ #[26, 26] ty #[.slice (some ⟨b, i * 2, none⟩) (n + 1 - i) dc, .slice (some ⟨d, 0, none⟩) 1 1]).run Try.prog W1 = .ok (goInt (1 : Nat)) (W1.setCells b (i * 2) [x0, x1]) := fun ty dc => by
    have hm : Nat.min 1 (n + 1 - i) = 1 := by simp only [Nat.min_def]; split <;> omega
    have := run_copy_z (P := Try.prog) W1 26 26 ty 31 2 b (i * 2) (n + 1 - i) dc ⟨d, 0, none⟩ 1 1 [x0, x1] Try.underlying26 (hsz _)
      (by rw [hm]; rfl) (fun j v hj => by simpa using blk_range hD1 0 2 j v (by simpa using hj)) (fun j hj => blk_some hB1 (by rw [hB1l]; simp at hj; omega)) (fun j hj => hB1.free _) hx
    rw [hm] at this
    exact this
  rw [← hW1] at hcp1
  have HB := Lib.hid hb
  have HD := Lib.hid hd
  have HL := Lib.hid hL
  have HW := Lib.hid hW1
  clear hb hd hL hW1 hB1 hB1l hD1 h1 hx hcl
  go_enter Try.func45, Try.ntmps45
  go_wp2_with (simp only [hov])
  go_region_law (refine step_copy_runI rfl _ _ 26 26 rfl _ _ (by simp [Act.eval, Act.put]) (by simp [Act.eval, Act.put]) (hcp1 _ _ _) ?_)
  go_wp2_with (at_builtin; refine wpList_copy_runI _ rfl _ _ 26 26 rfl _ _ rfl rfl (hcp2 _ _) ?_)
  go_ret
  exact ⟨rfl, by rw [HW.out]⟩

/-- The new row of 'append(s[:i], make([]Extent, k)...)'. -/
def zrow (L : List Value) (i k : Nat) : List Value := L.take (i * 2) ++ (Builtin.zeroCells (Value.cells (.agg #[.int .i64 0, .int .i64 0])) k).toList

set_option maxHeartbeats 4000000 in
set_option maxRecDepth 100000 in
/-- There is no room. -/
theorem insert_grow (w : World) (b d n c i : Nat) (L : List Value) (x0 x1 : Value) (hb : Blk w b 31 L) (hd : Blk w d 31 [x0, x1]) (hi : i < n) (hnc : n ≤ c) (hroom : c < n + 1) (hbig : (n + 1) * 16 ≤ 140737488355328) (hL : L.length = c * 2)
    (h1 : ∀ v ∈ L.take (n * 2), v.oneCell' = true) (hx : ∀ v ∈ [x0, x1], v.oneCell' = true) :
    Calls Try.prog 45 #[.slice (some ⟨b, 0, none⟩) n c, .int .i64 i, .slice (some ⟨d, 0, none⟩) 1 1] w fun e w' =>
      ∃ (G : Nat) (R : List Value), n + 1 ≤ G ∧ G ≤ maxLen ∧ R.length = G * 2 ∧ R.take (i * 2) = L.take (i * 2) ∧ e = .returned (.slice (some ⟨w.heap.size, 0, none⟩) (n + 1) G) ∧
      w' = (((w.alloc (.cells R.toArray 31)).drew.setCells w.heap.size (i * 2) [x0, x1]).drew).setCells w.heap.size ((i + 1) * 2) ((L.drop (i * 2)).take ((n - i) * 2)) := by
  obtain ⟨i0, hi0, hz0, hzs, hzb⟩ := info_parts (P := Try.prog) (e := 31) (z := .agg #[.int .i64 0, .int .i64 0]) (size := 2) (bytes := 16) (by kernel_rfl)
  have hz2 : ¬ ((i : Int) = (n : Int)) := by omega
  have hz3 : (c : Int) < (n : Int) + 1 := by omega
  have hsz : ∀ w, (sizeOf 31).run Try.prog w = .ok 2 w := fun _ => by kernel_rfl
  have hbw : b < w.heap.size := hb.lt
  have hdw : d < w.heap.size := hd.lt
  have hkk : (n : Int) + 1 - (i : Int) = ((n + 1 - i : Nat) : Int) := by omega
  have hik : i + (n + 1 - i) = n + 1 := by omega
  have hold : (Builtin.firstCells i0.size i (.slice (some ⟨b, 0, none⟩) i c)).run Try.prog w.drew = .ok (L.take (i * 2)).toArray w.drew := by
    rw [hzs]
    exact run_firstCells_some w.drew 2 i ⟨b, 0, none⟩ i c (L.take (i * 2)) (by rw [List.length_take]; omega) (fun j v hj => by
      have := blk_range hb.drew 0 (i * 2) j v (by simpa using hj)
      simpa using this)
  have hrz : ∀ ty, ∃ (G : Nat) (R : List Value), n + 1 ≤ G ∧ G ≤ maxLen ∧ R.length = G * 2 ∧ R.take (i * 2) = L.take (i * 2) ∧ (Builtin.append_ #[26, 3] ty #[.slice (some ⟨b, 0, none⟩) i c, .int .i64 ((n : Int) + 1 - (i : Int))]).run Try.prog w =
      .ok (.slice (some ⟨w.heap.size, 0, none⟩) (n + 1) G) (w.drew.alloc (.cells R.toArray 31)) := fun ty => by
    have h := Lib.run_append_grow_zeros w 26 3 ty 31 i0 _ .i64 .i64 Try.underlying26 Try.underlying3 hi0 hz0 (some ⟨b, 0, none⟩) i c (L.take (i * 2)) hold (n + 1 - i) (by omega) (by omega) (by omega) (by omega) (by rw [hzb]; omega) (by rw [hzb, hik]; exact growslice_fits hroom hbig)
    rw [hik] at h
    rw [hkk]
    refine ⟨grownCap w (n + 1) c 31, zrow L i (n + 1 - i) ++ (Builtin.zeroCells (Value.cells (.agg #[.int .i64 0, .int .i64 0])) (grownCap w (n + 1) c 31 - (n + 1))).toList, grownCap_ge w _ _ _, grownCap_le_maxLen w (n + 1) c _ (by unfold maxLen; omega), ?_, ?_, ?_⟩
    · have := grownCap_ge w (n + 1) c 31
      simp [zrow, Builtin.zeroCells, Value.cells]
      omega
    · rw [zrow, List.append_assoc, List.take_append_of_le_length (by rw [List.length_take]; omega), List.take_take, Nat.min_self]
    · rw [h, zrow]
      congr 3
      apply Array.toList_inj.1
      simp
  obtain ⟨G, R, hG, hGm, hRl, hRt, hrz⟩ : ∃ (G : Nat) (R : List Value), n + 1 ≤ G ∧ G ≤ maxLen ∧ R.length = G * 2 ∧ R.take (i * 2) = L.take (i * 2) ∧ ∀ ty, (Builtin.append_ #[26, 3] ty #[.slice (some ⟨b, 0, none⟩) i c, .int .i64 ((n : Int) + 1 - (i : Int))]).run Try.prog w =
      .ok (.slice (some ⟨w.heap.size, 0, none⟩) (n + 1) G) (w.drew.alloc (.cells R.toArray 31)) := by
    obtain ⟨G, R, hG, hGm, hRl, hRt, hr⟩ := hrz 0
    exact ⟨G, R, hG, hGm, hRl, hRt, fun ty => hr⟩
  have hG63 : G ≤ 9223372036854775807 := by unfold maxLen at hGm; omega
  have hcl : ((L.drop (i * 2)).take ((n - i) * 2)).length = (n - i) * 2 := by simp; omega
  have hbN : b ≠ w.heap.size := by omega
  have hdN : d ≠ w.heap.size := by omega
  have hcpA : ∀ (W : World), Blk W w.heap.size 31 R → Blk W d 31 [x0, x1] → ∀ ty dc, (Builtin.copy_ #[26, 26] ty #[.slice (some ⟨w.heap.size, i * 2, none⟩) (n + 1 - i) dc, .slice (some ⟨d, 0, none⟩) 1 1]).run Try.prog W = .ok (goInt (1 : Nat)) (W.setCells w.heap.size (i * 2) [x0, x1]) := fun W hN hD ty dc => by
    have hm : Nat.min 1 (n + 1 - i) = 1 := by simp only [Nat.min_def]; split <;> omega
    have := run_copy_z (P := Try.prog) W 26 26 ty 31 2 w.heap.size (i * 2) (n + 1 - i) dc ⟨d, 0, none⟩ 1 1 [x0, x1] Try.underlying26 (hsz _)
      (by rw [hm]; rfl) (fun j v hj => by simpa using blk_range hD 0 2 j v (by simpa using hj)) (fun j hj => blk_some hN (by rw [hRl]; simp at hj; omega)) (fun j hj => hN.free _) hx
    rw [hm] at this
    exact this
  have hcpB : ∀ (W : World) (R' : List Value), Blk W w.heap.size 31 R' → R'.length = G * 2 → Blk W b 31 L → ∀ ty dc sc, (Builtin.copy_ #[26, 26] ty #[.slice (some ⟨w.heap.size, (i + 1) * 2, none⟩) (n - i) dc, .slice (some ⟨b, i * 2, none⟩) (n - i) sc]).run Try.prog W = .ok (goInt (n - i : Nat)) (W.setCells w.heap.size ((i + 1) * 2) ((L.drop (i * 2)).take ((n - i) * 2))) := fun W R' hN hR' hB ty dc sc => by
    have hm : Nat.min (n - i) (n - i) = n - i := Nat.min_self _
    have := run_copy_z (P := Try.prog) W 26 26 ty 31 2 w.heap.size ((i + 1) * 2) (n - i) dc ⟨b, i * 2, none⟩ (n - i) sc ((L.drop (i * 2)).take ((n - i) * 2)) Try.underlying26 (hsz _)
      (by rw [hm, hcl]) (blk_range hB _ _) (fun j hj => blk_some hN (by omega)) (fun j hj => hN.free _) (fun v hv => h1 v (by
        rw [show n * 2 = i * 2 + (n - i) * 2 by omega, List.take_add]
        exact List.mem_append.2 (.inr hv)))
    rw [hm] at this
    exact this
  have hN0 : Blk ((w.alloc (.cells R.toArray 31)).drew) w.heap.size 31 R := Blk.new w _ R
  have hD0 : Blk ((w.alloc (.cells R.toArray 31)).drew) d 31 [x0, x1] := hd.alloc _
  have hN1 := Blk.setCells [x0, x1] (i * 2) hN0 (by rw [hRl]; simp; omega)
  have hN1l : (R.take (i * 2) ++ [x0, x1] ++ R.drop (i * 2 + [x0, x1].length)).length = G * 2 := by simp; omega
  have hB1 : Blk (((w.alloc (.cells R.toArray 31)).drew).setCells w.heap.size (i * 2) [x0, x1]) b 31 L :=
    (hb.alloc _).drew.fr (S := fun k => k = w.heap.size) (Fr.setCells _ _ (Fr.refl _ _) (.inl rfl)) hbN
  have hA := hcpA _ hN0 hD0
  have hB := hcpB _ _ (Blk.drew hN1) hN1l (Blk.drew hB1)
  have hw1 : IntKind.i64.wrap ((i : Int) + 1) = (i : Int) + 1 := by rw [IntKind.wrap_i64]; omega
  have hb1 : (0 : Int) ≤ (i : Int) + 1 := by omega
  have hin : i ≤ n := by omega
  have htn : ((i : Int) + 1).toNat = i + 1 := by omega
  have hb3 : (i : Int) ≤ (n : Int) := by omega
  have hGi : ¬ (G = i) := by omega
  have hGim : ¬ (G = i + 1) := by omega
  have hci : ¬ (c = i) := by omega
  have HB := Lib.hid hb
  have HD := Lib.hid hd
  have HL := Lib.hid hL
  have HR := Lib.hid hRl
  have HT := Lib.hid hRt
  have HG := Lib.hid hGm
  have HG1 := Lib.hid hG
  clear hb hd hL hRl hRt hN0 hD0 hN1 hN1l hB1 h1 hx hcl hcpA hcpB hold hkk hik hGm
  go_enter Try.func45, Try.ntmps45
  go_wp2_with (first
    | (at_builtin; refine Lib.wpList_append_run _ rfl _ _ _ _ rfl _ _ rfl rfl _ _ (hrz _) ?_)
    | (at_builtin; refine wpList_copy_runI _ rfl _ _ 26 26 rfl _ _ rfl rfl (hA _ _) ?_)
    | (at_builtin; refine wpList_copy_runI _ rfl _ _ 26 26 rfl _ _ rfl rfl (hB _ _ _) ?_))
  go_region_law (refine step_copy_runI rfl _ _ 26 26 rfl _ _ (by simp [Act.eval, Act.put]) (by simp [Act.eval, Act.put]) (hB _ _ _) ?_)
  go_wp2
  go_ret
  exact ⟨G, R, HG1.out, HG.out, HR.out, HT.out, rfl, rfl⟩
end Go.Proofs.Ytnjhocjgpppeaaa
