/-
  What deleting a frame and making it the last one used comes to.
-/
import Derived.Test.YthjejgepdbonpaaWb
import Derived.Deep.RegionLaw
import Derived.Lib.SliceRun
import Derived.Lib.Hide
namespace Go.Proofs.Ythjejgepdbonpaa
open Go.RowKit

theorem Try.infoPF : (Try.prog.info? 68).map (fun i => (i.zero, i.size, i.bytes)) = some (some (.pointer none), 1, 8) := by kernel_rfl
theorem Try.zeroPF (w : World) : (zeroValue 68).run Try.prog w = .ok (.pointer none) w := by kernel_rfl

/-- The cells behind place i, moved one down. -/
def rest (xs : List Value) (i : Nat) : List Value := xs.drop (i + 1)

set_option maxHeartbeats 1600000 in
set_option maxRecDepth 100000 in
theorem delete_any (g n c i : Nat) (xs : List Value) (w : World) (ho : Own w 68 1 (.slice (some ⟨g, 0, none⟩) n c) n xs) (hone : ∀ u ∈ xs, u.oneCell' = true) (hi : i < n) (hm : n ≤ 1000000) :
    Calls Try.prog 31 #[.slice (some ⟨g, 0, none⟩) n c, .int .i64 i, .int .i64 (i + 1)] w fun e w' =>
      e = .returned (.slice (some ⟨g, 0, none⟩) (n - 1) c) ∧ Own w' 68 1 (.slice (some ⟨g, 0, none⟩) (n - 1) c) (n - 1) (xs.eraseIdx i) ∧ Fr (fun k => k = g) w w' := by
  obtain ⟨sp, hB, hx1, hx2, hn, hc⟩ := ho.blk
  obtain ⟨i0, hi0, hz0, hz1, hz2⟩ := info_parts Try.infoPF
  simp only [Nat.mul_one] at hx1 hx2
  obtain ⟨A, hA, hnews⟩ : ∃ A : Addr, (if c = i + 1 then some (⟨g, 0, none⟩ : Addr) else some ⟨g, i + 1, none⟩) = some A ∧ Hid (∀ j u, (rest xs i)[j]? = some u → w.drew.cell? (A.add j) = some u) := by
    by_cases h : c = i + 1
    · refine ⟨⟨g, 0, none⟩, by simp [h], fun j u hu => ?_⟩
      have h0 : (rest xs i).length = 0 := by simp [rest]; omega
      rw [List.length_eq_zero_iff.1 h0] at hu
      simp at hu
    · refine ⟨⟨g, i + 1, none⟩, by simp [h], fun j u hu => ?_⟩
      rw [Addr.add_lit]
      refine hB.drew.cell ?_
      simp only [rest, List.getElem?_drop] at hu
      rw [List.getElem?_append_left (by have := (List.getElem?_eq_some_iff.1 hu).1; omega)]
      exact hu
  have s1 : Hid ((rest xs i).length = (n - (i + 1)) * 1) := by simp [rest, Hid]; omega
  have s2 : Hid (∀ u ∈ rest xs i, u.oneCell' = true) := fun u hu => hone u (List.mem_of_mem_drop hu)
  have s3 : Hid (∀ j, j < (rest xs i).length → (w.drew.cell? ⟨g, 0 + i * 1 + j, none⟩).isSome = true ∧ w.drew.frozen? ⟨g, 0 + i * 1 + j, none⟩ = false) := by
    intro j hj
    refine ⟨?_, hB.drew.free _⟩
    have hj' : 0 + i * 1 + j < (xs ++ sp).length := by simp [rest] at hj ⊢; omega
    rw [hB.drew.cell (List.getElem?_eq_getElem hj')]
    rfl
  have hic : i ≤ c := by omega
  have hwr : IntKind.i64.wrap ((i : Int) + 1) = (i : Int) + 1 := by rw [IntKind.wrap_i64]; omega
  have hp0 : (0 : Int) ≤ (i : Int) + 1 := by omega
  have hp1 : (i : Int) + 1 ≤ (n : Int) := by omega
  have hp2 : ((i : Int) + 1).toNat = i + 1 := by omega
  have hne : ((i : Int) == (i : Int) + 1) = false := by simp; omega
  have hl1 : i + (rest xs i).length ≤ (xs ++ sp).length := by simp [rest]; omega
  have hB1 := Blk.setCells (rest xs i) i hB.drew hl1
  have hmn : i + (n - (i + 1)) = n - 1 := by omega
  have hln : ((xs ++ sp).take i ++ rest xs i ++ (xs ++ sp).drop (i + (rest xs i).length)).length = c := by
    rw [List.length_append, List.length_append, List.length_take, List.length_drop, Nat.min_eq_left (by omega)]; omega
  have hcl := Lib.run_clear_slice (P := Try.prog) (w.drew.setCells g i (rest xs i)) 62 68 0 (.pointer none) Try.underlying62 Try.zeroPF rfl rfl g (i + (n - (i + 1))) (n - (i + (n - (i + 1)))) (c - (i + (n - (i + 1)))) (by omega)
    (by
      intro j hj
      rw [hB1.cell (List.getElem?_eq_getElem (by rw [hln]; omega))]
      rfl) (by intro j hj; exact hB1.free _)
  have HL1 := Lib.hid hl1
  have HMN := Lib.hid hmn
  have HLN := Lib.hid hln
  have HX1 := Lib.hid hx1
  have HX2 := Lib.hid hx2
  clear hl1 hmn hln hx1 hx2
  clear hone ho
  go_enter Try.func31, Try.ntmps31
  go_wp2_with fail
  go_region_law (refine step_append_room rfl (.tmp 22) (.tmp 25) 62 rfl 68 i0 1 Try.underlying62 hi0 hz1 g 0 i c (by simp [Act.eval, Act.put]) A (n - (i + 1)) (c - (i + 1)) (rest xs i) (by simp [Act.eval, Act.put]) s1.out hnews.out s2.out (by omega) s3.out ?_)
  all_goals go_wp2
  all_goals go_ret
  all_goals
    have e1 : (xs ++ sp).take i ++ rest xs i ++ (xs ++ sp).drop (i + (rest xs i).length) = xs.eraseIdx i ++ (xs ++ sp).drop (n - 1) := by
      have hl := HX1.out
      have ha : (xs ++ sp).take i = xs.take i := by rw [List.take_append_of_le_length (by omega)]
      have hb : i + (rest xs i).length = n - 1 := by simp [rest]; omega
      rw [ha, hb, List.eraseIdx_eq_take_drop_succ]
      simp [rest]
    have e2 : n - (i + (n - (i + 1))) = 1 := by omega
    have e3 : (xs.eraseIdx i).length = n - 1 := by rw [List.length_eraseIdx]; have := HX1.out; split <;> omega
    have hB2 := hB1
    rw [e1] at hB2
    have hB3 := Blk.setCells [.pointer none] (n - 1) hB2 (by have := HX2.out; simp at this ⊢; omega)
    rw [List.take_append_of_le_length (by omega), List.take_of_length_le (by omega), List.append_assoc] at hB3
    rw [e2, HMN.out]
    refine ⟨rfl, Own.of_blk hB3 (by omega) ?_ (by omega) hc, ?_⟩
    · have := HX2.out
      simp at this ⊢
      omega
    · exact (((Fr.refl (fun k => k = g) w).drew).setCells _ _ (.inl rfl)).setCells _ _ (.inl rfl)

/-- The frame at place i is the last one now; its pool's slice may begin in another block. -/
def Used (pb g : Nat) (v0 v1 : Value) (n i : Nat) (xs : List Value) (u : Value) (w : World) (e : Ending) (w' : World) : Prop :=
  ∃ fv g' c', e = .returned u ∧ fv = .slice (some ⟨g', 0, none⟩) n c' ∧ Blk w' pb 64 [v0, v1, fv] ∧ Own w' 68 1 fv n (xs.eraseIdx i ++ [u]) ∧ Fr (fun k => k = pb ∨ k = g) w w' ∧ (g' = g ∨ w.heap.size ≤ g')

set_option maxHeartbeats 1600000 in
theorem used_any (pb g n c i fb : Nat) (v0 v1 : Value) (xs : List Value) (w : World) (hP : Blk w pb 64 [v0, v1, .slice (some ⟨g, 0, none⟩) n c]) (ho : Own w 68 1 (.slice (some ⟨g, 0, none⟩) n c) n xs) (hone : ∀ u ∈ xs, u.oneCell' = true) (hi : i < n) (hm : n ≤ 1000000)
    (hx : xs[i]? = some (.pointer (some ⟨fb, 0, none⟩))) :
    Calls Try.prog 24 #[.pointer (some ⟨pb, 0, none⟩), .int .i64 i] w (Used pb g v0 v1 n i xs (.pointer (some ⟨fb, 0, none⟩)) w) := by
  obtain ⟨sp, hB, hx1, hx2, hn, hc⟩ := ho.blk
  have HX1 := Lib.hid hx1
  have HX2 := Lib.hid hx2
  clear hx1 hx2
  have hpg : pb ≠ g := by
    intro e
    subst e
    exact absurd (hP.inj hB).1 (by decide)
  have hPl := hP.lt
  obtain ⟨i0, hi0, hz0, hz1, hz2⟩ := info_parts Try.infoPF
  have c2 := hP.cell (j := 2) rfl
  have hcell : w.cell? ⟨g, i, none⟩ = some (.pointer (some ⟨fb, 0, none⟩)) := by
    have := ho.cells (g := g) rfl i _ hx
    rwa [Addr.add_lit, Nat.zero_add] at this
  have HX := Lib.hid hx
  have HO := Lib.hid hone
  clear hx hone
  have hwr : IntKind.i64.wrap ((i : Int) + 1) = (i : Int) + 1 := by rw [IntKind.wrap_i64]; omega
  go_enter Try.func24, Try.ntmps24
  go_wp2_with fail
  refine (delete_any g n c i xs _ ho HO.out hi hm).mono ?_
  rintro e w1 ⟨rfl, ho1, hf1⟩
  have hl : Hid ([Value.pointer (some ⟨fb, 0, none⟩)].length = 1 * 1) := rfl
  have hPl1 : pb < w1.heap.size := by have := hf1.size; omega
  go_wp2_with (at_builtin; refine wpList_app _ rfl (.tmp 21) (.tmp 23) 62 rfl 68 i0 (.pointer none) 1 8 Try.underlying62 hi0 hz0 hz1 hz2 rfl _ _ _ rfl (ho1.fr (S := No) ((Fr.refl _ _).alloc _) (fun _ _ => No.no _)) ⟨w1.heap.size, 0, none⟩ 1 1 [.pointer (some ⟨fb, 0, none⟩)] rfl hl.out ?c1 ?c2 ?c3 ?c4 ?_)
  case c1 => intro j u hj; match j, hj with | 0, hj => simp at hj; subst hj; simp [Addr.add]
  case c2 => intro u hu; simp at hu; subst hu; rfl
  case c3 => unfold maxLen; omega
  case c4 => omega
  intro v' w2 hap
  obtain ⟨g', c', rfl⟩ : ∃ g' c', v' = .slice (some ⟨g', 0, none⟩) (n - 1 + 1) c' := by
    rcases hap.own.cases with ⟨_, h, _⟩ | h
    · omega
    · exact h
  have hP1 : Blk w2 pb 64 _ := ((hP.fr hf1 hpg).alloc _).fr hap.fr (by simp [Value.ownBlock]; omega)
  have hPl2 := hP1.lt
  have hPc := hP1.cell (j := 2) rfl
  have hPf := hP1.free
  have hob := hap.own
  have hz1 := hf1.size
  have hfr2 : Fr (fun k => k = pb ∨ k = g) w w2 := (((hf1.mono (fun k h => .inr h)).alloc _).trans hap.fr (fun k hk => by simp [Value.ownBlock] at hk; exact .inl (.inr hk.symm)))
  have hgg : g' = g ∨ w.heap.size ≤ g' := by
    rcases hap.blk with h | ⟨k, h, hk⟩
    · simp [Value.ownBlock] at h; exact .inl h
    · simp [Value.ownBlock] at h hk; right; omega
  have hpg' : pb ≠ g' := by omega
  have hn1 : n - 1 + 1 = n := by omega
  clear hap
  rw [hn1] at hob
  go_wp2
  go_ret
  refine ⟨_, g', c', rfl, rfl, ?_, ?_, hfr2.setCell (.inl (.inl rfl)) _, hgg⟩
  · exact hP1.set 2 _
  · exact hob.other (by simp [Value.ownBlock]; omega) _

end Go.Proofs.Ythjejgepdbonpaa
