/-
  Cleaning and dropping a tile, in the plain machine.
-/
import Derived.Test.YthjejgepdbonpaaXa
namespace Go.Proofs.Ythjejgepdbonpaa
open Go.RowKit Go.Shelf
attribute [local go_sem] Oper.semAt_some

theorem clean_b (x : Frm) : x.clean.b = x.b := by unfold Frm.clean; split <;> rfl
theorem clean_t (x : Frm) : x.clean.t = x.t := by unfold Frm.clean; split <;> rfl
theorem clean_a (x : Frm) : x.clean.a = x.a.clean := by
  unfold Frm.clean AF.clean
  show _ = (if x.dirty = true then _ else _)
  split <;> rfl
theorem map_set_same {α β : Type} (f : α → β) (l : List α) (i : Nat) (hi : i < l.length) (x : α) (h : f x = f l[i]) : (l.set i x).map f = l.map f := by
  rw [List.map_set, h]
  apply List.ext_getElem
  · simp
  · intro j h1 h2
    by_cases hj : i = j
    · subst hj; simp
    · simp [hj]

/-- The machine's frame i is written back. -/
def AS.cleanAt (s : AS) (i : Nat) : AS := match s.fs[i]? with | some x => { s.wb x with fs := s.fs.set i x.clean } | none => s

theorem evo_written {w w' : World} {s : St} (h : PoolAt w s) {i : Nat} (hi : i < s.fs.length) {logv' : Value} {ts' : List TilM} {l' : List NoteD} (hM : MemAt w' s.mb s.lb s.lc logv' ts' l') (hw : Wrote w.heap.size s.ts s.l (s.fs[i]) ts' l') (hx : FrmAt w' (s.fs[i]).clean)
    (hf : Fr (fun k => k = s.mb ∨ k = s.lb ∨ s.logv.ownBlock = some k ∨ k = (s.fs[i]).b) w w') (ha : AtOr w s.logv logv') : ∃ s', Evo w s w' s' ∧ s'.a = s.a.cleanAt i := by
  have hx0 := h.F.frm _ (List.getElem_mem hi)
  have hfine := h.fine
  have hmem : ∀ y ∈ s.fs.set i (s.fs[i]).clean, y ∈ s.fs ∨ y = (s.fs[i]).clean := fun y hy => List.mem_or_eq_of_mem_set hy
  have hlt : ∀ j (hj : j < s.fs.length), j ≠ i → (s.fs[j]).b ≠ (s.fs[i]).b := by
    intro j hj hne e
    have h2 : (s.fs.map (·.b))[j]'(by simpa using hj) = (s.fs.map (·.b))[i]'(by simpa using hi) := by simpa using e
    exact hne ((List.getElem_inj h.fine.nb).1 h2)
  have frm : ∀ j (hj : j < s.fs.length), j ≠ i → FrmAt w' s.fs[j] := by
    intro j hj hne
    have hz := h.F.frm _ (List.getElem_mem hj)
    refine hz.fr hf ?_ ?_
    · rintro (e | e | e | e)
      · exact hz.blk.ne h.M.blk (by decide) e
      · exact hz.blk.neOwn h.M.row (by decide) s.lb rfl e.symm
      · exact hz.blk.neOwn h.M.log (by decide) _ e rfl
      · exact hlt j hj hne e
    · rintro (e | e | e | e)
      · exact h.M.blk.neOwn hz.els (by decide) _ rfl e
      · exact h.M.row.neOwn hz.els (by decide) s.lb rfl (by rw [← e]; rfl)
      · exact hz.els.neOwn h.M.log (by decide) _ rfl e
      · exact hx0.blk.neOwn hz.els (by decide) _ rfl e
  have e1 : (s.fs.set i (s.fs[i]).clean).map Frm.ptr = s.fs.map Frm.ptr := map_set_same _ _ _ hi _ (by unfold Frm.ptr; rw [clean_b])
  have e2 : (s.fs.set i (s.fs[i]).clean).map (·.b) = s.fs.map (·.b) := map_set_same _ _ _ hi _ (clean_b _)
  have e3 : (s.fs.set i (s.fs[i]).clean).map (·.t.g) = s.fs.map (·.t.g) := map_set_same _ _ _ hi _ (by show (s.fs[i]).clean.t.g = _; rw [clean_t])
  refine ⟨{ s with logv := logv', fs := s.fs.set i (s.fs[i]).clean, ts := ts', l := l' }, ⟨⟨⟨?_, ?_, ?_⟩, hM, ?_⟩, hf.mono ?_, ?_, rfl, rfl, rfl⟩, ?_⟩
  · exact h.F.blk.fr hf (notS h.M hx0 h.F.blk (by decide) (by decide) (by decide) (by decide))
  · show Own w' _ _ _ (s.fs.set i _).length ((s.fs.set i _).map Frm.ptr)
    rw [e1, List.length_set]
    refine h.F.row.fr hf ?_
    intro k hk
    obtain ⟨lg, hB⟩ := h.F.row.someBlk hk
    exact notS h.M hx0 hB (by decide) (by decide) (by decide) (by decide)
  · intro y hy
    obtain ⟨j, hj, hjy⟩ := List.getElem_of_mem hy
    have hj' : j < s.fs.length := by simpa using hj
    by_cases hji : i = j
    · subst hji
      rw [List.getElem_set_self] at hjy
      rw [← hjy]; exact hx
    · rw [List.getElem_set_ne hji] at hjy
      rw [← hjy]; exact frm j hj' (fun e => hji e.symm)
  · refine ⟨hfine.most1, hfine.most2, by simpa using hfine.len, by rw [e2]; exact hfine.nb, ?_, ?_, ?_, ?_, by simp only; rw [wrote_len hw]; exact hfine.tlen⟩
    · rw [e3]
      exact wrote_nodup hw hfine.ng (fun g hg => by
        obtain ⟨x, hx, rfl⟩ := List.mem_map.1 hg
        exact (h.F.frm x hx).els.lt (k := x.t.g) rfl) (fun t ht => (h.M.els t ht).lt (k := t.g) rfl)
    · intro y hy
      have : ∃ z ∈ s.fs, y.t = z.t := by
        rcases hmem y hy with h1 | rfl
        · exact ⟨y, h1, rfl⟩
        · exact ⟨_, List.getElem_mem hi, clean_t _⟩
      obtain ⟨z, hz, hyz⟩ := this
      obtain ⟨j, hj⟩ := hfine.key z hz
      rw [hyz]
      exact ⟨j, wrote_first hw hj⟩
    · intro y hy
      rcases hmem y hy with h1 | rfl
      · exact hfine.el y h1
      · rw [clean_t]; exact hfine.el _ (List.getElem_mem hi)
    · intro t ht
      rcases wrote_mem hw ht with h1 | ⟨h1, _⟩
      · exact hfine.tel t h1
      · rw [h1]; exact hfine.el _ (List.getElem_mem hi)
  · rintro k (h1 | h1 | h1 | h1)
    · exact .inr (.inr (.inr (.inl h1)))
    · exact .inr (.inr (.inr (.inr (.inl h1))))
    · exact .inr (.inr (.inr (.inr (.inr (.inl h1)))))
    · exact .inr (.inr (.inl ⟨_, List.getElem_mem hi, .inl h1⟩))
  · rintro k (h1 | h1 | ⟨x, hx, h1⟩ | h1 | h1 | h1 | ⟨t, ht, h1⟩)
    · exact .inl (.inl h1)
    · exact .inl (.inr (.inl h1))
    · rcases hmem x hx with h2 | rfl
      · exact .inl (.inr (.inr (.inl ⟨x, h2, h1⟩)))
      · rw [clean_b, clean_t] at h1
        exact .inl (.inr (.inr (.inl ⟨_, List.getElem_mem hi, h1⟩)))
    · exact .inl (.inr (.inr (.inr (.inl h1))))
    · exact .inl (.inr (.inr (.inr (.inr (.inl h1)))))
    · rcases ha k h1 with h2 | h2
      · exact .inl (.inr (.inr (.inr (.inr (.inr (.inl h2))))))
      · exact .inr h2
    · rcases hw with ⟨_, rfl, _⟩ | ⟨_, j, g, c, hj, rfl, _, hB⟩
      · exact .inl (.inr (.inr (.inr (.inr (.inr (.inr ⟨t, ht, h1⟩))))))
      · rcases List.mem_or_eq_of_mem_set ht with h2 | rfl
        · exact .inl (.inr (.inr (.inr (.inr (.inr (.inr ⟨t, h2, h1⟩))))))
        · exact .inr (by rw [h1]; exact hB)
  · have hw2 := wb_a s.most (s.fs.map Frm.a) hw
    have hg : s.a.fs[i]? = some (s.fs[i]).a := by simp [St.a, hi]
    unfold AS.cleanAt
    rw [hg]
    dsimp only
    show (⟨s.most, (s.fs.set i (s.fs[i]).clean).map Frm.a, ts'.map TilM.a, l'⟩ : AS) = _
    rw [List.map_set, clean_a]
    have e5 : s.a.wb (s.fs[i]).a = ⟨s.most, s.fs.map Frm.a, ts'.map TilM.a, l'⟩ := hw2.symm
    rw [e5]
    rfl

set_option maxHeartbeats 1000000 in
theorem clean_yes (s : St) (p q : Int) (i : Nat) (w : World) (h : PoolAt w s) (hl : s.l.length ≤ 999990) (hf : s.a.fs.findIdx? (AF.is p q) = some i) :
    Calls Try.prog 18 #[.pointer (some ⟨s.pb, 0, none⟩), .agg #[.int .i64 p, .int .i64 q]] w (Did w s 0 (s.a.cleanAt i)) := by
  have hi := find_lt hf
  have HF := Lib.hid hf
  clear hf
  have hfr := (Fr.refl No w).alloc (.cells #[.int .i64 p, .int .i64 q] 31)
  have hlen := h.fine.len
  have hlen2 := h.fine.most2
  obtain ⟨g, c, hv, hc⟩ := h.F.get hi
  have hP : Blk w s.pb 64 [.int .i64 s.most, backV s.mb, .slice (some ⟨g, 0, none⟩) s.fs.length c] := by rw [← hv]; exact h.F.blk
  have hgb : g < w.heap.size := World.block_lt_of_cell? w _ hc
  obtain ⟨x, hx⟩ : ∃ x, x = s.fs[i] := ⟨_, rfl⟩
  rw [← hx] at hc
  have HX := Lib.hid hx
  have hky := h.fine.key x (by rw [hx]; exact List.getElem_mem hi)
  have hel := h.fine.el x (by rw [hx]; exact List.getElem_mem hi)
  have HKY := Lib.hid hky
  have HEL := Lib.hid hel
  have HV := Lib.hid hv
  have htl := h.fine.tlen
  clear hx hv hky hel
  go_enter Try.func18, Try.ntmps18
  go_wp2_with (first | (go_at_call 22; refine (none_st s _ (h.no hfr)).mono ?_; rintro e w1 ⟨rfl, rfl⟩) | (go_at_call 23; refine (at_hit s p q i _ (h.no hfr) HF.out).mono ?_; rintro e w1 ⟨rfl, hf1⟩; have hfr1 := hfr.thn hf1; have hp1 := h.no hfr1; have hc1 := (hfr1.cell (p := ⟨g, i, none⟩) hgb (No.no _)).trans hc; have hP1 := hP.fr hfr1 (No.no _); have p2 := hP1.cell (j := 2) rfl; have hPl := hP1.lt) | (go_at_call 30; refine (written_any s.pb s.mb s.lb s.lc _ _ s.logv s.ts s.l x _ hP1 (hp1.F.frm x (by rw [HX.out]; exact List.getElem_mem hi)) hp1.M hl (by omega) HKY.out (by rw [HEL.out]; omega)).mono ?_; rintro e w2 ⟨logv', ts', l', rfl, h1, h2, h3, h4, h5⟩))
  go_ret
  rw [HX.out] at h2 h3 h4
  obtain ⟨s', he, hea⟩ := evo_written hp1 hi h1 h2 h3 h4 h5
  exact ⟨s', rfl, he.pre hfr1, hea⟩

set_option maxHeartbeats 1000000 in
theorem clean_no (s : St) (p q : Int) (w : World) (h : PoolAt w s) (hf : s.a.fs.findIdx? (AF.is p q) = none) :
    Calls Try.prog 18 #[.pointer (some ⟨s.pb, 0, none⟩), .agg #[.int .i64 p, .int .i64 q]] w (Did w s 100 s.a) := by
  have HF := Lib.hid hf
  clear hf
  have hfr := (Fr.refl No w).alloc (.cells #[.int .i64 p, .int .i64 q] 31)
  go_enter Try.func18, Try.ntmps18
  go_wp2_with (first | (go_at_call 22; refine (none_st s _ (h.no hfr)).mono ?_; rintro e w1 ⟨rfl, rfl⟩) | (go_at_call 23; refine (at_miss s p q _ (h.no hfr) HF.out).mono ?_; rintro e w1 ⟨rfl, hf1⟩))
  go_ret
  exact ⟨_, rfl, Evo.refl h (hfr.thn hf1), rfl⟩

end Go.Proofs.Ythjejgepdbonpaa
