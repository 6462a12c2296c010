/-
  The place of a key and the last frame used, in the plain machine.
-/
import Derived.Test.YthjejgepdbonpaaWl
namespace Go.Proofs.Ythjejgepdbonpaa
open Go.RowKit Go.Shelf

def Frm.fk (x : Frm) : FK := ⟨x.b, x.t.f, x.t.n⟩
theorem fk_ptr (fs : List Frm) : (fs.map Frm.fk).map FK.ptr = fs.map Frm.ptr := by simp [FK.ptr, Frm.ptr, Frm.fk, Function.comp_def]
def placeA (o : Option Nat) : Int := match o with | some i => i | none => -1
theorem place_a (fs : List Frm) (p q : Int) : place (fs.map Frm.fk) p q = placeA ((fs.map Frm.a).findIdx? (AF.is p q)) := by
  unfold place placeA
  rw [List.findIdx?_map, List.findIdx?_map]
  rfl

theorem at_st (s : St) (p q : Int) (w : World) (h : PoolAt w s) :
    Calls Try.prog 23 #[.pointer (some ⟨s.pb, 0, none⟩), .agg #[.int .i64 p, .int .i64 q]] w fun e w' => e = .returned (.int .i64 (placeA (s.a.fs.findIdx? (AF.is p q)))) ∧ Fr No w w' := by
  have := at_any s.pb 0 (.int .i64 s.most) (backV s.mb) s.fv (s.fs.map Frm.fk) p q w h.F.blk (by rw [fk_ptr, List.length_map]; exact h.F.row) (by have := h.fine.len; have := h.fine.most2; simp; omega)
    (by intro f hf; obtain ⟨x, hx, rfl⟩ := List.mem_map.1 hf; exact ⟨_, (h.F.frm x hx).blk⟩)
  rw [place_a] at this
  exact this

theorem Fine.perm {s s' : St} (h : Fine s) (hp : s'.fs.Perm s.fs) (h1 : s'.most = s.most) (h2 : s'.ts = s.ts) : Fine s' := by
  refine ⟨by rw [h1]; exact h.most1, by rw [h1]; exact h.most2, by rw [h1, hp.length_eq]; exact h.len, (hp.map _).nodup_iff.2 h.nb, ?_, fun x hx => by rw [h2]; exact h.key x (hp.mem_iff.1 hx), fun x hx => h.el x (hp.mem_iff.1 hx), by rw [h2]; exact h.tel, by rw [h2]; exact h.tlen⟩
  rw [h2]
  exact (((hp.map (·.t.g)).append_right (s.ts.map (·.g))).nodup_iff).2 h.ng
theorem erase_perm {α : Type} (l : List α) : ∀ (i : Nat) (hi : i < l.length), (l.eraseIdx i ++ [l[i]]).Perm l := by
  induction l with
  | nil => intro i hi; simp at hi
  | cons a l ih =>
    intro i hi
    cases i with
    | zero => exact List.perm_append_singleton a l
    | succ i => exact (ih i (by simpa using hi)).cons a

/-- The frame at place i is the last one now. -/
theorem used_st (s : St) (i : Nat) (hi : i < s.fs.length) (w : World) (h : PoolAt w s) :
    Calls Try.prog 24 #[.pointer (some ⟨s.pb, 0, none⟩), .int .i64 i] w fun e w' => ∃ fv', e = .returned (.pointer (some ⟨(s.fs[i]).b, 0, none⟩)) ∧ Evo w s w' { s with fv := fv', fs := s.fs.eraseIdx i ++ [s.fs[i]] } := by
  obtain ⟨pb, mb, lb, lc, most, fv, logv, fs, ts, l⟩ := s
  simp only at hi ⊢
  have hfine := h.fine
  have hF := h.F
  have hM := h.M
  simp only at hF hM
  obtain ⟨g, c, rfl⟩ : ∃ g c, fv = .slice (some ⟨g, 0, none⟩) fs.length c := by
    rcases hF.row.cases with ⟨rfl, e, _⟩ | h
    · omega
    · exact h
  have hl : fs.length ≤ 64 := by have := hfine.len; have := hfine.most2; simp at *; omega
  refine (used_any pb g fs.length c i (fs[i]).b (.int .i64 most) (backV mb) (fs.map Frm.ptr) w hF.blk hF.row (fun u hu => by obtain ⟨z, _, rfl⟩ := List.mem_map.1 hu; rfl) hi (by omega) (by simp [hi, Frm.ptr])).mono ?_
  rintro e w' ⟨fv', g', c', rfl, rfl, h1, h2, h3, h4⟩
  have hle : (fs.eraseIdx i ++ [fs[i]]).length = fs.length := by rw [List.length_append, List.length_eraseIdx]; simp [hi]; omega
  have hperm := erase_perm fs i hi
  obtain ⟨lg, hg⟩ : ∃ lg, Blk w g 68 lg := by obtain ⟨sp, hB, _⟩ := hF.row.blk; exact ⟨_, hB⟩
  have hx : ∀ x ∈ fs, FrmAt w' x := fun x hx => (hF.frm x hx).fr h3 (by
      rintro (e | e)
      · exact (hF.frm x hx).blk.ne hF.blk (by decide) e
      · exact (hF.frm x hx).blk.ne hg (by decide) e) (by
      rintro (e | e)
      · exact hF.blk.neOwn (hF.frm x hx).els (by decide) _ rfl e
      · exact hg.neOwn (hF.frm x hx).els (by decide) _ rfl e)
  refine ⟨.slice (some ⟨g', 0, none⟩) fs.length c', rfl, ⟨⟨?_, ?_, hfine.perm hperm rfl rfl⟩, ?_, ?_, rfl, rfl, rfl⟩⟩
  · refine ⟨h1, ?_, fun x hxm => hx x (hperm.mem_iff.1 hxm)⟩
    rw [List.map_append, map_erase, hle]
    exact h2
  · refine hM.fr h3 ?_ ?_ ?_ ?_
    · rintro (e | e)
      · exact hM.blk.ne hF.blk (by decide) e
      · exact hM.blk.ne hg (by decide) e
    · rintro (e | e)
      · exact hF.blk.neOwn hM.row (by decide) _ rfl e
      · exact hg.neOwn hM.row (by decide) _ rfl e
    · rintro k hk (e | e)
      · exact hF.blk.neOwn hM.log (by decide) _ hk e
      · exact hg.neOwn hM.log (by decide) _ hk e
    · rintro t ht (e | e)
      · exact hF.blk.neOwn (hM.els t ht) (by decide) _ rfl e
      · exact hg.neOwn (hM.els t ht) (by decide) _ rfl e
  · refine h3.mono ?_
    rintro k (e | e)
    · exact .inl e
    · exact .inr (.inl (by rw [e]; rfl))
  · rintro k (h | h | ⟨x, hx, h⟩ | h | h | h | h)
    · exact .inl (.inl h)
    · simp [Value.ownBlock] at h
      rcases h4 with h4 | h4
      · exact .inl (.inr (.inl (by simp [Value.ownBlock]; omega)))
      · exact .inr (by omega)
    · exact .inl (.inr (.inr (.inl ⟨x, hperm.mem_iff.1 hx, h⟩)))
    · exact .inl (.inr (.inr (.inr (.inl h))))
    · exact .inl (.inr (.inr (.inr (.inr (.inl h)))))
    · exact .inl (.inr (.inr (.inr (.inr (.inr (.inl h))))))
    · exact .inl (.inr (.inr (.inr (.inr (.inr (.inr h))))))

theorem nodup_same {α : Type} {l : List α} {i : Nat} (hi : i < l.length) (f : α → Nat) {x : α} (hx : f x = f l[i]) : (l.set i x).map f = l.map f := by
  rw [List.map_set, hx]
  apply List.ext_getElem
  · simp
  · intro j h1 h2
    rw [List.getElem_set]
    split
    · rename_i e; subst e; simp
    · rfl

/-- A frame has changed. -/
theorem PoolAt.setF {w w' : World} {s : St} (h : PoolAt w s) {i : Nat} (hi : i < s.fs.length) {x' : Frm} (hf : Fr (fun k => k = (s.fs[i]'hi).b ∨ k = (s.fs[i]'hi).t.g) w w') (hx : FrmAt w' x') (hb : x'.b = (s.fs[i]'hi).b) (hg : x'.t.g = (s.fs[i]'hi).t.g)
    (hk : x'.t.f = (s.fs[i]'hi).t.f ∧ x'.t.n = (s.fs[i]'hi).t.n) (hl : x'.t.el.length = 4) : Evo w s w' { s with fs := s.fs.set i x' } := by
  have hx0 := h.F.frm _ (List.getElem_mem hi)
  have hlt : ∀ j (hj : j < s.fs.length), j ≠ i → (s.fs[j]).b ≠ (s.fs[i]).b := by
    intro j hj hne e
    have h2 : (s.fs.map (·.b))[j]'(by simpa using hj) = (s.fs.map (·.b))[i]'(by simpa using hi) := by simpa using e
    exact hne ((List.getElem_inj h.fine.nb).1 h2)
  have hgs := h.fine.ng
  have hlg : ∀ j (hj : j < s.fs.length), j ≠ i → (s.fs[j]).t.g ≠ (s.fs[i]).t.g := by
    intro j hj hne e
    have hn := (List.nodup_append.1 hgs).1
    have h2 : (s.fs.map (·.t.g))[j]'(by simpa using hj) = (s.fs.map (·.t.g))[i]'(by simpa using hi) := by simpa using e
    exact hne ((List.getElem_inj hn).1 h2)
  have hltg : ∀ t ∈ s.ts, t.g ≠ (s.fs[i]).t.g := by
    intro t ht e
    have hd := (List.nodup_append.1 hgs).2.2
    exact hd _ (List.mem_map.2 ⟨_, List.getElem_mem hi, rfl⟩) _ (List.mem_map.2 ⟨t, ht, rfl⟩) e.symm
  have hels := hx0.els
  have hrow : Own w 68 1 s.fv s.fs.length (s.fs.map Frm.ptr) := h.F.row
  have frm : ∀ j (hj : j < s.fs.length), j ≠ i → FrmAt w' s.fs[j] := by
    intro j hj hne
    have hxj := h.F.frm _ (List.getElem_mem hj)
    refine hxj.fr hf ?_ ?_
    · rintro (e | e)
      · exact hlt j hj hne e
      · exact hxj.blk.neOwn hx0.els (by decide) _ rfl e.symm
    · rintro (e | e)
      · exact hx0.blk.neOwn hxj.els (by decide) _ rfl e
      · exact hlg j hj hne e
  refine ⟨⟨⟨?_, ?_, ?_⟩, ?_, ?_⟩, hf.mono ?_, ?_, rfl, rfl, rfl⟩
  · refine h.F.blk.fr hf ?_
    rintro (e | e)
    · exact h.F.blk.ne hx0.blk (by decide) e
    · exact h.F.blk.neOwn hx0.els (by decide) _ rfl e.symm
  · show Own w' _ _ _ (s.fs.set i x').length ((s.fs.set i x').map Frm.ptr)
    have e1 : (s.fs.set i x').map Frm.ptr = s.fs.map Frm.ptr := by
      rw [List.map_set]
      apply List.ext_getElem
      · simp
      · intro j h1 h2
        rw [List.getElem_set]
        split
        · rename_i e; subst e; simp [Frm.ptr, hb]
        · rfl
    rw [List.length_set, e1]
    refine hrow.fr hf ?_
    rintro k hk' (e | e)
    · exact hx0.blk.neOwn hrow (by decide) _ hk' e
    · subst e; exact hrow.neOwn hels (by decide) _ hk' rfl
  · intro x hx'
    obtain ⟨j, hj, rfl⟩ := List.mem_iff_getElem.1 hx'
    rw [List.getElem_set]
    split
    · exact hx
    · rename_i hne
      exact frm j (by simpa using hj) (fun e => hne e.symm)
  · refine h.M.fr hf ?_ ?_ ?_ ?_
    · rintro (e | e)
      · exact h.M.blk.ne hx0.blk (by decide) e
      · exact h.M.blk.neOwn hels (by decide) _ rfl e.symm
    · rintro (e | e)
      · exact hx0.blk.neOwn h.M.row (by decide) _ rfl e
      · exact h.M.row.neOwn hels (by decide) _ rfl (by rw [e]; rfl)
    · rintro k hk' (e | e)
      · exact hx0.blk.neOwn h.M.log (by decide) _ hk' e
      · subst e; exact h.M.log.neOwn hels (by decide) _ hk' rfl
    · rintro t ht (e | e)
      · exact hx0.blk.neOwn (h.M.els t ht) (by decide) _ rfl e
      · exact hltg t ht e
  · have hf2 := h.fine
    refine ⟨hf2.most1, hf2.most2, by simpa using hf2.len, ?_, ?_, ?_, ?_, hf2.tel, hf2.tlen⟩
    · show ((s.fs.set i x').map (·.b)).Nodup
      rw [nodup_same hi (·.b) hb]
      exact hf2.nb
    · show ((s.fs.set i x').map (·.t.g) ++ s.ts.map (·.g)).Nodup
      rw [nodup_same hi (·.t.g) hg]
      exact hf2.ng
    · intro x hx'
      rcases List.mem_or_eq_of_mem_set hx' with hx' | rfl
      · exact hf2.key x hx'
      · rw [hk.1, hk.2]
        exact hf2.key _ (List.getElem_mem hi)
    · intro x hx'
      rcases List.mem_or_eq_of_mem_set hx' with hx' | rfl
      · exact hf2.el x hx'
      · exact hl
  · rintro k (e | e)
    · exact .inr (.inr (.inl ⟨_, List.getElem_mem hi, .inl e⟩))
    · exact .inr (.inr (.inl ⟨_, List.getElem_mem hi, .inr e⟩))
  · rintro k (h | h | ⟨x, hx', h⟩ | h | h | h | h)
    · exact .inl (.inl h)
    · exact .inl (.inr (.inl h))
    · rcases List.mem_or_eq_of_mem_set hx' with hx' | rfl
      · exact .inl (.inr (.inr (.inl ⟨x, hx', h⟩)))
      · rw [hb, hg] at h
        exact .inl (.inr (.inr (.inl ⟨_, List.getElem_mem hi, h⟩)))
    · exact .inl (.inr (.inr (.inr (.inl h))))
    · exact .inl (.inr (.inr (.inr (.inr (.inl h)))))
    · exact .inl (.inr (.inr (.inr (.inr (.inr (.inl h))))))
    · exact .inl (.inr (.inr (.inr (.inr (.inr (.inr h))))))

end Go.Proofs.Ythjejgepdbonpaa
