/-
  The pool as it lies in memory, and the plain machine beside it.
-/
import Derived.Test.YthjejgepdbonpaaWk
namespace Go.Proofs.Ythjejgepdbonpaa
open Go.RowKit Go.Shelf

/-- A pool and its back's memory, as they lie. -/
structure St where
  pb : Nat
  mb : Nat
  lb : Nat
  lc : Nat
  most : Nat
  fv : Value
  logv : Value
  fs : List Frm
  ts : List TilM
  l : List NoteD

/-- The blocks that they take. -/
def Foot (s : St) (k : Nat) : Prop :=
  k = s.pb ∨ s.fv.ownBlock = some k ∨ (∃ x ∈ s.fs, k = x.b ∨ k = x.t.g) ∨ k = s.mb ∨ k = s.lb ∨ s.logv.ownBlock = some k ∨ (∃ t ∈ s.ts, k = t.g)

/-- What holds of every state. -/
structure Fine (s : St) : Prop where
  most1 : 1 ≤ s.most
  most2 : s.most ≤ 64
  len : s.fs.length ≤ s.most
  nb : (s.fs.map (·.b)).Nodup
  ng : (s.fs.map (·.t.g) ++ s.ts.map (·.g)).Nodup
  key : ∀ x ∈ s.fs, ∃ i, First s.ts x.t.f x.t.n i
  el : ∀ x ∈ s.fs, x.t.el.length = 4
  tel : ∀ t ∈ s.ts, t.el.length = 4
  tlen : s.ts.length ≤ 1000

structure PoolAt (w : World) (s : St) : Prop where
  F : FramesAt w s.pb (.int .i64 s.most) (backV s.mb) s.fv s.fs
  M : MemAt w s.mb s.lb s.lc s.logv s.ts s.l
  fine : Fine s

theorem PoolAt.foot {w : World} {s : St} (h : PoolAt w s) {k : Nat} (hk : Foot s k) : ∃ T l, Blk w k T l := by
  rcases hk with rfl | e | ⟨x, hx, rfl | rfl⟩ | rfl | rfl | e | ⟨t, ht, rfl⟩
  · exact ⟨_, _, h.F.blk⟩
  · obtain ⟨l, hl⟩ := h.F.row.someBlk e; exact ⟨_, _, hl⟩
  · exact ⟨_, _, (h.F.frm x hx).blk⟩
  · obtain ⟨l, hl⟩ := (h.F.frm x hx).els.someBlk (k := x.t.g) rfl; exact ⟨_, _, hl⟩
  · exact ⟨_, _, h.M.blk⟩
  · obtain ⟨l, hl⟩ := h.M.row.someBlk (k := s.lb) rfl; exact ⟨_, _, hl⟩
  · obtain ⟨l, hl⟩ := h.M.log.someBlk e; exact ⟨_, _, hl⟩
  · obtain ⟨l, hl⟩ := (h.M.els t ht).someBlk (k := t.g) rfl; exact ⟨_, _, hl⟩
theorem PoolAt.footLt {w : World} {s : St} (h : PoolAt w s) {k : Nat} (hk : Foot s k) : k < w.heap.size := by
  obtain ⟨T, l, hB⟩ := h.foot hk
  exact hB.lt
theorem PoolAt.fr {S : Nat → Prop} {w w' : World} {s : St} (h : PoolAt w s) (hf : Fr S w w') (hn : ∀ k, Foot s k → ¬ S k) : PoolAt w' s := by
  refine ⟨h.F.fr hf (hn _ (.inl rfl)) (fun k hk => hn _ (.inr (.inl hk))) (fun x hx => ⟨hn _ (.inr (.inr (.inl ⟨x, hx, .inl rfl⟩))), hn _ (.inr (.inr (.inl ⟨x, hx, .inr rfl⟩)))⟩), h.M.fr hf ?_ ?_ ?_ ?_, h.fine⟩
  · exact hn _ (.inr (.inr (.inr (.inl rfl))))
  · exact hn _ (.inr (.inr (.inr (.inr (.inl rfl)))))
  · exact fun k hk => hn _ (.inr (.inr (.inr (.inr (.inr (.inl hk))))))
  · exact fun t ht => hn _ (.inr (.inr (.inr (.inr (.inr (.inr ⟨t, ht, rfl⟩))))))
theorem PoolAt.no {w w' : World} {s : St} (h : PoolAt w s) (hf : Fr No w w') : PoolAt w' s := h.fr hf (fun _ _ => No.no _)

/-- From one state to another. -/
structure Evo (w : World) (s : St) (w' : World) (s' : St) : Prop where
  pool : PoolAt w' s'
  fr : Fr (Foot s) w w'
  ft : ∀ k, Foot s' k → Foot s k ∨ w.heap.size ≤ k
  pb : s'.pb = s.pb
  mb : s'.mb = s.mb
  most : s'.most = s.most
theorem Evo.refl {w w' : World} {s : St} (h : PoolAt w s) (hf : Fr No w w') : Evo w s w' s := ⟨h.no hf, hf.no_any, fun _ h => .inl h, rfl, rfl, rfl⟩
theorem Evo.trans {w w' w'' : World} {s s' s'' : St} (h : Evo w s w' s') (h' : Evo w' s' w'' s'') : Evo w s w'' s'' :=
  ⟨h'.pool, h.fr.trans h'.fr (fun k hk => h.ft k hk), fun k hk => (h'.ft k hk).elim (h.ft k) (fun q => .inr (Nat.le_trans h.fr.size q)), h'.pb.trans h.pb, h'.mb.trans h.mb, h'.most.trans h.most⟩
theorem Evo.pre {w0 w w' : World} {s s' : St} (hf : Fr No w0 w) (h : Evo w s w' s') : Evo w0 s w' s' :=
  ⟨h.pool, (hf.no_any).trans h.fr (fun _ q => .inl q), fun k hk => (h.ft k hk).elim .inl (fun q => .inr (Nat.le_trans hf.size q)), h.pb, h.mb, h.most⟩
theorem Evo.post {w w' w'' : World} {s s' : St} (h : Evo w s w' s') (hf : Fr No w' w'') : Evo w s w'' s' := h.trans (Evo.refl h.pool hf)

/-! The plain machine. -/
structure AF where
  f : Int
  n : Int
  k : Int
  el : List Int
  pins : Int
  dirty : Bool
  num : Int
structure AT where
  f : Int
  n : Int
  k : Int
  el : List Int
structure AS where
  most : Nat
  fs : List AF
  ts : List AT
  l : List NoteD
def Frm.a (x : Frm) : AF := ⟨x.t.f, x.t.n, x.t.k, x.t.el, x.pins, x.dirty, x.num⟩
def TilM.a (t : TilM) : AT := ⟨t.f, t.n, t.k, t.el⟩
def St.a (s : St) : AS := ⟨s.most, s.fs.map Frm.a, s.ts.map TilM.a, s.l⟩

def AF.is (p q : Int) (x : AF) : Bool := x.f == p && x.n == q
def AT.is (p q : Int) (x : AT) : Bool := x.f == p && x.n == q
def AF.at (x : AF) : AT := ⟨x.f, x.n, x.k, x.el⟩
def AF.clean (x : AF) : AF := if x.dirty then { x with dirty := false, num := 0 } else x
/-- A frame is written back. -/
def AS.wb (s : AS) (x : AF) : AS :=
  if x.dirty then { s with ts := (match s.ts.findIdx? (AT.is x.f x.n) with | some i => s.ts.set i x.at | none => s.ts), l := s.l ++ [⟨2, x.num, 0⟩] ++ [⟨3, x.n, x.f⟩] } else s
def AS.room (s : AS) : Int × AS :=
  if s.fs.length < s.most then (0, s) else
  match s.fs.findIdx? (fun x => x.pins == 0) with
  | none => (101, s)
  | some i => (0, { s.wb (s.fs[i]?.getD ⟨0, 0, 0, [], 0, false, 0⟩) with fs := s.fs.eraseIdx i })

/-- The call answers c, and the pool is as the plain machine a. -/
def Did (w : World) (s : St) (c : Int) (a : AS) (e : Ending) (w' : World) : Prop := ∃ s', e = .returned (.int .i64 c) ∧ Evo w s w' s' ∧ s'.a = a

theorem first_loose (fs : List Frm) : loosePlaces fs = [] ∧ (fs.map Frm.a).findIdx? (fun x => x.pins == 0) = none ∨ ∃ i r, loosePlaces fs = i :: r ∧ (fs.map Frm.a).findIdx? (fun x => x.pins == 0) = some i := by
  cases h : (fs.map Frm.a).findIdx? (fun x => x.pins == 0) with
  | none =>
    refine .inl ⟨?_, rfl⟩
    rw [List.findIdx?_eq_none_iff] at h
    unfold loosePlaces looseTo
    rw [List.filter_eq_nil_iff]
    intro i hi hc
    have hi' : i < fs.length := by simpa using hi
    rw [List.getElem?_eq_getElem hi'] at hc
    have := h (fs[i].a) (List.mem_map.2 ⟨_, List.getElem_mem hi', rfl⟩)
    exact absurd (this.symm.trans hc) (by decide)
  | some i =>
    right
    obtain ⟨hi, hp, hno⟩ := List.findIdx?_eq_some_iff_getElem.1 h
    have hi' : i < fs.length := by simpa using hi
    have hpf : (fs[i].pins == 0) = true := by simpa [Frm.a] using hp
    have h1 : looseTo fs i = [] := by
      unfold looseTo
      rw [List.filter_eq_nil_iff]
      intro j hj hc
      have hj' : j < i := by simpa using hj
      rw [List.getElem?_eq_getElem (by omega)] at hc
      have := hno j hj'
      simp [Frm.a] at this hc
      exact this hc
    have h2 := looseTo_hit hi' hpf
    rw [h1] at h2
    obtain ⟨r, hr⟩ := looseTo_prefix fs (i + 1) (by omega)
    rw [h2] at hr
    exact ⟨i, r, by rw [← hr]; rfl, rfl⟩

theorem first_a {ts : List TilM} {p q : Int} {i : Nat} (h : First ts p q i) : (ts.map TilM.a).findIdx? (AT.is p q) = some i := by
  obtain ⟨hi, hno, hh⟩ := h
  rw [List.findIdx?_eq_some_iff_getElem]
  refine ⟨by simpa using hi, by simpa [AT.is, TilM.a, TilM.is] using hh, fun j hj => ?_⟩
  have := hno j hj
  simpa [AT.is, TilM.a, TilM.is] using this
theorem first_of_a {ts : List TilM} {p q : Int} {i : Nat} (h : (ts.map TilM.a).findIdx? (AT.is p q) = some i) : First ts p q i := by
  obtain ⟨hi, hh, hno⟩ := List.findIdx?_eq_some_iff_getElem.1 h
  refine ⟨by simpa using hi, fun j hj => ?_, by simpa [AT.is, TilM.a, TilM.is] using hh⟩
  have := hno j hj
  simpa [AT.is, TilM.a, TilM.is] using this
theorem First.set {ts : List TilM} {p q p' q' : Int} {i j : Nat} {t : TilM} (h : First ts p q i) (hj : First ts p' q' j) (ht : t.f = p' ∧ t.n = q') : First (ts.set j t) p q i := by
  obtain ⟨hi, hno, hh⟩ := h
  obtain ⟨hj1, hj2, hj3⟩ := hj
  have hk : t.is p q = ts[j].is p q := by
    unfold TilM.is at hj3 ⊢
    simp at hj3
    rw [ht.1, ht.2, hj3.1, hj3.2]
  refine ⟨by simpa using hi, fun m hm => ?_, ?_⟩
  · rw [List.getElem_set]
    split
    · rename_i e; subst e; rw [hk]; exact hno _ hm
    · exact hno m hm
  · rw [List.getElem_set]
    split
    · rename_i e; subst e; rw [hk]; exact hh
    · exact hh

theorem wb_a {B : Nat} {ts ts' : List TilM} {l l' : List NoteD} {x : Frm} (most : Nat) (fs : List AF) (h : Wrote B ts l x ts' l') : (⟨most, fs, ts'.map TilM.a, l'⟩ : AS) = AS.wb ⟨most, fs, ts.map TilM.a, l⟩ x.a := by
  rcases h with ⟨h, rfl, rfl⟩ | ⟨h, i, g, c, h1, rfl, rfl, _⟩
  · have e : x.a.dirty = false := h
    simp [AS.wb, e]
  · have e : x.a.dirty = true := h
    have e2 := first_a h1
    simp only [AS.wb, e, if_true]
    show _ = (⟨most, fs, match List.findIdx? (AT.is x.t.f x.t.n) (ts.map TilM.a) with | some i => (ts.map TilM.a).set i x.a.at | none => ts.map TilM.a, _⟩ : AS)
    rw [e2]
    simp [List.map_set, TilM.a, Frm.a, AF.at]

theorem nodup_set {l : List Nat} (h : l.Nodup) : ∀ (i a : Nat), a ∉ l → (l.set i a).Nodup := by
  induction l with
  | nil => intro i a _; simp
  | cons b l ih =>
    intro i a ha
    rw [List.nodup_cons] at h
    cases i with
    | zero =>
      rw [List.set_cons_zero, List.nodup_cons]
      exact ⟨fun hm => ha (List.mem_cons_of_mem _ hm), h.2⟩
    | succ i =>
      rw [List.set_cons_succ, List.nodup_cons]
      refine ⟨fun hm => ?_, ih h.2 i a (fun hm => ha (List.mem_cons_of_mem _ hm))⟩
      rcases List.mem_or_eq_of_mem_set hm with hm | rfl
      · exact h.1 hm
      · exact ha (List.mem_cons_self ..)
theorem wrote_nodup {B : Nat} {gs : List Nat} {ts ts' : List TilM} {l l' : List NoteD} {x : Frm} (h : Wrote B ts l x ts' l') (hn : (gs ++ ts.map (·.g)).Nodup) (hg : ∀ g ∈ gs, g < B) (ht : ∀ t ∈ ts, t.g < B) : (gs ++ ts'.map (·.g)).Nodup := by
  rcases h with ⟨h, rfl, rfl⟩ | ⟨h, i, g, c, ⟨hi, h1⟩, rfl, rfl, hB⟩
  · exact hn
  · rw [List.map_set]
    have e : gs ++ (ts.map (·.g)).set i g = (gs ++ ts.map (·.g)).set (gs.length + i) g := by
      rw [List.set_append_right _ _ (by omega)]
      congr 2
      omega
    show (gs ++ (ts.map (·.g)).set i g).Nodup
    rw [e]
    refine nodup_set hn _ _ (fun hm => ?_)
    rcases List.mem_append.1 hm with hm | hm
    · have := hg _ hm; omega
    · obtain ⟨t, htm, rfl⟩ := List.mem_map.1 hm
      have := ht t htm; omega
theorem wrote_first {B : Nat} {ts ts' : List TilM} {l l' : List NoteD} {x : Frm} (h : Wrote B ts l x ts' l') {p q : Int} {i : Nat} (hf : First ts p q i) : First ts' p q i := by
  rcases h with ⟨h, rfl, rfl⟩ | ⟨h, j, g, c, h1, rfl, rfl, hB⟩
  · exact hf
  · exact hf.set h1 ⟨rfl, rfl⟩
theorem wrote_mem {B : Nat} {ts ts' : List TilM} {l l' : List NoteD} {x : Frm} (h : Wrote B ts l x ts' l') {t : TilM} (ht : t ∈ ts') : t ∈ ts ∨ (t.el = x.t.el ∧ B ≤ t.g) := by
  rcases h with ⟨h, rfl, rfl⟩ | ⟨h, j, g, c, h1, rfl, rfl, hB⟩
  · exact .inl ht
  · rcases List.mem_or_eq_of_mem_set ht with ht | rfl
    · exact .inl ht
    · exact .inr ⟨rfl, hB⟩
theorem wrote_len {B : Nat} {ts ts' : List TilM} {l l' : List NoteD} {x : Frm} (h : Wrote B ts l x ts' l') : ts'.length = ts.length := by
  rcases h with ⟨h, rfl, rfl⟩ | ⟨h, j, g, c, h1, rfl, rfl, hB⟩
  · rfl
  · simp

set_option maxHeartbeats 1000000 in
theorem room_st (s : St) (w : World) (h : PoolAt w s) (hl : s.l.length ≤ 999990) :
    Calls Try.prog 25 #[.pointer (some ⟨s.pb, 0, none⟩)] w (Did w s s.a.room.1 s.a.room.2) := by
  obtain ⟨pb, mb, lb, lc, most, fv, logv, fs, ts, l⟩ := s
  obtain ⟨hF, hM, m1, m2, hlen, hnb, hng, hkey, hel, htel, htl⟩ := h
  simp only at hF hM m1 m2 hlen hnb hng hkey hel htel htl hl ⊢
  have hfine : Fine ⟨pb, mb, lb, lc, most, fv, logv, fs, ts, l⟩ := ⟨m1, m2, hlen, hnb, hng, hkey, hel, htel, htl⟩
  by_cases hlt : fs.length < most
  · refine (room_free pb most (backV mb) fv fs w hF hlt m2).mono ?_
    rintro e w' ⟨rfl, hf⟩
    have e1 : AS.room (St.a ⟨pb, mb, lb, lc, most, fv, logv, fs, ts, l⟩) = (0, St.a ⟨pb, mb, lb, lc, most, fv, logv, fs, ts, l⟩) := by
      simp [AS.room, St.a, hlt]
    rw [e1]
    exact ⟨_, rfl, Evo.refl ⟨hF, hM, hfine⟩ hf, rfl⟩
  · refine (room_full pb mb lb lc most fv logv fs ts l w hF hM hlt (by omega) hl (by omega) hkey (fun x hx => by rw [hel x hx]; omega) hnb).mono ?_
    rintro e w' (⟨h1, rfl, hf⟩ | ⟨i, hi, r, fv', logv', ts', l', h1, rfl, hF', hM', hw, hf, hlg, hfv⟩)
    · rcases first_loose fs with ⟨_, h2⟩ | ⟨i, r, h2, _⟩
      · have e1 : AS.room (St.a ⟨pb, mb, lb, lc, most, fv, logv, fs, ts, l⟩) = (101, St.a ⟨pb, mb, lb, lc, most, fv, logv, fs, ts, l⟩) := by
          simp only [AS.room, St.a, List.length_map, hlt, if_false, h2]
        rw [e1]
        exact ⟨_, rfl, Evo.refl ⟨hF, hM, hfine⟩ hf, rfl⟩
      · rw [h1] at h2; cases h2
    · rcases first_loose fs with ⟨h2, _⟩ | ⟨i', r', h2, h3⟩
      · rw [h1] at h2; cases h2
      · rw [h1] at h2
        cases h2
        have hix : ((fs.map Frm.a)[i]?).getD ⟨0, 0, 0, [], 0, false, 0⟩ = fs[i].a := by simp [hi]
        have e1 : AS.room (St.a ⟨pb, mb, lb, lc, most, fv, logv, fs, ts, l⟩) = (0, { AS.wb (St.a ⟨pb, mb, lb, lc, most, fv, logv, fs, ts, l⟩) fs[i].a with fs := (fs.map Frm.a).eraseIdx i }) := by
          simp only [AS.room, St.a, List.length_map, hlt, if_false, h3, hix]
        rw [e1]
        have hw2 := wb_a most (fs.map Frm.a) hw
        refine ⟨⟨pb, mb, lb, lc, most, fv', logv', fs.eraseIdx i, ts', l'⟩, rfl, ⟨⟨hF', hM', ?_⟩, ?_, ?_, rfl, rfl, rfl⟩, ?_⟩
        · have hsub := List.eraseIdx_sublist fs i
          refine ⟨m1, m2, by have := hsub.length_le; simp only; omega, hnb.sublist (hsub.map _), ?_, ?_, fun x hx => hel x (hsub.subset hx), ?_, by rw [wrote_len hw]; exact htl⟩
          · exact wrote_nodup hw (hng.sublist ((hsub.map _).append_right _)) (fun g hg => by
              obtain ⟨x, hx, rfl⟩ := List.mem_map.1 hg
              exact (hF.frm x (hsub.subset hx)).els.lt (k := x.t.g) rfl) (fun t ht => (hM.els t ht).lt (k := t.g) rfl)
          · intro x hx
            obtain ⟨j, hj⟩ := hkey x (hsub.subset hx)
            exact ⟨j, wrote_first hw hj⟩
          · intro t ht
            rcases wrote_mem hw ht with h | ⟨h, _⟩
            · exact htel t h
            · rw [h]; exact hel _ (List.getElem_mem hi)
        · refine hf.mono ?_
          rintro k (h | h | h | h | h | h)
          · exact .inl h
          · exact .inr (.inl h)
          · exact .inr (.inr (.inr (.inl h)))
          · exact .inr (.inr (.inr (.inr (.inl h))))
          · exact .inr (.inr (.inr (.inr (.inr (.inl h)))))
          · exact .inr (.inr (.inl ⟨_, List.getElem_mem hi, .inl h⟩))
        · have hsub := List.eraseIdx_sublist fs i
          rintro k (h | h | ⟨x, hx, h⟩ | h | h | h | ⟨t, ht, h⟩)
          · exact .inl (.inl h)
          · exact .inl (.inr (.inl (by rw [← h]; exact hfv.symm)))
          · exact .inl (.inr (.inr (.inl ⟨x, hsub.subset hx, h⟩)))
          · exact .inl (.inr (.inr (.inr (.inl h))))
          · exact .inl (.inr (.inr (.inr (.inr (.inl h)))))
          · rcases hlg k h with h | h
            · exact .inl (.inr (.inr (.inr (.inr (.inr (.inl h))))))
            · exact .inr h
          · rcases wrote_mem hw ht with h' | ⟨_, h'⟩
            · exact .inl (.inr (.inr (.inr (.inr (.inr (.inr ⟨t, h', h⟩))))))
            · exact .inr (by rw [h]; exact h')
        · show (⟨most, (fs.eraseIdx i).map Frm.a, ts'.map TilM.a, l'⟩ : AS) = _
          rw [map_erase]
          show _ = { AS.wb ⟨most, fs.map Frm.a, ts.map TilM.a, l⟩ fs[i].a with fs := (fs.map Frm.a).eraseIdx i }
          rw [← hw2]

end Go.Proofs.Ythjejgepdbonpaa
