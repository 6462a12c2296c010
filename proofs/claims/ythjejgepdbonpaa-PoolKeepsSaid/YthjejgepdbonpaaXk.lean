/-
  The plain law of PoolKeeps.
-/
import Derived.Test.YthjejgepdbonpaaXh
namespace Go.Proofs.Ythjejgepdbonpaa

/-- The key of the tile at place j. -/
def kj (j : Nat) : Int × Int := ((1 + (j / 4 : Nat) : Int), ((j % 4 : Nat) : Int))
theorem kj_inj {i j : Nat} (h : kj i = kj j) : i = j := by
  unfold kj at h
  rw [Prod.mk.injEq] at h
  omega

/-- What a pool keeps: frames whose tiles have what was set last; tiles of the memory that do, where no dirty frame has them; nothing stored ahead of its number. -/
structure Keeps (mx : Nat) (now : Nat → List Int) (num : Nat → Int) (A : AS) : Prop where
  most : A.most = mx
  le : A.fs.length ≤ mx
  nd : (A.fs.map AF.key).Nodup
  tl : A.ts.length = 12
  tk : ∀ (j : Nat) (t : AT), A.ts[j]? = some t → (t.f, t.n) = kj j
  fr : ∀ x ∈ A.fs, ∃ j, j < 12 ∧ x.key = kj j ∧ x.el = now j ∧ 0 ≤ x.pins ∧ x.num ≤ num j
  ts : ∀ (j : Nat) (t : AT), A.ts[j]? = some t → (∀ x ∈ A.fs, x.key = kj j → x.dirty = false) → t.el = now j
  n0 : ∀ j : Nat, 0 ≤ num j
  lg : ∀ (i : Nat) (n : NoteD), A.l[i]? = some n → n.k = 3 → ∃ (m : NoteD) (j : Nat), 0 < i ∧ A.l[i - 1]? = some m ∧ m.k = 2 ∧ j < 12 ∧ (n.n, n.a) = kj j ∧ m.a ≤ num j

section
variable {mx : Nat} {now : Nat → List Int} {num : Nat → Int} {A : AS}
theorem Keeps.find (h : Keeps mx now num A) {j : Nat} (hj : j < 12) {p q : Int} (hk : kj j = (p, q)) : A.ts.findIdx? (AT.is p q) = some j := by
  have hl := h.tl
  rw [List.findIdx?_eq_some_iff_getElem]
  refine ⟨by omega, ?_, fun i hi => ?_⟩
  · have := h.tk j _ (List.getElem?_eq_getElem (by omega))
    rw [hk, Prod.mk.injEq] at this
    simp [AT.is, this.1, this.2]
  · have hne := h.tk i _ (List.getElem?_eq_getElem (by omega))
    cases hb : AT.is p q (A.ts[i]'(by omega)) with
    | false => simp [hb]
    | true =>
      simp [AT.is] at hb
      rw [hb.1, hb.2, ← hk] at hne
      exact absurd (kj_inj hne) (by omega)
/-- The one frame of a key. -/
theorem Keeps.one (h : Keeps mx now num A) {x y : AF} (hx : x ∈ A.fs) (hy : y ∈ A.fs) (hk : x.key = y.key) : x = y := by
  obtain ⟨i, hi, rfl⟩ := List.getElem_of_mem hx
  obtain ⟨j, hj, rfl⟩ := List.getElem_of_mem hy
  have h2 : (A.fs.map AF.key)[i]'(by simpa using hi) = (A.fs.map AF.key)[j]'(by simpa using hj) := by simpa using hk
  have := (List.getElem_inj h.nd).1 h2
  subst this
  rfl

/-- A frame is written back and goes. -/
theorem Keeps.goes (h : Keeps mx now num A) {i : Nat} (hi : i < A.fs.length) : Keeps mx now num { A.wb A.fs[i] with fs := A.fs.eraseIdx i } := by
  obtain ⟨j, hj, hkey, hel, hp, hn⟩ := h.fr _ (List.getElem_mem hi)
  have hsub := List.eraseIdx_sublist A.fs i
  have hmem : ∀ y ∈ A.fs, y ∈ A.fs.eraseIdx i ∨ y = A.fs[i] := fun y hy => by
    have := (erase_perm A.fs i hi).mem_iff (a := y)
    rw [List.mem_append] at this
    rcases this.2 hy with h1 | h1
    · exact .inl h1
    · exact .inr (by simpa using h1)
  by_cases hd : A.fs[i].dirty = true
  · have hf : A.ts.findIdx? (AT.is A.fs[i].f A.fs[i].n) = some j := h.find hj (by rw [← hkey]; rfl)
    have hwb : A.wb A.fs[i] = { A with ts := A.ts.set j A.fs[i].at, l := A.l ++ [⟨2, A.fs[i].num, 0⟩] ++ [⟨3, A.fs[i].n, A.fs[i].f⟩] } := by
      unfold AS.wb
      rw [if_pos hd, hf]
    rw [hwb]
    refine ⟨h.most, Nat.le_trans hsub.length_le h.le, h.nd.sublist (hsub.map _), by simpa using h.tl, ?_, fun x hx => h.fr x (hsub.subset hx), ?_, h.n0, ?_⟩
    · intro m t ht
      dsimp only at ht
      rw [List.getElem?_set] at ht
      split at ht
      · rename_i e
        subst e
        split at ht
        · cases ht; exact hkey
        · cases ht
      · exact h.tk m t ht
    · intro m t ht hc
      dsimp only at ht hc
      rw [List.getElem?_set] at ht
      split at ht
      · rename_i e
        subst e
        split at ht
        · cases ht; exact hel
        · cases ht
      · rename_i hne
        refine h.ts m t ht (fun y hy hky => ?_)
        rcases hmem y hy with h1 | rfl
        · exact hc y h1 hky
        · exact absurd (kj_inj (hkey.symm.trans hky)) hne
    · intro m n hm hn3
      dsimp only at hm ⊢
      rw [List.append_assoc] at hm ⊢
      by_cases hlt : m < A.l.length
      · rw [List.getElem?_append_left hlt] at hm
        obtain ⟨m', j', h1, h2, h3⟩ := h.lg m n hm hn3
        exact ⟨m', j', h1, by rw [List.getElem?_append_left (by omega)]; exact h2, h3⟩
      · rw [List.getElem?_append_right (by omega)] at hm
        have hml : m - A.l.length = 0 ∨ m - A.l.length = 1 ∨ 2 ≤ m - A.l.length := by omega
        rcases hml with e | e | e
        · rw [e] at hm
          simp at hm
          subst hm
          exact absurd hn3 (by show ¬ (2 : Int) = 3; decide)
        · rw [e] at hm
          simp at hm
          subst hm
          refine ⟨⟨2, A.fs[i].num, 0⟩, j, by omega, ?_, rfl, hj, hkey, hn⟩
          rw [show m - 1 = A.l.length by omega, List.getElem?_append_right (Nat.le_refl _)]
          simp
        · rw [List.getElem?_eq_none (by simp; omega)] at hm
          cases hm
  · have hwb : A.wb A.fs[i] = A := by
      unfold AS.wb
      rw [if_neg hd]
    rw [hwb]
    refine ⟨h.most, Nat.le_trans hsub.length_le h.le, h.nd.sublist (hsub.map _), h.tl, h.tk, fun x hx => h.fr x (hsub.subset hx), ?_, h.n0, h.lg⟩
    intro m t ht hc
    refine h.ts m t ht (fun y hy hky => ?_)
    rcases hmem y hy with h1 | rfl
    · exact hc y h1 hky
    · simpa using hd

theorem pins_ge (l : List Int) (h : ∀ x ∈ l, 1 ≤ x) : (l.length : Int) ≤ pinsTo l := by
  induction l with
  | nil => simp [pinsTo]
  | cons a l ih =>
    have h1 := ih (fun x hx => h x (List.mem_cons_of_mem _ hx))
    have h2 := h a (List.mem_cons_self ..)
    simp [pinsTo] at *
    omega

/-- Room is made, or all frames are pinned. -/
theorem Keeps.room (h : Keeps mx now num A) (h0 : 0 < mx) : (A.room = (101, A) ∧ A.fs.length = mx ∧ (mx : Int) ≤ A.pins) ∨ ∃ A1, A.room = (0, A1) ∧ Keeps mx now num A1 ∧ A1.fs.length < mx ∧ A1.fs.Sublist A.fs ∧ A1.l.length ≤ A.l.length + 2 := by
  by_cases hlt : A.fs.length < A.most
  · exact .inr ⟨A, by simp [AS.room, hlt], h, by rw [← h.most]; exact hlt, List.Sublist.refl _, by omega⟩
  · cases hf : A.fs.findIdx? (fun x => x.pins == 0) with
    | none =>
      left
      have hlen : A.fs.length = mx := by have := h.le; have := h.most; omega
      refine ⟨by unfold AS.room; rw [if_neg hlt, hf], hlen, ?_⟩
      unfold AS.pins
      have := pins_ge (A.fs.map (·.pins)) (fun x hx => by
        obtain ⟨y, hy, rfl⟩ := List.mem_map.1 hx
        obtain ⟨j, _, _, _, hp, _⟩ := h.fr y hy
        rw [List.findIdx?_eq_none_iff] at hf
        have := hf y hy
        simp at this
        omega)
      rw [List.length_map, hlen] at this
      exact this
    | some i =>
      right
      obtain ⟨hi, _⟩ := List.findIdx?_eq_some_iff_getElem.1 hf
      refine ⟨{ A.wb A.fs[i] with fs := A.fs.eraseIdx i }, ?_, h.goes hi, ?_, List.eraseIdx_sublist _ _, ?_⟩
      · unfold AS.room
        rw [if_neg hlt, hf]
        dsimp only
        rw [List.getElem?_eq_getElem hi]
        rfl
      · have := h.le
        simp only [List.length_eraseIdx, if_pos hi]
        omega
      · show (A.wb A.fs[i]).l.length ≤ _
        unfold AS.wb
        split
        · simp
        · omega

/-- A tile is pinned, or all frames are. -/
theorem Keeps.pin (h : Keeps mx now num A) (h0 : 0 < mx) {j : Nat} (hj : j < 12) {p q : Int} (hk : kj j = (p, q)) :
    (A.pin p q = (101, A) ∧ A.fs.length = mx ∧ (mx : Int) ≤ A.pins) ∨
    ∃ L x A', A.pin p q = (0, A') ∧ Keeps mx now num A' ∧ A'.fs = L ++ [x] ∧ x.key = (p, q) ∧ 0 < x.pins ∧ (∀ y ∈ L, y.key ≠ (p, q)) ∧ A'.l.length ≤ A.l.length + 3 ∧ x.el = now j ∧ (∀ y ∈ A'.fs, y.pins ≤ 1 ∨ ∃ z ∈ A.fs, y.pins ≤ z.pins + 1) := by
  cases hf : A.fs.findIdx? (AF.is p q) with
  | some i =>
    right
    obtain ⟨hi, hp, _⟩ := List.findIdx?_eq_some_iff_getElem.1 hf
    have hke : A.fs[i].key = (p, q) := (AF.is_key p q _).1 hp
    obtain ⟨j', hj', hkey, hel, hpp, hn⟩ := h.fr _ (List.getElem_mem hi)
    have hjj : j' = j := kj_inj (by rw [← hkey, hke, hk])
    subst hjj
    have hsub := List.eraseIdx_sublist A.fs i
    have hperm := erase_perm A.fs i hi
    have hnd := h.nd
    rw [← (hperm.map AF.key).nodup_iff, List.map_append, List.nodup_append] at hnd
    refine ⟨A.fs.eraseIdx i, { A.fs[i] with pins := A.fs[i].pins + 1 }, { A with fs := A.fs.eraseIdx i ++ [{ A.fs[i] with pins := A.fs[i].pins + 1 }] }, ?_, ⟨h.most, ?_, ?_, h.tl, h.tk, ?_, ?_, h.n0, h.lg⟩, rfl, hke, by show 0 < A.fs[i].pins + 1; omega, ?_, by simp, hel, ?_⟩
    · unfold AS.pin
      rw [hf]
      dsimp only
      unfold AS.bump
      rw [List.getElem?_eq_getElem hi]
    · have := h.le
      simp [List.length_eraseIdx, hi]
      omega
    · have e : (A.fs.eraseIdx i ++ [{ A.fs[i] with pins := A.fs[i].pins + 1 }]).map AF.key = (A.fs.eraseIdx i ++ [A.fs[i]]).map AF.key := by rw [List.map_append, List.map_append]; rfl
      show ((A.fs.eraseIdx i ++ [{ A.fs[i] with pins := A.fs[i].pins + 1 }]).map AF.key).Nodup
      rw [e, (hperm.map AF.key).nodup_iff]
      exact h.nd
    · intro x hx
      rcases List.mem_append.1 hx with hx | hx
      · exact h.fr x (hsub.subset hx)
      · simp at hx
        subst hx
        exact ⟨j', hj', hkey, hel, by show 0 ≤ A.fs[i].pins + 1; omega, hn⟩
    · intro m t ht hc
      refine h.ts m t ht (fun y hy hky => ?_)
      have := (hperm.mem_iff (a := y)).2 hy
      rcases List.mem_append.1 this with h1 | h1
      · exact hc y (List.mem_append.2 (.inl h1)) hky
      · simp at h1
        subst h1
        exact hc { A.fs[i] with pins := A.fs[i].pins + 1 } (List.mem_append.2 (.inr (List.mem_singleton.2 rfl))) hky
    · intro y hy hky
      exact hnd.2.2 y.key (List.mem_map.2 ⟨y, hy, rfl⟩) A.fs[i].key (by simp) (by rw [hky, hke])
    · intro y hy
      rcases List.mem_append.1 hy with hy | hy
      · exact .inr ⟨y, hsub.subset hy, by omega⟩
      · simp at hy
        subst hy
        exact .inr ⟨_, List.getElem_mem hi, Int.le_refl _⟩
  | none =>
    have hno : ∀ y ∈ A.fs, y.key ≠ (p, q) := by
      intro y hy hky
      rw [List.findIdx?_eq_none_iff] at hf
      have := hf y hy
      rw [(AF.is_key p q y).2 hky] at this
      cases this
    rcases h.room h0 with ⟨hr, h1, h2⟩ | ⟨A1, hr, h1, hlt, hsub, hll⟩
    · left
      refine ⟨?_, h1, h2⟩
      unfold AS.pin
      rw [hf]
      dsimp only
      rw [hr]
      rfl
    · right
      have hj1 : j < A1.ts.length := by rw [h1.tl]; exact hj
      obtain ⟨t, ht⟩ : ∃ t, A1.ts[j]? = some t := ⟨_, List.getElem?_eq_getElem hj1⟩
      have htk := h1.tk j t ht
      rw [hk, Prod.mk.injEq] at htk
      have hno1 : ∀ y ∈ A1.fs, y.key ≠ (p, q) := fun y hy => hno y (hsub.subset hy)
      have hte : t.el = now j := h1.ts j t ht (fun x hx hkx => absurd (hkx.trans hk) (hno1 x hx))
      have hff := h1.find hj hk
      have hff0 := h.find hj hk
      refine ⟨A1.fs, ⟨t.f, t.n, t.k, t.el, 1, false, 0⟩, { A1 with fs := A1.fs ++ [⟨t.f, t.n, t.k, t.el, 1, false, 0⟩], l := A1.l ++ [⟨1, q, p⟩] }, ?_, ⟨h1.most, ?_, ?_, h1.tl, h1.tk, ?_, ?_, h1.n0, ?_⟩, rfl, by simp [AF.key, htk.1, htk.2], by show (0 : Int) < 1; decide, hno1, by simp; omega, hte, ?_⟩
      · unfold AS.pin
        rw [hf]
        dsimp only
        rw [hr, if_pos rfl, hff0, load_some A1 p q hff ht]
        rfl
      · simp; omega
      · show ((A1.fs ++ [_]).map AF.key).Nodup
        rw [List.map_append, List.nodup_append]
        refine ⟨h1.nd, by simp, ?_⟩
        intro x hx y hy
        simp at hy
        subst hy
        obtain ⟨z, hz, rfl⟩ := List.mem_map.1 hx
        have := hno1 z hz
        simpa [AF.key, htk.1, htk.2] using this
      · intro x hx
        rcases List.mem_append.1 hx with hx | hx
        · exact h1.fr x hx
        · simp at hx
          subst hx
          exact ⟨j, hj, by simp [AF.key, htk.1, htk.2, hk], hte, by show (0 : Int) ≤ 1; decide, h1.n0 j⟩
      · intro m t' ht' hc
        exact h1.ts m t' ht' (fun y hy hky => hc y (List.mem_append.2 (.inl hy)) hky)
      · intro m n hm hn3
        dsimp only at hm ⊢
        by_cases hml : m < A1.l.length
        · rw [List.getElem?_append_left hml] at hm
          obtain ⟨m', j', g1, g2, g3⟩ := h1.lg m n hm hn3
          exact ⟨m', j', g1, by rw [List.getElem?_append_left (by omega)]; exact g2, g3⟩
        · rw [List.getElem?_append_right (by omega)] at hm
          cases hmm : m - A1.l.length with
          | zero =>
            rw [hmm] at hm
            simp at hm
            subst hm
            exact absurd hn3 (by show ¬ (1 : Int) = 3; decide)
          | succ k => rw [hmm] at hm; simp at hm
      · intro y hy
        rcases List.mem_append.1 hy with hy | hy
        · exact .inr ⟨y, hsub.subset hy, by omega⟩
        · simp at hy
          subst hy
          exact .inl (by show (1 : Int) ≤ 1; decide)

/-- What was set. -/
def upd {α : Type} (f : Nat → α) (j : Nat) (v : α) : Nat → α := fun i => if i = j then v else f i

/-- The last frame is set. -/
theorem Keeps.put (h : Keeps mx now num A) {L : List AF} {x : AF} (hfs : A.fs = L ++ [x]) {j : Nat} (hj : j < 12) (hk : x.key = kj j) (n : Nat) (v nb : Int) (hnb : 0 ≤ nb) :
    Keeps mx (upd now j ((now j).set n v)) (upd num j (max (num j) nb)) { A with fs := L ++ [{ x with el := x.el.set n v, dirty := true, num := max x.num nb }] } := by
  have hx : x ∈ A.fs := by rw [hfs]; simp
  obtain ⟨j', hj', hkey, hel, hpp, hn⟩ := h.fr x hx
  have hjj : j' = j := kj_inj (by rw [← hkey, hk])
  subst hjj
  have hge : ∀ i, num i ≤ upd num j' (max (num j') nb) i := fun i => by
    unfold upd
    split
    · rename_i e; subst e; omega
    · omega
  have hLk : ∀ y ∈ L, ∀ i, y.key = kj i → i ≠ j' := by
    intro y hy i hyi e
    subst e
    have hnd := h.nd
    rw [hfs, List.map_append, List.nodup_append] at hnd
    exact hnd.2.2 y.key (List.mem_map.2 ⟨y, hy, rfl⟩) x.key (by simp) (by rw [hyi, hkey])
  refine ⟨h.most, ?_, ?_, h.tl, h.tk, ?_, ?_, fun i => Int.le_trans (h.n0 i) (hge i), ?_⟩
  · have := h.le
    rw [hfs] at this
    simpa using this
  · have := h.nd
    rw [hfs] at this
    simpa [AF.key] using this
  · intro y hy
    rcases List.mem_append.1 hy with hy | hy
    · obtain ⟨i, hi, h1, h2, h3, h4⟩ := h.fr y (by rw [hfs]; simp [hy])
      refine ⟨i, hi, h1, ?_, h3, Int.le_trans h4 (hge i)⟩
      unfold upd
      rw [if_neg (hLk y hy i h1)]
      exact h2
    · simp at hy
      subst hy
      refine ⟨j', hj', hkey, ?_, hpp, ?_⟩
      · unfold upd
        rw [if_pos rfl, ← hel]
      · show max x.num nb ≤ upd num j' (max (num j') nb) j'
        unfold upd
        rw [if_pos rfl]
        omega
  · intro m t ht hc
    by_cases hm : m = j'
    · subst hm
      exact absurd (hc { x with el := x.el.set n v, dirty := true, num := max x.num nb } (by simp) hkey) (by simp)
    · unfold upd
      rw [if_neg hm]
      refine h.ts m t ht (fun y hy hky => ?_)
      rw [hfs] at hy
      rcases List.mem_append.1 hy with hy | hy
      · exact hc y (List.mem_append.2 (.inl hy)) hky
      · simp at hy
        subst hy
        exact absurd (kj_inj (hky.symm.trans hkey)) hm
  · intro m n' hm hn3
    obtain ⟨m', i, g1, g2, g3, g4, g5, g6⟩ := h.lg m n' hm hn3
    exact ⟨m', i, g1, g2, g3, g4, g5, Int.le_trans g6 (hge i)⟩

/-- The last frame is unpinned. -/
theorem Keeps.unpin (h : Keeps mx now num A) {L : List AF} {x : AF} (hfs : A.fs = L ++ [x]) (hp : 0 < x.pins) : Keeps mx now num { A with fs := L ++ [{ x with pins := x.pins - 1 }] } := by
  refine ⟨h.most, ?_, ?_, h.tl, h.tk, ?_, ?_, h.n0, h.lg⟩
  · have := h.le
    rw [hfs] at this
    simpa using this
  · have := h.nd
    rw [hfs] at this
    simpa [AF.key] using this
  · intro y hy
    rcases List.mem_append.1 hy with hy | hy
    · exact h.fr y (by rw [hfs]; simp [hy])
    · simp at hy
      subst hy
      obtain ⟨j, hj, hkey, hel, hpp, hn⟩ := h.fr x (by rw [hfs]; simp)
      exact ⟨j, hj, hkey, hel, by show 0 ≤ x.pins - 1; omega, hn⟩
  · intro m t ht hc
    refine h.ts m t ht (fun y hy hky => ?_)
    rw [hfs] at hy
    rcases List.mem_append.1 hy with hy | hy
    · exact hc y (List.mem_append.2 (.inl hy)) hky
    · simp at hy
      subst hy
      exact hc { y with pins := y.pins - 1 } (by simp) hky
end

end Go.Proofs.Ythjejgepdbonpaa
