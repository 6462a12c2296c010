/-
  The plain law of the order of frames.
-/
import Derived.Test.YthjejgepdbonpaaXb
namespace Go.Proofs.Ythjejgepdbonpaa

/-! The plain law of PoolOrder: loose frames, then pinned ones. -/

def AF.key (x : AF) : Int × Int := (x.f, x.n)
theorem AF.is_key (p q : Int) (x : AF) : AF.is p q x = true ↔ x.key = (p, q) := by simp [AF.is, AF.key]

/-- Loose frames L, then frames M that are pinned once; no frame is dirty, and the memory is as it was made. -/
structure LM (mx : Nat) (L M : List AF) (A : AS) : Prop where
  most : A.most = mx
  fs : A.fs = L ++ M
  ts : A.ts = tils0 12
  l0 : ∀ x ∈ L, x.pins = 0
  m1 : ∀ x ∈ M, x.pins = 1
  cl : ∀ x ∈ A.fs, x.dirty = false
  nd : (A.fs.map AF.key).Nodup
  le : A.fs.length ≤ mx

theorem LM.ok {most : Nat} {L M : List AF} {A : AS} (h : LM most L M A) (hl : A.l.length ≤ 999900) : A.Ok := by
  refine ⟨fun x hx => ?_, hl⟩
  rw [h.fs] at hx
  rcases List.mem_append.1 hx with hx | hx
  · rw [h.l0 x hx]; omega
  · rw [h.m1 x hx]; omega

theorem pins_sum (L M : List AF) (h0 : ∀ x ∈ L, x.pins = 0) (h1 : ∀ x ∈ M, x.pins = 1) : pinsTo ((L ++ M).map (·.pins)) = M.length := by
  have e0 : ∀ L : List AF, (∀ x ∈ L, x.pins = 0) → pinsTo (L.map (·.pins)) = 0 := by
    intro L
    induction L with
    | nil => intro _; rfl
    | cons a L ih => intro h; have := ih (fun x hx => h x (List.mem_cons_of_mem _ hx)); have := h a (List.mem_cons_self ..); simp [pinsTo] at *; omega
  have e1 : ∀ L : List AF, (∀ x ∈ L, x.pins = 1) → pinsTo (L.map (·.pins)) = L.length := by
    intro L
    induction L with
    | nil => intro _; rfl
    | cons a L ih => intro h; have := ih (fun x hx => h x (List.mem_cons_of_mem _ hx)); have := h a (List.mem_cons_self ..); simp [pinsTo] at *; omega
  have := e0 L h0
  have := e1 M h1
  simp [pinsTo, List.sum_append] at *
  omega

theorem LM.pins {most : Nat} {L M : List AF} {A : AS} (h : LM most L M A) : A.pins = M.length := by
  unfold AS.pins
  rw [h.fs]
  exact pins_sum L M h.l0 h.m1

theorem find_tile {p q : Int} {j : Nat} (h : (tils0 12).findIdx? (AT.is p q) = some j) : ∃ t, (tils0 12)[j]? = some t ∧ t.f = p ∧ t.n = q := by
  obtain ⟨hj, hp, _⟩ := List.findIdx?_eq_some_iff_getElem.1 h
  refine ⟨_, List.getElem?_eq_getElem hj, ?_⟩
  simpa [AT.is] using hp

theorem wb_clean (A : AS) (x : AF) (h : x.dirty = false) : A.wb x = A := by simp [AS.wb, h]

theorem load_some (A : AS) (p q : Int) {j : Nat} {t : AT} (h : A.ts.findIdx? (AT.is p q) = some j) (ht : A.ts[j]? = some t) : A.load p q = { A with fs := A.fs ++ [⟨t.f, t.n, t.k, t.el, 1, false, 0⟩], l := A.l ++ [⟨1, q, p⟩] } := by
  simp [AS.load, h, ht]

/-- A tile of the memory, of which no frame is pinned, is pinned: there is room. -/
theorem LM.pin {most : Nat} {L M : List AF} {A : AS} (h : LM most L M A) {p q : Int} (hM : ∀ x ∈ M, x.key ≠ (p, q)) (hm : M.length < most) (hk : ((tils0 12).findIdx? (AT.is p q)).isSome = true) :
    ∃ L' x A', A.pin p q = (0, A') ∧ LM most L' (M ++ [x]) A' ∧ x.key = (p, q) ∧ A'.l.length ≤ A.l.length + 1 ∧ (∀ y ∈ L', y.key ≠ (p, q)) := by
  have hnd := h.nd
  rw [h.fs, List.map_append, List.nodup_append] at hnd
  obtain ⟨n1, n2, n3⟩ := hnd
  cases hf : A.fs.findIdx? (AF.is p q) with
  | some i =>
    obtain ⟨hi, hp, _⟩ := List.findIdx?_eq_some_iff_getElem.1 hf
    have hil : i < L.length := by
      refine Decidable.byContradiction fun hge => ?_
      have hmem : A.fs[i] ∈ M := by
        have e : A.fs[i] = (L ++ M)[i]'(by rw [← h.fs]; exact hi) := by simp [h.fs]
        rw [e, List.getElem_append_right (by omega)]
        exact List.getElem_mem _
      exact hM _ hmem ((AF.is_key p q _).1 hp)
    have hgi : A.fs[i]? = some L[i] := by rw [h.fs, List.getElem?_append_left hil, List.getElem?_eq_getElem hil]
    have hke : L[i].key = (p, q) := by
      have : A.fs[i] = L[i] := by rw [List.getElem?_eq_getElem hi] at hgi; exact Option.some.inj hgi
      rw [← this]
      exact (AF.is_key p q _).1 hp
    have hpi : L[i].pins = 0 := h.l0 _ (List.getElem_mem hil)
    have hsub := List.eraseIdx_sublist L i
    refine ⟨L.eraseIdx i, { L[i] with pins := 1 }, { A with fs := L.eraseIdx i ++ M ++ [{ L[i] with pins := 1 }] }, ?_, ⟨h.most, by simp, h.ts, fun x hx => h.l0 x (hsub.subset hx), ?_, ?_, ?_, ?_⟩, hke, by simp, ?_⟩
    · unfold AS.pin
      rw [hf]
      dsimp only
      unfold AS.bump
      rw [hgi]
      dsimp only
      rw [hpi, h.fs, List.eraseIdx_append_of_lt_length hil]
      rfl
    · intro x hx
      rcases List.mem_append.1 hx with hx | hx
      · exact h.m1 x hx
      · simp at hx; subst hx; rfl
    · intro x hx
      have hcl : ∀ y ∈ L ++ M, y.dirty = false := by rw [← h.fs]; exact h.cl
      rcases List.mem_append.1 hx with hx | hx
      · rcases List.mem_append.1 hx with hx | hx
        · exact hcl x (List.mem_append.2 (.inl (hsub.subset hx)))
        · exact hcl x (List.mem_append.2 (.inr hx))
      · simp at hx; subst hx; exact hcl L[i] (List.mem_append.2 (.inl (List.getElem_mem hil)))
    · have hp2 := (erase_perm L i hil)
      have : ((L.eraseIdx i ++ M ++ [{ L[i] with pins := 1 }]).map AF.key).Perm ((L ++ M).map AF.key) := by
        have e : (L.eraseIdx i ++ M ++ [{ L[i] with pins := 1 }]).map AF.key = (L.eraseIdx i ++ M ++ [L[i]]).map AF.key := by simp [AF.key]
        rw [e]
        refine List.Perm.map _ ?_
        rw [List.append_assoc]
        refine (List.Perm.append_left _ List.perm_append_comm).trans ?_
        rw [← List.append_assoc]
        exact hp2.append_right M
      rw [this.nodup_iff, ← h.fs]
      exact h.nd
    · have := h.le
      rw [h.fs] at this
      simp [List.length_eraseIdx, hil] at this ⊢
      omega
    · intro y hy hky
      have hp2 := (erase_perm L i hil).map AF.key
      rw [← hp2.nodup_iff, List.map_append, List.nodup_append] at n1
      exact n1.2.2 y.key (List.mem_map.2 ⟨y, hy, rfl⟩) L[i].key (by simp) (by rw [hky, hke])
  | none =>
    have hno : ∀ y ∈ L ++ M, y.key ≠ (p, q) := by
      intro y hy hky
      rw [List.findIdx?_eq_none_iff] at hf
      rw [← h.fs] at hy
      have := hf y hy
      rw [(AF.is_key p q y).2 hky] at this
      cases this
    obtain ⟨j, hj⟩ := Option.isSome_iff_exists.1 hk
    obtain ⟨t, ht, t1, t2⟩ := find_tile hj
    obtain ⟨L', A1, hr, hA1, hsub, hlen⟩ : ∃ L' A1, A.room = (0, A1) ∧ A1 = { A with fs := L' ++ M } ∧ L'.Sublist L ∧ (L' ++ M).length < most := by
      by_cases hlt : A.fs.length < A.most
      · refine ⟨L, A, by simp [AS.room, hlt], by rw [← h.fs], List.Sublist.refl _, by rw [← h.fs, ← h.most]; exact hlt⟩
      · have hle := h.le
        have hmo := h.most
        rw [h.fs] at hle hlt
        simp only [List.length_append] at hle hlt
        cases L with
        | nil => simp at hle hlt; omega
        | cons a T =>
          have ha0 : a.pins = 0 := h.l0 a (List.mem_cons_self ..)
          have hcl : a.dirty = false := h.cl a (by rw [h.fs]; exact List.mem_append.2 (.inl (List.mem_cons_self ..)))
          refine ⟨T, { A with fs := T ++ M }, ?_, rfl, List.sublist_cons_self .., by simp at hle ⊢; omega⟩
          have e1 : ¬ A.fs.length < A.most := by rw [h.fs]; simp only [List.length_append]; exact hlt
          have e2 : A.fs.findIdx? (fun x => x.pins == 0) = some 0 := by rw [h.fs]; simp [List.findIdx?_cons, ha0]
          have e3 : A.fs[0]?.getD ⟨0, 0, 0, [], 0, false, 0⟩ = a := by rw [h.fs]; rfl
          unfold AS.room
          rw [if_neg e1, e2]
          dsimp only
          rw [e3, wb_clean A a hcl, h.fs]
          rfl
    have hno' : ∀ y ∈ L' ++ M, y.key ≠ (p, q) := by
      intro y hy
      refine hno y ?_
      rcases List.mem_append.1 hy with hy | hy
      · exact List.mem_append.2 (.inl (hsub.subset hy))
      · exact List.mem_append.2 (.inr hy)
    refine ⟨L', ⟨t.f, t.n, t.k, t.el, 1, false, 0⟩, { A with fs := L' ++ M ++ [⟨t.f, t.n, t.k, t.el, 1, false, 0⟩], l := A.l ++ [⟨1, q, p⟩] }, ?_, ⟨h.most, by simp, h.ts, fun x hx => h.l0 x (hsub.subset hx), ?_, ?_, ?_, ?_⟩, by simp [AF.key, t1, t2], by simp, fun y hy => hno' y (List.mem_append.2 (.inl hy))⟩
    · unfold AS.pin
      rw [hf]
      dsimp only
      rw [hr, if_pos rfl]
      have hts : A.ts.findIdx? (AT.is p q) = some j := by rw [h.ts]; exact hj
      rw [hts]
      dsimp only
      have hts1 : A1.ts.findIdx? (AT.is p q) = some j := by rw [hA1]; exact hts
      have ht1 : A1.ts[j]? = some t := by rw [hA1]; show A.ts[j]? = some t; rw [h.ts]; exact ht
      rw [load_some A1 p q hts1 ht1, hA1]
      rfl
    · intro x hx
      rcases List.mem_append.1 hx with hx | hx
      · exact h.m1 x hx
      · simp at hx; subst hx; rfl
    · intro x hx
      have hcl : ∀ y ∈ L ++ M, y.dirty = false := by rw [← h.fs]; exact h.cl
      rcases List.mem_append.1 hx with hx | hx
      · rcases List.mem_append.1 hx with hx | hx
        · exact hcl x (List.mem_append.2 (.inl (hsub.subset hx)))
        · exact hcl x (List.mem_append.2 (.inr hx))
      · simp at hx; subst hx; rfl
    · show (((L' ++ M) ++ [_]).map AF.key).Nodup
      rw [List.map_append, List.nodup_append]
      refine ⟨?_, by simp, ?_⟩
      · have := h.nd
        rw [h.fs] at this
        exact this.sublist ((hsub.append_right M).map _)
      · intro x hx y hy
        simp at hy
        subst hy
        obtain ⟨z, hz, rfl⟩ := List.mem_map.1 hx
        have := hno' z hz
        simpa [AF.key, t1, t2] using this
    · simp only [List.length_append, List.length_cons, List.length_nil] at hlen ⊢
      omega

/-- The last frame, pinned once, is unpinned. -/
theorem LM.unpin {most : Nat} {L M : List AF} {x : AF} {A : AS} (h : LM most L (M ++ [x]) A) (hm : M = []) {p q : Int} (hx : x.key = (p, q)) (hL : ∀ y ∈ L, y.key ≠ (p, q)) :
    ∃ A', A.unpin p q = (0, A') ∧ LM most (L ++ [{ x with pins := 0 }]) [] A' ∧ A'.l = A.l := by
  subst hm
  have hfs : A.fs = L ++ [x] := by rw [h.fs]; rfl
  have hx1 : x.pins = 1 := h.m1 x (by simp)
  have hf : A.fs.findIdx? (AF.is p q) = some L.length := by
    rw [hfs, List.findIdx?_append]
    have e1 : L.findIdx? (AF.is p q) = none := by
      rw [List.findIdx?_eq_none_iff]
      intro y hy
      have := hL y hy
      rw [Ne, ← AF.is_key] at this
      simpa using this
    rw [e1]
    simp [List.findIdx?_cons, (AF.is_key p q x).2 hx]
  have hg : A.fs[L.length]? = some x := by rw [hfs]; simp
  refine ⟨{ A with fs := L ++ [{ x with pins := 0 }] }, ?_, ⟨h.most, by simp, h.ts, ?_, by simp, ?_, ?_, ?_⟩, rfl⟩
  · unfold AS.unpin AS.pinned
    rw [hf]
    dsimp only
    rw [hg]
    dsimp only
    rw [if_pos (by omega)]
    unfold AS.bump
    dsimp only
    rw [hg]
    dsimp only
    rw [hfs, List.eraseIdx_append_of_length_le (Nat.le_refl _), hx1]
    simp
  · intro y hy
    rcases List.mem_append.1 hy with hy | hy
    · exact h.l0 y hy
    · simp at hy; subst hy; rfl
  · intro y hy
    have hcl : ∀ y ∈ L ++ [x], y.dirty = false := by rw [← hfs]; exact h.cl
    rcases List.mem_append.1 hy with hy | hy
    · exact hcl y (List.mem_append.2 (.inl hy))
    · simp at hy; subst hy; exact hcl x (by simp)
  · have := h.nd
    rw [hfs] at this
    simpa [AF.key] using this
  · have := h.le
    rw [hfs] at this
    simpa using this

end Go.Proofs.Ythjejgepdbonpaa
