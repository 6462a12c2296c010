/-
  The plain law of PoolClean.
-/
import Derived.Test.YthjejgepdbonpaaXg
import Derived.Test.YthjejgepdbonpaaXd
namespace Go.Proofs.Ythjejgepdbonpaa

/-! The last frame of some: what the machine does with it. -/
section
variable {A : AS} {L : List AF} {x : AF} {p q : Int}

theorem last_find (hx : x.key = (p, q)) (hL : ∀ y ∈ L, y.key ≠ (p, q)) : (L ++ [x]).findIdx? (AF.is p q) = some L.length := by
  rw [List.findIdx?_append]
  have e1 : L.findIdx? (AF.is p q) = none := by
    rw [List.findIdx?_eq_none_iff]
    intro y hy
    have := hL y hy
    rw [Ne, ← AF.is_key] at this
    simpa using this
  rw [e1]
  simp [List.findIdx?_cons, (AF.is_key p q x).2 hx]
theorem none_find (hL : ∀ y ∈ L, y.key ≠ (p, q)) : L.findIdx? (AF.is p q) = none := by
  rw [List.findIdx?_eq_none_iff]
  intro y hy
  have := hL y hy
  rw [Ne, ← AF.is_key] at this
  simpa using this
theorem last_get : (L ++ [x])[L.length]? = some x := by simp
theorem set_last2 {α : Type} (l : List α) (a b : α) : (l ++ [a]).set l.length b = l ++ [b] := by
  rw [List.set_append_right _ _ (Nat.le_refl _), Nat.sub_self]; rfl

theorem pinned_last (hfs : A.fs = L ++ [x]) (hx : x.key = (p, q)) (hL : ∀ y ∈ L, y.key ≠ (p, q)) (hp : 0 < x.pins) : A.pinned p q = some L.length := by
  unfold AS.pinned
  rw [hfs, last_find hx hL]
  dsimp only
  rw [last_get]
  dsimp only
  rw [if_pos hp]
theorem put_last (hfs : A.fs = L ++ [x]) (hx : x.key = (p, q)) (hL : ∀ y ∈ L, y.key ≠ (p, q)) (hp : 0 < x.pins) (n : Nat) (v num : Int) :
    A.put p q n v num = (0, { A with fs := L ++ [{ x with el := x.el.set n v, dirty := true, num := max x.num num }] }) := by
  unfold AS.put
  rw [pinned_last hfs hx hL hp]
  dsimp only
  unfold AS.set
  rw [hfs, last_get]
  dsimp only
  rw [set_last2]
theorem clean_last (hfs : A.fs = L ++ [x]) (hx : x.key = (p, q)) (hL : ∀ y ∈ L, y.key ≠ (p, q)) (hd : x.dirty = true) {j : Nat} (hj : A.ts.findIdx? (AT.is p q) = some j) :
    A.clean p q = (0, { A with fs := L ++ [{ x with dirty := false, num := 0 }], ts := A.ts.set j x.at, l := A.l ++ [⟨2, x.num, 0⟩] ++ [⟨3, x.n, x.f⟩] }) := by
  have hf : x.f = p ∧ x.n = q := by simpa [AF.key] using hx
  unfold AS.clean
  rw [hfs, last_find hx hL]
  dsimp only
  unfold AS.cleanAt
  rw [hfs, last_get]
  dsimp only
  rw [set_last2]
  unfold AS.wb AF.clean
  rw [if_pos hd, if_pos hd]
  have hj' : A.ts.findIdx? (AT.is x.f x.n) = some j := by rw [hf.1, hf.2]; exact hj
  rw [hj']
theorem unpin_last (hfs : A.fs = L ++ [x]) (hx : x.key = (p, q)) (hL : ∀ y ∈ L, y.key ≠ (p, q)) (hp : 0 < x.pins) : A.unpin p q = (0, { A with fs := L ++ [{ x with pins := x.pins - 1 }] }) := by
  unfold AS.unpin
  rw [pinned_last hfs hx hL hp]
  dsimp only
  unfold AS.bump
  rw [hfs, last_get]
  dsimp only
  rw [List.eraseIdx_append_of_length_le (Nat.le_refl _)]
  simp [Int.sub_eq_add_neg]
theorem give_last (hfs : A.fs = L ++ [x]) (hx : x.key = (p, q)) (hL : ∀ y ∈ L, y.key ≠ (p, q)) (hp : ¬ 0 < x.pins) : A.give p q = (0, { A with fs := L }) := by
  unfold AS.give
  rw [hfs, last_find hx hL]
  dsimp only
  rw [last_get]
  dsimp only
  rw [if_neg hp]
  unfold AS.drop
  rw [hfs, List.eraseIdx_append_of_length_le (Nat.le_refl _)]
  simp
theorem pin_new (hL : ∀ y ∈ A.fs, y.key ≠ (p, q)) (hm : A.fs.length < A.most) {j : Nat} {t : AT} (hj : A.ts.findIdx? (AT.is p q) = some j) (ht : A.ts[j]? = some t) :
    A.pin p q = (0, { A with fs := A.fs ++ [⟨t.f, t.n, t.k, t.el, 1, false, 0⟩], l := A.l ++ [⟨1, q, p⟩] }) := by
  unfold AS.pin
  rw [none_find hL]
  dsimp only
  have hr : A.room = (0, A) := by simp [AS.room, hm]
  rw [hr, if_pos rfl, hj, load_some A p q hj ht]
  rfl
end

/-- A pin of whatever tile: there is one, and it is pinned; or there is none. -/
theorem LM.pin_any {most : Nat} {L : List AF} {A : AS} (h : LM most L [] A) (hm : 0 < most) (p q : Int) :
    (∃ L' x A', A.pin p q = (0, A') ∧ LM most L' ([] ++ [x]) A' ∧ x.key = (p, q) ∧ A'.l.length ≤ A.l.length + 1 ∧ (∀ y ∈ L', y.key ≠ (p, q))) ∨
    ∃ L' A', A.pin p q = (50, A') ∧ LM most L' [] A' ∧ A'.l.length ≤ A.l.length + 1 := by
  cases hk : (tils0 12).findIdx? (AT.is p q) with
  | some j => exact .inl (h.pin (by simp) (by simpa using hm) (by rw [hk]; rfl))
  | none =>
    cases hf : A.fs.findIdx? (AF.is p q) with
    | some i =>
      left
      obtain ⟨hi, hp, _⟩ := List.findIdx?_eq_some_iff_getElem.1 hf
      have hil : i < L.length := by have := hi; rw [h.fs] at this; simpa using this
      have hAL : A.fs = L := by rw [h.fs]; simp
      have hgi : A.fs[i]? = some L[i] := by rw [hAL, List.getElem?_eq_getElem hil]
      have hke : L[i].key = (p, q) := by
        have : A.fs[i] = L[i] := by rw [List.getElem?_eq_getElem hi] at hgi; exact Option.some.inj hgi
        rw [← this]
        exact (AF.is_key p q _).1 hp
      have hpi : L[i].pins = 0 := h.l0 _ (List.getElem_mem hil)
      have hsub := List.eraseIdx_sublist L i
      have hcl : ∀ y ∈ L, y.dirty = false := by rw [← hAL]; exact h.cl
      have hperm := erase_perm L i hil
      refine ⟨L.eraseIdx i, { L[i] with pins := 1 }, { A with fs := L.eraseIdx i ++ [{ L[i] with pins := 1 }] }, ?_, ⟨h.most, by simp, h.ts, fun x hx => h.l0 x (hsub.subset hx), ?_, ?_, ?_, ?_⟩, hke, by simp, ?_⟩
      · unfold AS.pin
        rw [hf]
        dsimp only
        unfold AS.bump
        rw [hgi]
        dsimp only
        rw [hpi, hAL]
        rfl
      · intro x hx
        simp at hx; subst hx; rfl
      · intro x hx
        rcases List.mem_append.1 hx with hx | hx
        · exact hcl x (hsub.subset hx)
        · simp at hx; subst hx; exact hcl L[i] (List.getElem_mem hil)
      · have : ((L.eraseIdx i ++ [{ L[i] with pins := 1 }]).map AF.key) = ((L.eraseIdx i ++ [L[i]]).map AF.key) := by simp [AF.key]
        show ((L.eraseIdx i ++ [{ L[i] with pins := 1 }]).map AF.key).Nodup
        rw [this, (hperm.map AF.key).nodup_iff, ← hAL]
        exact h.nd
      · have := h.le
        rw [hAL] at this
        simp [List.length_eraseIdx, hil] at this ⊢
        omega
      · intro y hy hky
        have n1 := h.nd
        rw [hAL, ← (hperm.map AF.key).nodup_iff, List.map_append, List.nodup_append] at n1
        exact n1.2.2 y.key (List.mem_map.2 ⟨y, hy, rfl⟩) L[i].key (by simp) (by rw [hky, hke])
    | none =>
      right
      obtain ⟨L', A1, hr, hA1, hsub⟩ : ∃ L' A1, A.room = (0, A1) ∧ A1 = { A with fs := L' } ∧ L'.Sublist L := by
        have hAL : A.fs = L := by rw [h.fs]; simp
        by_cases hlt : A.fs.length < A.most
        · exact ⟨L, A, by simp [AS.room, hlt], by rw [← hAL], List.Sublist.refl _⟩
        · cases L with
          | nil => rw [hAL, h.most] at hlt; simp at hlt; omega
          | cons a T =>
            have ha0 : a.pins = 0 := h.l0 a (List.mem_cons_self ..)
            have hcl : a.dirty = false := h.cl a (by rw [hAL]; exact List.mem_cons_self ..)
            refine ⟨T, { A with fs := T }, ?_, rfl, List.sublist_cons_self ..⟩
            have e2 : A.fs.findIdx? (fun x => x.pins == 0) = some 0 := by rw [hAL]; simp [List.findIdx?_cons, ha0]
            have e3 : A.fs[0]?.getD ⟨0, 0, 0, [], 0, false, 0⟩ = a := by rw [hAL]; rfl
            unfold AS.room
            rw [if_neg hlt, e2]
            dsimp only
            rw [e3, wb_clean A a hcl, hAL]
            rfl
      have hAL : A.fs = L := by rw [h.fs]; simp
      have hts : A.ts.findIdx? (AT.is p q) = none := by rw [h.ts]; exact hk
      refine ⟨L', { A with fs := L', l := A.l ++ [⟨1, q, p⟩] }, ?_, ⟨h.most, by simp, h.ts, fun x hx => h.l0 x (hsub.subset hx), by simp, fun x hx => h.cl x (by rw [hAL]; exact hsub.subset hx), ?_, ?_⟩, by simp⟩
      · unfold AS.pin
        rw [hf]
        dsimp only
        rw [hr, if_pos rfl, hts]
        have hts1 : A1.ts.findIdx? (AT.is p q) = none := by rw [hA1]; exact hts
        unfold AS.load
        dsimp only
        rw [hts1, hA1]
        rfl
      · have := h.nd
        rw [hAL] at this
        exact this.sublist (hsub.map _)
      · have := h.le
        rw [hAL] at this
        exact Nat.le_trans hsub.length_le this

/-- Where the machine stands while a tile is set, cleaned, set, dropped, and pinned again. -/
structure CleanRun (A : AS) (p q : Int) (n : Nat) (v w : Int) (j : Nat) : Prop where
  ex : ∃ A1 A2 A3 A4 A5 A6 A7 t y i, A.pin p q = (0, A1) ∧ A1.put p q n v 1 = (0, A2) ∧ A2.clean p q = (0, A3) ∧ (∃ u, A3.ts[j]? = some u ∧ u.el[n]? = some v) ∧ A3.put p q n w 2 = (0, A4) ∧ A4.unpin p q = (0, A5) ∧ A5.give p q = (0, A6) ∧ A6.pin p q = (0, A7) ∧
    A7.pinned p q = some i ∧ A7.fs[i]? = some y ∧ y.el[n]? = some v ∧ t = A1.fs ∧ A1.Ok ∧ A2.Ok ∧ A3.Ok ∧ A4.Ok ∧ A5.Ok ∧ A6.Ok ∧ A7.Ok

theorem ok_app {A : AS} {L : List AF} {x : AF} (hfs : A.fs = L ++ [x]) (hL : ∀ y ∈ L, y.pins = 0) (h0 : 0 ≤ x.pins) (h1 : x.pins ≤ 1) (hl : A.l.length ≤ 999900) : A.Ok := by
  refine ⟨fun y hy => ?_, hl⟩
  rw [hfs] at hy
  rcases List.mem_append.1 hy with hy | hy
  · rw [hL y hy]; omega
  · simp at hy; subst hy; omega

theorem LM.cleans {L : List AF} {A : AS} (h : LM 3 L [] A) (hl : A.l.length ≤ 1000) {p q : Int} {j : Nat} (hk : (tils0 12).findIdx? (AT.is p q) = some j) {n : Nat} (hn : n < 4) (hel : ∀ A1, A.pin p q = (0, A1) → ∀ y ∈ A1.fs, y.el.length = 4) (v w : Int) : CleanRun A p q n v w j := by
  obtain ⟨L', x, A1, hpin, hLM, hx, hl1, hL'⟩ := h.pin (p := p) (q := q) (by simp) (by simp) (by rw [hk]; rfl)
  have hfs : A1.fs = L' ++ [x] := by rw [hLM.fs]; simp
  have hx1 : x.pins = 1 := hLM.m1 x (by simp)
  have hxe : x.el.length = 4 := hel A1 hpin x (by rw [hfs]; simp)
  have hts : A1.ts = tils0 12 := hLM.ts
  obtain ⟨hj, _, _⟩ := List.findIdx?_eq_some_iff_getElem.1 hk
  have hxk : x.f = p ∧ x.n = q := by simpa [AF.key] using hx
  have hlen : L'.length + 1 ≤ 3 := by have := hLM.le; rw [hfs] at this; simpa using this
  have hL0 : ∀ y ∈ L', y.pins = 0 := hLM.l0
  have e2 := put_last (A := A1) hfs hx hL' (by omega) n v 1
  have e3 := clean_last (A := { A1 with fs := L' ++ [{ x with el := x.el.set n v, dirty := true, num := max x.num 1 }] }) rfl (p := p) (q := q) hx hL' rfl (j := j) (by rw [hts]; exact hk)
  have e4 := put_last (A := { A1 with fs := L' ++ [{ x with el := x.el.set n v, dirty := false, num := 0 }], ts := A1.ts.set j ⟨x.f, x.n, x.k, x.el.set n v⟩, l := A1.l ++ [⟨2, max x.num 1, 0⟩] ++ [⟨3, x.n, x.f⟩] }) rfl (p := p) (q := q) hx hL' (by show 0 < x.pins; omega) n w 2
  have e5 := unpin_last (A := { A1 with fs := L' ++ [{ x with el := (x.el.set n v).set n w, dirty := true, num := max 0 2 }], ts := A1.ts.set j ⟨x.f, x.n, x.k, x.el.set n v⟩, l := A1.l ++ [⟨2, max x.num 1, 0⟩] ++ [⟨3, x.n, x.f⟩] }) rfl (p := p) (q := q) hx hL' (by show 0 < x.pins; omega)
  have e6 := give_last (A := { A1 with fs := L' ++ [{ x with el := (x.el.set n v).set n w, pins := x.pins - 1, dirty := true, num := max 0 2 }], ts := A1.ts.set j ⟨x.f, x.n, x.k, x.el.set n v⟩, l := A1.l ++ [⟨2, max x.num 1, 0⟩] ++ [⟨3, x.n, x.f⟩] }) rfl (p := p) (q := q) hx hL' (by show ¬ 0 < x.pins - 1; omega)
  have hjs : (A1.ts.set j ⟨x.f, x.n, x.k, x.el.set n v⟩)[j]? = some ⟨x.f, x.n, x.k, x.el.set n v⟩ := by
    rw [hts, List.getElem?_set_self (by simpa using hj)]
  have hfind : (A1.ts.set j ⟨x.f, x.n, x.k, x.el.set n v⟩).findIdx? (AT.is p q) = some j := by
    rw [hts]
    obtain ⟨hj1, hj2, hj3⟩ := List.findIdx?_eq_some_iff_getElem.1 hk
    rw [List.findIdx?_eq_some_iff_getElem]
    refine ⟨by simpa using hj1, by simp [AT.is, hxk.1, hxk.2], fun i hi => ?_⟩
    rw [List.getElem_set_ne (by omega)]
    exact hj3 i hi
  have e7 := pin_new (A := { A1 with fs := L', ts := A1.ts.set j ⟨x.f, x.n, x.k, x.el.set n v⟩, l := A1.l ++ [⟨2, max x.num 1, 0⟩] ++ [⟨3, x.n, x.f⟩] }) (p := p) (q := q) hL' (by show L'.length < A1.most; rw [hLM.most]; omega) hfind hjs
  have hsv : (x.el.set n v)[n]? = some v := by rw [List.getElem?_set_self (by omega)]
  refine ⟨A1, _, _, _, _, _, _, A1.fs, ⟨x.f, x.n, x.k, x.el.set n v, 1, false, 0⟩, L'.length, hpin, e2, e3, ⟨_, hjs, hsv⟩, e4, e5, e6, e7, pinned_last (L := L') rfl (p := p) (q := q) (by simpa [AF.key] using hxk) hL' (by show (0 : Int) < 1; decide), by simp, hsv, rfl, ?_, ?_, ?_, ?_, ?_, ?_, ?_⟩
  · exact ok_app hfs hL0 (by omega) (by omega) (by omega)
  · exact ok_app (L := L') rfl hL0 (by show 0 ≤ x.pins; omega) (by show x.pins ≤ 1; omega) (by show A1.l.length ≤ _; omega)
  · exact ok_app (L := L') rfl hL0 (by show 0 ≤ x.pins; omega) (by show x.pins ≤ 1; omega) (by simp; omega)
  · exact ok_app (L := L') rfl hL0 (by show 0 ≤ x.pins; omega) (by show x.pins ≤ 1; omega) (by simp; omega)
  · exact ok_app (L := L') rfl hL0 (by show 0 ≤ x.pins - 1; omega) (by show x.pins - 1 ≤ 1; omega) (by simp; omega)
  · exact ⟨fun y hy => by rw [hL0 y hy]; omega, by simp; omega⟩
  · exact ok_app (L := L') rfl hL0 (by show (0 : Int) ≤ 1; decide) (by show (1 : Int) ≤ 1; decide) (by simp; omega)

end Go.Proofs.Ythjejgepdbonpaa
