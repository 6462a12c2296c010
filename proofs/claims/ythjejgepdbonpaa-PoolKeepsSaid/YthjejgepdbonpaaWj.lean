/-
  What making room comes to where there is some.
-/
import Derived.Test.YthjejgepdbonpaaWi
import Derived.Test.YthjejgepdbonpaaRange
namespace Go.Proofs.Ythjejgepdbonpaa
open Go.RowKit Go.Shelf
attribute [local go_sem] Oper.semAt_some

@[reducible] def backV (mb : Nat) : Value := .iface 28 (.pointer (some ⟨mb, 0, none⟩))

/-- The place of the first tile with that key. -/
def First (ts : List TilM) (p q : Int) (i : Nat) : Prop := ∃ hi : i < ts.length, (∀ j (hj : j < i), (ts[j]'(by omega)).is p q = false) ∧ ts[i].is p q = true
/-- What writing back does to the tiles and the log. -/
def Wrote (B : Nat) (ts : List TilM) (l : List NoteD) (x : Frm) (ts' : List TilM) (l' : List NoteD) : Prop :=
  (x.dirty = false ∧ ts' = ts ∧ l' = l) ∨ (x.dirty = true ∧ ∃ i g c, First ts x.t.f x.t.n i ∧ ts' = ts.set i { x.t with g := g, c := c } ∧ l' = l ++ [⟨2, x.num, 0⟩] ++ [⟨3, x.t.n, x.t.f⟩] ∧ B ≤ g)
/-- The frame is clean now. -/
def Frm.clean (x : Frm) : Frm := if x.dirty then { x with dirty := false, num := 0 } else x
def WrittenA (mb lb lc : Nat) (logv : Value) (ts : List TilM) (l : List NoteD) (x : Frm) (w : World) (e : Ending) (w' : World) : Prop :=
  ∃ logv' ts' l', e = .returned (.int .i64 0) ∧ MemAt w' mb lb lc logv' ts' l' ∧ Wrote w.heap.size ts l x ts' l' ∧ FrmAt w' x.clean ∧ Fr (fun k => k = mb ∨ k = lb ∨ logv.ownBlock = some k ∨ k = x.b) w w' ∧ AtOr w logv logv'

theorem written_any (pb mb lb lc : Nat) (v0 v2 logv : Value) (ts : List TilM) (l : List NoteD) (x : Frm) (w : World) (hP : Blk w pb 64 [v0, backV mb, v2]) (hx : FrmAt w x) (hM : MemAt w mb lb lc logv ts l) (hm : l.length ≤ 999990) (ht : ts.length ≤ 1000000)
    (hk : ∃ i, First ts x.t.f x.t.n i) (hel : 0 < x.t.el.length ∧ x.t.el.length ≤ 1000000) :
    Calls Try.prog 30 #[.pointer (some ⟨pb, 0, none⟩), .pointer (some ⟨x.b, 0, none⟩)] w (WrittenA mb lb lc logv ts l x w) := by
  cases hd : x.dirty with
  | false =>
    refine (written_clean pb x w hx hd).mono ?_
    rintro e w' ⟨rfl, rfl⟩
    refine ⟨logv, ts, l, rfl, hM, .inl ⟨hd, rfl, rfl⟩, ?_, Fr.refl _ _, AtOr.refl _ _⟩
    simpa [Frm.clean, hd] using hx
  | true =>
    obtain ⟨i, hi, hno, hhit⟩ := hk
    refine (written_dirty pb mb lb lc v0 v2 logv ts l x w hP hx hd hM hm ht i hi hno hhit hel).mono ?_
    rintro e w' ⟨logv', g, c, rfl, h1, h2, h3, h4, h5⟩
    refine ⟨logv', _, _, rfl, h1, .inr ⟨hd, i, g, c, ⟨hi, hno, hhit⟩, rfl, rfl, h3⟩, ?_, h4, h5⟩
    simpa [Frm.clean, hd] using h2

set_option maxHeartbeats 1000000 in
/-- There is room. -/
theorem room_free (pb most : Nat) (v1 fv : Value) (fs : List Frm) (w : World) (hF : FramesAt w pb (.int .i64 most) v1 fv fs) (hlt : fs.length < most) (hm : most ≤ 64) :
    Calls Try.prog 25 #[.pointer (some ⟨pb, 0, none⟩)] w fun e w' => e = .returned (.int .i64 0) ∧ Fr No w w' := by
  obtain ⟨a, c, rfl⟩ : ∃ a c, fv = .slice a fs.length c := by
    rcases hF.row.cases with ⟨rfl, h, _⟩ | ⟨g, c, rfl⟩
    · exact ⟨none, 0, by rw [h]⟩
    · exact ⟨_, _, rfl⟩
  have p0 := hF.blk.cell (j := 0) rfl
  have p2 := hF.blk.cell (j := 2) rfl
  go_enter Try.func25, Try.ntmps25
  go_wp2
  go_step3
  go_wp2_with fail
  go_quiet (fail)
  go_wp2
  rw [Exit.noGoto_ret]
  go_ret
  exact ⟨rfl, (Fr.refl No w).drewN _⟩

theorem FramesAt.fr {S : Nat → Prop} {w w' : World} {pb : Nat} {v0 v1 fv : Value} {fs : List Frm} (h : FramesAt w pb v0 v1 fv fs) (hf : Fr S w w') (h1 : ¬ S pb) (h2 : ∀ k, fv.ownBlock = some k → ¬ S k) (h3 : ∀ x ∈ fs, ¬ S x.b ∧ ¬ S x.t.g) : FramesAt w' pb v0 v1 fv fs :=
  ⟨h.blk.fr hf h1, h.row.fr hf h2, fun x hx => (h.frm x hx).fr hf (h3 x hx).1 (h3 x hx).2⟩

theorem notS {w : World} {b : Nat} {T : TypeId} {cc : List Value} {mb lb lc : Nat} {logv : Value} {ts : List TilM} {l : List NoteD} {y : Frm} (hM : MemAt w mb lb lc logv ts l) (hy : FrmAt w y) (h : Blk w b T cc)
    (h1 : T ≠ 47) (h2 : T ≠ 43) (h3 : T ≠ 54) (h4 : T ≠ 67) : ¬ (b = mb ∨ b = lb ∨ logv.ownBlock = some b ∨ b = y.b) := by
  rintro (e | e | e | e)
  · exact h.ne hM.blk h1 e
  · subst e; exact h.neOwn hM.row h2 _ rfl rfl
  · exact h.neOwn hM.log h3 _ e rfl
  · exact h.ne hy.blk h4 e
theorem Own.someBlk {w : World} {T : TypeId} {size n k : Nat} {v : Value} {xs : List Value} (h : Own w T size v n xs) (hk : v.ownBlock = some k) : ∃ l, Blk w k T l := by
  rcases h.cases with ⟨rfl, _⟩ | ⟨g, c, rfl⟩
  · simp [Value.ownBlock] at hk
  · simp [Value.ownBlock] at hk; subst hk
    obtain ⟨sp, hB, _⟩ := h.blk
    exact ⟨_, hB⟩
theorem inS {w : World} {b : Nat} {mb lb lc : Nat} {logv : Value} {ts : List TilM} {l : List NoteD} {y : Frm} (hM : MemAt w mb lb lc logv ts l) (hy : FrmAt w y) (h : b = mb ∨ b = lb ∨ logv.ownBlock = some b ∨ b = y.b) : ∃ T l, Blk w b T l := by
  rcases h with rfl | rfl | e | rfl
  · exact ⟨_, _, hM.blk⟩
  · obtain ⟨l, hl⟩ := hM.row.someBlk rfl; exact ⟨_, _, hl⟩
  · obtain ⟨l, hl⟩ := hM.log.someBlk e; exact ⟨_, _, hl⟩
  · exact ⟨_, _, hy.blk⟩
theorem keepDef {S : Nat → Prop} {w w' : World} {D : Nat} {o : Option (List Deferred)} (hf : Fr S w w') (hD : w.heap[D]? = some (.deferred o)) (hS : S D → ∃ T l, Blk w D T l) : w'.heap[D]? = some (.deferred o) := by
  refine (hf.block D (Array.getElem?_eq_some_iff.1 hD).1 (fun h => ?_)).trans hD
  obtain ⟨T, l, hB⟩ := hS h
  exact hB.neDef hD rfl

/-- All frames have tiles: none is loose; or the first loose one has been written back and given up. -/
def Roomed (pb mb lb lc : Nat) (v0 v1 fv logv : Value) (fs : List Frm) (ts : List TilM) (l : List NoteD) (w : World) (e : Ending) (w' : World) : Prop :=
  (loosePlaces fs = [] ∧ e = .returned (.int .i64 101) ∧ Fr No w w') ∨
  (∃ (i : Nat) (hi : i < fs.length) (r : List Nat) (fv' logv' : Value) (ts' : List TilM) (l' : List NoteD), loosePlaces fs = i :: r ∧ e = .returned (.int .i64 0) ∧
    FramesAt w' pb v0 v1 fv' (fs.eraseIdx i) ∧ MemAt w' mb lb lc logv' ts' l' ∧ Wrote w.heap.size ts l fs[i] ts' l' ∧
    Fr (fun k => k = pb ∨ fv.ownBlock = some k ∨ k = mb ∨ k = lb ∨ logv.ownBlock = some k ∨ k = fs[i].b) w w' ∧ AtOr w logv logv' ∧ fv'.ownBlock = fv.ownBlock)

theorem looseTo_mem {fs : List Frm} {k i : Nat} (h : i ∈ looseTo fs k) : i < k ∧ ∃ hi : i < fs.length, (fs[i].pins == 0) = true := by
  unfold looseTo at h
  rw [List.mem_filter] at h
  obtain ⟨h1, h2⟩ := h
  refine ⟨by simpa using h1, ?_⟩
  cases hx : fs[i]? with
  | none => rw [hx] at h2; simp at h2
  | some x =>
    rw [hx] at h2
    obtain ⟨hi, rfl⟩ := List.getElem?_eq_some_iff.1 hx
    exact ⟨hi, h2⟩

theorem map_erase {α β : Type} (f : α → β) (l : List α) (i : Nat) : (l.eraseIdx i).map f = (l.map f).eraseIdx i := by
  rw [List.eraseIdx_eq_take_drop_succ, List.eraseIdx_eq_take_drop_succ, List.map_append, List.map_take, List.map_drop]
theorem nodup_erase {α β : Type} {f : α → β} {l : List α} (h : (l.map f).Nodup) {i : Nat} (hi : i < l.length) {z : α} (hz : z ∈ l.eraseIdx i) : f z ≠ f l[i] := by
  rw [List.mem_eraseIdx_iff_getElem] at hz
  obtain ⟨j, hj, hne, rfl⟩ := hz
  intro e
  have h2 : (l.map f)[j]'(by simpa using hj) = (l.map f)[i]'(by simpa using hi) := by simpa using e
  exact hne ((List.getElem_inj h).1 h2)
theorem Wrote.mono {B B' : Nat} {ts ts' : List TilM} {l l' : List NoteD} {x : Frm} (h : Wrote B ts l x ts' l') (hB : B' ≤ B) : Wrote B' ts l x ts' l' := by
  rcases h with h | ⟨h, i, g, c, h1, h2, h3, h4⟩
  · exact .inl h
  · exact .inr ⟨h, i, g, c, h1, h2, h3, Nat.le_trans hB h4⟩
theorem Own.putObj {w : World} {T : TypeId} {size n : Nat} {v : Value} {xs : List Value} (h : Own w T size v n xs) {D : Nat} {oo : Option (List Deferred)} (hD : w.heap[D]? = some (.deferred oo)) (o : Obj) : Own (w.putObj D o) T size v n xs :=
  h.fr (S := fun k => k = D) ((Fr.refl (fun k => k = D) w).putObj (.inl rfl) o) (fun k hk e => by subst e; obtain ⟨l, hl⟩ := h.someBlk hk; exact hl.neDef hD rfl)
theorem FrmAt.putObj {w : World} {x : Frm} (h : FrmAt w x) {D : Nat} {oo : Option (List Deferred)} (hD : w.heap[D]? = some (.deferred oo)) (o : Obj) : FrmAt (w.putObj D o) x :=
  ⟨h.blk.putObj (h.blk.neDef hD) o, h.els.putObj hD o⟩
theorem MemAt.putObj {w : World} {mb lb lc : Nat} {logv : Value} {ts : List TilM} {l : List NoteD} (h : MemAt w mb lb lc logv ts l) {D : Nat} {oo : Option (List Deferred)} (hD : w.heap[D]? = some (.deferred oo)) (o : Obj) : MemAt (w.putObj D o) mb lb lc logv ts l :=
  ⟨h.blk.putObj (h.blk.neDef hD) o, h.row.putObj hD o, h.log.putObj hD o, fun t ht => (h.els t ht).putObj hD o⟩
theorem FramesAt.putObj {w : World} {pb : Nat} {v0 v1 fv : Value} {fs : List Frm} (h : FramesAt w pb v0 v1 fv fs) {D : Nat} {oo : Option (List Deferred)} (hD : w.heap[D]? = some (.deferred oo)) (o : Obj) : FramesAt (w.putObj D o) pb v0 v1 fv fs :=
  ⟨h.blk.putObj (h.blk.neDef hD) o, h.row.putObj hD o, fun x hx => (h.frm x hx).putObj hD o⟩

theorem room_end {w W w2 w3 : World} {pb mb lb lc D g c x : Nat} {v0 v1 logv logv' : Value} {fs : List Frm} {ts ts' : List TilM} {l l' : List NoteD} {y : Frm} {r : List Nat} {o : Obj} {oo : Option (List Deferred)} (hx : x < fs.length) (hy : y = fs[x]'hx) (hr : loosePlaces fs = x :: r) (hn : (fs.map (·.b)).Nodup)
    (hWW : Fr No w W) (hFW : FramesAt W pb v0 v1 (.slice (some ⟨g, 0, none⟩) fs.length c) fs) (hMW : MemAt W mb lb lc logv ts l) (hfx : FrmAt W y) (h21 : MemAt w2 mb lb lc logv' ts' l') (h22 : Wrote W.heap.size ts l y ts' l')
    (h24 : Fr (fun k => k = mb ∨ k = lb ∨ logv.ownBlock = some k ∨ k = y.b) W w2) (h25 : AtOr W logv logv') (h31 : Own w3 68 1 (.slice (some ⟨g, 0, none⟩) (fs.length - 1) c) (fs.length - 1) ((fs.map Frm.ptr).eraseIdx x)) (h32 : Fr (fun k => k = g) w2.drew w3)
    (hP3 : Blk w3 pb 64 [v0, v1, .slice (some ⟨g, 0, none⟩) fs.length c]) (hDz : w.heap.size ≤ D) (hD4 : (w3.setCell ⟨pb, 2, none⟩ (.slice (some ⟨g, 0, none⟩) (fs.length - 1) c)).heap[D]? = some (.deferred oo)) :
    Roomed pb mb lb lc v0 v1 (.slice (some ⟨g, 0, none⟩) fs.length c) logv fs ts l w (.returned (.int .i64 0)) ((w3.setCell ⟨pb, 2, none⟩ (.slice (some ⟨g, 0, none⟩) (fs.length - 1) c)).putObj D o) := by
  subst hy
  have hle : (fs.eraseIdx x).length = fs.length - 1 := by rw [List.length_eraseIdx]; simp [hx]
  obtain ⟨lg, hg⟩ : ∃ lg, Blk w2 g 68 lg := by
    obtain ⟨sp, hB, _⟩ := hFW.row.blk
    exact ⟨_, hB.fr h24 (notS hMW hfx hB (by decide) (by decide) (by decide) (by decide))⟩
  have hfr3 : Fr (fun k => k = g) w2 w3 := ((Fr.refl _ w2).drew).trans h32 (fun _ h => .inl h)
  have hfr4 : Fr (fun k => k = pb) w3 (w3.setCell ⟨pb, 2, none⟩ (.slice (some ⟨g, 0, none⟩) (fs.length - 1) c)) := (Fr.refl (fun k => k = pb) w3).setCell (p := ⟨pb, 2, none⟩) (.inl rfl) _
  have hFr : ∀ z ∈ fs.eraseIdx x, FrmAt w3 z := by
    intro z hz
    have hzm := (List.eraseIdx_sublist fs x).subset hz
    have hzW := hFW.frm z hzm
    have hzb := nodup_erase (f := (·.b)) hn hx hz
    have hz2 : FrmAt w2 z := by
      refine hzW.fr h24 ?_ ?_
      · rintro (e | e | e | e)
        · exact hzW.blk.ne hMW.blk (by decide) e
        · subst e; exact hzW.blk.neOwn hMW.row (by decide) _ rfl rfl
        · exact hzW.blk.neOwn hMW.log (by decide) _ e rfl
        · exact hzb e
      · rintro (e | e | e | e)
        · exact hMW.blk.neOwn hzW.els (by decide) _ rfl e
        · subst e; exact hzW.els.neOwn hMW.row (by decide) _ rfl rfl
        · exact hzW.els.neOwn hMW.log (by decide) _ rfl e
        · exact hfx.blk.neOwn hzW.els (by decide) _ rfl e
    exact hz2.fr hfr3 (fun e => hz2.blk.ne hg (by decide) e) (fun e => hg.neOwn hz2.els (by decide) _ rfl e)
  have hM3 : MemAt w3 mb lb lc logv' ts' l' := h21.beside hg hfr3 (by decide) (by decide) (by decide) (by decide)
  have hM4 := hM3.beside hP3 hfr4 (by decide) (by decide) (by decide) (by decide)
  have hF4 : FramesAt (w3.setCell ⟨pb, 2, none⟩ (.slice (some ⟨g, 0, none⟩) (fs.length - 1) c)) pb v0 v1 (.slice (some ⟨g, 0, none⟩) (fs.length - 1) c) (fs.eraseIdx x) := by
    refine ⟨hP3.set 2 _, ?_, fun z hz => (hFr z hz).fr hfr4 (fun e => (hFr z hz).blk.ne hP3 (by decide) e) (fun e => hP3.neOwn (hFr z hz).els (by decide) _ rfl e)⟩
    rw [hle, map_erase]
    exact h31.fr hfr4 (fun k hk e => hP3.neOwn h31 (by decide) _ hk e)
  refine .inr ⟨x, hx, r, _, logv', ts', l', hr, rfl, hF4.putObj hD4 o, hM4.putObj hD4 o, h22.mono hWW.size, ?_, ?_, rfl⟩
  · refine ((((hWW.no_any).trans h24 ?_).trans hfr3 ?_).trans hfr4 ?_).putObj (.inr hDz) o
    · rintro k (h | h | h | h)
      · exact .inl (.inr (.inr (.inl h)))
      · exact .inl (.inr (.inr (.inr (.inl h))))
      · exact .inl (.inr (.inr (.inr (.inr (.inl h)))))
      · exact .inl (.inr (.inr (.inr (.inr (.inr h)))))
    · rintro k h
      exact .inl (.inr (.inl (by rw [h]; rfl)))
    · rintro k h
      exact .inl (.inl h)
  · exact fun k hk => (h25 k hk).elim .inl (fun q => .inr (Nat.le_trans hWW.size q))

end Go.Proofs.Ythjejgepdbonpaa
