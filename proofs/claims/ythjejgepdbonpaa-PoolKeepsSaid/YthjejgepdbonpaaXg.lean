/-
  Dropping a tile, in the plain machine.
-/
import Derived.Test.YthjejgepdbonpaaXf
namespace Go.Proofs.Ythjejgepdbonpaa
open Go.RowKit Go.Shelf
attribute [local go_sem] Oper.semAt_some

/-- A frame is gone. -/
theorem drop_evo {w w' : World} {s : St} (h : PoolAt w s) {i : Nat} (hi : i < s.fs.length) {g : Nat} {fv' : Value} (hg : s.fv.ownBlock = some g) (hg' : fv'.ownBlock = some g) (hf : Fr (fun k => k = s.pb ∨ k = g) w w')
    (h1 : Blk w' s.pb 64 [.int .i64 s.most, backV s.mb, fv']) (h2 : Own w' 68 1 fv' (s.fs.length - 1) ((s.fs.map Frm.ptr).eraseIdx i)) : Evo w s w' { s with fv := fv', fs := s.fs.eraseIdx i } := by
  have hfine := h.fine
  have hF := h.F
  have hM := h.M
  obtain ⟨lg, hG⟩ := hF.row.someBlk hg
  have hsub := List.eraseIdx_sublist s.fs i
  have hx : ∀ x ∈ s.fs, FrmAt w' x := fun x hx => (hF.frm x hx).fr hf (by
      rintro (e | e)
      · exact (hF.frm x hx).blk.ne hF.blk (by decide) e
      · exact (hF.frm x hx).blk.ne hG (by decide) e) (by
      rintro (e | e)
      · exact hF.blk.neOwn (hF.frm x hx).els (by decide) _ rfl e
      · exact hG.neOwn (hF.frm x hx).els (by decide) _ rfl e)
  refine ⟨⟨⟨h1, ?_, fun x hxm => hx x (hsub.subset hxm)⟩, ?_, ?_⟩, ?_, ?_, rfl, rfl, rfl⟩
  · show Own w' _ _ _ (s.fs.eraseIdx i).length ((s.fs.eraseIdx i).map Frm.ptr)
    rw [map_erase, List.length_eraseIdx, if_pos hi]
    exact h2
  · refine hM.fr hf ?_ ?_ ?_ ?_
    · rintro (e | e)
      · exact hM.blk.ne hF.blk (by decide) e
      · exact hM.blk.ne hG (by decide) e
    · rintro (e | e)
      · exact hF.blk.neOwn hM.row (by decide) _ rfl e
      · exact hG.neOwn hM.row (by decide) _ rfl e
    · rintro k hk (e | e)
      · exact hF.blk.neOwn hM.log (by decide) _ hk e
      · exact hG.neOwn hM.log (by decide) _ hk e
    · rintro t ht (e | e)
      · exact hF.blk.neOwn (hM.els t ht) (by decide) _ rfl e
      · exact hG.neOwn (hM.els t ht) (by decide) _ rfl e
  · exact ⟨hfine.most1, hfine.most2, Nat.le_trans hsub.length_le hfine.len, hfine.nb.sublist (hsub.map _), hfine.ng.sublist ((hsub.map _).append_right _), fun x hx => hfine.key x (hsub.subset hx), fun x hx => hfine.el x (hsub.subset hx), hfine.tel, hfine.tlen⟩
  · refine hf.mono ?_
    rintro k (e | e)
    · exact .inl e
    · exact .inr (.inl (by rw [e]; exact hg))
  · rintro k (h | h | ⟨x, hx, h⟩ | h | h | h | h)
    · exact .inl (.inl h)
    · exact .inl (.inr (.inl (by rw [← h]; exact hg.trans hg'.symm)))
    · exact .inl (.inr (.inr (.inl ⟨x, hsub.subset hx, h⟩)))
    · exact .inl (.inr (.inr (.inr (.inl h))))
    · exact .inl (.inr (.inr (.inr (.inr (.inl h)))))
    · exact .inl (.inr (.inr (.inr (.inr (.inr (.inl h))))))
    · exact .inl (.inr (.inr (.inr (.inr (.inr (.inr h))))))

def AS.drop (s : AS) (i : Nat) : AS := { s with fs := s.fs.eraseIdx i }

set_option maxHeartbeats 1000000 in
theorem drop_yes (s : St) (p q : Int) (i : Nat) (w : World) (h : PoolAt w s) (hf : s.a.fs.findIdx? (AF.is p q) = some i) (hp : ∀ hi : i < s.fs.length, ¬ 0 < (s.fs[i]).pins) :
    Calls Try.prog 19 #[.pointer (some ⟨s.pb, 0, none⟩), .agg #[.int .i64 p, .int .i64 q]] w (Did w s 0 (s.a.drop i)) := by
  have hi := find_lt hf
  have hp := hp hi
  have HF := Lib.hid hf
  clear hf
  have hfr := (Fr.refl No w).alloc (.cells #[.int .i64 p, .int .i64 q] 31)
  have hl := h.fine.len
  have hl2 := h.fine.most2
  have hx0 := (h.F.frm _ (List.getElem_mem hi))
  obtain ⟨g, c, hv, hc⟩ := h.F.get hi
  have hP : Blk w s.pb 64 [.int .i64 s.most, backV s.mb, .slice (some ⟨g, 0, none⟩) s.fs.length c] := by rw [← hv]; exact h.F.blk
  have hO : Own w 68 1 (.slice (some ⟨g, 0, none⟩) s.fs.length c) s.fs.length (s.fs.map Frm.ptr) := by rw [← hv]; exact h.F.row
  have hgb : g < w.heap.size := World.block_lt_of_cell? w _ hc
  obtain ⟨pp, hpp⟩ : ∃ pp, pp = (s.fs[i]).pins := ⟨_, rfl⟩
  obtain ⟨bb, hbb⟩ : ∃ bb, bb = (s.fs[i]).b := ⟨_, rfl⟩
  have c4 := hx0.blk.cell (j := 4) rfl
  have hbl := hx0.blk.lt
  rw [← hpp] at c4 hp
  rw [← hbb] at c4 hc hbl
  have hpg : s.pb ≠ g := by
    obtain ⟨sp, hB, _⟩ := hO.blk
    exact hP.ne hB (by decide)
  have hPl := hP.lt
  have HV := Lib.hid hv
  have hone : Hid (∀ u ∈ s.fs.map Frm.ptr, u.oneCell' = true) := fun u hu => by obtain ⟨z, _, rfl⟩ := List.mem_map.1 hu; rfl
  have hwr : IntKind.i64.wrap ((i : Int) + 1) = (i : Int) + 1 := by rw [IntKind.wrap_i64]; omega
  clear hpp hbb hx0 hv
  go_enter Try.func19, Try.ntmps19
  go_wp2_with (first | (go_at_call 22; refine (none_st s _ (h.no hfr)).mono ?_; rintro e w1 ⟨rfl, rfl⟩) | (go_at_call 23; refine (at_hit s p q i _ (h.no hfr) HF.out).mono ?_; rintro e w1 ⟨rfl, hf1⟩; have hfr1 := hfr.thn hf1; have c40 := (hfr1.cell (p := ⟨bb, 4, none⟩) hbl (No.no _)).trans c4; have hc1 := (hfr1.cell (p := ⟨g, i, none⟩) hgb (No.no _)).trans hc; have hP1 := hP.fr hfr1 (No.no _); have p2 := hP1.cell (j := 2) rfl; have hPl1 := hP1.lt; have hO1 := hO.fr hfr1 (fun _ _ => No.no _)) | (go_at_call 31; refine (delete_any g s.fs.length c i _ _ hO1 hone.out hi (by omega)).mono ?_; rintro e w2 ⟨rfl, ho2, hf2⟩; have hP2 := hP1.fr hf2 hpg; have hPl2 := hP2.lt; have hPf := hP2.free; have hPc := hP2.cell (j := 2) rfl))
  go_ret
  have he := drop_evo (w := w1) (h.no hfr1) hi (g := g) (fv' := .slice (some ⟨g, 0, none⟩) (s.fs.length - 1) c) (by rw [HV.out]; rfl) rfl ((hf2.mono (fun k hk => .inr hk)).setCell (p := ⟨s.pb, 2, none⟩) (.inl (.inl rfl)) _) (hP2.set 2 _) (ho2.other (by simp [Value.ownBlock]; omega) _)
  refine ⟨_, rfl, he.pre hfr1, ?_⟩
  simp only [St.a, AS.drop, map_erase]

set_option maxHeartbeats 1000000 in
theorem drop_none (s : St) (p q : Int) (w : World) (h : PoolAt w s) (hf : s.a.fs.findIdx? (AF.is p q) = none) :
    Calls Try.prog 19 #[.pointer (some ⟨s.pb, 0, none⟩), .agg #[.int .i64 p, .int .i64 q]] w (Did w s 100 s.a) := by
  have HF := Lib.hid hf
  clear hf
  have hfr := (Fr.refl No w).alloc (.cells #[.int .i64 p, .int .i64 q] 31)
  go_enter Try.func19, Try.ntmps19
  go_wp2_with (first | (go_at_call 22; refine (none_st s _ (h.no hfr)).mono ?_; rintro e w1 ⟨rfl, rfl⟩) | (go_at_call 23; refine (at_miss s p q _ (h.no hfr) HF.out).mono ?_; rintro e w1 ⟨rfl, hf1⟩))
  go_ret
  exact ⟨_, rfl, Evo.refl h (hfr.thn hf1), rfl⟩

set_option maxHeartbeats 1000000 in
theorem drop_held (s : St) (p q : Int) (i : Nat) (w : World) (h : PoolAt w s) (hf : s.a.fs.findIdx? (AF.is p q) = some i) (hp : ∀ hi : i < s.fs.length, 0 < (s.fs[i]).pins) :
    Calls Try.prog 19 #[.pointer (some ⟨s.pb, 0, none⟩), .agg #[.int .i64 p, .int .i64 q]] w (Did w s 100 s.a) := by
  have hi := find_lt hf
  have hp := hp hi
  have HF := Lib.hid hf
  clear hf
  have hfr := (Fr.refl No w).alloc (.cells #[.int .i64 p, .int .i64 q] 31)
  have hl := h.fine.len
  have hl2 := h.fine.most2
  have hx0 := (h.F.frm _ (List.getElem_mem hi))
  obtain ⟨g, c, hv, hc⟩ := h.F.get hi
  have hP : Blk w s.pb 64 [.int .i64 s.most, backV s.mb, .slice (some ⟨g, 0, none⟩) s.fs.length c] := by rw [← hv]; exact h.F.blk
  have hgb : g < w.heap.size := World.block_lt_of_cell? w _ hc
  obtain ⟨pp, hpp⟩ : ∃ pp, pp = (s.fs[i]).pins := ⟨_, rfl⟩
  obtain ⟨bb, hbb⟩ : ∃ bb, bb = (s.fs[i]).b := ⟨_, rfl⟩
  have c4 := hx0.blk.cell (j := 4) rfl
  have hbl := hx0.blk.lt
  rw [← hpp] at c4 hp
  rw [← hbb] at c4 hc hbl
  clear hpp hbb hx0 hv
  go_enter Try.func19, Try.ntmps19
  go_wp2_with (first | (go_at_call 22; refine (none_st s _ (h.no hfr)).mono ?_; rintro e w1 ⟨rfl, rfl⟩) | (go_at_call 23; refine (at_hit s p q i _ (h.no hfr) HF.out).mono ?_; rintro e w1 ⟨rfl, hf1⟩; have hfr1 := hfr.thn hf1; have c40 := (hfr1.cell (p := ⟨bb, 4, none⟩) hbl (No.no _)).trans c4; have hc1 := (hfr1.cell (p := ⟨g, i, none⟩) hgb (No.no _)).trans hc; have hP1 := hP.fr hfr1 (No.no _); have p2 := hP1.cell (j := 2) rfl))
  go_ret
  exact ⟨_, rfl, Evo.refl h hfr1, rfl⟩

/-- The machine cleans, and drops, a tile: the answer, and the state. -/
def AS.clean (A : AS) (p q : Int) : Int × AS := match A.fs.findIdx? (AF.is p q) with | some i => (0, A.cleanAt i) | none => (100, A)
def AS.give (A : AS) (p q : Int) : Int × AS := match A.fs.findIdx? (AF.is p q) with | some i => (match A.fs[i]? with | some x => if 0 < x.pins then (100, A) else (0, A.drop i) | none => (100, A)) | none => (100, A)

theorem clean_ok (s : St) (pb : Nat) (hpb : s.pb = pb) (p q c : Int) (A : AS) (w : World) (h : PoolAt w s) (ho : s.a.Ok) (hr : s.a.clean p q = (c, A)) :
    Calls Try.prog 18 #[.pointer (some ⟨pb, 0, none⟩), .agg #[.int .i64 p, .int .i64 q]] w (Did w s c A) := by
  subst hpb
  unfold AS.clean at hr
  cases hf : s.a.fs.findIdx? (AF.is p q) with
  | some i =>
    rw [hf] at hr
    cases hr
    exact clean_yes s p q i w h (by have := ho.log; have e : s.a.l = s.l := rfl; rw [e] at this; omega) hf
  | none =>
    rw [hf] at hr
    cases hr
    exact clean_no s p q w h hf

theorem give_ok (s : St) (pb : Nat) (hpb : s.pb = pb) (p q c : Int) (A : AS) (w : World) (h : PoolAt w s) (hr : s.a.give p q = (c, A)) :
    Calls Try.prog 19 #[.pointer (some ⟨pb, 0, none⟩), .agg #[.int .i64 p, .int .i64 q]] w (Did w s c A) := by
  subst hpb
  unfold AS.give at hr
  cases hf : s.a.fs.findIdx? (AF.is p q) with
  | some i =>
    rw [hf] at hr
    have hi := find_lt hf
    have hg : s.a.fs[i]? = some (s.fs[i]).a := by simp [St.a, hi]
    dsimp only at hr
    rw [hg] at hr
    dsimp only at hr
    by_cases hp : 0 < (s.fs[i]).a.pins
    · rw [if_pos hp] at hr
      cases hr
      exact drop_held s p q i w h hf (fun _ => hp)
    · rw [if_neg hp] at hr
      cases hr
      exact drop_yes s p q i w h hf (fun _ => hp)
  | none =>
    rw [hf] at hr
    cases hr
    exact drop_none s p q w h hf

/-- The machine sets an element: the answer, and the state. -/
def AS.put (A : AS) (p q : Int) (n : Nat) (v num : Int) : Int × AS := match A.pinned p q with | some i => (0, A.set i n v num) | none => (100, A)
theorem put_ok (s : St) (pb : Nat) (hpb : s.pb = pb) (p q : Int) (n : Nat) (hn : n < 4) (m : Int) (hm : m = n) (v num c : Int) (A : AS) (w : World) (h : PoolAt w s) (hr : s.a.put p q n v num = (c, A)) :
    Calls Try.prog 17 #[.pointer (some ⟨pb, 0, none⟩), .agg #[.int .i64 p, .int .i64 q], .int .i64 m, .int .i64 v, .int .i64 num] w (Did w s c A) := by
  subst hpb
  subst hm
  unfold AS.put at hr
  cases hf : s.a.pinned p q with
  | some i =>
    rw [hf] at hr
    cases hr
    exact set_yes s p q n i v num w h hf hn
  | none =>
    rw [hf] at hr
    cases hr
    exact set_no s p q n v num w h hf

end Go.Proofs.Ythjejgepdbonpaa
