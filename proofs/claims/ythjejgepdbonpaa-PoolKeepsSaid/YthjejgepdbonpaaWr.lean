/-
  Setting an element, in the plain machine.
-/
import Derived.Test.YthjejgepdbonpaaWq
import Derived.Deep.DeepCutAuto
namespace Go.Proofs.Ythjejgepdbonpaa
open Go.RowKit Go.Shelf

set_option maxHeartbeats 1000000 in
theorem set_no (s : St) (p q n v num : Int) (w : World) (h : PoolAt w s) (hf : s.a.pinned p q = none) :
    Calls Try.prog 17 #[.pointer (some ⟨s.pb, 0, none⟩), .agg #[.int .i64 p, .int .i64 q], .int .i64 n, .int .i64 v, .int .i64 num] w (Did w s 100 s.a) := by
  have HF := Lib.hid hf
  clear hf
  have hfr := (Fr.refl No w).alloc (.cells #[.int .i64 p, .int .i64 q] 31)
  go_enter Try.func17, Try.ntmps17
  go_wp2_with (go_at_call 28; refine (pinned_no s p q _ (h.no hfr) HF.out).mono ?_; rintro e w1 ⟨rfl, hf1⟩)
  go_ret
  exact ⟨s, rfl, Evo.refl h (hfr.thn hf1), rfl⟩

/-- The machine's frame i has element n set. -/
def AS.set (s : AS) (i n : Nat) (v num : Int) : AS := { s with fs := (match s.fs[i]? with | some x => s.fs.set i { x with el := x.el.set n v, dirty := true, num := max x.num num } | none => s.fs) }

theorem set_end {w w1 : World} {s : St} (h : PoolAt w1 s) (hw : Fr No w w1) {i n : Nat} (hi : i < s.fs.length) (hn : n < 4) (v num : Int) :
    Did w s 0 (s.a.set i n v num) (.returned (.int .i64 0)) ((((w1.setCell ⟨(s.fs[i]).t.g, n, none⟩ (.int .i64 v)).setCell ⟨(s.fs[i]).b, 5, none⟩ (.bool true)).setCell ⟨(s.fs[i]).b, 6, none⟩ (.int .i64 (max (s.fs[i]).num num))).drew) := by
  have hx0 := h.F.frm _ (List.getElem_mem hi)
  have hel := h.fine.el _ (List.getElem_mem hi)
  obtain ⟨sp, hBe, hl1, hl2, hl3, hl4⟩ := hx0.els.blk
  have hne := hx0.blk.neOwn hx0.els (by decide) _ rfl
  have hfr : Fr (fun k => k = (s.fs[i]).b ∨ k = (s.fs[i]).t.g) w1 ((((w1.setCell ⟨(s.fs[i]).t.g, n, none⟩ (.int .i64 v)).setCell ⟨(s.fs[i]).b, 5, none⟩ (.bool true)).setCell ⟨(s.fs[i]).b, 6, none⟩ (.int .i64 (max (s.fs[i]).num num))).drew) :=
    ((((Fr.refl (fun k => k = (s.fs[i]).b ∨ k = (s.fs[i]).t.g) w1).setCell (p := ⟨(s.fs[i]).t.g, n, none⟩) (.inl (.inr rfl)) _).setCell (p := ⟨(s.fs[i]).b, 5, none⟩) (.inl (.inl rfl)) _).setCell (p := ⟨(s.fs[i]).b, 6, none⟩) (.inl (.inl rfl)) _).drew
  have hb := ((hx0.blk.other (a := ⟨(s.fs[i]).t.g, n, none⟩) (fun e => hne e.symm) (.int .i64 v)).set 5 (.bool true)).set 6 (.int .i64 (max (s.fs[i]).num num))
  have he := ((hBe.set n (.int .i64 v)).other (a := ⟨(s.fs[i]).b, 5, none⟩) (fun e => hne e) (.bool true)).other (a := ⟨(s.fs[i]).b, 6, none⟩) (fun e => hne e) (.int .i64 (max (s.fs[i]).num num))
  have hev := h.setF (i := i) hi (x' := { s.fs[i] with t := { (s.fs[i]).t with el := (s.fs[i]).t.el.set n v }, dirty := true, num := max (s.fs[i]).num num }) hfr ⟨?_, ?_⟩ rfl rfl ⟨rfl, rfl⟩ (by simp [hel])
  · refine ⟨_, rfl, hev.pre hw, ?_⟩
    have e2 : ((s.fs.map Frm.a)[i]?) = some (s.fs[i]).a := by simp [hi]
    simp only [St.a, AS.set, e2, List.map_set]
    rfl
  · have e1 : Frm.cells { s.fs[i] with t := { (s.fs[i]).t with el := (s.fs[i]).t.el.set n v }, dirty := true, num := max (s.fs[i]).num num } = ((s.fs[i]).cells.set 5 (.bool true)).set 6 (.int .i64 (max (s.fs[i]).num num)) := by
      simp [Frm.cells, TilM.sl]
    rw [e1]
    exact hb
  · have e1 : ((s.fs[i]).t.el.map (Value.int .i64) ++ sp).set n (.int .i64 v) = ((s.fs[i]).t.el.set n v).map (Value.int .i64) ++ sp := by
      rw [List.set_append_left _ _ (by simp; omega), List.map_set]
    rw [e1] at he
    have := Own.of_blk (size := 1) (g := (s.fs[i]).t.g) (n := (s.fs[i]).t.el.length) (cap := (s.fs[i]).t.c) he (by simp) (by simp at hl2 ⊢; omega) hl3 hl4
    simpa [TilM.sl] using this.drew

set_option maxHeartbeats 4000000 in
set_option maxRecDepth 100000 in
theorem set_yes (s : St) (p q : Int) (n i : Nat) (v num : Int) (w : World) (h : PoolAt w s) (hf : s.a.pinned p q = some i) (hn : n < 4) :
    Calls Try.prog 17 #[.pointer (some ⟨s.pb, 0, none⟩), .agg #[.int .i64 p, .int .i64 q], .int .i64 n, .int .i64 v, .int .i64 num] w (Did w s 0 (s.a.set i n v num)) := by
  obtain ⟨h1, hi, h2⟩ := pinned_in hf
  have HF := Lib.hid h1
  clear hf h1
  have hfr := (Fr.refl No w).alloc (.cells #[.int .i64 p, .int .i64 q] 31)
  go_enter Try.func17, Try.ntmps17
  go_wp2_with fail
  refine (pinned_yes s p q i _ (h.no hfr) HF.out hi h2).mono ?_
  rintro e w1 ⟨rfl, hf1⟩
  have hfr1 := hfr.thn hf1
  have hp1 := h.no hfr1
  have hx0 := (hp1.F.frm _ (List.getElem_mem hi))
  have hel4 := h.fine.el _ (List.getElem_mem hi)
  have hsl : (s.fs[i]).t.sl = .slice (some ⟨(s.fs[i]).t.g, 0, none⟩) 4 (s.fs[i]).t.c := by rw [← hel4]; rfl
  have hbl := hx0.blk.lt
  have hgl := hx0.els.lt (k := (s.fs[i]).t.g) rfl
  have hne := hx0.blk.neOwn hx0.els (by decide) _ rfl
  have c3 := hx0.blk.cell (j := 3) rfl
  rw [hsl] at c3
  have c5 := hx0.blk.cell (j := 5) rfl
  have c6 := hx0.blk.cell (j := 6) rfl
  have hff := hx0.blk.free
  obtain ⟨sp, hBe, hBr⟩ := hx0.els.blk
  have hgf := hBe.free
  have hec : ∃ o, w1.cell? ⟨(s.fs[i]).t.g, n, none⟩ = some (.int .i64 o) := by
    refine ⟨(s.fs[i]).t.el[n]'(by omega), ?_⟩
    have := hx0.els.cells (g := (s.fs[i]).t.g) rfl n (.int .i64 ((s.fs[i]).t.el[n]'(by omega))) (by simp [show n < (s.fs[i]).t.el.length by omega])
    rwa [Addr.add_lit, Nat.zero_add] at this
  obtain ⟨oo, hec⟩ := hec
  obtain ⟨x, hx⟩ : ∃ x, x = s.fs[i] := ⟨_, rfl⟩
  rw [← hx] at hbl hgl hne c3 c5 c6 hff hgf hec
  obtain ⟨bb, hbb⟩ : ∃ bb, bb = x.b := ⟨_, rfl⟩
  obtain ⟨gg, hgg⟩ : ∃ gg, gg = x.t.g := ⟨_, rfl⟩
  rw [← hbb] at hbl hne c3 c5 c6 hff
  rw [← hgg] at hgl hne c3 hgf hec
  have HX := Lib.hid hx
  have HB := Lib.hid hbb
  have HG := Lib.hid hgg
  have HR := Lib.hid hBr
  have HE := Lib.hid hel4
  have HX0 := Lib.hid hx0
  clear hx hbb hgg hBr hsl hel4 hx0 hBe
  rw [← HX.out, ← HB.out]
  have hnee : ¬ gg = bb := fun e => hne (by rw [← e])
  have hnee' : ¬ bb = gg := fun e => hnee e.symm
  go_wp2_with fail
  go_cut [] (fun wx => wx = ((((w1.setCell ⟨gg, n, none⟩ (.int .i64 v)).setCell ⟨bb, 5, none⟩ (.bool true)).setCell ⟨bb, 6, none⟩ (.int .i64 (max x.num num))).drew))
  case first =>
    clear HX0 hf1 hfr1 hp1 hfr
    go_region
    all_goals go_wp2_with fail
    all_goals go_meet
    all_goals first | (rw [show max x.num num = num from by omega]; done) | (rw [show max x.num num = x.num from by omega]; done)
  case rest =>
    subst hcut
    go_wp2
    go_ret
    rw [HB.out, HG.out, HX.out]
    exact set_end hp1 hfr1 hi hn v num

end Go.Proofs.Ythjejgepdbonpaa
