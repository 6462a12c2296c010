/-
  Getting an element and counting pins, in the plain machine.
-/
import Derived.Test.YthjejgepdbonpaaWp
namespace Go.Proofs.Ythjejgepdbonpaa
open Go.RowKit Go.Shelf

set_option maxHeartbeats 1000000 in
theorem get_no (s : St) (p q n : Int) (w : World) (h : PoolAt w s) (hf : s.a.pinned p q = none) :
    Calls Try.prog 16 #[.pointer (some ⟨s.pb, 0, none⟩), .agg #[.int .i64 p, .int .i64 q], .int .i64 n] w fun e w' => e = .returned (.tuple #[.int .i64 0, .int .i64 100]) ∧ Fr No w w' := by
  have HF := Lib.hid hf
  clear hf
  have hfr := (Fr.refl No w).alloc (.cells #[.int .i64 p, .int .i64 q] 31)
  go_enter Try.func16, Try.ntmps16
  go_wp2_with (go_at_call 28; refine (pinned_no s p q _ (h.no hfr) HF.out).mono ?_; rintro e w1 ⟨rfl, hf1⟩)
  go_ret2
  exact ⟨rfl, hfr.thn hf1⟩

set_option maxHeartbeats 1000000 in
theorem get_yes (s : St) (p q : Int) (n i : Nat) (w : World) (h : PoolAt w s) (hf : s.a.pinned p q = some i) (hi : i < s.fs.length) (hn : n < (s.fs[i]).t.el.length) :
    Calls Try.prog 16 #[.pointer (some ⟨s.pb, 0, none⟩), .agg #[.int .i64 p, .int .i64 q], .int .i64 n] w fun e w' => e = .returned (.tuple #[.int .i64 ((s.fs[i]).t.el[n]), .int .i64 0]) ∧ Fr No w w' := by
  obtain ⟨h1, _, h2⟩ := pinned_in hf
  have HF := Lib.hid h1
  clear hf h1
  have hx0 := (h.F.frm _ (List.getElem_mem hi))
  have hel4 := h.fine.el _ (List.getElem_mem hi)
  have hfr := (Fr.refl No w).alloc (.cells #[.int .i64 p, .int .i64 q] 31)
  have hel : w.cell? ⟨(s.fs[i]).t.g, n, none⟩ = some (.int .i64 ((s.fs[i]).t.el[n])) := by
    have := hx0.els.cells (g := (s.fs[i]).t.g) rfl n (.int .i64 ((s.fs[i]).t.el[n])) (by simp [hn])
    rwa [Addr.add_lit, Nat.zero_add] at this
  have hgl := hx0.els.lt (k := (s.fs[i]).t.g) rfl
  obtain ⟨v, hv⟩ : ∃ v, v = (s.fs[i]).t.el[n] := ⟨_, rfl⟩
  obtain ⟨t, ht⟩ : ∃ t, t = (s.fs[i]).t := ⟨_, rfl⟩
  have HTL : Hid (t.el.length = 4) := by rw [ht]; exact hel4
  have hsl : (s.fs[i]).t.sl = .slice (some ⟨t.g, 0, none⟩) 4 t.c := by rw [← HTL.out, ht]; rfl
  have c3 := hx0.blk.cell (j := 3) rfl
  rw [hsl] at c3
  have hn4 : n < 4 := by omega
  rw [← hv, ← ht] at hel
  rw [← ht] at hgl
  rw [← hv]
  have hbl := hx0.blk.lt
  obtain ⟨bb, hbb⟩ : ∃ bb, bb = (s.fs[i]).b := ⟨_, rfl⟩
  rw [← hbb] at c3 hbl
  have HBB := Lib.hid hbb
  clear hv ht hsl hx0 hel4 hn hbb
  go_enter Try.func16, Try.ntmps16
  go_wp2_with (go_at_call 28; refine (pinned_yes s p q i _ (h.no hfr) HF.out hi h2).mono ?_; rw [← HBB.out]; rintro e w1 ⟨rfl, hf1⟩; have hfr1 := hfr.thn hf1; have c31 := (hfr1.cell (p := ⟨bb, 3, none⟩) hbl (No.no _)).trans c3; have he1 := (hfr1.cell (p := ⟨t.g, n, none⟩) hgl (No.no _)).trans hel)
  go_ret2
  exact ⟨rfl, hfr1⟩

set_option maxHeartbeats 1000000 in
theorem get_out (s : St) (p q n : Int) (i : Nat) (w : World) (h : PoolAt w s) (hf : s.a.pinned p q = some i) (hi : i < s.fs.length) (hn : n < 0 ∨ 4 ≤ n) :
    Calls Try.prog 16 #[.pointer (some ⟨s.pb, 0, none⟩), .agg #[.int .i64 p, .int .i64 q], .int .i64 n] w fun e w' => e = .returned (.tuple #[.int .i64 0, .int .i64 100]) ∧ Fr No w w' := by
  obtain ⟨h1, _, h2⟩ := pinned_in hf
  have HF := Lib.hid h1
  clear hf h1
  have hx0 := (h.F.frm _ (List.getElem_mem hi))
  have hel4 := h.fine.el _ (List.getElem_mem hi)
  have hfr := (Fr.refl No w).alloc (.cells #[.int .i64 p, .int .i64 q] 31)
  obtain ⟨t, ht⟩ : ∃ t, t = (s.fs[i]).t := ⟨_, rfl⟩
  have HTL : Hid (t.el.length = 4) := by rw [ht]; exact hel4
  have hsl : (s.fs[i]).t.sl = .slice (some ⟨t.g, 0, none⟩) 4 t.c := by rw [← HTL.out, ht]; rfl
  have c3 := hx0.blk.cell (j := 3) rfl
  rw [hsl] at c3
  have hbl := hx0.blk.lt
  obtain ⟨bb, hbb⟩ : ∃ bb, bb = (s.fs[i]).b := ⟨_, rfl⟩
  rw [← hbb] at c3 hbl
  have HBB := Lib.hid hbb
  clear ht hsl hx0 hel4 hbb
  rcases hn with hn | hn
  · go_enter Try.func16, Try.ntmps16
    go_wp2_with (go_at_call 28; refine (pinned_yes s p q i _ (h.no hfr) HF.out hi h2).mono ?_; rw [← HBB.out]; rintro e w1 ⟨rfl, hf1⟩; have hfr1 := hfr.thn hf1; have c31 := (hfr1.cell (p := ⟨bb, 3, none⟩) hbl (No.no _)).trans c3)
    go_ret2
    exact ⟨rfl, hfr1⟩
  · go_enter Try.func16, Try.ntmps16
    go_wp2_with (go_at_call 28; refine (pinned_yes s p q i _ (h.no hfr) HF.out hi h2).mono ?_; rw [← HBB.out]; rintro e w1 ⟨rfl, hf1⟩; have hfr1 := hfr.thn hf1; have c31 := (hfr1.cell (p := ⟨bb, 3, none⟩) hbl (No.no _)).trans c3)
    go_ret2
    exact ⟨rfl, hfr1⟩

set_option maxHeartbeats 1000000 in
theorem held_st (s : St) (w : World) (h : PoolAt w s) :
    Calls Try.prog 14 #[.pointer (some ⟨s.pb, 0, none⟩)] w fun e w' => e = .returned (.int .i64 (s.a.fs.length : Int)) ∧ w = w' := by
  have e1 : s.a.fs.length = s.fs.length := by simp [St.a]
  rw [e1]
  obtain ⟨a, c, hv⟩ : ∃ a c, s.fv = .slice a s.fs.length c := by
    rcases h.F.row.cases with ⟨e, h1, _⟩ | ⟨g, c, e⟩
    · exact ⟨none, 0, by rw [h1, e]⟩
    · exact ⟨_, _, e⟩
  have c2 := h.F.blk.cell (j := 2) rfl
  rw [hv] at c2
  clear hv e1
  go_enter Try.func14, Try.ntmps14
  go_wp2_with (go_at_call 22; refine (none_st s _ h).mono ?_; rintro e w1 ⟨rfl, rfl⟩)
  go_ret
  exact ⟨rfl, rfl⟩

/-- How often they are pinned. -/
def pinsTo (l : List Int) : Int := l.sum
theorem pinsTo_snoc (l : List Int) (x : Int) : pinsTo (l ++ [x]) = pinsTo l + x := by simp [pinsTo, List.sum_append]
def AS.pins (s : AS) : Int := pinsTo (s.fs.map (·.pins))
theorem pinsTo_bd (l : List Int) (hl : ∀ x ∈ l, -1000000 ≤ x ∧ x ≤ 1000000) : -1000000 * (l.length : Int) ≤ pinsTo l ∧ pinsTo l ≤ 1000000 * (l.length : Int) := by
  induction l with
  | nil => simp [pinsTo]
  | cons x l ih =>
    have h1 := ih (fun y hy => hl y (List.mem_cons_of_mem _ hy))
    have h2 := hl x (by simp)
    simp [pinsTo] at h1 ⊢
    omega

set_option maxHeartbeats 1000000 in
theorem pins_st (s : St) (w : World) (h : PoolAt w s) (hp : ∀ x ∈ s.fs, -1000000 ≤ x.pins ∧ x.pins ≤ 1000000) :
    Calls Try.prog 11 #[.pointer (some ⟨s.pb, 0, none⟩)] w fun e w' => e = .returned (.int .i64 s.a.pins) ∧ w = w' := by
  have hl := h.fine.len
  have hl2 := h.fine.most2
  have ea : s.a.pins = pinsTo (s.fs.map (·.pins)) := by simp [AS.pins, St.a, Frm.a, Function.comp_def]
  rw [ea]
  have HP := Lib.hid hp
  clear hp ea
  obtain ⟨n, hn⟩ : ∃ n, n = s.fs.length := ⟨_, rfl⟩
  obtain ⟨a, c, hv⟩ : ∃ a c, s.fv = .slice a n c := by
    rcases h.F.row.cases with ⟨e, h1, _⟩ | ⟨g, c, e⟩
    · exact ⟨none, 0, by rw [hn, h1, e]⟩
    · exact ⟨_, _, by rw [hn]; exact e⟩
  have c2 := h.F.blk.cell (j := 2) rfl
  rw [hv] at c2
  have HV := Lib.hid hv
  have HN := Lib.hid hn
  rw [← hn] at hl
  clear hv hn
  go_enter Try.func11, Try.ntmps11
  go_wp2_with (go_at_call 22; refine (none_st s _ h).mono ?_; rintro e w1 ⟨rfl, rfl⟩)
  go_loop [3, 14] (fun t i => ∃ k : Nat, k ≤ n ∧ i = .int .i64 k ∧ t = .int .i64 (pinsTo ((s.fs.map (·.pins)).take k))) (fun _ i => n - (intOf i).toNat)
  case atStart => exact ⟨0, Nat.zero_le _, rfl, rfl⟩
  case round =>
    obtain ⟨k, hk, rfl, rfl⟩ := hrel
    by_cases hlt : k < n
    · have hkf : k < s.fs.length := by rw [← HN.out]; exact hlt
      have hx := h.F.frm _ (List.getElem_mem hkf)
      obtain ⟨g, c', hv', hc⟩ := h.F.get hkf
      obtain ⟨rfl⟩ : a = some ⟨g, 0, none⟩ := by rw [HV.out] at hv'; cases hv'; rfl
      have c4 := hx.blk.cell (j := 4) rfl
      have hbd := pinsTo_bd ((s.fs.map (·.pins)).take k) (fun y hy => by
        obtain ⟨z, hz, rfl⟩ := List.mem_map.1 (List.mem_of_mem_take hy)
        exact HP.out z hz)
      have hlk : ((s.fs.map (·.pins)).take k).length ≤ k := List.length_take_le _ _
      have hbx := HP.out _ (List.getElem_mem hkf)
      have hs : pinsTo ((s.fs.map (·.pins)).take (k + 1)) = pinsTo ((s.fs.map (·.pins)).take k) + (s.fs[k]).pins := by
        rw [List.take_succ_eq_append_getElem (by simpa using hkf), pinsTo_snoc]
        simp
      have HS := Lib.hid hs
      clear hs hv'
      go_wp2
      go_round
      case rel => exact ⟨k + 1, by omega, by go_num, by rw [HS.out]⟩
      case measure => simp [intOf]; omega
    · go_wp2
      go_ret
      refine ⟨?_, rfl⟩
      have e1 : k = n := by omega
      have e2 := HN.out
      rw [List.take_of_length_le (by simp; omega)]
      rfl

end Go.Proofs.Ythjejgepdbonpaa
