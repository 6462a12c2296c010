/-
  Pinning a tile that is there, in the plain machine.
-/
import Derived.Test.YthjejgepdbonpaaWm
namespace Go.Proofs.Ythjejgepdbonpaa
open Go.RowKit Go.Shelf

theorem at_hit (s : St) (p q : Int) (i : Nat) (w : World) (h : PoolAt w s) (hf : s.a.fs.findIdx? (AF.is p q) = some i) :
    Calls Try.prog 23 #[.pointer (some ⟨s.pb, 0, none⟩), .agg #[.int .i64 p, .int .i64 q]] w fun e w' => e = .returned (.int .i64 i) ∧ Fr No w w' := by
  have := at_st s p q w h
  rw [hf] at this
  exact this
theorem at_miss (s : St) (p q : Int) (w : World) (h : PoolAt w s) (hf : s.a.fs.findIdx? (AF.is p q) = none) :
    Calls Try.prog 23 #[.pointer (some ⟨s.pb, 0, none⟩), .agg #[.int .i64 p, .int .i64 q]] w fun e w' => e = .returned (.int .i64 (-1)) ∧ Fr No w w' := by
  have := at_st s p q w h
  rw [hf] at this
  exact this
theorem none_st (s : St) (w : World) (h : PoolAt w s) :
    Calls Try.prog 22 #[.pointer (some ⟨s.pb, 0, none⟩)] w fun e w' => e = .returned (.bool false) ∧ w = w' :=
  none_no s.pb _ _ w (h.F.blk.cell (j := 1) rfl)

theorem set_last {α : Type} (l : List α) (a b : α) : (l ++ [a]).set l.length b = l ++ [b] := by
  rw [List.set_append_right _ _ (Nat.le_refl _), Nat.sub_self]; rfl

/-- The machine's frame i, its pins raised by d, is the last one. -/
def AS.bump (s : AS) (i : Nat) (d : Int) : AS := { s with fs := s.fs.eraseIdx i ++ (match s.fs[i]? with | some x => [{ x with pins := x.pins + d }] | none => []) }

theorem find_lt {s : St} {p q : Int} {i : Nat} (hf : s.a.fs.findIdx? (AF.is p q) = some i) : i < s.fs.length := by
  obtain ⟨hi, _⟩ := List.findIdx?_eq_some_iff_getElem.1 hf
  simpa [St.a] using hi

theorem bump_evo {w w' w2 : World} {s : St} {i : Nat} (hi : i < s.fs.length) {fv' : Value} (h : Evo w s w' { s with fv := fv', fs := s.fs.eraseIdx i ++ [s.fs[i]] }) (d : Int) (hw : w'.setCell ⟨(s.fs[i]).b, 4, none⟩ (.int .i64 ((s.fs[i]).pins + d)) = w2) :
    ∃ s', Evo w s w2 s' ∧ s'.a = s.a.bump i d := by
  have hlen : (s.fs.eraseIdx i).length < (s.fs.eraseIdx i ++ [s.fs[i]]).length := by simp
  have hge : (s.fs.eraseIdx i ++ [s.fs[i]])[(s.fs.eraseIdx i).length]'hlen = s.fs[i] := by simp
  have hx := h.pool.F.frm _ (List.getElem_mem hlen)
  have hxe : FrmAt w' s.fs[i] := by rw [← hge]; exact hx
  have hfr : Fr (fun k => k = (s.fs[i]).b) w' w2 := by rw [← hw]; exact (Fr.refl (fun k => k = (s.fs[i]).b) w').setCell (p := ⟨(s.fs[i]).b, 4, none⟩) (.inl rfl) _
  have e := h.pool.setF (i := (s.fs.eraseIdx i).length) hlen (x' := { s.fs[i] with pins := (s.fs[i]).pins + d }) (w' := w2) (by rw [hge]; exact hfr.mono (fun k h => .inl h))
    ⟨by rw [← hw]; exact hxe.blk.set 4 _, hxe.els.fr hfr (fun k hk e => hxe.blk.neOwn hxe.els (by decide) _ hk e)⟩ (by rw [hge]) (by rw [hge]) (by rw [hge]; exact ⟨rfl, rfl⟩) (h.pool.fine.el (s.fs[i]) (by simp))
  refine ⟨_, h.trans e, ?_⟩
  have e2 : ((s.fs.map Frm.a)[i]?) = some (s.fs[i]).a := by simp [hi]
  simp only [St.a, AS.bump, e2, set_last, List.map_append, map_erase]
  rfl

set_option maxHeartbeats 1000000 in
theorem pin_hit (s : St) (p q : Int) (i : Nat) (w : World) (h : PoolAt w s) (hf : s.a.fs.findIdx? (AF.is p q) = some i) (hp : ∀ x ∈ s.fs, -1000000 ≤ x.pins ∧ x.pins ≤ 1000000) :
    Calls Try.prog 10 #[.pointer (some ⟨s.pb, 0, none⟩), .agg #[.int .i64 p, .int .i64 q]] w (Did w s 0 (s.a.bump i 1)) := by
  have hi := find_lt hf
  have hb := hp _ (List.getElem_mem hi)
  have HF := Lib.hid hf
  clear hf hp
  have hfr := (Fr.refl No w).alloc (.cells #[.int .i64 p, .int .i64 q] 31)
  go_enter Try.func10, Try.ntmps10
  go_wp2_with (first | (go_at_call 22; refine (none_st s _ (h.no hfr)).mono ?_; rintro e w1 ⟨rfl, rfl⟩) | (go_at_call 23; refine (at_hit s p q i _ (h.no hfr) HF.out).mono ?_; rintro e w1 ⟨rfl, hf1⟩) | (go_at_call 24; refine (used_st s i hi _ ((h.no hfr).no hf1)).mono ?_; rintro e w2 ⟨fv', rfl, he⟩; have hl := he.pool.F.frm (s.fs[i]) (by simp); have c4 := hl.blk.cell (j := 4) rfl; have hlt := hl.blk.lt; have hff := hl.blk.free))
  go_ret
  obtain ⟨s', h1, h2⟩ := bump_evo hi he 1 rfl
  exact ⟨s', rfl, (h1.pre hf1).pre hfr, h2⟩

end Go.Proofs.Ythjejgepdbonpaa
