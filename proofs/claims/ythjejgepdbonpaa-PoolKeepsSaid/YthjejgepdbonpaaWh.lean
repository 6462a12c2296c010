/-
  What writing a frame back comes to.
-/
import Derived.Test.YthjejgepdbonpaaWg
namespace Go.Proofs.Ythjejgepdbonpaa
open Go.RowKit

/-- A frame: where it lies, its tile, pins, dirty, number. -/
structure Frm where
  b : Nat
  t : TilM
  pins : Int
  dirty : Bool
  num : Int
def Frm.cells (x : Frm) : List Value := [.int .i64 x.t.f, .int .i64 x.t.n, .int .i64 x.t.k, x.t.sl, .int .i64 x.pins, .bool x.dirty, .int .i64 x.num]
structure FrmAt (w : World) (x : Frm) : Prop where
  blk : Blk w x.b 67 x.cells
  els : Own w 2 1 x.t.sl x.t.el.length (x.t.el.map (Value.int .i64))

theorem FrmAt.fr {S : Nat → Prop} {w w' : World} {x : Frm} (h : FrmAt w x) (hf : Fr S w w') (h1 : ¬ S x.b) (h2 : ¬ S x.t.g) : FrmAt w' x :=
  ⟨h.blk.fr hf h1, h.els.fr hf (fun k hk => by simp [TilM.sl, Value.ownBlock] at hk; subst hk; exact h2)⟩
theorem FrmAt.no {w w' : World} {x : Frm} (h : FrmAt w x) (hf : Fr No w w') : FrmAt w' x := h.fr hf (No.no _) (No.no _)

set_option maxHeartbeats 400000 in
theorem written_clean (pb : Nat) (x : Frm) (w : World) (hx : FrmAt w x) (hd : x.dirty = false) :
    Calls Try.prog 30 #[.pointer (some ⟨pb, 0, none⟩), .pointer (some ⟨x.b, 0, none⟩)] w fun e w' => e = .returned (.int .i64 0) ∧ w = w' := by
  obtain ⟨b, t, pins, dirty, num⟩ := x
  simp only at hd
  subst hd
  have c5 := hx.blk.cell (j := 5) rfl
  go_enter Try.func30, Try.ntmps30
  go_wp2
  go_ret
  exact ⟨rfl, rfl⟩

theorem method_ready (a : Addr) (w : World) : (method 206 28 (.pointer (some a)) "Ready").run Try.prog w = .ok (54, .pointer (some a)) w := by kernel_rfl
theorem method_store (a : Addr) (w : World) : (method 206 28 (.pointer (some a)) "Store").run Try.prog w = .ok (55, .pointer (some a)) w := by kernel_rfl
theorem method_load (a : Addr) (w : World) : (method 206 28 (.pointer (some a)) "Load").run Try.prog w = .ok (53, .pointer (some a)) w := by kernel_rfl

theorem FrmAt.mem {w w' : World} {x : Frm} {mb lb lc : Nat} {logv : Value} {ts : List TilM} {l : List NoteD} (h : FrmAt w x) (hM : MemAt w mb lb lc logv ts l) (hf : Fr (fun k => k = mb ∨ k = lb ∨ logv.ownBlock = some k) w w') : FrmAt w' x := by
  refine h.fr hf ?_ ?_
  · rintro (e | e | e)
    · exact h.blk.ne hM.blk (by decide) e
    · subst e; exact h.blk.neOwn hM.row (by decide) _ rfl rfl
    · exact h.blk.neOwn hM.log (by decide) _ e rfl
  · rintro (e | e | e)
    · exact hM.blk.neOwn h.els (by decide) _ (by rfl) e
    · subst e; exact h.els.neOwn hM.row (by decide) _ rfl rfl
    · exact h.els.neOwn hM.log (by decide) _ rfl e
theorem Blk.mem {w w' : World} {b : Nat} {T : TypeId} {c : List Value} {mb lb lc : Nat} {logv : Value} {ts : List TilM} {l : List NoteD} (h : Blk w b T c) (hM : MemAt w mb lb lc logv ts l) (hf : Fr (fun k => k = mb ∨ k = lb ∨ logv.ownBlock = some k) w w')
    (h1 : T ≠ 47) (h2 : T ≠ 43) (h3 : T ≠ 54) : Blk w' b T c := by
  refine h.fr hf ?_
  rintro (e | e | e)
  · exact h.ne hM.blk h1 e
  · subst e; exact h.neOwn hM.row h2 _ rfl rfl
  · exact h.neOwn hM.log h3 _ e rfl

/-- What writing back a changed frame comes to. -/
def Written (mb lb lc : Nat) (logv : Value) (ts : List TilM) (l : List NoteD) (x : Frm) (i : Nat) (w : World) (e : Ending) (w' : World) : Prop :=
  ∃ logv' g c, e = .returned (.int .i64 0) ∧ MemAt w' mb lb lc logv' (ts.set i { x.t with g := g, c := c }) (l ++ [⟨2, x.num, 0⟩] ++ [⟨3, x.t.n, x.t.f⟩]) ∧
    FrmAt w' { x with dirty := false, num := 0 } ∧ w.heap.size ≤ g ∧ Fr (fun k => k = mb ∨ k = lb ∨ logv.ownBlock = some k ∨ k = x.b) w w' ∧ AtOr w logv logv'

theorem MemAt.beside {w w' : World} {b : Nat} {T : TypeId} {c : List Value} {mb lb lc : Nat} {logv : Value} {ts : List TilM} {l : List NoteD} (hM : MemAt w mb lb lc logv ts l) (h : Blk w b T c) (hf : Fr (fun k => k = b) w w')
    (h1 : T ≠ 47) (h2 : T ≠ 43) (h3 : T ≠ 54) (h4 : T ≠ 2) : MemAt w' mb lb lc logv ts l := by
  refine hM.fr hf ?_ ?_ ?_ ?_
  · intro e; exact h.ne hM.blk h1 e.symm
  · intro e; subst e; exact h.neOwn hM.row h2 _ rfl rfl
  · intro k hk e; subst e; exact h.neOwn hM.log h3 _ hk rfl
  · intro t ht e; exact h.neOwn (hM.els t ht) h4 _ rfl e

theorem written_end {w w2 w3 : World} {mb lb lc b g3 c3 : Nat} {logv logv' logv3 : Value} {ts : List TilM} {l : List NoteD} {tf tn tk pins num : Int} {tg tc : Nat} {tel : List Int} {i : Nat}
    (h : Fr (fun k => k = mb ∨ k = lb ∨ logv.ownBlock = some k) w w2) (h4 : AtOr w logv logv') (hM2 : MemAt w2 mb lb lc logv' ts (l ++ [⟨2, num, 0⟩])) (hx2 : FrmAt w2 ⟨b, ⟨tf, tn, tk, tg, tc, tel⟩, pins, true, num⟩)
    (h31 : MemAt w3 mb lb lc logv3 (ts.set i ⟨tf, tn, tk, g3, c3, tel⟩) (l ++ [⟨2, num, 0⟩] ++ [⟨3, tn, tf⟩])) (h32 : w2.heap.size ≤ g3) (h33 : Fr (fun k => k = mb ∨ k = lb ∨ logv'.ownBlock = some k) w2 w3) (h34 : AtOr w2 logv' logv3) :
    Written mb lb lc logv ts l ⟨b, ⟨tf, tn, tk, tg, tc, tel⟩, pins, true, num⟩ i w (.returned (.int .i64 0)) ((w3.setCell ⟨b, 5, none⟩ (.bool false)).setCell ⟨b, 6, none⟩ (.int .i64 0)) := by
  have hx3 := hx2.mem hM2 h33
  have hfr : Fr (fun k => k = b) w3 ((w3.setCell ⟨b, 5, none⟩ (.bool false)).setCell ⟨b, 6, none⟩ (.int .i64 0)) := ((Fr.refl (fun k => k = b) w3).setCell (p := ⟨b, 5, none⟩) (.inl rfl) _).setCell (p := ⟨b, 6, none⟩) (.inl rfl) _
  have hz := h.size
  have hB : Blk w3 b 67 _ := hx3.blk
  refine ⟨logv3, g3, c3, rfl, h31.beside hx3.blk hfr (by decide) (by decide) (by decide) (by decide), ⟨?_, ?_⟩, by omega, ?_, h4.trans h34 hz⟩
  · exact (hB.set 5 (.bool false)).set 6 (.int .i64 0)
  · exact hx3.els.fr hfr (fun k hk e => by subst e; exact hx3.blk.neOwn hx3.els (by decide) _ hk rfl)
  · refine ((h.mono (S' := fun k => k = mb ∨ k = lb ∨ logv.ownBlock = some k ∨ k = b) (fun k h => ?_)).trans h33 (fun k h => ?_)).trans hfr (fun k h => ?_)
    · rcases h with h | h | h
      · exact .inl h
      · exact .inr (.inl h)
      · exact .inr (.inr (.inl h))
    · rcases h with h | h | h
      · exact .inl (.inl h)
      · exact .inl (.inr (.inl h))
      · rcases h4 k h with h | h
        · exact .inl (.inr (.inr (.inl h)))
        · exact .inr h
    · exact .inl (.inr (.inr (.inr h)))

set_option maxHeartbeats 3200000 in
theorem written_dirty (pb mb lb lc : Nat) (v0 v2 logv : Value) (ts : List TilM) (l : List NoteD) (x : Frm) (w : World) (hP : Blk w pb 64 [v0, .iface 28 (.pointer (some ⟨mb, 0, none⟩)), v2]) (hx : FrmAt w x) (hd : x.dirty = true) (hM : MemAt w mb lb lc logv ts l) (hm : l.length ≤ 999990) (ht : ts.length ≤ 1000000)
    (i : Nat) (hi : i < ts.length) (hno : ∀ j (hj : j < i), (ts[j]'(by omega)).is x.t.f x.t.n = false) (hhit : ts[i].is x.t.f x.t.n = true) (hel : 0 < x.t.el.length ∧ x.t.el.length ≤ 1000000) :
    Calls Try.prog 30 #[.pointer (some ⟨pb, 0, none⟩), .pointer (some ⟨x.b, 0, none⟩)] w (Written mb lb lc logv ts l x i w) := by
  obtain ⟨b, ⟨tf, tn, tk, tg, tc, tel⟩, pins, dirty, num⟩ := x
  simp only at hd hno hhit hel ⊢
  subst hd
  have HNO := Lib.hid hno
  have HH := Lib.hid hhit
  clear hno hhit
  have c0 := hx.blk.cell (j := 0) rfl
  have c1 := hx.blk.cell (j := 1) rfl
  have c2 := hx.blk.cell (j := 2) rfl
  have c3 := hx.blk.cell (j := 3) rfl
  have c5 := hx.blk.cell (j := 5) rfl
  have c6 := hx.blk.cell (j := 6) rfl
  have p1 := hP.cell (j := 1) rfl
  have mr := method_ready
  have ms := method_store
  go_enter Try.func30, Try.ntmps30
  go_wp2_with fail
  go_region_with (go_at_call 54; refine (ready_any mb (.slice (some ⟨lb, 0, none⟩) ts.length lc) logv l num _ ?_ ?_ ?_).mono ?_; exact hM.blk; exact hM.log; omega; rintro e w1 ⟨logv', rfl, h1, h2, h3, h4⟩)
  all_goals
    have h3' : Fr (fun k => k = mb ∨ k = lb ∨ logv.ownBlock = some k) w w1 := ((Fr.refl _ w).drew).trans h3 (fun k h => .inl (h.elim .inl (fun h => .inr (.inr h))))
    have hM1 : MemAt w1 mb lb lc logv' ts (l ++ [⟨2, num, 0⟩]) := (hM.no ((Fr.refl No w).drew)).counted h1 h2 h3
    have hx1 := hx.mem hM h3'
    have hP1 := hP.mem hM h3' (by decide) (by decide) (by decide)
    clear h1 h2 c0 c1 c2 c3 c5 c6 p1
    have c0 := hx1.blk.cell (j := 0) rfl
    have c1 := hx1.blk.cell (j := 1) rfl
    have c2 := hx1.blk.cell (j := 2) rfl
    have c3 := hx1.blk.cell (j := 3) rfl
    have p1 := hP1.cell (j := 1) rfl
    have hh1 := hx1.els
  all_goals go_wp2_with fail
  all_goals go_region_with (first | (go_at_call 26; refine (twin_some tf tn tk tg tel.length tc tel _ ?_ ?_).mono ?_; exact hh1; omega; rintro e w2 ⟨g', c', rfl, o2, hg2, hf2⟩; have hM2 := (hM1.no ((Fr.refl No _).drew)).no hf2; have hP2 := (hP1.drew).fr hf2 (No.no _); have p12 := hP2.cell (j := 1) rfl; have hx2 := (hx1.no ((Fr.refl No _).drew)).no hf2) | (go_at_call 55; refine (store_hit mb lb lc logv' ts (l ++ [⟨2, num, 0⟩]) ⟨tf, tn, tk, g', c', tel⟩ i hi _ ?_ ?_ ?_ HNO.out HH.out ?_ hel).mono ?_; exact hM2; simp; omega; exact ht; exact o2; rintro e w3 ⟨logv3, g3, c3', rfl, h31, h32, h33, h34⟩))
  all_goals
    have hx3 := hx2.mem hM2 h33
    have d5 := hx3.blk.cell (j := 5) rfl
    have d6 := hx3.blk.cell (j := 6) rfl
    have df := hx3.blk.free
    have dl := hx3.blk.lt
    go_wp2
    go_ret
    exact written_end (((h3'.drew).thn hf2)) (fun k hk => h4 k hk) hM2 hx2 h31 h32 h33 h34

end Go.Proofs.Ythjejgepdbonpaa
