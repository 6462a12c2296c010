/-
  Pinning a tile that is loaded, in the plain machine.
-/
import Derived.Test.YthjejgepdbonpaaWn
import Derived.Deep.DeepCutAuto
namespace Go.Proofs.Ythjejgepdbonpaa
open Go.RowKit Go.Shelf

theorem room_ok (s : St) (c : Int) (w : World) (h : PoolAt w s) (hl : s.l.length ≤ 999990) (hr : s.a.room.1 = c) :
    Calls Try.prog 25 #[.pointer (some ⟨s.pb, 0, none⟩)] w (Did w s c s.a.room.2) := by
  subst hr
  exact room_st s w h hl

set_option maxHeartbeats 1000000 in
/-- No room. -/
theorem pin_full (s : St) (p q : Int) (w : World) (h : PoolAt w s) (hl : s.l.length ≤ 999990) (hf : s.a.fs.findIdx? (AF.is p q) = none) (hr : s.a.room.1 = 101) :
    Calls Try.prog 10 #[.pointer (some ⟨s.pb, 0, none⟩), .agg #[.int .i64 p, .int .i64 q]] w (Did w s 101 s.a.room.2) := by
  have HF := Lib.hid hf
  have HR := Lib.hid hr
  clear hf hr
  have hfr := (Fr.refl No w).alloc (.cells #[.int .i64 p, .int .i64 q] 31)
  go_enter Try.func10, Try.ntmps10
  go_wp2_with (first | (go_at_call 22; refine (none_st s _ (h.no hfr)).mono ?_; rintro e w1 ⟨rfl, rfl⟩) | (go_at_call 23; refine (at_miss s p q _ (h.no hfr) HF.out).mono ?_; rintro e w1 ⟨rfl, hf1⟩) | (go_at_call 25; refine (room_ok s 101 _ ((h.no hfr).no hf1) hl HR.out).mono ?_; rintro e w2 ⟨s', rfl, he, hea⟩))
  go_ret
  exact ⟨s', rfl, (he.pre hf1).pre hfr, hea⟩

theorem boxAt {w w' : World} {S : Nat → Prop} {T : TypeId} {l : List Value} (hf : Fr S (w.alloc (.cells l.toArray T)) w') (hn : ¬ S w.heap.size) : Blk w' w.heap.size T l := (Blk.new w T l).fr hf hn

theorem Evo.beside {w w' : World} {s s' : St} (h : Evo w s w' s') (hs : PoolAt w s) {b : Nat} {T : TypeId} {l : List Value} (hb : Blk w b T l) (hn : ¬ Foot s b) : Blk w' b T l := hb.fr h.fr hn

theorem findIdx_set {α : Type} (P : α → Bool) (l : List α) (i : Nat) (hi : i < l.length) (y : α) (h : P y = P l[i]) : (l.set i y).findIdx? P = l.findIdx? P := by
  have e : ∀ l : List α, l.findIdx? P = (l.map P).findIdx? id := fun l => by rw [List.findIdx?_map]; rfl
  rw [e, e, List.map_set, h]
  congr 1
  apply List.ext_getElem
  · simp
  · intro k h1 h2
    rw [List.getElem_set]
    split
    · rename_i e; subst e; simp
    · rfl
theorem find_wb (s : AS) (x : AF) (p q : Int) : (s.wb x).ts.findIdx? (AT.is p q) = s.ts.findIdx? (AT.is p q) := by
  unfold AS.wb
  split
  · dsimp only
    split
    · rename_i i h
      obtain ⟨hi, hh, _⟩ := List.findIdx?_eq_some_iff_getElem.1 h
      refine findIdx_set _ _ i hi _ ?_
      simp [AT.is] at hh ⊢
      simp [AF.at, hh.1, hh.2]
    · rfl
  · rfl
theorem find_room (s : AS) (p q : Int) : s.room.2.ts.findIdx? (AT.is p q) = s.ts.findIdx? (AT.is p q) := by
  unfold AS.room
  split
  · rfl
  · split
    · rfl
    · exact find_wb _ _ p q
theorem room_l (s : AS) : s.room.2.l.length ≤ s.l.length + 2 := by
  unfold AS.room
  split
  · exact Nat.le_add_right _ _
  · split
    · exact Nat.le_add_right _ _
    · dsimp only
      unfold AS.wb
      split
      · simp
      · exact Nat.le_add_right _ _
theorem room_fs (s : AS) (h : s.fs.length ≤ s.most) (h1 : 1 ≤ s.most) (hr : s.room.1 = 0) : s.room.2.fs.length < s.most := by
  unfold AS.room at hr ⊢
  split
  · assumption
  · split
    · rename_i hlt _ h2; rw [if_neg hlt, h2] at hr; simp at hr
    · rename_i i h2
      obtain ⟨hi, _⟩ := List.findIdx?_eq_some_iff_getElem.1 h2
      show (s.fs.eraseIdx i).length < s.most
      rw [List.length_eraseIdx, if_pos hi]
      omega

theorem newNo {w : World} {mb lb lc : Nat} {logv : Value} {ts : List TilM} {l : List NoteD} (h : MemAt w mb lb lc logv ts l) : ¬ (w.heap.size = mb ∨ logv.ownBlock = some w.heap.size) := by
  rintro (e | e)
  · have := h.blk.lt; omega
  · have := h.log.lt e; omega

theorem load_hit' (mb lb lc : Nat) (logv : Value) (ts : List TilM) (l : List NoteD) (p q : Int) (i : Nat) (hi : i < ts.length) (t : TilM) (ht : t = ts[i]) (w : World) (hM : MemAt w mb lb lc logv ts l) (hm : l.length ≤ 1000000) (htl : ts.length ≤ 1000000)
    (hno : ∀ j (hj : j < i), (ts[j]'(by omega)).is p q = false) (hhit : ts[i].is p q = true) (hel : 0 < ts[i].el.length ∧ ts[i].el.length ≤ 1000000) :
    Calls Try.prog 53 #[.pointer (some ⟨mb, 0, none⟩), .agg #[.int .i64 p, .int .i64 q]] w (Loaded mb lb lc logv ts l p q t w) := by
  subst ht
  exact load_hit mb lb lc logv ts l p q i hi w hM hm htl hno hhit hel

/-- What is known behind the load: where the tile lies. -/
def LoadedAt (mb lb lc : Nat) (logv : Value) (ts : List TilM) (l : List NoteD) (p q : Int) (t : TilM) (w : World) (s7 s8 : Value) (wx : World) : Prop :=
  ∃ tb logv' g c, s7 = .pointer (some ⟨tb, 0, none⟩) ∧ s8 = .int .i64 0 ∧ MemAt wx mb lb lc logv' ts (l ++ [⟨1, q, p⟩]) ∧
    Own wx 2 1 (.slice (some ⟨g, 0, none⟩) t.el.length c) t.el.length (t.el.map (Value.int .i64)) ∧ Blk wx tb 43 [.int .i64 t.f, .int .i64 t.n, .int .i64 t.k, .slice (some ⟨g, 0, none⟩) t.el.length c] ∧
    w.heap.size ≤ g ∧ w.heap.size ≤ tb ∧ Fr (fun k => k = mb ∨ logv.ownBlock = some k) w wx ∧ AtOr w logv logv'

theorem loaded_new {mb lb lc : Nat} {logv logv' : Value} {ts : List TilM} {l : List NoteD} {p q : Int} {t : TilM} {w w3 : World} {g c : Nat} (h1 : MemAt w3 mb lb lc logv' ts (l ++ [⟨1, q, p⟩]))
    (h2 : Own w3 2 1 (.slice (some ⟨g, 0, none⟩) t.el.length c) t.el.length (t.el.map (Value.int .i64))) (h3 : w.heap.size ≤ g) (h4 : Fr (fun k => k = mb ∨ logv.ownBlock = some k) w w3) (h5 : AtOr w logv logv') :
    LoadedAt mb lb lc logv ts l p q t w (.pointer (some ⟨w3.heap.size, 0, none⟩)) (.int .i64 0) (w3.alloc (.cells #[.int .i64 t.f, .int .i64 t.n, .int .i64 t.k, .slice (some ⟨g, 0, none⟩) t.el.length c] 43)) :=
  ⟨w3.heap.size, logv', g, c, rfl, rfl, h1.no ((Fr.refl No _).alloc _), h2.alloc _, Blk.new w3 43 _, h3, h4.size, h4.alloc _, h5⟩

theorem loaded_old {mb lb lc : Nat} {logv logv' : Value} {ts : List TilM} {l l0 : List NoteD} {p q : Int} {t : TilM} {w w3 : World} {g c : Nat} {o : Obj} (h0 : MemAt w mb lb lc logv ts l0) (h1 : MemAt w3 mb lb lc logv' ts (l ++ [⟨1, q, p⟩]))
    (h2 : Own w3 2 1 (.slice (some ⟨g, 0, none⟩) t.el.length c) t.el.length (t.el.map (Value.int .i64))) (h3 : (w.alloc o).drew.heap.size ≤ g) (h4 : Fr (fun k => k = mb ∨ logv.ownBlock = some k) w w3) (h5 : AtOr (w.alloc o).drew logv logv')
    (hb : Blk w3 w.heap.size 43 [.int .i64 0, .int .i64 0, .int .i64 0, .slice none 0 0]) :
    LoadedAt mb lb lc logv ts l p q t w (.pointer (some ⟨w.heap.size, 0, none⟩)) (.int .i64 0)
      ((((w3.setCell ⟨w.heap.size, 0, none⟩ (.int .i64 t.f)).setCell ⟨w.heap.size, 1, none⟩ (.int .i64 t.n)).setCell ⟨w.heap.size, 2, none⟩ (.int .i64 t.k)).setCell ⟨w.heap.size, 3, none⟩ (.slice (some ⟨g, 0, none⟩) t.el.length c)) := by
  have hz : (w.alloc o).drew.heap.size = w.heap.size + 1 := by show (w.alloc o).heap.size = _; simp
  have hfr : Fr (fun k => k = w.heap.size) w3 ((((w3.setCell ⟨w.heap.size, 0, none⟩ (.int .i64 t.f)).setCell ⟨w.heap.size, 1, none⟩ (.int .i64 t.n)).setCell ⟨w.heap.size, 2, none⟩ (.int .i64 t.k)).setCell ⟨w.heap.size, 3, none⟩ (.slice (some ⟨g, 0, none⟩) t.el.length c)) :=
    ((((Fr.refl (fun k => k = w.heap.size) w3).setCell (p := ⟨w.heap.size, 0, none⟩) (.inl rfl) _).setCell (p := ⟨w.heap.size, 1, none⟩) (.inl rfl) _).setCell (p := ⟨w.heap.size, 2, none⟩) (.inl rfl) _).setCell (p := ⟨w.heap.size, 3, none⟩) (.inl rfl) _
  refine ⟨w.heap.size, logv', g, c, rfl, rfl, h1.fr hfr ?_ ?_ ?_ ?_, h2.fr hfr ?_, ?_, by omega, Nat.le_refl _, h4.trans hfr (fun k hk => .inr (by omega)), ?_⟩
  · have := h0.blk.lt; omega
  · have := h0.row.ltg; omega
  · intro k hk
    rcases h5 k hk with h | h
    · have := h0.log.lt h; omega
    · omega
  · intro u hu
    have := (h0.els u hu).lt (k := u.g) rfl; omega
  · intro k hk
    simp [Value.ownBlock] at hk
    omega
  · exact (((hb.set 0 (.int .i64 t.f)).set 1 (.int .i64 t.n)).set 2 (.int .i64 t.k)).set 3 (.slice (some ⟨g, 0, none⟩) t.el.length c)
  · exact fun k hk => (h5 k hk).elim .inl (fun q => .inr (by omega))

/-- The log has turned, and nothing else. -/
theorem evo_log {w w' : World} {s : St} {logv' : Value} {l' : List NoteD} (h : PoolAt w s) (hM : MemAt w' s.mb s.lb s.lc logv' s.ts l') (hf : Fr (fun k => k = s.mb ∨ s.logv.ownBlock = some k) w w') (ha : AtOr w s.logv logv') : Evo w s w' { s with logv := logv', l := l' } := by
  have hfine := h.fine
  refine ⟨⟨h.F.fr hf ?_ ?_ ?_, hM, ⟨hfine.most1, hfine.most2, hfine.len, hfine.nb, hfine.ng, hfine.key, hfine.el, hfine.tel, hfine.tlen⟩⟩, hf.mono ?_, ?_, rfl, rfl, rfl⟩
  · rintro (e | e)
    · exact h.F.blk.ne h.M.blk (by decide) e
    · exact h.F.blk.neOwn h.M.log (by decide) _ e rfl
  · rintro k hk (e | e)
    · exact h.M.blk.neOwn h.F.row (by decide) _ hk e
    · exact h.F.row.neOwn h.M.log (by decide) _ hk e
  · intro x hx
    have hxx := h.F.frm x hx
    refine ⟨?_, ?_⟩
    · rintro (e | e)
      · exact hxx.blk.ne h.M.blk (by decide) e
      · exact hxx.blk.neOwn h.M.log (by decide) _ e rfl
    · rintro (e | e)
      · exact h.M.blk.neOwn hxx.els (by decide) _ rfl e
      · exact hxx.els.neOwn h.M.log (by decide) _ rfl e
  · rintro k (e | e)
    · exact .inr (.inr (.inr (.inl e)))
    · exact .inr (.inr (.inr (.inr (.inr (.inl e)))))
  · rintro k (h | h | h | h | h | h | h)
    · exact .inl (.inl h)
    · exact .inl (.inr (.inl h))
    · exact .inl (.inr (.inr (.inl h)))
    · exact .inl (.inr (.inr (.inr (.inl h))))
    · exact .inl (.inr (.inr (.inr (.inr (.inl h)))))
    · rcases ha k h with h | h
      · exact .inl (.inr (.inr (.inr (.inr (.inr (.inl h))))))
      · exact .inr h
    · exact .inl (.inr (.inr (.inr (.inr (.inr (.inr h))))))

/-- A frame more, behind the others. -/
theorem evo_push {w w6 w8 : World} {s : St} (h : PoolAt w s) (hf0 : Fr No w w6) {x : Frm} (hx : FrmAt w6 x) (hxb : w.heap.size ≤ x.b) (hxg : w.heap.size ≤ x.t.g) (hkey : ∃ i, First s.ts x.t.f x.t.n i) (hel : x.t.el.length = 4) (hlen : s.fs.length < s.most)
    {fv' : Value} (hB : Blk w8 s.pb 64 [.int .i64 s.most, backV s.mb, fv']) (hO : Own w8 68 1 fv' (s.fs.length + 1) (s.fs.map Frm.ptr ++ [x.ptr])) (hf : Fr (fun k => k = s.pb ∨ s.fv.ownBlock = some k) w6 w8) (ha : AtOr w6 s.fv fv') :
    Evo w s w8 { s with fv := fv', fs := s.fs ++ [x] } := by
  have h6 := h.no hf0
  have hfine := h.fine
  have hz := hf0.size
  have hfs : ∀ y : Frm, FrmAt w6 y → FrmAt w8 y := fun y hy => hy.fr hf (by
      rintro (e | e)
      · exact hy.blk.ne h6.F.blk (by decide) e
      · exact hy.blk.neOwn h6.F.row (by decide) _ e rfl) (by
      rintro (e | e)
      · exact h6.F.blk.neOwn hy.els (by decide) _ rfl e
      · exact hy.els.neOwn h6.F.row (by decide) _ rfl e)
  refine ⟨⟨⟨hB, ?_, ?_⟩, ?_, ?_⟩, ?_, ?_, rfl, rfl, rfl⟩
  · show Own w8 _ _ _ (s.fs ++ [x]).length ((s.fs ++ [x]).map Frm.ptr)
    rw [List.length_append, List.map_append]
    exact hO
  · intro y hy
    rcases List.mem_append.1 hy with hy | hy
    · exact hfs y (h6.F.frm y hy)
    · rw [List.mem_singleton.1 hy]; exact hfs x hx
  · refine h6.M.fr hf ?_ ?_ ?_ ?_
    · rintro (e | e)
      · exact h6.M.blk.ne h6.F.blk (by decide) e
      · exact h6.M.blk.neOwn h6.F.row (by decide) _ e rfl
    · rintro (e | e)
      · exact h6.F.blk.neOwn h6.M.row (by decide) _ rfl e
      · exact h6.M.row.neOwn h6.F.row (by decide) _ rfl e
    · rintro k hk (e | e)
      · exact h6.F.blk.neOwn h6.M.log (by decide) _ hk e
      · exact h6.M.log.neOwn h6.F.row (by decide) _ hk e
    · rintro t ht (e | e)
      · exact h6.F.blk.neOwn (h6.M.els t ht) (by decide) _ rfl e
      · exact (h6.M.els t ht).neOwn h6.F.row (by decide) _ rfl e
  · refine ⟨hfine.most1, hfine.most2, by simp; omega, ?_, ?_, ?_, ?_, hfine.tel, hfine.tlen⟩
    · show ((s.fs ++ [x]).map (·.b)).Nodup
      rw [List.map_append, List.nodup_append]
      refine ⟨hfine.nb, by simp, ?_⟩
      intro a ha b hb e
      obtain ⟨y, hy, rfl⟩ := List.mem_map.1 ha
      have := (h.F.frm y hy).blk.lt
      simp at hb
      omega
    · show ((s.fs ++ [x]).map (·.t.g) ++ s.ts.map (·.g)).Nodup
      rw [List.map_append, List.append_assoc]
      have hp : (s.fs.map (·.t.g) ++ ([x].map (·.t.g) ++ s.ts.map (·.g))).Perm (x.t.g :: (s.fs.map (·.t.g) ++ s.ts.map (·.g))) := by
        simp only [List.map_cons, List.map_nil, List.singleton_append]
        exact List.perm_middle
      rw [hp.nodup_iff, List.nodup_cons]
      refine ⟨fun hm => ?_, hfine.ng⟩
      rcases List.mem_append.1 hm with hm | hm
      · obtain ⟨y, hy, e⟩ := List.mem_map.1 hm
        have := (h.F.frm y hy).els.lt (k := y.t.g) rfl
        omega
      · obtain ⟨y, hy, e⟩ := List.mem_map.1 hm
        have := (h.M.els y hy).lt (k := y.g) rfl
        omega
    · intro y hy
      rcases List.mem_append.1 hy with hy | hy
      · exact hfine.key y hy
      · rw [List.mem_singleton.1 hy]; exact hkey
    · intro y hy
      rcases List.mem_append.1 hy with hy | hy
      · exact hfine.el y hy
      · rw [List.mem_singleton.1 hy]; exact hel
  · refine (hf0.no_any).trans hf ?_
    rintro k (e | e)
    · exact .inl (.inl e)
    · exact .inl (.inr (.inl e))
  · rintro k (h' | h' | ⟨y, hy, h'⟩ | h' | h' | h' | h')
    · exact .inl (.inl h')
    · rcases ha k h' with h' | h'
      · exact .inl (.inr (.inl h'))
      · exact .inr (by omega)
    · rcases List.mem_append.1 hy with hy | hy
      · exact .inl (.inr (.inr (.inl ⟨y, hy, h'⟩)))
      · rw [List.mem_singleton.1 hy] at h'
        exact .inr (by omega)
    · exact .inl (.inr (.inr (.inr (.inl h'))))
    · exact .inl (.inr (.inr (.inr (.inr (.inl h')))))
    · exact .inl (.inr (.inr (.inr (.inr (.inr (.inl h'))))))
    · exact .inl (.inr (.inr (.inr (.inr (.inr (.inr h'))))))

/-- The machine loads a tile. -/
def AS.load (s : AS) (p q : Int) : AS :=
  match s.ts.findIdx? (AT.is p q) with
  | some j => { s with fs := s.fs ++ (match s.ts[j]? with | some t => [⟨t.f, t.n, t.k, t.el, 1, false, 0⟩] | none => []), l := s.l ++ [⟨1, q, p⟩] }
  | none => { s with l := s.l ++ [⟨1, q, p⟩] }
theorem load_a {pb mb lb lc most g4 c4 b4 : Nat} {fv fv' logv logv' : Value} {fs : List Frm} {ts : List TilM} {l : List NoteD} {p q : Int} {j : Nat} (hj : j < ts.length) (h1 : ∀ i (hi : i < j), (ts[i]'(by omega)).is p q = false) (h2 : ts[j].is p q = true) {t : TilM} (ht : t = ts[j]) :
    St.a ⟨pb, mb, lb, lc, most, fv', logv', fs ++ [⟨b4, ⟨t.f, t.n, t.k, g4, c4, t.el⟩, 1, false, 0⟩], ts, l ++ [⟨1, q, p⟩]⟩ = (St.a ⟨pb, mb, lb, lc, most, fv, logv, fs, ts, l⟩).load p q := by
  have e1 : (ts.map TilM.a).findIdx? (AT.is p q) = some j := first_a ⟨hj, h1, h2⟩
  have e2 : (ts.map TilM.a)[j]? = some t.a := by simp [hj, ht]
  simp only [AS.load, St.a, e1, e2, List.map_append]
  rfl

set_option maxHeartbeats 4000000 in
/-- The tile is loaded. -/
theorem pin_load (s : St) (p q : Int) (w : World) (h : PoolAt w s) (hl : s.l.length ≤ 999900) (hf : s.a.fs.findIdx? (AF.is p q) = none) (hr : s.a.room.1 = 0) (j : Nat) (hj : First s.ts p q j) :
    Calls Try.prog 10 #[.pointer (some ⟨s.pb, 0, none⟩), .agg #[.int .i64 p, .int .i64 q]] w (Did w s 0 (s.a.room.2.load p q)) := by
  have HF := Lib.hid hf
  have HR := Lib.hid hr
  have HJ := Lib.hid hj
  clear hf hr hj
  have hfr := (Fr.refl No w).alloc (.cells #[.int .i64 p, .int .i64 q] 31)
  have hbx := Blk.new w 31 [.int .i64 p, .int .i64 q]
  have hnf : ¬ Foot s w.heap.size := fun hk => by have := h.footLt hk; omega
  have ml := method_load
  go_enter Try.func10, Try.ntmps10
  go_wp2_with (first | (go_at_call 22; refine (none_st s _ (h.no hfr)).mono ?_; rintro e w1 ⟨rfl, rfl⟩) | (go_at_call 23; refine (at_miss s p q _ (h.no hfr) HF.out).mono ?_; rintro e w1 ⟨rfl, hf1⟩) | (go_at_call 25; refine (room_ok s 0 _ ((h.no hfr).no hf1) (by omega) HR.out).mono ?_; rintro e w2 ⟨s', rfl, he, hea⟩))
  have he0 := (he.pre hf1).pre hfr
  have hbx2 : Blk w2 w.heap.size 31 [.int .i64 p, .int .i64 q] := (hbx.fr hf1 (No.no _)).fr he.fr hnf
  have HJ2 : First s'.ts p q j := first_of_a (by
    have e1 : s'.ts.map TilM.a = s'.a.ts := rfl
    rw [e1, hea, find_room]
    exact first_a HJ.out)
  have hll : s'.l.length ≤ s.l.length + 2 := by
    have e1 : s'.l = s'.a.l := rfl
    rw [e1, hea]
    exact room_l s.a
  have HEA := Lib.hid hea
  clear hea he
  obtain ⟨pb', mb', lb', lc', most', fv', logv', fs', ts', l'⟩ := s'
  have e1 := he0.pb
  have e2 := he0.mb
  have e3 := he0.most
  simp only at e1 e2 e3 HJ2 hll
  subst e1; subst e2; subst e3
  have hF2 := he0.pool.F
  have hM2 := he0.pool.M
  have hfi := he0.pool.fine
  simp only at hF2 hM2
  obtain ⟨hj1, hj2, hj3⟩ := HJ2
  have hel : (ts'[j]'hj1).el.length = 4 := hfi.tel _ (List.getElem_mem hj1)
  have htk : (ts'[j]'hj1).f = p ∧ (ts'[j]'hj1).n = q := by unfold TilM.is at hj3; simpa using hj3
  have htl : ts'.length ≤ 1000 := hfi.tlen
  have p1 := hF2.blk.cell (j := 1) rfl
  have b0 := hbx2.cell (j := 0) rfl
  have b1 := hbx2.cell (j := 1) rfl
  have HJJ := Lib.hid hj2
  have HJ3 := Lib.hid hj3
  have HEL := Lib.hid hel
  have HTK := Lib.hid htk
  clear hj2 hj3 hel htk
  have hbl := hbx2.lt
  have hpl : s.pb < w2.heap.size := hF2.blk.lt
  obtain ⟨t, HT⟩ : ∃ t, Hid (t = ts'[j]'hj1) := ⟨_, rfl⟩
  go_cut [7, 8] (fun s7 s8 wx => LoadedAt s.mb lb' lc' logv' ts' l' p q t w2 s7 s8 wx)
  case first =>
    go_region_with (go_at_call 53; refine (load_hit' s.mb lb' lc' logv' ts' l' p q j hj1 t HT.out _ ?_ (by omega) (by omega) HJJ.out HJ3.out (by rw [HEL.out]; omega)).mono ?_; (first | exact hM2.no ((Fr.refl No _).drew) | exact hM2.no (((Fr.refl No _).alloc _).drew)); rintro e w3 ⟨logv3, g3, c3, rfl, h31, h32, h33, h34, h35⟩; (first | (have h34' : Fr (fun k => k = s.mb ∨ logv'.ownBlock = some k) w2 w3 := ((Fr.refl _ w2).drew).trans h34 (fun _ h => .inl h)) | (have h34' : Fr (fun k => k = s.mb ∨ logv'.ownBlock = some k) w2 w3 := (((Fr.refl _ w2).alloc _).drew).trans h34 (fun _ h => .inl h); have hbt : Blk w3 w2.heap.size 43 [.int .i64 0, .int .i64 0, .int .i64 0, .slice none 0 0] := (Blk.new w2 43 [.int .i64 0, .int .i64 0, .int .i64 0, .slice none 0 0]).drew.fr h34 (newNo hM2); have t0 := hbt.cell (j := 0) rfl; have t1 := hbt.cell (j := 1) rfl; have t2 := hbt.cell (j := 2) rfl; have t3 := hbt.cell (j := 3) rfl; have tf := hbt.free; have tl := hbt.lt)))
    all_goals go_wp2_with fail
    all_goals go_meet
    all_goals first | exact loaded_old hM2 h31 h32 h33 h34' h35 hbt | exact loaded_new h31 h32 h33 h34' h35
  case rest =>
    rename World => w3
    obtain ⟨tb, logv3, g3, c3, rfl, rfl, h1, h2, h3, h4, h5, h6, h7⟩ := hcut
    have htk : t.f = p ∧ t.n = q := by rw [HT.out]; exact HTK.out
    have htl4 : t.el.length = 4 := by rw [HT.out]; exact HEL.out
    have hkn : ∀ w, (binOp .neq 31 (.agg #[.int .i64 t.f, .int .i64 t.n]) (.agg #[.int .i64 p, .int .i64 q])).run Try.prog w = .ok (.bool false) w := by
      intro w
      rw [key_ne, htk.1, htk.2]
      simp
    have HTK2 := Lib.hid htk
    have HTL := Lib.hid htl4
    clear htk htl4 p1 b0 b1
    have hP6 : ∀ {b : Nat} {T : TypeId} {cc : List Value}, Blk w2 b T cc → T ≠ 47 → T ≠ 54 → Blk w3 b T cc := fun hb n1 n2 => hb.fr h6 (by
      rintro (e | e)
      · exact hb.ne hM2.blk n1 e
      · exact hb.neOwn hM2.log n2 _ e rfl)
    have hPc : Blk w3 s.pb 64 _ := hP6 hF2.blk (by decide) (by decide)
    have hbc := hP6 hbx2 (by decide) (by decide)
    clear hP6
    have t0 := h3.cell (j := 0) rfl
    have t1 := h3.cell (j := 1) rfl
    have t2 := h3.cell (j := 2) rfl
    have t3 := h3.cell (j := 3) rfl
    go_wp2_with fail
    refine (twin_some t.f t.n t.k g3 t.el.length c3 t.el _ h2 (by rw [HTL.out]; omega)).mono ?_
    rintro e w4 ⟨g4, c4, rfl, h41, h42, h43⟩
    have hbw : Blk w4 w.heap.size 31 [.int .i64 p, .int .i64 q] := hbc.fr h43 (No.no _)
    have hPw : Blk w4 s.pb 64 _ := hPc.fr h43 (No.no _)
    have b40 := hbw.cell (j := 0) rfl
    have b41 := hbw.cell (j := 1) rfl
    have b4l := hbw.lt
    have p4l := hPw.lt
    have p42 := hPw.cell (j := 2) rfl
    go_wp2_with fail
    have hfb : Blk (w4.alloc (.cells #[.int .i64 t.f, .int .i64 t.n, .int .i64 t.k, .slice (some ⟨g4, 0, none⟩) t.el.length c4, .int .i64 1, .bool false, .int .i64 0] 67)) w4.heap.size 67 [.int .i64 t.f, .int .i64 t.n, .int .i64 t.k, .slice (some ⟨g4, 0, none⟩) t.el.length c4, .int .i64 1, .bool false, .int .i64 0] := Blk.new w4 _ _
    have hfr5 : Fr No w4 (w4.alloc (.cells #[.int .i64 t.f, .int .i64 t.n, .int .i64 t.k, .slice (some ⟨g4, 0, none⟩) t.el.length c4, .int .i64 1, .bool false, .int .i64 0] 67)) := (Fr.refl No w4).alloc _
    generalize w4.alloc (.cells #[.int .i64 t.f, .int .i64 t.n, .int .i64 t.k, .slice (some ⟨g4, 0, none⟩) t.el.length c4, .int .i64 1, .bool false, .int .i64 0] 67) = w5 at *
    have hb5 := hbw.fr hfr5 (No.no _)
    have f0 := hfb.cell (j := 0) rfl
    have f1 := hfb.cell (j := 1) rfl
    have fl := hfb.lt
    have b50 := hb5.cell (j := 0) rfl
    have b51 := hb5.cell (j := 1) rfl
    have hP5 := hPw.fr hfr5 (No.no _)
    clear b40 b41 b4l p4l p42 t0 t1 t2 t3
    go_cut [50] (fun s50 wx => s50 = .bool false ∧ Fr No w5 wx)
    case first =>
      go_region_with (go_at_call 27; refine (key_any w4.heap.size t.f t.n _ ?_ ?_ ?_).mono ?_; exact fl; exact f0; exact f1; rintro e w6 ⟨rfl, hf6⟩; have b60 : w6.cell? ⟨w.heap.size, 0, none⟩ = _ := (hf6.cell hb5.lt (No.no _)).trans b50; have b61 : w6.cell? ⟨w.heap.size, 1, none⟩ = _ := (hf6.cell hb5.lt (No.no _)).trans b51)
      all_goals go_wp2_with fail
      all_goals go_meet
      all_goals exact ⟨rfl, ((Fr.refl No w5).drew).thn hf6⟩
    case rest =>
      obtain ⟨rfl, hf6⟩ := hcut
      have hs3 := he0.pool
      have hlog := evo_log hs3 h1 h6 h7
      have hP6 : Blk wc s.pb 64 _ := hP5.fr hf6 (No.no _)
      have hfb6 := hfb.fr hf6 (No.no _)
      have p62 := hP6.cell (j := 2) rfl
      have p6l := hP6.lt
      have p6f := hP6.free
      have hfr36 : Fr No w3 wc := ((h43.thn hfr5)).thn hf6
      have hO6 : Own wc 68 1 fv' fs'.length (fs'.map Frm.ptr) := (hlog.pool.no hfr36).F.row
      have hlen : fs'.length < s.most := by
        have e1 : fs'.length = (s.a.room.2).fs.length := by rw [← HEA.out]; simp [St.a]
        rw [e1]
        exact room_fs s.a (by simpa [St.a] using h.fine.len) h.fine.most1 HR.out
      have hmost := h.fine.most2
      obtain ⟨i0, hi0, hz0, hz1, hz2⟩ := info_parts Try.infoPF
      have hN : Blk (wc.alloc (.cells #[.pointer (some ⟨w4.heap.size, 0, none⟩)] 68)) wc.heap.size 68 [.pointer (some ⟨w4.heap.size, 0, none⟩)] := Blk.new wc _ _
      have hN1 : Hid (∀ j u, [Value.pointer (some ⟨w4.heap.size, 0, none⟩)][j]? = some u → (wc.alloc (.cells #[.pointer (some ⟨w4.heap.size, 0, none⟩)] 68)).cell? ((⟨wc.heap.size, 0, none⟩ : Addr).add j) = some u) := by
        intro j u hu
        rw [Addr.add_lit, Nat.zero_add]
        exact hN.cell hu
      have h1c : Hid (∀ u ∈ [Value.pointer (some ⟨w4.heap.size, 0, none⟩)], u.oneCell' = true) := by intro u hu; simp at hu; rw [hu]; rfl
      have hO7 : Hid (Own (wc.alloc (.cells #[.pointer (some ⟨w4.heap.size, 0, none⟩)] 68)) 68 1 fv' fs'.length (fs'.map Frm.ptr)) := hO6.alloc _
      have hb1 : Hid (fs'.length + 1 ≤ maxLen) := by unfold maxLen Hid; omega
      have hb2 : Hid ((fs'.length + 1) * 8 ≤ 140737488355328) := by unfold Hid; omega
      clear hN hO6
      go_wp2_with (at_builtin; refine wpList_app _ rfl (.tmp 55) (.tmp 57) 62 rfl 68 i0 (.pointer none) 1 8 Try.underlying62 hi0 hz0 hz1 hz2 rfl fv' fs'.length (fs'.map Frm.ptr) rfl hO7.out ⟨wc.heap.size, 0, none⟩ 1 1 [.pointer (some ⟨w4.heap.size, 0, none⟩)] rfl rfl hN1.out h1c.out hb1.out hb2.out ?_; intro v' w7 hap; obtain ⟨g', c', rfl⟩ := hap.some (by omega); have hP7 : Blk w7 s.pb 64 _ := (hP6.alloc _).fr hap.fr (fun h => hP6.neOwn (hlog.pool.no hfr36).F.row (by decide) _ h rfl); have p72 := hP7.cell (j := 2) rfl; have p7f := hP7.free; have p7l := hP7.lt)
      go_ret
      have hx : FrmAt wc ⟨w4.heap.size, ⟨t.f, t.n, t.k, g4, c4, t.el⟩, 1, false, 0⟩ := ⟨hfb6, (h41.fr hfr5 (fun _ _ => No.no _)).fr hf6 (fun _ _ => No.no _)⟩
      have hkey : ∃ i, First ts' t.f t.n i := ⟨j, by rw [HTK2.out.1, HTK2.out.2]; exact ⟨hj1, HJJ.out, HJ3.out⟩⟩
      have hfr78 : Fr (fun k => k = s.pb ∨ fv'.ownBlock = some k) wc (w7.setCell ⟨s.pb, 2, none⟩ (.slice (some ⟨g', 0, none⟩) (fs'.length + 1) c')) := ((((Fr.refl _ wc).alloc _).trans hap.fr (fun k h => .inl (.inr h))).setCell (p := ⟨s.pb, 2, none⟩) (.inl (.inl rfl)) _)
      have hO8 : Own (w7.setCell ⟨s.pb, 2, none⟩ (.slice (some ⟨g', 0, none⟩) (fs'.length + 1) c')) 68 1 (.slice (some ⟨g', 0, none⟩) (fs'.length + 1) c') (fs'.length + 1) (fs'.map Frm.ptr ++ [Frm.ptr ⟨w4.heap.size, ⟨t.f, t.n, t.k, g4, c4, t.el⟩, 1, false, 0⟩]) :=
        hap.own.other (p := ⟨s.pb, 2, none⟩) (fun h => hP7.neOwn hap.own (by decide) _ h rfl) _
      have hpush := evo_push hlog.pool hfr36 hx h43.size (Nat.le_trans (Nat.le_refl _) h42) hkey HTL.out hlen (hP7.set 2 (.slice (some ⟨g', 0, none⟩) (fs'.length + 1) c')) hO8 hfr78 (hap.atOr (by simp))
      refine ⟨_, rfl, (he0.trans hlog).trans hpush, ?_⟩
      have e1 := HEA.out
      rw [← e1]
      exact load_a hj1 HJJ.out HJ3.out HT.out

end Go.Proofs.Ythjejgepdbonpaa
