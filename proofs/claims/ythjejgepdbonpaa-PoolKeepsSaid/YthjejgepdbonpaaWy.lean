/-
  Pinning a tile that there is not, in the plain machine.
-/
import Derived.Test.YthjejgepdbonpaaWx
import Derived.Deep.DeepCutAuto
namespace Go.Proofs.Ythjejgepdbonpaa
open Go.RowKit Go.Shelf
attribute [local go_sem] Oper.semAt_some

def MissedAt (mb lb lc : Nat) (logv : Value) (ts : List TilM) (l : List NoteD) (p q : Int) (w : World) (s8 : Value) (wx : World) : Prop :=
  ∃ logv', s8 = .int .i64 50 ∧ MemAt wx mb lb lc logv' ts (l ++ [⟨1, q, p⟩]) ∧ Fr (fun k => k = mb ∨ logv.ownBlock = some k) w wx ∧ AtOr w logv logv'

theorem none_a {ts : List TilM} {p q : Int} (h : (ts.map TilM.a).findIdx? (AT.is p q) = none) : ∀ j (hj : j < ts.length), (ts[j]'(by omega)).is p q = false := by
  intro j hj
  rw [List.findIdx?_eq_none_iff] at h
  exact h (ts[j].a) (List.mem_map.2 ⟨_, List.getElem_mem hj, rfl⟩)

theorem missed_old {mb lb lc : Nat} {logv logv' : Value} {ts : List TilM} {l l0 : List NoteD} {p q : Int} {w w3 : World} {o : Obj} (h0 : MemAt w mb lb lc logv ts l0) (h1 : MemAt w3 mb lb lc logv' ts (l ++ [⟨1, q, p⟩]))
    (h4 : Fr (fun k => k = mb ∨ logv.ownBlock = some k) w w3) (h5 : AtOr (w.alloc o).drew logv logv') (a b c d : Value) :
    MissedAt mb lb lc logv ts l p q w (.int .i64 50) ((((w3.setCell ⟨w.heap.size, 0, none⟩ a).setCell ⟨w.heap.size, 1, none⟩ b).setCell ⟨w.heap.size, 2, none⟩ c).setCell ⟨w.heap.size, 3, none⟩ d) := by
  have hz : (w.alloc o).drew.heap.size = w.heap.size + 1 := by show (w.alloc o).heap.size = _; simp
  have hfr : Fr (fun k => k = w.heap.size) w3 ((((w3.setCell ⟨w.heap.size, 0, none⟩ a).setCell ⟨w.heap.size, 1, none⟩ b).setCell ⟨w.heap.size, 2, none⟩ c).setCell ⟨w.heap.size, 3, none⟩ d) :=
    ((((Fr.refl (fun k => k = w.heap.size) w3).setCell (p := ⟨w.heap.size, 0, none⟩) (.inl rfl) _).setCell (p := ⟨w.heap.size, 1, none⟩) (.inl rfl) _).setCell (p := ⟨w.heap.size, 2, none⟩) (.inl rfl) _).setCell (p := ⟨w.heap.size, 3, none⟩) (.inl rfl) _
  refine ⟨logv', rfl, h1.fr hfr ?_ ?_ ?_ ?_, h4.trans hfr (fun k hk => .inr (by omega)), ?_⟩
  · have := h0.blk.lt; omega
  · have := h0.row.ltg; omega
  · intro k hk
    rcases h5 k hk with h | h
    · have := h0.log.lt h; omega
    · omega
  · intro u hu
    have := (h0.els u hu).lt (k := u.g) rfl; omega
  · exact fun k hk => (h5 k hk).elim .inl (fun q => .inr (by omega))

set_option maxHeartbeats 4000000 in
/-- There is no such tile. -/
theorem pin_miss (s : St) (p q : Int) (w : World) (h : PoolAt w s) (hl : s.l.length ≤ 999900) (hf : s.a.fs.findIdx? (AF.is p q) = none) (hr : s.a.room.1 = 0) (hj : s.a.ts.findIdx? (AT.is p q) = none) :
    Calls Try.prog 10 #[.pointer (some ⟨s.pb, 0, none⟩), .agg #[.int .i64 p, .int .i64 q]] w (Did w s 50 (s.a.room.2.load p q)) := by
  have HF := Lib.hid hf
  have HR := Lib.hid hr
  have HJ := Lib.hid hj
  clear hf hr hj
  have hfr := (Fr.refl No w).alloc (.cells #[.int .i64 p, .int .i64 q] 31)
  have hbx := Blk.new w 31 [.int .i64 p, .int .i64 q]
  have hnf : ¬ Foot s w.heap.size := fun hk => by have := h.footLt hk; omega
  have ml := method_load
  go_enter Try.func10, Try.ntmps10
  go_wp2_with (first | (go_at_call 22; refine (none_st s _ (h.no hfr)).mono ?_; rintro e w1 ⟨rfl, rfl⟩) | (go_at_call 23; refine (at_miss s p q _ (h.no hfr) HF.out).mono ?_; rintro e w1 ⟨rfl, hf1⟩) | (go_at_call 25; refine (room_ok s 0 _ ((h.no hfr).no hf1) (by omega) HR.out).mono ?_; rintro e w2 ⟨s', rfl, he, hea⟩))
  have he0 := (he.pre hf1).pre hfr
  have hbx2 : Blk w2 w.heap.size 31 [.int .i64 p, .int .i64 q] := (hbx.fr hf1 (No.no _)).fr he.fr hnf
  have HJ2 : s'.a.ts.findIdx? (AT.is p q) = none := by rw [hea, find_room]; exact HJ.out
  have hll : s'.l.length ≤ s.l.length + 2 := by
    have e1 : s'.l = s'.a.l := rfl
    rw [e1, hea]
    exact room_l s.a
  have HEA := Lib.hid hea
  clear hea he
  have HJ3 := Lib.hid HJ2
  clear HJ2
  have e2 := he0.mb
  have e3 := he0.pb
  have hF2 := he0.pool.F
  have hM2 := he0.pool.M
  have htl : s'.ts.length ≤ 1000 := he0.pool.fine.tlen
  rw [e2] at hF2 hM2
  rw [e3] at hF2
  have p1 := hF2.blk.cell (j := 1) rfl
  have b0 := hbx2.cell (j := 0) rfl
  have b1 := hbx2.cell (j := 1) rfl
  have hbl := hbx2.lt
  have hpl : s.pb < w2.heap.size := hF2.blk.lt
  have HE0 := Lib.hid he0
  have E2 := Lib.hid e2
  clear he0 e2 e3
  go_cut [8] (fun s8 wx => MissedAt s.mb s'.lb s'.lc s'.logv s'.ts s'.l p q w2 s8 wx)
  case first =>
    go_region_with (go_at_call 53; refine (load_miss s.mb s'.lb s'.lc s'.logv s'.ts s'.l p q _ ?_ (by omega) (by omega) (none_a HJ3.out)).mono ?_; (first | exact hM2.no ((Fr.refl No _).drew) | exact hM2.no (((Fr.refl No _).alloc _).drew)); rintro e w3 ⟨logv3, rfl, h31, h34, h35⟩; (first | (have h34' : Fr (fun k => k = s.mb ∨ s'.logv.ownBlock = some k) w2 w3 := ((Fr.refl _ w2).drew).trans h34 (fun _ h => .inl h)) | (have h34' : Fr (fun k => k = s.mb ∨ s'.logv.ownBlock = some k) w2 w3 := (((Fr.refl _ w2).alloc _).drew).trans h34 (fun _ h => .inl h); have hbt : Blk w3 w2.heap.size 43 [.int .i64 0, .int .i64 0, .int .i64 0, .slice none 0 0] := (Blk.new w2 43 [.int .i64 0, .int .i64 0, .int .i64 0, .slice none 0 0]).drew.fr h34 (newNo hM2); have t0 := hbt.cell (j := 0) rfl; have t1 := hbt.cell (j := 1) rfl; have t2 := hbt.cell (j := 2) rfl; have t3 := hbt.cell (j := 3) rfl; have tf := hbt.free; have tl := hbt.lt)))
    all_goals go_wp2_with fail
    all_goals go_meet
    all_goals first | exact ⟨_, rfl, h31.no ((Fr.refl No _).alloc _), h34'.alloc _, h35⟩ | exact missed_old hM2 h31 h34' h35 _ _ _ _
  case rest =>
    rename World => w3
    obtain ⟨logv3, rfl, h1, h6, h7⟩ := hcut
    clear p1 b0 b1
    go_wp2_with fail
    go_ret
    have hev := evo_log HE0.out.pool (by rw [E2.out]; exact h1) (by rw [E2.out]; exact h6) h7
    refine ⟨_, rfl, HE0.out.trans hev, ?_⟩
    rw [← HEA.out]
    show _ = s'.a.load p q
    unfold AS.load
    rw [HJ3.out]
    rfl

end Go.Proofs.Ythjejgepdbonpaa
