/-
  The chapter's examples come to true.
-/
import Derived.Test.YthjejgepdbonpaaXa
import Derived.Deep.RegionHeld3
namespace Go.Proofs.Ythjejgepdbonpaa
open Go.RowKit Go.Shelf
attribute [local go_sem] Oper.semAt_some

theorem pin_ok (s : St) (pb : Nat) (hpb : s.pb = pb) (p q c : Int) (A' : AS) (w : World) (h : PoolAt w s) (ho : s.a.Ok) (he : s.a.pin p q = (c, A')) :
    Calls Try.prog 10 #[.pointer (some ⟨pb, 0, none⟩), .agg #[.int .i64 p, .int .i64 q]] w (Did w s c A') := by
  subst hpb
  have := pin_st s p q w h ho
  rwa [he] at this
theorem unpin_ok (s : St) (pb : Nat) (hpb : s.pb = pb) (p q c : Int) (A' : AS) (w : World) (h : PoolAt w s) (ho : s.a.Ok) (he : s.a.unpin p q = (c, A')) :
    Calls Try.prog 12 #[.pointer (some ⟨pb, 0, none⟩), .agg #[.int .i64 p, .int .i64 q]] w (Did w s c A') := by
  subst hpb
  have := unpin_st s p q w h ho
  rwa [he] at this

theorem get_none (s : St) (pb : Nat) (hpb : s.pb = pb) (p q n : Int) (w : World) (h : PoolAt w s) (hf : s.a.pinned p q = none) :
    Calls Try.prog 16 #[.pointer (some ⟨pb, 0, none⟩), .agg #[.int .i64 p, .int .i64 q], .int .i64 n] w fun e w' => e = .returned (.tuple #[.int .i64 0, .int .i64 100]) ∧ Fr No w w' := by
  subst hpb
  exact get_no s p q n w h hf
theorem get_ok (s : St) (pb : Nat) (hpb : s.pb = pb) (p q m : Int) (n i : Nat) (hm : m = n) (v : Int) (w : World) (h : PoolAt w s) (hf : s.a.pinned p q = some i) (x : AF) (hx : s.a.fs[i]? = some x) (hv : x.el[n]? = some v) :
    Calls Try.prog 16 #[.pointer (some ⟨pb, 0, none⟩), .agg #[.int .i64 p, .int .i64 q], .int .i64 m] w fun e w' => e = .returned (.tuple #[.int .i64 v, .int .i64 0]) ∧ Fr No w w' := by
  subst hpb
  subst hm
  obtain ⟨_, hi, _⟩ := pinned_in hf
  have hx' : s.fs[i].a = x := by
    have : s.a.fs[i]? = some s.fs[i].a := by simp [St.a, hi]
    rw [this] at hx; exact Option.some.inj hx
  have hv' : s.fs[i].t.el[n]? = some v := by rw [← hx'] at hv; exact hv
  obtain ⟨hn, hvv⟩ := List.getElem?_eq_some_iff.1 hv'
  have := get_yes s p q n i w h hf hi hn
  rwa [hvv] at this

theorem keys_ok (s : St) (pb : Nat) (hpb : s.pb = pb) (w : World) (l : List (Int × Int)) (hl : s.a.keys = l) (h : PoolAt w s) :
    Calls Try.prog 13 #[.pointer (some ⟨pb, 0, none⟩)] w fun e w' => ∃ v, e = .returned v ∧ Own w' 31 2 v l.length (keyCells l) ∧ Fr No w w' ∧ (∀ k, v.ownBlock = some k → w.heap.size ≤ k) := by
  subst hpb
  subst hl
  exact keys_do s w h

/-! The chapter's examples, in the plain machine. -/
def ex1 : AS := ((start 2).pin 1 0).2
def ex2 : AS := (ex1.pin 1 1).2
def ex3 : AS := (ex2.unpin 1 0).2
def ex4 : AS := (ex3.pin 2 0).2
theorem ex1_eq : (start 2).pin 1 0 = (0, ex1) := rfl
theorem ex2_eq : ex1.pin 1 1 = (0, ex2) := rfl
theorem ex2_full : ex2.pin 2 0 = (101, ex2) := rfl
theorem ex3_eq : ex2.unpin 1 0 = (0, ex3) := rfl
theorem ex4_eq : ex3.pin 2 0 = (0, ex4) := rfl
theorem ex4_keys : ex4.keys = [(2, 0), (1, 1)] := rfl
theorem ex4_p1 : ex4.pinned 1 0 = none := by kernel_rfl
theorem ex4_p2 : ex4.pinned 2 0 = some 1 := by kernel_rfl
theorem ex4_f : ex4.fs[1]? = some ⟨2, 0, 1, [4, 40, -1, 7], 1, false, 0⟩ := by kernel_rfl
theorem ok0 : (start 2).Ok := ⟨fun x hx => by simp [start] at hx, by decide⟩
theorem ok1 : ex1.Ok := ⟨by decide, by decide⟩
theorem ok2 : ex2.Ok := ⟨by decide, by decide⟩
theorem ok3 : ex3.Ok := ⟨by decide, by decide⟩
theorem ok4 : ex4.Ok := ⟨by decide, by decide⟩

/-- The three keys' cells. -/
theorem cells6 {b : Nat} {w' : World} (kA : Blk w' (b + 1) 31 [.int .i64 1, .int .i64 0]) (kB : Blk w' (b + 1 + 1) 31 [.int .i64 1, .int .i64 1]) (kC : Blk w' (b + 1 + 1 + 1) 31 [.int .i64 2, .int .i64 0]) :
    w'.cell? ⟨b + 1, 0, none⟩ = some (.int .i64 1) ∧ w'.cell? ⟨b + 1, 1, none⟩ = some (.int .i64 0) ∧ w'.cell? ⟨b + 1 + 1, 0, none⟩ = some (.int .i64 1) ∧ w'.cell? ⟨b + 1 + 1, 1, none⟩ = some (.int .i64 1) ∧ w'.cell? ⟨b + 1 + 1 + 1, 0, none⟩ = some (.int .i64 2) ∧ w'.cell? ⟨b + 1 + 1 + 1, 1, none⟩ = some (.int .i64 0) :=
  ⟨kA.cell rfl, kA.cell rfl, kB.cell rfl, kB.cell rfl, kC.cell rfl, kC.cell rfl⟩

theorem cells4 {b : Nat} {w' : World} (kB : Blk w' (b + 1 + 1) 31 [.int .i64 1, .int .i64 1]) (kC : Blk w' (b + 1 + 1 + 1) 31 [.int .i64 2, .int .i64 0]) :
    w'.cell? ⟨b + 1 + 1, 0, none⟩ = some (.int .i64 1) ∧ w'.cell? ⟨b + 1 + 1, 1, none⟩ = some (.int .i64 1) ∧ w'.cell? ⟨b + 1 + 1 + 1, 0, none⟩ = some (.int .i64 2) ∧ w'.cell? ⟨b + 1 + 1 + 1, 1, none⟩ = some (.int .i64 0) :=
  ⟨kB.cell rfl, kB.cell rfl, kC.cell rfl, kC.cell rfl⟩

set_option maxRecDepth 100000 in
set_option maxHeartbeats 4000000 in
theorem alive_any (w : World) : Calls Try.prog 7 #[] w fun e w' => e = .returned (.bool true) ∧ Fr No w w' := by
  go_enter Try.func7, Try.ntmps7
  go_wp2_with (first | (go_at_call 9; refine (back_any _).mono ?_; rintro e w1 ⟨rfl, hB⟩) | (go_at_call 8; refine (new_any 2 w.heap.size (by omega) (by omega) _).mono ?_; rintro e w2 ⟨rfl, rfl⟩))
  obtain ⟨s, h0, hpb, hmb, ha0, hft, hfr⟩ := fresh_pool (w := w) (w1 := w1) (w2 := w1) (most := 2) (by omega) (by omega) hB (Fr.refl No w1)
  obtain ⟨V, hV⟩ : ∃ V, V = w1.alloc (.cells #[.int .i64 2, backV w.heap.size, .slice none 0 0] 64) := ⟨_, rfl⟩
  have h0' : PoolAt V s := by rw [hV]; exact h0
  have hVs : V.heap.size = s.pb + 1 := by rw [hV, hpb]; simp
  obtain ⟨W, hW⟩ : ∃ W, W = ((V.alloc (.cells #[.int .i64 1, .int .i64 0] 31)).alloc (.cells #[.int .i64 1, .int .i64 1] 31)).alloc (.cells #[.int .i64 2, .int .i64 0] 31) := ⟨_, rfl⟩
  have hVW : Fr No V W := by rw [hW]; exact (((Fr.refl No V).alloc _).alloc _).alloc _
  have hWs : W.heap.size = s.pb + 4 := by rw [hW]; simp [hVs]
  have kA : Blk W (s.pb + 1) 31 [.int .i64 1, .int .i64 0] := by
    have := (((Blk.new V 31 [.int .i64 1, .int .i64 0]).alloc (.cells #[.int .i64 1, .int .i64 1] 31)).alloc (.cells #[.int .i64 2, .int .i64 0] 31))
    rw [hVs] at this; rw [hW]; exact this
  have kB : Blk W (s.pb + 1 + 1) 31 [.int .i64 1, .int .i64 1] := by
    have := (Blk.new (V.alloc (.cells #[.int .i64 1, .int .i64 0] 31)) 31 [.int .i64 1, .int .i64 1]).alloc (.cells #[.int .i64 2, .int .i64 0] 31)
    rw [World.size_alloc, hVs] at this; rw [hW]; exact this
  have kC : Blk W (s.pb + 1 + 1 + 1) 31 [.int .i64 2, .int .i64 0] := by
    have := Blk.new ((V.alloc (.cells #[.int .i64 1, .int .i64 0] 31)).alloc (.cells #[.int .i64 1, .int .i64 1] 31)) 31 [.int .i64 2, .int .i64 0]
    rw [World.size_alloc, World.size_alloc, hVs] at this; rw [hW]; exact this
  have oA : Out W s (s.pb + 1) := Out.new h0' (by omega) (by omega)
  have oB : Out W s (s.pb + 1 + 1) := Out.new h0' (by omega) (by omega)
  have oC : Out W s (s.pb + 1 + 1 + 1) := Out.new h0' (by omega) (by omega)
  have hp0 := h0'.no hVW
  have hfrW : Fr No w W := by rw [hV] at hVW; exact hfr.thn hVW
  rw [← hV, ← hpb, ← hW]
  have HFT := Lib.hid hft
  clear hV hW hVW h0 h0' hVs hB hpb hmb hft hWs
  have HA0 := Lib.hid ha0
  clear ha0
  have a0 := kA.cell (j := 0) rfl
  have a1 := kA.cell (j := 1) rfl
  have b0 := kB.cell (j := 0) rfl
  have b1 := kB.cell (j := 1) rfl
  have c0 := kC.cell (j := 0) rfl
  have c1 := kC.cell (j := 1) rfl
  go_region_held3 (fun w' => w'.cell? ⟨s.pb + 1, 0, none⟩ = some (.int .i64 1) ∧ w'.cell? ⟨s.pb + 1, 1, none⟩ = some (.int .i64 0) ∧ w'.cell? ⟨s.pb + 1 + 1, 0, none⟩ = some (.int .i64 1) ∧ w'.cell? ⟨s.pb + 1 + 1, 1, none⟩ = some (.int .i64 1) ∧ w'.cell? ⟨s.pb + 1 + 1 + 1, 0, none⟩ = some (.int .i64 2) ∧ w'.cell? ⟨s.pb + 1 + 1 + 1, 1, none⟩ = some (.int .i64 0)) (first | exact cells6 kA4 kB4 kC4 | exact cells6 kA3 kB3 kC3 | exact cells6 kA2 kB2 kC2 | exact cells6 kA.drew kB.drew kC.drew)
    (first | (go_at_call 10; refine (pin_ok s3 s.pb (he3.pb.trans (he2.pb)) 2 0 101 ex2 _ ?_ ?_ ?_).mono ?_; exact he3.pool; (rw [ha3]; exact ok2); (rw [ha3]; exact ex2_full); rintro e w4 ⟨s4, rfl, he4, ha4⟩; have kA4 := kA3.out oA3 he4; have kB4 := kB3.out oB3 he4; have kC4 := kC3.out oC3 he4; have oA4 := oA3.evo he4; have oB4 := oB3.evo he4; have oC4 := oC3.evo he4) | (go_at_call 10; refine (pin_ok s2 s.pb he2.pb 1 1 0 ex2 _ ?_ ?_ ?_).mono ?_; exact he2.pool; (rw [ha2]; exact ok1); (rw [ha2]; exact ex2_eq); rintro e w3 ⟨s3, rfl, he3, ha3⟩; have kA3 := kA2.out oA2 he3; have kB3 := kB2.out oB2 he3; have kC3 := kC2.out oC2 he3; have oA3 := oA2.evo he3; have oB3 := oB2.evo he3; have oC3 := oC2.evo he3) | (go_at_call 10; refine (pin_ok s s.pb rfl 1 0 0 ex1 _ ?_ ?_ ?_).mono ?_; exact hp0.no ((Fr.refl No _).drew); (rw [HA0.out]; exact ok0); (rw [HA0.out]; exact ex1_eq); rintro e w2 ⟨s2, rfl, he2, ha2⟩; have kA2 := kA.drew.out (oA.no ((Fr.refl No _).drew)) he2; have kB2 := kB.drew.out (oB.no ((Fr.refl No _).drew)) he2; have kC2 := kC.drew.out (oC.no ((Fr.refl No _).drew)) he2; have oA2 := (oA.no ((Fr.refl No _).drew)).evo he2; have oB2 := (oB.no ((Fr.refl No _).drew)).evo he2; have oC2 := (oC.no ((Fr.refl No _).drew)).evo he2))
  have he : Evo W s w4 s4 := ((Evo.refl hp0 ((Fr.refl No W).drew)).trans he2).trans (he3.trans he4)
  have hpb4 := he.pb
  have HA4 := Lib.hid ha4
  have hnf : ∀ k, Foot s k → w.heap.size ≤ k := HFT.out
  clear ha4 a0 a1 b0 b1 c0 c1
  go_wp2_with fail
  go_region_held3 (fun w' => w'.cell? ⟨s.pb + 1, 0, none⟩ = some (.int .i64 1) ∧ w'.cell? ⟨s.pb + 1, 1, none⟩ = some (.int .i64 0) ∧ w'.cell? ⟨s.pb + 1 + 1, 0, none⟩ = some (.int .i64 1) ∧ w'.cell? ⟨s.pb + 1 + 1, 1, none⟩ = some (.int .i64 1) ∧ w'.cell? ⟨s.pb + 1 + 1 + 1, 0, none⟩ = some (.int .i64 2) ∧ w'.cell? ⟨s.pb + 1 + 1 + 1, 1, none⟩ = some (.int .i64 0)) (first | exact cells6 kA6 kB6 kC6 | exact cells6 kA5 kB5 kC5 | exact cells6 kA4.drew kB4.drew kC4.drew)
    (first | (go_at_call 10; refine (pin_ok s5 s.pb (he5.pb.trans hpb4) 2 0 0 ex4 _ ?_ ?_ ?_).mono ?_; exact he5.pool; (rw [ha5]; exact ok3); (rw [ha5]; exact ex4_eq); rintro e w6 ⟨s6, rfl, he6, ha6⟩; have kA6 := kA5.out oA5 he6; have kB6 := kB5.out oB5 he6; have kC6 := kC5.out oC5 he6; have oA6 := oA5.evo he6; have oB6 := oB5.evo he6; have oC6 := oC5.evo he6) | (go_at_call 12; refine (unpin_ok s4 s.pb hpb4 1 0 0 ex3 _ ?_ ?_ ?_).mono ?_; exact he4.pool.no ((Fr.refl No _).drew); (rw [HA4.out]; exact ok2); (rw [HA4.out]; exact ex3_eq); rintro e w5 ⟨s5, rfl, he5, ha5⟩; have kA5 := kA4.drew.out (oA4.no ((Fr.refl No _).drew)) he5; have kB5 := kB4.drew.out (oB4.no ((Fr.refl No _).drew)) he5; have kC5 := kC4.drew.out (oC4.no ((Fr.refl No _).drew)) he5; have oA5 := (oA4.no ((Fr.refl No _).drew)).evo he5; have oB5 := (oB4.no ((Fr.refl No _).drew)).evo he5; have oC5 := (oC4.no ((Fr.refl No _).drew)).evo he5))
  have he' : Evo W s w6 s6 := he.trans ((Evo.refl he4.pool ((Fr.refl No _).drew)).trans (he5.trans he6))
  have hpb6 := he'.pb
  have HA6 := Lib.hid ha6
  have a0 := kA6.cell (j := 0) rfl
  have a1 := kA6.cell (j := 1) rfl
  have c0 := kC6.cell (j := 0) rfl
  have c1 := kC6.cell (j := 1) rfl
  clear ha6
  have hp6 := he6.pool
  go_wp2_with (first | (go_at_call 16; refine (get_ok s6 s.pb hpb6 2 0 1 1 1 rfl 40 _ (hp6.no hf7) (by rw [HA6.out]; exact ex4_p2) ⟨2, 0, 1, [4, 40, -1, 7], 1, false, 0⟩ (by rw [HA6.out]; exact ex4_f) rfl).mono ?_; rintro e w8 ⟨rfl, hf8⟩; have kB8 := kB7.fr hf8 (No.no _); have kC8 := kC7.fr hf8 (No.no _)) | (go_at_call 16; refine (get_none s6 s.pb hpb6 1 0 0 _ hp6 (by rw [HA6.out]; exact ex4_p1)).mono ?_; rintro e w7 ⟨rfl, hf7⟩; have kA7 := kA6.fr hf7 (No.no _); have kB7 := kB6.fr hf7 (No.no _); have kC7 := kC6.fr hf7 (No.no _); have d0 := kC7.cell (j := 0) rfl; have d1 := kC7.cell (j := 1) rfl))
  have hf68 := hf7.thn hf8
  have hp8 := hp6.no hf68
  have hfW := hfrW
  clear hp6 hf7 kA6 kB6 kC6 kA7 kB7 kC7 a0 a1 c0 c1 d0 d1 oA6 oB6 oC6 kA5 kB5 kC5 kA4 kB4 kC4 oA5 oB5 oC5 oA4 oB4 oC4 kA3 kB3 kC3 oA3 oB3 oC3 kA2 kB2 kC2 oA2 oB2 oC2 kA kB kC oA oB oC
  go_region_held3 (fun w' => w'.cell? ⟨s.pb + 1 + 1, 0, none⟩ = some (.int .i64 1) ∧ w'.cell? ⟨s.pb + 1 + 1, 1, none⟩ = some (.int .i64 1) ∧ w'.cell? ⟨s.pb + 1 + 1 + 1, 0, none⟩ = some (.int .i64 2) ∧ w'.cell? ⟨s.pb + 1 + 1 + 1, 1, none⟩ = some (.int .i64 0)) (first | exact cells4 kB10 kC10 | exact cells4 (kB8.alloc _).drew (kC8.alloc _).drew | exact cells4 (kB9.alloc _) (kC9.alloc _) | exact cells4 kB9 kC9 | exact cells4 kB8.drew kC8.drew)
    (first | (go_at_call 15; refine (refKeys_same v9 _ [(2, 0), (1, 1)] (by simp) _ ?_ ?_).mono ?_; (first | exact ho9.alloc _ | exact ho9); (first | exact Own.of_blk (sp := []) kS9 rfl rfl (Nat.le_refl _) (by unfold maxLen; simp) | exact Own.of_blk (sp := []) (Blk.new w9 31 [.int .i64 2, .int .i64 0, .int .i64 1, .int .i64 1]) rfl rfl (Nat.le_refl _) (by unfold maxLen; simp)); rintro e w10 ⟨rfl, hf10⟩; (first | (have kB10 := (kB9.alloc _).fr hf10 (No.no _); have kC10 := (kC9.alloc _).fr hf10 (No.no _); have hg10 : Fr No w8 w10 := (hg9.alloc _).thn hf10) | (have kB10 := kB9.fr hf10 (No.no _); have kC10 := kC9.fr hf10 (No.no _); have hg10 : Fr No w8 w10 := hg9.thn hf10))) | (go_at_call 13; refine (keys_ok s6 s.pb hpb6 _ [(2, 0), (1, 1)] (by rw [HA6.out]; exact ex4_keys) ?_).mono ?_; (first | exact hp8.no ((Fr.refl No _).drew) | exact hp8.no (((Fr.refl No _).alloc _).drew)); rintro e w9 ⟨v9, rfl, ho9, hf9, hn9⟩; (first | (have kB9 := kB8.drew.fr hf9 (No.no _); have kC9 := kC8.drew.fr hf9 (No.no _); have hg9 : Fr No w8 w9 := ((Fr.refl No w8).drew).thn hf9) | (have kB9 := (kB8.alloc _).drew.fr hf9 (No.no _); have kC9 := (kC8.alloc _).drew.fr hf9 (No.no _); have kS9 : Blk w9 w8.heap.size 31 [.int .i64 2, .int .i64 0, .int .i64 1, .int .i64 1] := (Blk.new w8 31 [.int .i64 2, .int .i64 0, .int .i64 1, .int .i64 1]).drew.fr hf9 (No.no _); have hg9 : Fr No w8 w9 := (((Fr.refl No w8).alloc _).drew).thn hf9))))
  all_goals go_wp2_with fail
  all_goals go_ret
  all_goals exact ⟨rfl, hfW.trans (he'.fr.trans (hf68.no_any (S := No) |>.thn hg10 |>.no_any (S := Foot s)) (fun k h => .inl h)) (fun k h => .inr (hnf k h))⟩

end Go.Proofs.Ythjejgepdbonpaa
