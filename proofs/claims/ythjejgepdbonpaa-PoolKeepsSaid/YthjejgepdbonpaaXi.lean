/-
  Calls that are handed in; the walk through PoolClean.
-/
import Derived.Test.YthjejgepdbonpaaXh
import Derived.Test.YthjejgepdbonpaaXe
import Derived.Test.YthjejgepdbonpaaOpen
namespace Go.Proofs.Ythjejgepdbonpaa
open Go.RowKit Go.Shelf
attribute [local go_sem] Oper.semAt_some

/-- A call that is handed in. -/
structure OpD where
  kind : Int
  f : Int
  n : Int
  i : Int
  v : Int
  m : Int
instance : Inhabited OpD := ⟨⟨0, 0, 0, 0, 0, 0⟩⟩
def OpD.cells (o : OpD) : List Value := [.int .i64 o.kind, .int .i64 o.f, .int .i64 o.n, .int .i64 o.i, .int .i64 o.v, .int .i64 o.m]
/-- Calls in a slice. -/
structure OpsIn (w : World) (a : Option Addr) (n : Nat) (Z : Nat → OpD) : Prop where
  nil : a = none → n = 0
  cell : ∀ ad, a = some ad → ∀ i, i < n → ∀ (j : Nat) (u : Value), (Z i).cells[j]? = some u → w.cell? ((ad.add (i * 6)).add j) = some u
theorem OpsIn.no {w w' : World} {a : Option Addr} {n : Nat} {Z : Nat → OpD} (h : OpsIn w a n Z) (hf : Fr No w w') : OpsIn w' a n Z :=
  ⟨h.nil, fun ad hd i hi j u hu => by
    have h1 := h.cell ad hd i hi j u hu
    exact (hf.cell (World.block_lt_of_cell? w _ h1) (No.no _)).trans h1⟩

theorem keyFields : fieldsOk Try.prog 31 [(0, 2), (1, 3)] = true := by kernel_rfl
theorem opFields : fieldsOk Try.prog 49 [(0, 3), (1, 31), (3, 3), (4, 2), (5, 3)] = true := by kernel_rfl
theorem cellsOp : Try.prog.cellsOf 49 = 6 := by kernel_rfl
theorem cellsInt : Try.prog.cellsOf 3 = 1 := by kernel_rfl
theorem cellsInt64 : Try.prog.cellsOf 2 = 1 := by kernel_rfl

theorem keyRd {w : World} {cs : List Value} (h : Rd Try.prog w 31 cs) : ∃ f n : Int, cs = [.int .i64 f, .int .i64 n] := by
  obtain ⟨hl, hf⟩ := h.struct keyFields
  rw [cellsKey] at hl
  match cs, hl with
  | [x, y], _ =>
    have h0 := hf 0 0 2 rfl
    have h1 := hf 1 1 3 rfl
    rw [cellsInt64] at h0
    rw [cellsInt] at h1
    obtain ⟨f, rfl⟩ := int64_of Try.underlying2 h0 rfl
    obtain ⟨n, rfl⟩ := int64_of Try.underlying3 h1 rfl
    exact ⟨f, n, rfl⟩

theorem opRd {w : World} {cs : List Value} (h : Rd Try.prog w 49 cs) : ∃ o : OpD, cs = o.cells := by
  obtain ⟨hl, hf⟩ := h.struct opFields
  rw [cellsOp] at hl
  match cs, hl with
  | [x0, x1, x2, x3, x4, x5], _ =>
    have h0 := hf 0 0 3 rfl
    have h1 := hf 1 1 31 rfl
    have h3 := hf 2 3 3 rfl
    have h4 := hf 3 4 2 rfl
    have h5 := hf 4 5 3 rfl
    rw [cellsInt] at h0 h3 h5
    rw [cellsInt64] at h4
    rw [cellsKey] at h1
    obtain ⟨k, rfl⟩ := int64_of Try.underlying3 h0 rfl
    obtain ⟨i, rfl⟩ := int64_of Try.underlying3 h3 rfl
    obtain ⟨v, rfl⟩ := int64_of Try.underlying2 h4 rfl
    obtain ⟨m, rfl⟩ := int64_of Try.underlying3 h5 rfl
    obtain ⟨f, n, he⟩ := keyRd h1
    have he' : [x1, x2] = [Value.int .i64 f, .int .i64 n] := he
    injection he' with e1 e2
    injection e2 with e2
    subst e1
    subst e2
    exact ⟨⟨k, f, n, i, v, m⟩, rfl⟩

theorem ops_open {w : World} {cs : List Value} (h : Rd Try.prog w 37 cs) : ∃ (a : Option Addr) (n c : Nat) (Z : Nat → OpD), cs = [.slice a n c] ∧ n ≤ maxLen ∧ OpsIn w a n Z := by
  obtain ⟨a, n, c, rfl, h1, h2, h3, h4⟩ := h.slice Try.underlying37 cellsOp
  cases a with
  | none => exact ⟨none, n, c, fun _ => ⟨0, 0, 0, 0, 0, 0⟩, rfl, by omega, fun _ => (h3 rfl).1, fun ad hd => (nomatch hd)⟩
  | some ad =>
    have each : ∀ i, i < n → ∃ o : OpD, ∀ (j : Nat) (u : Value), o.cells[j]? = some u → w.cell? ((ad.add (i * 6)).add j) = some u := by
      intro i hi
      obtain ⟨cs', he⟩ := h4 ad rfl i hi
      obtain ⟨o, rfl⟩ := opRd he.rd
      exact ⟨o, he.cell⟩
    obtain ⟨Z, hZ⟩ := Go.Deep.choose_lt each
    exact ⟨some ad, n, c, Z, rfl, by omega, fun hd => (nomatch hd), fun ad' hd i hi => by cases hd; exact hZ i hi⟩

/-- Where the loops of PoolClean stand. -/
structure StandsC (w : World) (pb mb k : Nat) (W : World) : Prop where
  ex : ∃ s L, PoolAt W s ∧ s.pb = pb ∧ s.mb = mb ∧ LM 3 L [] s.a ∧ s.a.l.length ≤ k ∧ Fr No w W ∧ (∀ b, Foot s b → w.heap.size ≤ b)

theorem in_tils_at (p q : Int) (hp : 1 ≤ p ∧ p ≤ 3) (hq : 0 ≤ q ∧ q ≤ 3) : (tils0 12).findIdx? (AT.is p q) = some ((p - 1) * 4 + q).toNat := by
  have h1 : p = 1 ∨ p = 2 ∨ p = 3 := by omega
  have h2 : q = 0 ∨ q = 1 ∨ q = 2 ∨ q = 3 := by omega
  rcases h1 with rfl | rfl | rfl <;> rcases h2 with rfl | rfl | rfl | rfl <;> decide +kernel

theorem wrap_in (x : Int) (h : -1000000 ≤ x ∧ x ≤ 1000000) : IntKind.i64.wrap x = x := by rw [IntKind.wrap_i64]; omega

/-- What is read of the memory at a place. -/
theorem mem_read {w : World} {s : St} (h : PoolAt w s) {j : Nat} {u : AT} (hu : s.a.ts[j]? = some u) {n : Nat} {v : Int} (hv : u.el[n]? = some v) :
    ∃ g c, j < s.ts.length ∧ n < u.el.length ∧ w.cell? ⟨s.mb, 0, none⟩ = some (.slice (some ⟨s.lb, 0, none⟩) s.ts.length s.lc) ∧ w.cell? ⟨s.lb, j * 4 + 3, none⟩ = some (.slice (some ⟨g, 0, none⟩) u.el.length c) ∧ w.cell? ⟨g, n, none⟩ = some (.int .i64 v) := by
  have hM := h.M
  have hj : j < s.ts.length := by
    have := (List.getElem?_eq_some_iff.1 hu).1
    simpa [St.a] using this
  have hua : u = (s.ts[j]).a := by
    have e : s.a.ts[j]? = some (s.ts[j]).a := by simp [St.a, hj]
    rw [e] at hu
    exact (Option.some.inj hu).symm
  have hel : u.el = (s.ts[j]).el := by rw [hua]; rfl
  refine ⟨(s.ts[j]).g, (s.ts[j]).c, hj, (List.getElem?_eq_some_iff.1 hv).1, hM.blk.cell (j := 0) rfl, ?_, ?_⟩
  · have := hM.row.cells (g := s.lb) rfl (j * 4 + 3) (s.ts[j]).sl (by simpa [TilM.cells] using tilCells_get s.ts j hj 3 (by omega))
    rw [Addr.add_lit, Nat.zero_add] at this
    rw [this, hel]
    rfl
  · have := (hM.els _ (List.getElem_mem hj)).cells (g := (s.ts[j]).g) rfl n (.int .i64 v) (by rw [← hel]; simp [hv])
    rwa [Addr.add_lit, Nat.zero_add] at this

theorem get_ok' (s : St) (pb : Nat) (hpb : s.pb = pb) (p q m : Int) (n i : Nat) (hm : m = n) (v : Int) (w : World) (h : PoolAt w s) (A : AS) (hA : s.a = A) (hf : A.pinned p q = some i) (x : AF) (hx : A.fs[i]? = some x) (hv : x.el[n]? = some v) :
    Calls Try.prog 16 #[.pointer (some ⟨pb, 0, none⟩), .agg #[.int .i64 p, .int .i64 q], .int .i64 m] w fun e w' => e = .returned (.tuple #[.int .i64 v, .int .i64 0]) ∧ Fr No w w' := by
  subst hA
  exact get_ok s pb hpb p q m n i hm v w h hf x hx hv

def El4 (A : AS) : Prop := (∀ y ∈ A.fs, y.el.length = 4) ∧ (∀ t ∈ A.ts, t.el.length = 4)
theorem El4.of {w : World} {s : St} (h : PoolAt w s) : El4 s.a := by
  refine ⟨fun y hy => ?_, fun t ht => ?_⟩
  · obtain ⟨x, hx, rfl⟩ := List.mem_map.1 hy
    exact h.fine.el x hx
  · obtain ⟨x, hx, rfl⟩ := List.mem_map.1 ht
    exact h.fine.tel x hx
theorem El4.bump {A : AS} (h : El4 A) (i : Nat) (d : Int) : El4 (A.bump i d) := by
  refine ⟨fun y hy => ?_, h.2⟩
  rcases List.mem_append.1 hy with hy | hy
  · exact h.1 y ((List.eraseIdx_sublist _ _).subset hy)
  · cases hx : A.fs[i]? with
    | none => rw [hx] at hy; cases hy
    | some x =>
      rw [hx] at hy
      simp at hy
      subst hy
      exact h.1 x (List.mem_of_getElem? hx)
theorem El4.wb {A : AS} (h : El4 A) {x : AF} (hx : x.el.length = 4) : El4 (A.wb x) := by
  unfold AS.wb
  split
  · refine ⟨h.1, fun t ht => ?_⟩
    dsimp only at ht
    split at ht
    · rcases List.mem_or_eq_of_mem_set ht with ht | rfl
      · exact h.2 t ht
      · exact hx
    · exact h.2 t ht
  · exact h
theorem El4.room {A : AS} (h : El4 A) : El4 A.room.2 := by
  unfold AS.room
  split
  · exact h
  · split
    · exact h
    · rename_i i hi
      obtain ⟨hil, _⟩ := List.findIdx?_eq_some_iff_getElem.1 hi
      rw [List.getElem?_eq_getElem hil]
      have h2 := h.wb (x := A.fs[i]) (h.1 _ (List.getElem_mem hil))
      exact ⟨fun y hy => h.1 y ((List.eraseIdx_sublist _ _).subset hy), h2.2⟩
theorem El4.load {A : AS} (h : El4 A) (p q : Int) : El4 (A.load p q) := by
  unfold AS.load
  split
  · rename_i j hj
    refine ⟨fun y hy => ?_, h.2⟩
    rcases List.mem_append.1 hy with hy | hy
    · exact h.1 y hy
    · cases ht : A.ts[j]? with
      | none => rw [ht] at hy; cases hy
      | some t =>
        rw [ht] at hy
        simp at hy
        subst hy
        exact h.2 t (List.mem_of_getElem? ht)
  · exact h
theorem El4.pin {A : AS} (h : El4 A) (p q : Int) : El4 (A.pin p q).2 := by
  unfold AS.pin
  split
  · exact h.bump _ _
  · split
    · exact h.room.load p q
    · exact h.room

theorem OpsIn.at {w : World} {ad : Addr} {n : Nat} {Z : Nat → OpD} (h : OpsIn w (some ad) n Z) {i : Nat} (hi : i < n) :
    w.cell? (ad.add (i * 6)) = some (.int .i64 (Z i).kind) ∧ w.cell? ⟨(ad.add (i * 6)).block, (ad.add (i * 6)).off + 1, none⟩ = some (.int .i64 (Z i).f) ∧ w.cell? ⟨(ad.add (i * 6)).block, (ad.add (i * 6)).off + 2, none⟩ = some (.int .i64 (Z i).n) ∧
    w.cell? ⟨(ad.add (i * 6)).block, (ad.add (i * 6)).off + 3, none⟩ = some (.int .i64 (Z i).i) ∧ w.cell? ⟨(ad.add (i * 6)).block, (ad.add (i * 6)).off + 4, none⟩ = some (.int .i64 (Z i).v) ∧ w.cell? ⟨(ad.add (i * 6)).block, (ad.add (i * 6)).off + 5, none⟩ = some (.int .i64 (Z i).m) := by
  have hc := h.cell ad rfl i hi
  have e0 := hc 0 _ rfl
  have e1 := hc 1 _ rfl
  have e2 := hc 2 _ rfl
  have e3 := hc 3 _ rfl
  have e4 := hc 4 _ rfl
  have e5 := hc 5 _ rfl
  simp [Addr.add] at e0 e1 e2 e3 e4 e5
  simp [Addr.add, e0, e1, e2, e3, e4, e5]

set_option maxRecDepth 100000 in
set_option maxHeartbeats 4000000 in
theorem clean_walk (a : Option Addr) (n c : Nat) (hn : n ≤ maxLen) (Z : Nat → OpD) (kf kn i v w' : Int) (w : World) (hv : OpsIn w a n Z) :
    Calls Try.prog 5 #[.slice a n c, .agg #[.int .i64 kf, .int .i64 kn], .int .i64 i, .int .i64 v, .int .i64 w'] w fun e w' => e = .returned (.bool true) ∧ Fr No w w' := by
  obtain ⟨wA, hwA⟩ : ∃ wA, wA = w.alloc (.cells #[.int .i64 kf, .int .i64 kn] 31) := ⟨_, rfl⟩
  have hfa : Fr No w wA := by rw [hwA]; exact (Fr.refl No w).alloc _
  have kKA : Blk wA w.heap.size 31 [.int .i64 kf, .int .i64 kn] := by rw [hwA]; exact Blk.new w _ _
  by_cases h200 : 200 < n
  · clear kKA
    go_enter Try.func5, Try.ntmps5
    go_wp2_with (go_at_call 7; refine (alive_any _).mono ?_; rintro e w1 ⟨rfl, hf1⟩)
    go_ret
    exact ⟨rfl, hfa.thn (by rw [hwA]; exact hf1)⟩
  · have HWA := Lib.hid hwA
    clear hwA
    go_enter Try.func5, Try.ntmps5
    go_wp2_with (first | (go_at_call 7; refine (alive_any _).mono ?_; rintro e w1 ⟨rfl, hf1⟩; rw [← HWA.out] at hf1) | (go_at_call 9; refine (back_any _).mono ?_; rintro e w2 ⟨rfl, hB⟩) | (go_at_call 8; refine (new_any 3 w1.heap.size (by decide) (by decide) _).mono ?_; rintro e w3 ⟨rfl, rfl⟩))
    obtain ⟨s0, h0, hpb, hmb, ha0, hft, hfr⟩ := fresh_pool (w := w1) (w1 := w2) (w2 := w2) (most := 3) (by decide) (by decide) hB (Fr.refl No w2)
    obtain ⟨W, hW⟩ : ∃ W, W = w2.alloc (.cells #[.int .i64 3, backV w1.heap.size, .slice none 0 0] 64) := ⟨_, rfl⟩
    have h0 : PoolAt (w2.alloc (.cells #[.int .i64 3, backV w1.heap.size, .slice none 0 0] 64)) s0 := h0
    have hfr : Fr No w1 (w2.alloc (.cells #[.int .i64 3, backV w1.heap.size, .slice none 0 0] 64)) := hfr
    rw [← hW] at h0 hfr
    have hst : StandsC wA s0.pb s0.mb 0 W := ⟨s0, [], h0, rfl, rfl, ⟨by rw [ha0]; rfl, by rw [ha0]; rfl, by rw [ha0]; rfl, by simp, by simp, by rw [ha0]; simp [start], by rw [ha0]; simp [start], by rw [ha0]; simp [start]⟩, by rw [ha0]; simp [start], hf1.thn hfr, fun b hb => by have := hft b hb; have := hf1.size; omega⟩
    rw [← hpb, ← hmb]
    rw [← hmb] at hW
    rw [← hW]
    obtain ⟨pb, hp⟩ : ∃ pb, pb = s0.pb := ⟨_, rfl⟩
    obtain ⟨mb, hm⟩ : ∃ mb, mb = s0.mb := ⟨_, rfl⟩
    rw [← hp, ← hm] at hst ⊢
    have HV := Lib.hid hv
    have HK := Lib.hid kKA
    have hks : w.heap.size < wA.heap.size := kKA.lt
    clear hW h0 hfr hpb hmb ha0 hft hB hf1 hp hm hv kKA
    go_loopw [48] (fun t wr => ∃ k : Nat, k ≤ n ∧ t = .int .i64 k ∧ StandsC wA pb mb k wr) (fun t _ => n - (intOf t).toNat)
    case atStart => exact ⟨0, Nat.zero_le _, rfl, hst⟩
    case round =>
      obtain ⟨k, hk, rfl, hS⟩ := hrel
      by_cases hlt : k < n
      · obtain ⟨s, L, hp0, hpb, hmb, hLM, hll, hfw, hft⟩ := hS
        obtain ⟨ad, rfl⟩ : ∃ ad, a = some ad := by
          cases a with
          | none => have := HV.out.nil rfl; omega
          | some ad => exact ⟨ad, rfl⟩
        obtain ⟨e0, e1, e2, e3, e4, e5⟩ := (HV.out.no (hfa.thn hfw)).at hlt
        generalize (Z k).kind = kd at e0
        generalize (Z k).f = p at e1
        generalize (Z k).n = q at e2
        generalize (Z k).i = ii at e3
        generalize (Z k).v = vv at e4
        generalize (Z k).m = mm at e5
        have kO : Blk (wr.alloc (.cells #[.int .i64 kd, .int .i64 p, .int .i64 q, .int .i64 ii, .int .i64 vv, .int .i64 mm] 49)) wr.heap.size 49 [.int .i64 kd, .int .i64 p, .int .i64 q, .int .i64 ii, .int .i64 vv, .int .i64 mm] := Blk.new wr _ _
        have hfb : Fr No wr (wr.alloc (.cells #[.int .i64 kd, .int .i64 p, .int .i64 q, .int .i64 ii, .int .i64 vv, .int .i64 mm] 49)) := (Fr.refl No wr).alloc _
        have hp1 := hp0.no hfb
        have ok0 : s.a.Ok := hLM.ok (by omega)
        by_cases hk0 : (kd == 0) = true
        · rcases hLM.pin_any (by decide) p q with ⟨L1, x, A1, hpin, hLM1, hx, hl1, hL1⟩ | ⟨L1, A1, hpin, hLM1, hl1⟩
          · obtain ⟨A2, hunp, hLM2, hl2⟩ := hLM1.unpin rfl hx hL1
            have ok1 : A1.Ok := hLM1.ok (by omega)
            have oK : Out (wr.alloc (.cells #[.int .i64 kd, .int .i64 p, .int .i64 q, .int .i64 ii, .int .i64 vv, .int .i64 mm] 49)) s wr.heap.size := Out.new hp0 (Nat.le_refl _) (by simp)
            have H1 := Lib.hid hpin
            have H2 := Lib.hid hunp
            clear hpin hunp
            go_wp2_with (first | (go_at_call 12; refine (unpin_ok s1 pb (he1.pb.trans hpb) p q 0 A2 _ he1.pool (by rw [ha1]; exact ok1) (by rw [ha1]; exact H2.out)).mono ?_; rintro e w4 ⟨s2, rfl, he2, ha2⟩) | (go_at_call 10; refine (pin_ok s pb hpb p q 0 A1 _ hp1 ok0 H1.out).mono ?_; rintro e w3 ⟨s1, rfl, he1, ha1⟩; have kO1 := kO.out oK he1; have g1 := kO1.cell (j := 1) rfl; have g2 := kO1.cell (j := 2) rfl))
            go_roundw
            case rel =>
              have he := he1.trans he2
              refine ⟨k + 1, by omega, by go_num, s2, _, he2.pool, he.pb.trans hpb, he.mb.trans hmb, by rw [ha2]; exact hLM2, by rw [ha2, hl2]; omega, (hfw.thn hfb).trans he.fr (fun b hb => .inr (hft b hb)), fun b hb => ?_⟩
              rcases he.ft b hb with h | h
              · exact hft b h
              · have := hfw.size; have := hfb.size; omega
            case measure => (simp [intOf]; omega)
          · have H1 := Lib.hid hpin
            clear hpin
            go_wp2_with (go_at_call 10; refine (pin_ok s pb hpb p q 50 A1 _ hp1 ok0 H1.out).mono ?_; rintro e w3 ⟨s1, rfl, he1, ha1⟩)
            go_roundw
            case rel =>
              refine ⟨k + 1, by omega, by go_num, s1, _, he1.pool, he1.pb.trans hpb, he1.mb.trans hmb, by rw [ha1]; exact hLM1, by rw [ha1]; omega, (hfw.thn hfb).trans he1.fr (fun b hb => .inr (hft b hb)), fun b hb => ?_⟩
              rcases he1.ft b hb with h | h
              · exact hft b h
              · have := hfw.size; have := hfb.size; omega
            case measure => (simp [intOf]; omega)
        · have hk1 : (kd == 0) = false := by simpa using hk0
          clear hk0
          go_wp2
          go_roundw
          case rel => exact ⟨k + 1, by omega, by go_num, s, L, hp1, hpb, hmb, hLM, by omega, hfw.thn hfb, hft⟩
          case measure => (simp [intOf]; omega)
      · obtain rfl : k = n := by omega
        obtain ⟨s, L, hp0, hpb, hmb, hLM, hll, hfw, hft⟩ := hS
        have kK := HK.out.fr hfw (No.no _)
        have c0 := kK.cell (j := 0) rfl
        have c1 := kK.cell (j := 1) rfl
        have kl := kK.lt
        have kf' := kK.free
        obtain ⟨p, hp⟩ : ∃ p, p = wrap64 (1 + (wrap64 (kf.tmod 3 + 3)).tmod 3) := ⟨_, rfl⟩
        obtain ⟨q, hq⟩ : ∃ q, q = (wrap64 (kn.tmod 4 + 4)).tmod 4 := ⟨_, rfl⟩
        obtain ⟨m, hm⟩ : ∃ m, m = (wrap64 (i.tmod 4 + 4)).tmod 4 := ⟨_, rfl⟩
        have hpd := file_bd kf
        have hqd := no_bd kn
        have hmd := no_bd i
        rw [← hp] at hpd
        rw [← hq] at hqd
        rw [← hm] at hmd
        obtain ⟨n', hn'⟩ : ∃ n' : Nat, n' = m.toNat := ⟨_, rfl⟩
        have hmn : m = (n' : Int) := by omega
        have hn4 : n' < 4 := by omega
        have hj := in_tils_at p q hpd hqd
        obtain ⟨j, hjd⟩ : ∃ j : Nat, j = ((p - 1) * 4 + q).toNat := ⟨_, rfl⟩
        rw [← hjd] at hj
        have JI : Hid ((p - 1) * 4 + q = (j : Int)) := by show (p - 1) * 4 + q = (j : Int); omega
        have JLT : Hid (j < 12) := by show j < 12; omega
        have HP := Lib.hid hp
        have HQ := Lib.hid hq
        have HM := Lib.hid hm
        have HMN := Lib.hid hmn
        have HJ := Lib.hid hj
        have HJD := Lib.hid hjd
        clear hp hq hm hmn hj hjd hn'
        obtain ⟨A1, A2, A3, A4, A5, A6, A7, _, y, i7, r1, r2, r3, ⟨u3, hu3, hv3⟩, r4, r5, r6, r7, hp7, hy7, hv7, _, ok1, ok2, ok3, ok4, ok5, ok6, ok7⟩ := (hLM.cleans (by omega) HJ.out hn4 (fun A1 hA1 y hy => by
          have := ((El4.of hp0).pin p q).1
          rw [hA1] at this
          exact this y hy) v w').ex
        have R1 := Lib.hid r1
        have R2 := Lib.hid r2
        have R3 := Lib.hid r3
        have R4 := Lib.hid r4
        have R5 := Lib.hid r5
        have R6 := Lib.hid r6
        have R7 := Lib.hid r7
        have P7 := Lib.hid hp7
        have Y7 := Lib.hid hy7
        have V7 := Lib.hid hv7
        have U3 := Lib.hid hu3
        have V3 := Lib.hid hv3
        have ok0 : s.a.Ok := hLM.ok (by omega)
        clear r1 r2 r3 r4 r5 r6 r7 hp7 hy7 hv7 hu3 hv3
        go_wp2_with fail
        rw [← HP.out, ← HQ.out, ← HM.out, HMN.out]
        obtain ⟨W2, hW2⟩ : ∃ W2, W2 = (wr.setCell ⟨w.heap.size, 0, none⟩ (.int .i64 p)).setCell ⟨w.heap.size, 1, none⟩ (.int .i64 q) := ⟨_, rfl⟩
        rw [← hW2]
        have kK2 : Blk W2 w.heap.size 31 [.int .i64 p, .int .i64 q] := by rw [hW2]; exact (kK.set 0 _).set 1 _
        have hf2 : Fr (fun b => b = w.heap.size) wr W2 := by rw [hW2]; exact ((Fr.refl (fun b => b = w.heap.size) wr).setCell (p := ⟨w.heap.size, 0, none⟩) (.inl rfl) _).setCell (p := ⟨w.heap.size, 1, none⟩) (.inl rfl) _
        have hpw : PoolAt W2 s := hp0.fr hf2 (fun b hb e => by have := hft b hb; omega)
        have oK : Out W2 s w.heap.size := ⟨kK2.lt, fun hf => by have := hft _ hf; omega⟩
        have hfw2 : Fr No w W2 := (hfa.thn hfw).trans hf2 (fun b hb => .inr (by omega))
        have hft2 : ∀ b, Foot s b → w.heap.size ≤ b := fun b hb => by have := hft b hb; omega
        clear hW2 hf2 c0 c1 kl kf' kK hp0 hfw hft
        have c0 := kK2.cell (j := 0) rfl
        have c1 := kK2.cell (j := 1) rfl
        go_region_held3 (fun w' => w'.cell? ⟨w.heap.size, 0, none⟩ = some (.int .i64 p) ∧ w'.cell? ⟨w.heap.size, 1, none⟩ = some (.int .i64 q)) (first | exact ⟨kK5.cell rfl, kK5.cell rfl⟩ | exact ⟨kK4.cell rfl, kK4.cell rfl⟩ | exact ⟨kK3.cell rfl, kK3.cell rfl⟩ | exact ⟨kK2.drew.cell rfl, kK2.drew.cell rfl⟩)
          (first | (go_at_call 18; refine (clean_ok s2 pb (he2.pb.trans (he1.pb.trans hpb)) p q 0 A3 _ he2.pool (by rw [ha2]; exact ok2) (by rw [ha2]; exact R3.out)).mono ?_; rintro e w5 ⟨s3, rfl, he3, ha3⟩; have kK5 := kK4.out oK4 he3; have oK5 := oK4.evo he3) | (go_at_call 17; refine (put_ok s1 pb (he1.pb.trans hpb) p q n' hn4 _ rfl v 1 0 A2 _ he1.pool (by rw [ha1]; exact R2.out)).mono ?_; rintro e w4 ⟨s2, rfl, he2, ha2⟩; have kK4 := kK3.out oK3 he2; have oK4 := oK3.evo he2) | (go_at_call 10; refine (pin_ok s pb hpb p q 0 A1 _ (hpw.no ((Fr.refl No _).drew)) ok0 R1.out).mono ?_; rintro e w3 ⟨s1, rfl, he1, ha1⟩; have kK3 := kK2.drew.out (oK.no ((Fr.refl No _).drew)) he1; have oK3 := (oK.no ((Fr.refl No _).drew)).evo he1))
        have he := ((Evo.refl hpw ((Fr.refl No W2).drew)).trans he1).trans (he2.trans he3)
        have hpb5 := he.pb.trans hpb
        have hmb5 : s3.mb = mb := he.mb.trans hmb
        obtain ⟨g, cg, hjl, hnl, m0, m1, m2⟩ := mem_read he.pool (by rw [ha3]; exact U3.out) V3.out
        rw [hmb5] at m0
        have HA3 := Lib.hid ha3
        have HMB := Lib.hid hmb5
        have d0 := kK5.cell (j := 0) rfl
        have d1 := kK5.cell (j := 1) rfl
        have hj12 : j < 12 := by
          have := JLT.out
          omega
        have w1 : IntKind.i64.wrap (p - 1) = p - 1 := wrap_in _ (by omega)
        have w2' : IntKind.i64.wrap ((p - 1) * 4) = (p - 1) * 4 := wrap_in _ (by omega)
        have w3' : IntKind.i64.wrap ((p - 1) * 4 + q) = (j : Int) := by rw [wrap_in _ (by omega), JI.out]
        have x1 := Blk.lt he.pool.M.blk
        clear ha3 hmb5 he1 he2 he3 kK3 kK4 oK3 oK4 ha1 ha2 c0 c1
        rw [HMB.out] at x1
        go_wp2_with fail
        go_quiet (fail)
        go_wp2_with fail
        clear m0 m1 m2 w1 w2' w3' x1
        rename Nat => nq
        obtain ⟨W5, hW5⟩ : ∃ W5, W5 = w5.drewN nq := ⟨_, rfl⟩
        rw [← hW5]
        have hf5 : Fr No w5 W5 := by rw [hW5]; exact (Fr.refl No _).drewN _
        clear hW5
        have hp5 := he.pool.no hf5
        have kK6 := kK5.fr hf5 (No.no _)
        have oK6 := oK5.no hf5
        have d0 := kK6.cell (j := 0) rfl
        have d1 := kK6.cell (j := 1) rfl
        go_region_held3 (fun w' => w'.cell? ⟨w.heap.size, 0, none⟩ = some (.int .i64 p) ∧ w'.cell? ⟨w.heap.size, 1, none⟩ = some (.int .i64 q)) (first | exact ⟨kK9.cell rfl, kK9.cell rfl⟩ | exact ⟨kK8.cell rfl, kK8.cell rfl⟩ | exact ⟨kK7.cell rfl, kK7.cell rfl⟩ | exact ⟨kK6.drew.cell rfl, kK6.drew.cell rfl⟩)
          (first | (go_at_call 19; refine (give_ok s5 pb (he5.pb.trans (he4.pb.trans hpb5)) p q 0 A6 _ he5.pool (by rw [ha5]; exact R6.out)).mono ?_; rintro e w9 ⟨s6, rfl, he6, ha6⟩; have kK9 := kK8.out oK8 he6; have oK9 := oK8.evo he6) | (go_at_call 12; refine (unpin_ok s4 pb (he4.pb.trans hpb5) p q 0 A5 _ he4.pool (by rw [ha4]; exact ok4) (by rw [ha4]; exact R5.out)).mono ?_; rintro e w8 ⟨s5, rfl, he5, ha5⟩; have kK8 := kK7.out oK7 he5; have oK8 := oK7.evo he5) | (go_at_call 17; refine (put_ok s3 pb hpb5 p q n' hn4 _ rfl w' 2 0 A4 _ (hp5.no ((Fr.refl No _).drew)) (by rw [HA3.out]; exact R4.out)).mono ?_; rintro e w7 ⟨s4, rfl, he4, ha4⟩; have kK7 := kK6.drew.out (oK6.no ((Fr.refl No _).drew)) he4; have oK7 := (oK6.no ((Fr.refl No _).drew)).evo he4))
        have he' := (((Evo.refl hp5 ((Fr.refl No W5).drew)).trans he4).trans (he5.trans he6))
        have heA := (he.post hf5).trans he'
        have hpb9 := he'.pb.trans hpb5
        have c0 := kK9.cell (j := 0) rfl
        have c1 := kK9.cell (j := 1) rfl
        have HA6 := Lib.hid ha6
        have hp9 := he'.pool
        have hvv : (v == v) = true := by simp
        clear ha6 he4 he5 he6 kK7 kK8 oK7 oK8 ha4 ha5 d0 d1
        go_wp2_with (first | (go_at_call 16; refine (get_ok' s7 pb (he7.pb.trans hpb9) p q _ n' i7 rfl v _ he7.pool A7 ha7 P7.out y Y7.out V7.out).mono ?_; rintro e w11 ⟨rfl, hf11⟩) | (go_at_call 10; refine (pin_ok s6 pb hpb9 p q 0 A7 _ hp9 (by rw [HA6.out]; exact ok6) (by rw [HA6.out]; exact R7.out)).mono ?_; rintro e w10 ⟨s7, rfl, he7, ha7⟩; have kK10 := kK9.out oK9 he7; have f0 := kK10.cell (j := 0) rfl; have f1 := kK10.cell (j := 1) rfl))
        go_ret
        exact ⟨rfl, (hfw2.trans (heA.trans he7).fr (fun b hb => .inr (hft2 b hb))).thn hf11⟩

end Go.Proofs.Ythjejgepdbonpaa
