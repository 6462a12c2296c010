/-
  The walk through PoolKeeps.
-/
import Derived.Test.YthjejgepdbonpaaXl
import Derived.StillTailTactics
import Derived.BigRegion
namespace Go.Proofs.Ythjejgepdbonpaa
open Go.RowKit Go.Shelf
attribute [local go_sem] Oper.semAt_some

theorem tils0_get {i : Nat} (hi : i < 12) : (tils0 12)[i]? = some (til0 i) := by
  unfold tils0
  rw [List.getElem?_map, List.getElem?_range hi]
  rfl

theorem three_bd (x : Int) : 0 ≤ (wrap64 (x.tmod 3 + 3)).tmod 3 ∧ (wrap64 (x.tmod 3 + 3)).tmod 3 ≤ 2 := by
  have h1 := tmod_bd x 3 (by omega)
  rw [Go.IntWalk.wrap64_in _ (by omega)]
  have h2 := tmod_bd (x.tmod 3 + 3) 3 (by omega)
  have h3 := Int.tmod_nonneg (a := x.tmod 3 + 3) 3 (by omega)
  omega

theorem and_bd (x : Int) : 0 ≤ bits .and .i64 x 1023 ∧ bits .and .i64 x 1023 ≤ 1023 := by
  have h : (BitVec.ofInt 64 x &&& BitVec.ofInt 64 1023).toNat ≤ 1023 := by
    rw [BitVec.toNat_and]
    exact Nat.and_le_right
  show 0 ≤ IntKind.i64.wrap ((BitVec.ofInt 64 x &&& BitVec.ofInt 64 1023).toNat : Nat) ∧ IntKind.i64.wrap ((BitVec.ofInt 64 x &&& BitVec.ofInt 64 1023).toNat : Nat) ≤ 1023
  rw [IntKind.wrap_i64]
  omega

theorem noteCells_get (l : List NoteD) : ∀ (i : Nat) (hi : i < l.length) (r : Nat), r < 4 → (noteCells l)[i * 4 + r]? = l[i].cells[r]? := by
  induction l with
  | nil => intro i hi; simp at hi
  | cons t l ih =>
    intro i hi r hr
    have e : noteCells (t :: l) = t.cells ++ noteCells l := rfl
    rw [e]
    have hc : t.cells.length = 4 := rfl
    cases i with
    | zero => rw [List.getElem?_append_left (by omega)]; simp
    | succ i =>
      rw [List.getElem?_append_right (by omega), hc, show (i + 1) * 4 + r - 4 = i * 4 + r by omega]
      simpa using ih i (by simpa using hi) r hr

/-- What the log reads. -/
theorem log_read {w : World} {s : St} (h : PoolAt w s) : (s.a.l = [] ∧ w.cell? ⟨s.mb, 1, none⟩ = some (.slice none 0 0)) ∨
    ∃ g c, w.cell? ⟨s.mb, 1, none⟩ = some (.slice (some ⟨g, 0, none⟩) s.a.l.length c) ∧
      ∀ (i : Nat) (x : NoteD), s.a.l[i]? = some x → w.cell? ⟨g, i * 4, none⟩ = some (.int .i64 x.k) ∧ w.cell? ⟨g, i * 4 + 1, none⟩ = some (.int .i64 x.a) ∧ w.cell? ⟨g, i * 4 + 3, none⟩ = some (.int .i64 x.n) := by
  have hM := h.M
  have hl : s.a.l = s.l := rfl
  rw [hl]
  have h1 := hM.blk.cell (j := 1) rfl
  rcases hM.log.cases with ⟨e, h0, _⟩ | ⟨g, c, e⟩
  · rw [e] at h1
    exact .inl ⟨List.length_eq_zero_iff.1 h0, h1⟩
  · rw [e] at h1
    refine .inr ⟨g, c, h1, fun i x hx => ?_⟩
    obtain ⟨hi, hx⟩ := List.getElem?_eq_some_iff.1 hx
    have hc : ∀ (r : Nat) (u : Value), r < 4 → x.cells[r]? = some u → w.cell? ⟨g, i * 4 + r, none⟩ = some u := by
      intro r u hr hu
      have := (show Own w 54 4 (.slice (some ⟨g, 0, none⟩) s.l.length c) s.l.length (noteCells s.l) from e ▸ hM.log).cells (g := g) rfl (i * 4 + r) u (by rw [noteCells_get s.l i hi r hr, hx]; exact hu)
      rwa [Addr.add_lit, Nat.zero_add] at this
    exact ⟨hc 0 _ (by omega) rfl, hc 1 _ (by omega) rfl, hc 3 _ (by omega) rfl⟩

set_option maxRecDepth 100000 in
set_option maxHeartbeats 4000000 in
theorem keeps_walk (fr : Int) (hfr0 : 0 ≤ fr) (hfr1 : fr < 256) (a : Option Addr) (n c : Nat) (hn : n ≤ maxLen) (Z : Nat → OpD) (w : World) (hv : OpsIn w a n Z) :
    Calls Try.prog 4 #[.int .u8 fr, .slice a n c] w fun e w' => e = .returned (.bool true) ∧ Fr No w w' := by
  by_cases h200 : 200 < n
  · go_enter Try.func4, Try.ntmps4
    go_wp2_with (go_at_call 7; refine (alive_any _).mono ?_; rintro e w1 ⟨rfl, hf1⟩)
    go_ret
    exact ⟨rfl, hf1⟩
  · obtain ⟨most, hmost⟩ : ∃ most : Nat, (most : Int) = 1 + fr % 8 := ⟨(1 + fr % 8).toNat, by omega⟩
    have hm1 : 1 ≤ most := by omega
    have hm8 : most ≤ 8 := by omega
    go_enter Try.func4, Try.ntmps4
    go_wp2_with (first | (go_at_call 7; refine (alive_any _).mono ?_; rintro e w1 ⟨rfl, hf1⟩) | (go_at_call 9; refine (back_any _).mono ?_; rintro e w2 ⟨rfl, hB⟩) | (go_at_call 8; rw [← hmost]; refine (new_any most w1.heap.size hm1 (by omega) _).mono ?_; rintro e w3 ⟨rfl, rfl⟩))
    obtain ⟨s0, h0, hpb, hmb, ha0, hft, hfr⟩ := fresh_pool (w := w1) (w1 := w2) (w2 := w2) (most := most) hm1 (by omega) hB (Fr.refl No w2)
    rw [← hmost, ← hpb]
    obtain ⟨W, hW⟩ : ∃ W, W = w2.alloc (.cells #[.int .i64 most, backV w1.heap.size, .slice none 0 0] 64) := ⟨_, rfl⟩
    rw [← hW] at h0 hfr ⊢
    have hfW : Fr No w W := hf1.thn hfr
    obtain ⟨W0, hW0⟩ : ∃ W0, W0 = (W.alloc (.cells #[.int .i64 0, .int .i64 0, .int .i64 0, .int .i64 0, .int .i64 0, .int .i64 0, .int .i64 0, .int .i64 0, .int .i64 0, .int .i64 0, .int .i64 0, .int .i64 0, .int .i64 0, .int .i64 0, .int .i64 0, .int .i64 0, .int .i64 0, .int .i64 0, .int .i64 0, .int .i64 0, .int .i64 0, .int .i64 0, .int .i64 0, .int .i64 0, .int .i64 0, .int .i64 0, .int .i64 0, .int .i64 0, .int .i64 0, .int .i64 0, .int .i64 0, .int .i64 0, .int .i64 0, .int .i64 0, .int .i64 0, .int .i64 0, .int .i64 0, .int .i64 0, .int .i64 0, .int .i64 0, .int .i64 0, .int .i64 0, .int .i64 0, .int .i64 0, .int .i64 0, .int .i64 0, .int .i64 0, .int .i64 0] 39)).alloc (.cells #[.int .i64 0, .int .i64 0, .int .i64 0, .int .i64 0, .int .i64 0, .int .i64 0, .int .i64 0, .int .i64 0, .int .i64 0, .int .i64 0, .int .i64 0, .int .i64 0] 40) := ⟨_, rfl⟩
    rw [← hW0]
    have kN : Blk W0 W.heap.size 39 (nowC now0 0) := by
      rw [hW0, nowC_zero]
      exact (Blk.new W _ _).fr ((Fr.refl No _).alloc _) (No.no _)
    have kA : Blk W0 (W.heap.size + 1) 40 (numC fun _ => 0) := by
      have e : W.heap.size + 1 = (W.alloc (.cells #[.int .i64 0, .int .i64 0, .int .i64 0, .int .i64 0, .int .i64 0, .int .i64 0, .int .i64 0, .int .i64 0, .int .i64 0, .int .i64 0, .int .i64 0, .int .i64 0, .int .i64 0, .int .i64 0, .int .i64 0, .int .i64 0, .int .i64 0, .int .i64 0, .int .i64 0, .int .i64 0, .int .i64 0, .int .i64 0, .int .i64 0, .int .i64 0, .int .i64 0, .int .i64 0, .int .i64 0, .int .i64 0, .int .i64 0, .int .i64 0, .int .i64 0, .int .i64 0, .int .i64 0, .int .i64 0, .int .i64 0, .int .i64 0, .int .i64 0, .int .i64 0, .int .i64 0, .int .i64 0, .int .i64 0, .int .i64 0, .int .i64 0, .int .i64 0, .int .i64 0, .int .i64 0, .int .i64 0, .int .i64 0] 39)).heap.size := by simp
      rw [hW0, numC_zero, e]
      exact Blk.new _ _ _
    have hf0 : Fr No W W0 := by rw [hW0]; exact ((Fr.refl No W).alloc _).alloc _
    have hsz : W.heap.size = s0.pb + 1 := by rw [hW, hpb]; simp
    rw [hsz] at kN kA
    obtain ⟨nb, hnb⟩ : ∃ nb, nb = s0.pb + 1 := ⟨_, rfl⟩
    have o0 : ¬ Foot s0 nb := fun h => by have := h0.footLt h; omega
    have o1 : ¬ Foot s0 (nb + 1) := fun h => by have := h0.footLt h; omega
    have h0 := h0.no hf0
    have hwn : w.heap.size ≤ nb := by have := hfW.size; omega
    have hfW := hfW.thn hf0
    have hft : ∀ b, Foot s0 b → w.heap.size ≤ b := fun b hb => by have := hft b hb; have := hf1.size; omega
    rw [← hnb] at kN kA ⊢
    obtain ⟨pb, hp⟩ : ∃ pb, pb = s0.pb := ⟨_, rfl⟩
    obtain ⟨mb, hm⟩ : ∃ mb, mb = s0.mb := ⟨_, rfl⟩
    rw [← hmb, ← hm, ← hp]
    have HV := Lib.hid hv
    have HM := Lib.hid hmost
    have HP := Lib.hid hp
    have HMB := Lib.hid hm
    have KN := Lib.hid kN
    have KA := Lib.hid kA
    have HA := Lib.hid ha0
    clear hW0 hW hsz hfr hpb hmb hB hf1 hp hm hv hmost hnb hf0 kN kA ha0
    go_loopw [49] (fun t wr => ∃ i : Nat, i ≤ 12 ∧ t = .int .i64 i ∧ Fill W0 nb (4 * i) wr) (fun t _ => 12 - (intOf t).toNat)
    case atStart => exact ⟨0, Nat.zero_le _, rfl, Fr.refl _ _, KN.out⟩
    case round =>
      obtain ⟨i, hi, rfl, hF⟩ := hrel
      by_cases hlt : i < 12
      · have hd12 : decide ((i : Int) < 12) = true := by simp; omega
        go_wp2
        clear hd12
        go_loopw [52] (fun t wr => ∃ k : Nat, k ≤ 4 ∧ t = .int .i64 k ∧ Fill W0 nb (4 * i + k) wr) (fun t _ => 4 - (intOf t).toNat)
        case atStart => exact ⟨0, Nat.zero_le _, rfl, hF⟩
        case round =>
          rename World => wq
          obtain ⟨k, hk, rfl, hF2⟩ := hrel
          by_cases hk4 : k < 4
          · obtain ⟨v, hv⟩ : ∃ v, (now0 i)[k]? = some v := ⟨_, List.getElem?_eq_getElem hk4⟩
            have hpq : PoolAt wq s0 := h0.fr hF2.fr (fun b hb e => o0 (e ▸ hb))
            obtain ⟨g, cg, hjl, hnl, m0, m1, m2⟩ := mem_read hpq (u := til0 i) (by rw [HA.out]; exact tils0_get hlt) (n := k) (v := v) hv
            rw [← HMB.out] at m0
            obtain ⟨u, hu⟩ : ∃ u, (nowC now0 (4 * i + k))[i * 4 + k]? = some u := ⟨_, List.getElem?_eq_getElem (by rw [nowC_len]; omega)⟩
            have hcu := hF2.blk.cell hu
            have kl := hF2.blk.lt
            have kf := hF2.blk.free
            have hms := Blk.lt hpq.M.blk
            rw [← HMB.out] at hms
            have HV2 := Lib.hid hv
            have HF2 := Lib.hid hF2
            have hi12 : (i : Int) < 12 := by omega
            clear hv hF2 hpq hF hu
            go_wp2_with fail
            go_still_tail 15, (by kernel_rfl)
            go_wp2_with fail
            go_roundw
            case rel =>
             exact ⟨k + 1, by omega, by go_num, (HF2.out.fr.setCell (p := ⟨nb, i * 4 + k, none⟩) (.inl rfl) _).drew, by
              have h1 := (HF2.out.blk.set (i * 4 + k) (.int .i64 v)).drew
              have h2 := nowC_step now0 (j := 4 * i + k) (by omega) (v := v) (by
                rw [show (4 * i + k) / 4 = i by omega, show (4 * i + k) % 4 = k by omega]
                exact HV2.out)
              rw [show i * 4 + k = 4 * i + k by omega] at h1 ⊢
              rw [h2] at h1
              exact h1⟩
            case measure => (simp [intOf]; omega)
          · obtain rfl : k = 4 := by omega
            go_wp2
            go_roundw
            case rel => exact ⟨i + 1, by omega, by go_num, by rw [show 4 * (i + 1) = 4 * i + 4 by omega]; exact hF2⟩
            case measure => (simp [intOf]; omega)
      · obtain rfl : i = 12 := by omega
        have hS : SK w most pb mb nb (nb + 1) 0 wr := ⟨s0, now0, fun _ => 0, h0.fr hF.fr (fun b hb e => o0 (e ▸ hb)), HP.out.symm, HMB.out.symm, by rw [HA.out]; exact KB.start most, hF.blk, KA.out.fr hF.fr (by omega), ⟨hF.blk.lt, o0⟩, ⟨Nat.lt_of_lt_of_le KA.out.lt hF.fr.size, o1⟩, hfW.trans hF.fr (fun b hb => .inr (by omega)), hft⟩
        clear hF hft hfW h0 o0 o1 KN KA HP HMB HA
        go_wp2_with fail
        rw [show ((12 : Nat) : Int) = 12 from rfl]
        go_loopw [74] (fun t wr => ∃ k : Nat, k ≤ n ∧ t = .int .i64 k ∧ SK w most pb mb nb (nb + 1) k wr) (fun t _ => n - (intOf t).toNat)
        case atStart => exact ⟨0, Nat.zero_le _, rfl, hS⟩
        case round =>
          rename World => wq
          obtain ⟨k, hk, rfl, hS⟩ := hrel
          by_cases hlt : k < n
          · obtain ⟨s, now, num, hp0, hpb, hmb, hKB, kN, kA, oN, oA, hfw, hft⟩ := hS
            obtain ⟨ad, rfl⟩ : ∃ ad, a = some ad := by
              cases a with
              | none => have := HV.out.nil rfl; omega
              | some ad => exact ⟨ad, rfl⟩
            obtain ⟨e0, e1, e2, e3, e4, e5⟩ := (HV.out.no hfw).at hlt
            generalize (Z k).kind = kd at e0
            generalize (Z k).f = fO at e1
            generalize (Z k).n = nO at e2
            generalize (Z k).i = ii at e3
            generalize (Z k).v = vv at e4
            generalize (Z k).m = mm at e5
            obtain ⟨wo, hwo⟩ : ∃ wo, wo = wq.alloc (.cells #[.int .i64 kd, .int .i64 fO, .int .i64 nO, .int .i64 ii, .int .i64 vv, .int .i64 mm] 49) := ⟨_, rfl⟩
            have kO : Blk wo wq.heap.size 49 [.int .i64 kd, .int .i64 fO, .int .i64 nO, .int .i64 ii, .int .i64 vv, .int .i64 mm] := by rw [hwo]; exact Blk.new wq _ _
            have hfb : Fr No wq wo := by rw [hwo]; exact (Fr.refl No wq).alloc _
            have oO : Out wo s wq.heap.size := Out.new hp0 (Nat.le_refl _) kO.lt
            have hwqn : nb < wq.heap.size := kN.lt
            have hwqa : nb + 1 < wq.heap.size := kA.lt
            have hp1 := hp0.no hfb
            have kN1 := kN.fr hfb (No.no _)
            have kA1 := kA.fr hfb (No.no _)
            have oN1 := oN.no hfb
            have oA1 := oA.no hfb
            have hfo := hfw.thn hfb
            obtain ⟨bo, hbo⟩ : ∃ bo, bo = wq.heap.size := ⟨_, rfl⟩
            rw [← hbo] at kO oO hwqn hwqa
            have hft1 : ∀ b, Foot s b → w.heap.size ≤ b := hft
            have c0 := kO.cell (j := 0) rfl
            have c1 := kO.cell (j := 1) rfl
            have c2 := kO.cell (j := 2) rfl
            have c3 := kO.cell (j := 3) rfl
            have c4 := kO.cell (j := 4) rfl
            have c5 := kO.cell (j := 5) rfl
            obtain ⟨fz, hfz⟩ : ∃ fz, fz = (wrap64 (fO.tmod 3 + 3)).tmod 3 := ⟨_, rfl⟩
            obtain ⟨p, hp⟩ : ∃ p, p = wrap64 (1 + fz) := ⟨_, rfl⟩
            obtain ⟨q, hq⟩ : ∃ q, q = (wrap64 (nO.tmod 4 + 4)).tmod 4 := ⟨_, rfl⟩
            obtain ⟨m, hm⟩ : ∃ m, m = (wrap64 (ii.tmod 4 + 4)).tmod 4 := ⟨_, rfl⟩
            have hpd := file_bd fO
            have hqd := no_bd nO
            have hmd := no_bd ii
            have hfd := three_bd fO
            rw [← hfz] at hpd hfd
            rw [← hp] at hpd
            rw [← hq] at hqd
            rw [← hm] at hmd
            obtain ⟨n', hn'⟩ : ∃ n' : Nat, n' = m.toNat := ⟨_, rfl⟩
            have hmn : m = (n' : Int) := by omega
            have hn4 : n' < 4 := by omega
            have hpf : p = 1 + fz := by rw [hp, Go.IntWalk.wrap64_in _ (by omega)]
            obtain ⟨j, hjd⟩ : ∃ j : Nat, j = (fz * 4 + q).toNat := ⟨_, rfl⟩
            have hj12 : j < 12 := by omega
            have hjq : wrap64 (wrap64 (fz * 4) + q) = (j : Int) := by rw [Go.IntWalk.wrap64_in (fz * 4) (by omega), Go.IntWalk.wrap64_in _ (by omega)]; omega
            have hkj : kj j = (p, q) := by unfold kj; rw [Prod.mk.injEq]; omega
            have HFZ := Lib.hid hfz
            have HPP := Lib.hid hp
            have HQ := Lib.hid hq
            have HMM := Lib.hid hm
            have HMN := Lib.hid hmn
            have HJQ := Lib.hid hjq
            have HKJ := Lib.hid hkj
            have HWO := Lib.hid hwo
            have HBO := Lib.hid hbo
            have HKB := Lib.hid hKB
            clear hfz hp hq hm hmn hjq hkj hwo hbo hn' hjd hpf hKB hp0 kN kA oN oA hft hfw hS
            go_wp2_with fail
            rw [← HWO.out, ← HBO.out]
            clear e0 e1 e2 e3 e4 e5
            go_quiet (fail)
            rename Nat => nq
            obtain ⟨wz, hwz⟩ : ∃ wz, wz = wo.drewN nq := ⟨_, rfl⟩
            rw [← hwz]
            have hfz : Fr No wo wz := by rw [hwz]; exact (Fr.refl No wo).drewN _
            have hsz : wo.heap.size = wz.heap.size := by rw [hwz]; rfl
            clear hwz
            go_wp2_with fail
            rw [← HFZ.out, ← HQ.out, ← HMM.out, ← HPP.out, HJQ.out, HMN.out]
            obtain ⟨w5, hw5⟩ : ∃ w5, w5 = wz.alloc (.cells #[.int .i64 p, .int .i64 q] 31) := ⟨_, rfl⟩
            rw [← hw5]
            have hf5 : Fr No wo w5 := by rw [hw5]; exact hfz.alloc _
            have kK : Blk w5 wz.heap.size 31 [.int .i64 p, .int .i64 q] := by
              rw [hw5]
              exact Blk.new _ _ _
            have oK : Out w5 s wz.heap.size := Out.new hp1 (Nat.le_of_eq hsz) kK.lt
            have hp5 := hp1.no hf5
            have kN5 := kN1.fr hf5 (No.no _)
            have kA5 := kA1.fr hf5 (No.no _)
            have kO5 := kO.fr hf5 (No.no _)
            have oN5 := oN1.no hf5
            have oA5 := oA1.no hf5
            have oO5 := oO.no hf5
            have hfw5 := hfo.thn hf5
            obtain ⟨bk, hbk⟩ : ∃ bk, bk = wz.heap.size := ⟨_, rfl⟩
            rw [← hbk] at kK oK ⊢
            have hbkn : nb + 1 < bk := by have := kA1.lt; omega
            clear hw5 hbk hfz hsz hf5 hp1 kN1 kA1 kO oN1 oA1 oO hfo c0 c1 c2 c3 c4 c5
            have c0 := kO5.cell (j := 0) rfl
            have c3 := kO5.cell (j := 3) rfl
            have c4 := kO5.cell (j := 4) rfl
            have c5 := kO5.cell (j := 5) rfl
            have d0 := kK.cell (j := 0) rfl
            have d1 := kK.cell (j := 1) rfl
            have ok0 : s.a.Ok := HKB.out.ok (by omega)
            obtain ⟨np, hnp⟩ : ∃ np, np = s.a.pins := ⟨_, rfl⟩
            obtain ⟨nl, hnl⟩ : ∃ nl, nl = s.a.fs.length := ⟨_, rfl⟩
            have HNP := Lib.hid hnp
            have HNL := Lib.hid hnl
            rcases HKB.out.pin (by omega) hj12 HKJ.out with ⟨hpin, hnl2, hnp2⟩ | ⟨L, x, A1, hpin, hKB1, hfs1, hx1, hx2, hL1, hx3⟩
            · rw [← hnp] at hnp2
              rw [← hnl] at hnl2
              subst hnl2
              have H1 := Lib.hid hpin
              clear hpin hnp hnl
              go_wp2_with (first | (go_at_call 11; refine (pins_ok s pb hpb np _ hp5 ok0 HNP.out.symm).mono ?_; rintro e w6 ⟨rfl, rfl⟩) | (go_at_call 14; refine (held_ok s pb hpb nl _ hp5 HNL.out.symm).mono ?_; rintro e w6 ⟨rfl, rfl⟩) | (go_at_call 10; refine (pin_ok s pb hpb p q 101 s.a _ hp5 ok0 H1.out).mono ?_; rintro e w6 ⟨s1, rfl, he1, ha1⟩))
              go_roundw
              case rel =>
                refine ⟨k + 1, by omega, by go_num, s1, now, num, he1.pool, he1.pb.trans hpb, he1.mb.trans hmb, by rw [ha1]; exact HKB.out.succ, kN5.out oN5 he1, kA5.out oA5 he1, oN5.evo he1, oA5.evo he1, hfw5.trans he1.fr (fun b hb => .inr (hft1 b hb)), fun b hb => ?_⟩
                rcases he1.ft b hb with h | h
                · exact hft1 b h
                · have := hfw5.size; omega
              case measure => (simp [intOf]; omega)
            · have hl1 : A1.fs.length ≤ most := by have := hKB1.keeps.le; exact this
              obtain ⟨n1, hn1⟩ : ∃ n1, n1 = A1.fs.length := ⟨_, rfl⟩
              rw [← hn1] at hl1
              have H1 := Lib.hid hpin
              have HN1 := Lib.hid hn1
              have HB1 := Lib.hid hKB1
              have HF1 := Lib.hid hfs1
              have HX1 := Lib.hid hx1
              have HX3 := Lib.hid hx3
              clear hpin hnp hnl hn1 hKB1 hfs1 hx1 hx3
              obtain ⟨v, hv⟩ : ∃ v, (now j)[n']? = some v := ⟨_, List.getElem?_eq_getElem (by rw [HKB.out.len]; exact hn4)⟩
              have HVV := Lib.hid hv
              clear hv
              have okk : A1.Ok := HB1.out.ok (by omega)
              go_wp2_with (first | (go_at_call 11; refine (pins_ok s pb hpb np _ hp5 ok0 HNP.out.symm).mono ?_; rintro e w6 ⟨rfl, rfl⟩) | (go_at_call 10; refine (pin_ok s pb hpb p q 0 A1 _ hp5 ok0 H1.out).mono ?_; rintro e w7 ⟨s1, rfl, he1, ha1⟩; have kK7 := kK.out oK he1; have kO7 := kO5.out oO5 he1; have kN7 := kN5.out oN5 he1; have kA7 := kA5.out oA5 he1; have f0 := kK7.cell (j := 0) rfl; have f1 := kK7.cell (j := 1) rfl; have g0 := kO7.cell (j := 0) rfl; have g4 := kO7.cell (j := 4) rfl; have g5 := kO7.cell (j := 5) rfl) | (go_at_call 16; refine (get_ok' s1 pb (he1.pb.trans hpb) p q _ n' L.length rfl v _ he1.pool A1 ha1 (pinned_last HF1.out HX1.out hL1 hx2) x (by rw [HF1.out]; exact last_get) (by rw [HX3.out]; exact HVV.out)).mono ?_; rintro e w8 ⟨rfl, hf8⟩; have kK8 := kK7.fr hf8 (No.no _); have kO8 := kO7.fr hf8 (No.no _); have kN8 := kN7.fr hf8 (No.no _); have kA8 := kA7.fr hf8 (No.no _); have hcv := kN8.cell (nowC_get now hj12 hn4 (HKB.out.len j) HVV.out); have f0 := kK8.cell (j := 0) rfl; have f1 := kK8.cell (j := 1) rfl; have g0 := kO8.cell (j := 0) rfl; have g4 := kO8.cell (j := 4) rfl; have g5 := kO8.cell (j := 5) rfl) | (go_at_call 14; first | (refine (held_ok s pb hpb nl _ hp5 HNL.out.symm).mono ?_; rintro e w6 ⟨rfl, rfl⟩) | (refine (held_ok s1 pb (he1.pb.trans hpb) n1 _ (he1.pool.no hf8) (by rw [ha1]; exact HN1.out.symm)).mono ?_; rintro e w9 ⟨rfl, rfl⟩)) | (go_at_call 17; refine (put_ok s1 pb (he1.pb.trans hpb) p q n' hn4 _ rfl vv _ 0 _ _ (he1.pool.no hf8) (by rw [ha1]; exact put_last HF1.out HX1.out hL1 hx2 n' vv _)).mono ?_; rintro e w10 ⟨s2, rfl, he2, ha2⟩; have kK10 := kK8.out ((oK.evo he1).no hf8) he2; have kO10 := kO8.out ((oO5.evo he1).no hf8) he2; have kN10 := kN8.out ((oN5.evo he1).no hf8) he2; have kA10 := kA8.out ((oA5.evo he1).no hf8) he2; have f0 := kK10.cell (j := 0) rfl; have f1 := kK10.cell (j := 1) rfl; have g0 := kO10.cell (j := 0) rfl; have g4 := kO10.cell (j := 4) rfl; have g5 := kO10.cell (j := 5) rfl))
              case roundEnd =>
                have hb1 : ∀ b, Foot s1 b → w.heap.size ≤ b := fun b hb => (he1.ft b hb).elim (hft1 b) (fun h => by have := hfw5.size; omega)
                refine ⟨⟨k + 1, by omega, by go_num, s1, now, num, he1.pool.no hf8, he1.pb.trans hpb, he1.mb.trans hmb, by rw [ha1]; exact HB1.out, kN8, kA8, (oN5.evo he1).no hf8, (oA5.evo he1).no hf8, (hfw5.trans he1.fr (fun b hb => .inr (hft1 b hb))).thn hf8, hb1⟩, by simp [intOf]; omega⟩
              · have hcn := kN10.cell (nowC_get now hj12 hn4 (HKB.out.len j) HVV.out)
                have hca := kA10.cell (numC_get num hj12)
                have l1 := kN10.lt
                have l2 := kA10.lt
                have r1 := kN10.free
                have r2 := kA10.free
                obtain ⟨u, hu⟩ : ∃ u, u = num j := ⟨_, rfl⟩
                rw [← hu] at hca
                have hz := and_bd mm
                obtain ⟨nz, hnz⟩ : ∃ nz, nz = bits .and .i64 mm 1023 := ⟨_, rfl⟩
                rw [← hnz] at hz ha2
                have HU := Lib.hid hu
                have HNZ := Lib.hid hnz
                have HA2 := Lib.hid ha2
                clear hu hnz ha2 hcv kN7 kA7 kK7 kO7 kN8 kA8 kK8 kO8 d0 d1 c0 c3 c4 c5
                rw [← HNZ.out]
                go_region
                rw [← HNZ.out]
                obtain ⟨w11, hw11⟩ : ∃ w11, w11 = ((w10.setCell ⟨nb, j * 4 + n', none⟩ (.int .i64 vv)).setCell ⟨nb + 1, j, none⟩ (.int .i64 (if u < nz then nz else u))).drew := ⟨_, rfl⟩
                rw [← hw11]
                have hmx : (if u < nz then nz else u) = max (num j) nz := by rw [← HU.out]; split <;> omega
                have hf11 : Fr (fun b => b = nb ∨ b = nb + 1) w10 w11 := by rw [hw11]; exact (((Fr.refl _ w10).setCell (p := ⟨nb, j * 4 + n', none⟩) (.inl (.inl rfl)) _).setCell (p := ⟨nb + 1, j, none⟩) (.inl (.inr rfl)) _).drew
                have kN11 : Blk w11 nb 39 (nowC (upd now j ((now j).set n' vv)) 48) := by
                  rw [hw11, ← nowC_upd now hj12 hn4 (HKB.out.len j) vv]
                  exact ((kN10.set (j * 4 + n') (.int .i64 vv)).fr ((Fr.refl (fun b => b = nb + 1) _).setCell (p := ⟨nb + 1, j, none⟩) (.inl rfl) _) (by omega)).drew
                have kA11 : Blk w11 (nb + 1) 40 (numC (upd num j (max (num j) nz))) := by
                  rw [hw11, hmx, ← numC_upd num hj12]
                  exact ((kA10.fr ((Fr.refl (fun b => b = nb) _).setCell (p := ⟨nb, j * 4 + n', none⟩) (.inl rfl) (.int .i64 vv)) (by omega)).set j _).drew
                have oN10 := ((oN5.evo he1).no hf8).evo he2
                have oA10 := ((oA5.evo he1).no hf8).evo he2
                have hp11 : PoolAt w11 s2 := he2.pool.fr hf11 (fun b hb e => e.elim (fun e => oN10.2 (e ▸ hb)) (fun e => oA10.2 (e ▸ hb)))
                have oN11 : Out w11 s2 nb := ⟨kN11.lt, oN10.2⟩
                have oA11 : Out w11 s2 (nb + 1) := ⟨kA11.lt, oA10.2⟩
                have HB2 := Lib.hid (HB1.out.put HF1.out hj12 (HX1.out.trans HKJ.out.symm) n' vv nz hz.1)
                have hb1 : ∀ b, Foot s1 b → w.heap.size ≤ b := fun b hb => (he1.ft b hb).elim (hft1 b) (fun h => by have := hfw5.size; omega)
                have hfw8 := (hfw5.trans he1.fr (fun b hb => .inr (hft1 b hb))).thn hf8
                have hb2 : ∀ b, Foot s2 b → w.heap.size ≤ b := fun b hb => (he2.ft b hb).elim (hb1 b) (fun h => by have := hfw8.size; omega)
                have hfw11 : Fr No w w11 := (hfw8.trans he2.fr (fun b hb => .inr (hb1 b hb))).trans hf11 (fun b hb => .inr (by omega))
                have kK11 := kK10.fr hf11 (fun e => e.elim (by omega) (by omega))
                have kO11 := kO10.fr hf11 (fun e => e.elim (by omega) (by omega))
                have hpb2 := he2.pb.trans (he1.pb.trans hpb)
                have hmb2 := he2.mb.trans (he1.mb.trans hmb)
                obtain ⟨now', hnow⟩ : ∃ now', now' = upd now j ((now j).set n' vv) := ⟨_, rfl⟩
                obtain ⟨num', hnum⟩ : ∃ num', num' = upd num j (max (num j) nz) := ⟨_, rfl⟩
                rw [← hnow] at kN11 HB2
                rw [← hnum] at kA11 HB2
                have ok2 : s2.a.Ok := by rw [HA2.out]; exact HB2.out.ok (by omega)
                clear hw11 hmx hf11 hnow hnum oN10 oA10 hcn hca l1 l2 r1 r2 kN10 kA10 kK10 kO10 f0 f1 g0 g4 g5
                have f0 := kK11.cell (j := 0) rfl
                have f1 := kK11.cell (j := 1) rfl
                have g0 := kO11.cell (j := 0) rfl
                go_wp2_with (go_at_call 12; refine (unpin_ok s2 pb hpb2 p q 0 _ _ hp11 ok2 (by rw [HA2.out]; exact unpin_last rfl HX1.out hL1 hx2)).mono ?_; rintro e w12 ⟨s3, rfl, he3, ha3⟩)
                case roundEnd =>
                  refine ⟨⟨k + 1, by omega, by go_num, s2, now', num', hp11, hpb2, hmb2, by rw [HA2.out]; exact HB2.out, kN11, kA11, oN11, oA11, hfw11, hb2⟩, by simp [intOf]; omega⟩
                case roundEnd =>
                  refine ⟨⟨k + 1, by omega, by go_num, s3, now', num', he3.pool, he3.pb.trans hpb2, he3.mb.trans hmb2, by rw [ha3]; exact HB2.out.unpin rfl hx2, kN11.out oN11 he3, kA11.out oA11 he3, oN11.evo he3, oA11.evo he3, hfw11.trans he3.fr (fun b hb => .inr (hb2 b hb)), fun b hb => (he3.ft b hb).elim (hb2 b) (fun h => by have := hfw11.size; omega)⟩, by simp [intOf]; omega⟩
              · have hb1 : ∀ b, Foot s1 b → w.heap.size ≤ b := fun b hb => (he1.ft b hb).elim (hft1 b) (fun h => by have := hfw5.size; omega)
                go_wp2_with (go_at_call 12; refine (unpin_ok s1 pb (he1.pb.trans hpb) p q 0 _ _ (he1.pool.no hf8) (by rw [ha1]; exact okk) (by rw [ha1]; exact unpin_last HF1.out HX1.out hL1 hx2)).mono ?_; rintro e w12 ⟨s3, rfl, he3, ha3⟩)
                go_roundw
                case rel =>
                  refine ⟨k + 1, by omega, by go_num, s3, now, num, he3.pool, he3.pb.trans (he1.pb.trans hpb), he3.mb.trans (he1.mb.trans hmb), by rw [ha3]; exact HB1.out.unpin HF1.out hx2, kN8.out ((oN5.evo he1).no hf8) he3, kA8.out ((oA5.evo he1).no hf8) he3, ((oN5.evo he1).no hf8).evo he3, ((oA5.evo he1).no hf8).evo he3, ((hfw5.trans he1.fr (fun b hb => .inr (hft1 b hb))).thn hf8).trans he3.fr (fun b hb => .inr (hb1 b hb)), fun b hb => ?_⟩
                  rcases he3.ft b hb with h | h
                  · exact hb1 b h
                  · have := hfw5.size; have := he1.fr.size; have := hf8.size; omega
                case measure => (simp [intOf]; omega)
          · obtain rfl : k = n := by omega
            obtain ⟨s, now, num, hp0, hpb, hmb, hKB, kN, kA, oN, oA, hfw, hft⟩ := hS
            have hms := Blk.lt hp0.M.blk
            have hlg := hKB.keeps.lg
            have hll := hKB.log
            rw [hmb] at hms
            have hlr := log_read hp0
            rw [hmb] at hlr
            have kal := kA.lt
            have HLG := Lib.hid hlg
            have HKA := Lib.hid kA
            clear hlg hKB hp0 kN oN oA hft kA hS
            rcases hlr with ⟨hl0, hc1⟩ | ⟨g, cg, hc1, hcs⟩
            · go_wp2_with fail
              go_loopw [188] (fun t wr => t = .int .i64 0 ∧ Fr No w wr) (fun _ _ => 0)
              case atStart => exact ⟨rfl, hfw⟩
              case round =>
                obtain ⟨rfl, hf9⟩ := hrel
                go_wp2_with fail
                go_ret
                exact ⟨rfl, hf9⟩
            · obtain ⟨ll, hll0⟩ : ∃ ll, ll = s.a.l.length := ⟨_, rfl⟩
              rw [← hll0] at hc1 hll
              have HLL := Lib.hid hll0
              have HCS := Lib.hid hcs
              clear hll0 hcs
              go_wp2_with fail
              go_loopw [188] (fun t wr => ∃ i : Nat, i ≤ ll ∧ t = .int .i64 i ∧ Fr No wq wr) (fun t _ => ll - (intOf t).toNat)
              case atStart => exact ⟨0, Nat.zero_le _, rfl, Fr.refl _ _⟩
              case round =>
                rename World => wr
                obtain ⟨i, hi, rfl, hf9⟩ := hrel
                by_cases hil : i < ll
                · obtain ⟨x, hx⟩ : ∃ x, s.a.l[i]? = some x := ⟨_, List.getElem?_eq_getElem (by rw [← HLL.out]; exact hil)⟩
                  obtain ⟨e0, e1, e3⟩ := HCS.out i x hx
                  have gl := World.block_lt_of_cell? wq _ e0
                  have hc1 := (hf9.cell (p := ⟨mb, 1, none⟩) hms (No.no _)).trans hc1
                  have e0 := (hf9.cell (p := ⟨g, i * 4, none⟩) gl (No.no _)).trans e0
                  have e1 := (hf9.cell (p := ⟨g, i * 4 + 1, none⟩) gl (No.no _)).trans e1
                  have e3 := (hf9.cell (p := ⟨g, i * 4 + 3, none⟩) gl (No.no _)).trans e3
                  have hms9 := Nat.lt_of_lt_of_le hms hf9.size
                  have hilI : (i : Int) < (ll : Int) := by omega
                  by_cases h3 : x.k = 3
                  · obtain ⟨y, j, hi0, hy, hy2, hj, hxj, hyn⟩ := HLG.out i x hx h3
                    obtain ⟨d0, d1, _⟩ := HCS.out (i - 1) y hy
                    have g1 := World.block_lt_of_cell? wq _ d0
                    have d0 := (hf9.cell (p := ⟨g, (i - 1) * 4, none⟩) g1 (No.no _)).trans d0
                    have d1 := (hf9.cell (p := ⟨g, (i - 1) * 4 + 1, none⟩) g1 (No.no _)).trans d1
                    have dn := (hf9.cell (p := ⟨nb + 1, j, none⟩) kal (No.no _)).trans (HKA.out.cell (numC_get num hj))
                    have kal9 := Nat.lt_of_lt_of_le kal hf9.size
                    obtain ⟨i', hi'⟩ : ∃ i', i' = i - 1 := ⟨_, rfl⟩
                    rw [← hi'] at d0 d1
                    unfold kj at hxj
                    rw [Prod.mk.injEq] at hxj
                    obtain ⟨xn1, xa1⟩ := hxj
                    rw [h3] at e0
                    rw [hy2] at d0
                    generalize x.a = xa at e1 xa1
                    generalize x.n = xn at e3 xn1
                    generalize y.a = ya at d1 hyn
                    generalize num j = u at dn hyn
                    have a1 : IntKind.i64.wrap ((i : Int) - 1) = (i' : Int) := by rw [IntKind.wrap_i64]; omega
                    have a2 : IntKind.i64.wrap (xn - 1) = xn - 1 := by rw [IntKind.wrap_i64]; omega
                    have a3 : IntKind.i64.wrap ((xn - 1) * 4) = (xn - 1) * 4 := by rw [IntKind.wrap_i64]; omega
                    have a4 : IntKind.i64.wrap ((xn - 1) * 4 + xa) = (j : Int) := by rw [IntKind.wrap_i64]; omega
                    have a5 : (i' : Int) < (ll : Int) := by omega
                    have a6 : (j : Int) < 12 := by omega
                    have a7 : ((i : Int) == 0) = false := by simp; omega
                    have a8 : decide (u < ya) = false := by simp; omega
                    clear hx hy h3 hy2 hi0 hi' g1 gl xn1 xa1
                    go_wp2_with fail
                    go_big_quiet (fail)
                    go_wp2_with fail
                    case roundEnd => exact ⟨⟨i + 1, by omega, by go_num, hf9.thn ((Fr.refl No _).drewN _)⟩, by simp [intOf]; omega⟩
                  · have h3' : (x.k == 3) = false := by simpa using h3
                    clear h3
                    generalize x.k = xk at e0 h3'
                    generalize x.a = xa at e1
                    generalize x.n = xn at e3
                    clear hx
                    go_wp2_with fail
                    go_big_quiet (fail)
                    go_wp2_with fail
                    case roundEnd => exact ⟨⟨i + 1, by omega, by go_num, hf9.thn ((Fr.refl No _).drewN _)⟩, by simp [intOf]; omega⟩
                · obtain rfl : i = ll := by omega
                  go_wp2_with fail
                  go_ret
                  exact ⟨rfl, hfw.thn hf9⟩
end Go.Proofs.Ythjejgepdbonpaa
