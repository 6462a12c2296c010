/-
  The walk through PoolOrder.
-/
import Derived.Test.YthjejgepdbonpaaXc
import Derived.IntWalk
namespace Go.Proofs.Ythjejgepdbonpaa
open Go.RowKit Go.Shelf
attribute [local go_sem] Oper.semAt_some

/-- A slice of keys, as it is handed in. -/
def KeysIn (w : World) (v : Value) (n : Nat) (Z : Nat → Int × Int) : Prop :=
  (v = .slice none 0 0 ∧ n = 0) ∨ ∃ a c, v = .slice (some a) n c ∧ ∀ i, i < n → w.cell? (a.add (i * 2)) = some (.int .i64 (Z i).1) ∧ w.cell? (a.add (i * 2 + 1)) = some (.int .i64 (Z i).2)

theorem tmod_bd (x b : Int) (hb : 0 < b) : -b < x.tmod b ∧ x.tmod b < b := by
  refine ⟨?_, Int.tmod_lt_of_pos x hb⟩
  have h1 := Int.tmod_lt_of_pos (-x) hb
  rw [Int.neg_tmod] at h1
  omega
theorem file_bd (x : Int) : 1 ≤ wrap64 (1 + (wrap64 (x.tmod 3 + 3)).tmod 3) ∧ wrap64 (1 + (wrap64 (x.tmod 3 + 3)).tmod 3) ≤ 3 := by
  have h1 := tmod_bd x 3 (by omega)
  rw [show wrap64 (x.tmod 3 + 3) = x.tmod 3 + 3 from Go.IntWalk.wrap64_in _ (by omega)]
  have h2 := tmod_bd (x.tmod 3 + 3) 3 (by omega)
  have h3 := Int.tmod_nonneg (a := x.tmod 3 + 3) 3 (by omega)
  rw [Go.IntWalk.wrap64_in _ (by omega)]
  omega
theorem no_bd (x : Int) : 0 ≤ (wrap64 (x.tmod 4 + 4)).tmod 4 ∧ (wrap64 (x.tmod 4 + 4)).tmod 4 ≤ 3 := by
  have h1 := tmod_bd x 4 (by omega)
  rw [Go.IntWalk.wrap64_in _ (by omega)]
  have h2 := tmod_bd (x.tmod 4 + 4) 4 (by omega)
  have h3 := Int.tmod_nonneg (a := x.tmod 4 + 4) 4 (by omega)
  omega
theorem in_tils (p q : Int) (hp : 1 ≤ p ∧ p ≤ 3) (hq : 0 ≤ q ∧ q ≤ 3) : ((tils0 12).findIdx? (AT.is p q)).isSome = true := by
  have h1 : p = 1 ∨ p = 2 ∨ p = 3 := by omega
  have h2 : q = 0 ∨ q = 1 ∨ q = 2 ∨ q = 3 := by omega
  rcases h1 with rfl | rfl | rfl <;> rcases h2 with rfl | rfl | rfl | rfl <;> decide +kernel

theorem pins_ok (s : St) (pb : Nat) (hpb : s.pb = pb) (n : Int) (w : World) (h : PoolAt w s) (ho : s.a.Ok) (hn : s.a.pins = n) :
    Calls Try.prog 11 #[.pointer (some ⟨pb, 0, none⟩)] w fun e w' => e = .returned (.int .i64 n) ∧ w = w' := by
  subst hpb
  subst hn
  exact pins_st s w h ho.of
theorem held_ok (s : St) (pb : Nat) (hpb : s.pb = pb) (n : Nat) (w : World) (h : PoolAt w s) (hn : s.a.fs.length = n) :
    Calls Try.prog 14 #[.pointer (some ⟨pb, 0, none⟩)] w fun e w' => e = .returned (.int .i64 (n : Int)) ∧ w = w' := by
  subst hpb
  subst hn
  exact held_st s w h

/-- The state in which the law's loops stand. -/
structure Stands (w : World) (most : Nat) (pb : Nat) (M : List AF) (k : Nat) (W : World) : Prop where
  ex : ∃ s L, PoolAt W s ∧ s.pb = pb ∧ LM most L M s.a ∧ s.a.l.length ≤ k ∧ Fr No w W ∧ (∀ b, Foot s b → w.heap.size ≤ b)

/-- The keys of the first tiles. -/
def keysTo (i : Nat) : List (Int × Int) := (List.range i).map fun j => ((1 + (j / 4 : Nat) : Int), ((j % 4 : Nat) : Int))
theorem keysTo_succ (i : Nat) : keysTo (i + 1) = keysTo i ++ [((1 + (i / 4 : Nat) : Int), ((i % 4 : Nat) : Int))] := by simp [keysTo, List.range_succ]
theorem keysTo_new {M : List AF} {i : Nat} (h : M.map AF.key = keysTo i) : ∀ x ∈ M, x.key ≠ ((1 + (i / 4 : Nat) : Int), ((i % 4 : Nat) : Int)) := by
  intro x hx e
  have : x.key ∈ keysTo i := by rw [← h]; exact List.mem_map.2 ⟨x, hx, rfl⟩
  obtain ⟨j, hj, hje⟩ := List.mem_map.1 this
  rw [e, Prod.mk.injEq] at hje
  have := List.mem_range.1 hj
  omega
theorem keysTo_33 {M : List AF} {i : Nat} (hi : i ≤ 8) (h : M.map AF.key = keysTo i) : ∀ x ∈ M, x.key ≠ (3, 3) := by
  intro x hx e
  have : x.key ∈ keysTo i := by rw [← h]; exact List.mem_map.2 ⟨x, hx, rfl⟩
  obtain ⟨j, hj, hje⟩ := List.mem_map.1 this
  rw [e, Prod.mk.injEq] at hje
  have := List.mem_range.1 hj
  omega
theorem keysTo_len {M : List AF} {i : Nat} (h : M.map AF.key = keysTo i) : M.length = i := by
  rw [← List.length_map AF.key, h]; simp [keysTo]

/-- With all frames pinned a tile that is not there has no room. -/
theorem LM.full {mx : Nat} {L M : List AF} {A : AS} (h : LM mx L M A) (hm : M.length = mx) {p q : Int} (hM : ∀ x ∈ M, x.key ≠ (p, q)) : A.pin p q = (101, A) ∧ A.fs.length = mx := by
  have hle := h.le
  rw [h.fs, List.length_append] at hle
  have hL : L = [] := List.eq_nil_of_length_eq_zero (by omega)
  subst hL
  have hfs : A.fs = M := by rw [h.fs]; rfl
  have h1 : A.fs.findIdx? (AF.is p q) = none := by
    rw [List.findIdx?_eq_none_iff, hfs]
    intro x hx
    have := hM x hx
    rw [Ne, ← AF.is_key] at this
    simpa using this
  have h2 : A.fs.findIdx? (fun x => x.pins == 0) = none := by
    rw [List.findIdx?_eq_none_iff, hfs]
    intro x hx
    rw [h.m1 x hx]
    rfl
  have h3 : ¬ A.fs.length < A.most := by rw [hfs, h.most]; omega
  have hr : A.room = (101, A) := by
    unfold AS.room
    rw [if_neg h3, h2]
  refine ⟨?_, by rw [hfs, hm]⟩
  unfold AS.pin
  rw [h1]
  dsimp only
  rw [hr]
  rfl

set_option maxRecDepth 100000 in
set_option maxHeartbeats 4000000 in
theorem order_walk (fr : Int) (hfr0 : 0 ≤ fr) (hfr1 : fr < 256) (v : Value) (n : Nat) (hn : n ≤ maxLen) (Z : Nat → Int × Int) (w : World) (hv : KeysIn w v n Z) :
    Calls Try.prog 3 #[.int .u8 fr, v] w fun e w' => e = .returned (.bool true) ∧ Fr No w w' := by
  obtain ⟨a, c, rfl⟩ : ∃ a c, v = .slice a n c := by
    rcases hv with ⟨rfl, rfl⟩ | ⟨a, c, rfl, _⟩
    · exact ⟨_, _, rfl⟩
    · exact ⟨_, _, rfl⟩
  by_cases h100 : 100 < n
  · go_enter Try.func3, Try.ntmps3
    go_wp2_with (go_at_call 7; refine (alive_any _).mono ?_; rintro e w1 ⟨rfl, hf1⟩)
    go_ret
    exact ⟨rfl, hf1⟩
  · obtain ⟨most, hmost⟩ : ∃ most : Nat, (most : Int) = 1 + fr % 8 := ⟨(1 + fr % 8).toNat, by omega⟩
    have hm1 : 1 ≤ most := by omega
    have hm8 : most ≤ 8 := by omega
    go_enter Try.func3, Try.ntmps3
    go_wp2_with (first | (go_at_call 7; refine (alive_any _).mono ?_; rintro e w1 ⟨rfl, hf1⟩) | (go_at_call 9; refine (back_any _).mono ?_; rintro e w2 ⟨rfl, hB⟩) | (go_at_call 8; rw [← hmost]; refine (new_any most w1.heap.size hm1 (by omega) _).mono ?_; rintro e w3 ⟨rfl, rfl⟩))
    obtain ⟨s0, h0, hpb, hmb, ha0, hft, hfr⟩ := fresh_pool (w := w1) (w1 := w2) (w2 := w2) (most := most) hm1 (by omega) hB (Fr.refl No w2)
    rw [← hmost, ← hpb]
    obtain ⟨W, hW⟩ : ∃ W, W = w2.alloc (.cells #[.int .i64 most, backV w1.heap.size, .slice none 0 0] 64) := ⟨_, rfl⟩
    rw [← hW] at h0 hfr ⊢
    have hfW : Fr No w W := hf1.thn hfr
    have hst : Stands w most s0.pb [] 0 W := ⟨s0, [], h0, rfl, ⟨by rw [ha0]; rfl, by rw [ha0]; rfl, by rw [ha0]; rfl, by simp, by simp, by rw [ha0]; simp [start], by rw [ha0]; simp [start], by rw [ha0]; simp [start]⟩, by rw [ha0]; simp [start], hfW, fun b hb => by have := hft b hb; have := hf1.size; omega⟩
    obtain ⟨pb, hp⟩ : ∃ pb, pb = s0.pb := ⟨_, rfl⟩
    rw [← hp] at hst ⊢
    have HM := Lib.hid hmost
    have HV := Lib.hid hv
    clear hW h0 hfr hpb hmb ha0 hft hB hf1 hfW hp hmost hv
    go_loopw [39] (fun i wr => ∃ k : Nat, k ≤ n ∧ i = .int .i64 k ∧ Stands w most pb [] k wr) (fun i _ => n - (intOf i).toNat)
    case atStart => exact ⟨0, Nat.zero_le _, rfl, hst⟩
    case round =>
      obtain ⟨k, hk, rfl, hS⟩ := hrel
      by_cases hlt : k < n
      · obtain ⟨s, L, hp0, hpb, hLM, hll, hfw, hft⟩ := hS
        have hcell := HV.out
        obtain ⟨a, rfl⟩ : ∃ a', a = some a' := by
          rcases hcell with ⟨_, h⟩ | ⟨a, c', h, _⟩
          · omega
          · cases h; exact ⟨_, rfl⟩
        obtain ⟨e0, e1⟩ : wr.cell? (a.add (k * 2)) = some (.int .i64 (Z k).1) ∧ wr.cell? (a.add (k * 2 + 1)) = some (.int .i64 (Z k).2) := by
          rcases hcell with ⟨_, h⟩ | ⟨a', c', h, hc⟩
          · omega
          · cases h
            obtain ⟨c0, c1⟩ := hc k hlt
            exact ⟨(hfw.cell (World.block_lt_of_cell? w _ c0) (No.no _)).trans c0, (hfw.cell (World.block_lt_of_cell? w _ c1) (No.no _)).trans c1⟩
        have e1' : wr.cell? ⟨(a.add (k * 2)).block, (a.add (k * 2)).off + 1, none⟩ = some (.int .i64 (Z k).2) := by
          rw [← Addr.add_add] at e1
          simpa [Addr.add] using e1
        clear hcell
        obtain ⟨p, hp⟩ : ∃ p, p = wrap64 (1 + (wrap64 ((Z k).1.tmod 3 + 3)).tmod 3) := ⟨_, rfl⟩
        obtain ⟨q, hq⟩ : ∃ q, q = (wrap64 ((Z k).2.tmod 4 + 4)).tmod 4 := ⟨_, rfl⟩
        have hpd := file_bd (Z k).1
        have hqd := no_bd (Z k).2
        rw [← hp] at hpd
        rw [← hq] at hqd
        obtain ⟨L1, x, A1, hpin, hLM1, hx, hl1, hL1⟩ := hLM.pin (p := p) (q := q) (by simp) (by simp; omega) (in_tils p q hpd hqd)
        obtain ⟨A2, hunp, hLM2, hl2⟩ := hLM1.unpin rfl hx hL1
        have ok0 : s.a.Ok := hLM.ok (by omega)
        have ok1 : A1.Ok := hLM1.ok (by omega)
        have hA2 : A2.fs = L1 ++ [{ x with pins := 0 }] ++ [] := hLM2.fs
        have hkey : A2.keys = (p, q) :: (L1.map fun x => (x.f, x.n)).reverse := by
          unfold AS.keys
          rw [hA2]
          have h1 : (x.f, x.n) = (p, q) := hx
          simp [h1]
        have hpins : A1.pins = 1 := hLM1.pins
        have kK : Blk (wr.alloc (.cells #[.int .i64 p, .int .i64 q] 31)) wr.heap.size 31 [.int .i64 p, .int .i64 q] := Blk.new wr _ _
        have hfa : Fr No wr (wr.alloc (.cells #[.int .i64 p, .int .i64 q] 31)) := (Fr.refl No wr).alloc _
        have hpa := hp0.no hfa
        have oK : Out (wr.alloc (.cells #[.int .i64 p, .int .i64 q] 31)) s wr.heap.size := Out.new hp0 (Nat.le_refl _) (by simp)
        have HP := Lib.hid hp
        have HQ := Lib.hid hq
        have H1 := Lib.hid hpin
        have H2 := Lib.hid hunp
        have HK := Lib.hid hkey
        have HA := Lib.hid hA2
        clear hp hq hpin hunp hkey hA2 hst
        go_wp2_with (first | (go_at_call 13; refine (keys_ok s2 pb (he2.pb.trans (he1.pb.trans hpb)) _ _ rfl he2.pool).mono ?_; rintro e w5 ⟨v5, rfl, ho5, hf5, hn5⟩) | (go_at_call 12; refine (unpin_ok s1 pb (he1.pb.trans hpb) p q 0 A2 _ he1.pool (by rw [ha1]; exact ok1) (by rw [ha1]; exact H2.out)).mono ?_; rintro e w4 ⟨s2, rfl, he2, ha2⟩) | (go_at_call 11; refine (pins_ok s1 pb (he1.pb.trans hpb) 1 _ he1.pool (by rw [ha1]; exact ok1) (by rw [ha1]; exact hpins)).mono ?_; rintro e w3 ⟨rfl, rfl⟩) | (go_at_call 10; rw [← HP.out, ← HQ.out]; refine (pin_ok s pb hpb p q 0 A1 _ hpa ok0 H1.out).mono ?_; rintro e w2 ⟨s1, rfl, he1, ha1⟩; have kK1 := kK.out oK he1; have oK1 := oK.evo he1; have k10 := kK1.cell (j := 0) rfl; have k11 := kK1.cell (j := 1) rfl))
        have hpb2 := he2.pb.trans (he1.pb.trans hpb)
        rw [ha2, HK.out] at ho5
        have hm : A2.fs.length = L1.length + 1 := by rw [HA.out]; simp
        have hmm : L1.length + 1 ≤ most := by rw [← hm]; exact hLM2.le
        obtain ⟨m, hmd⟩ : ∃ m, m = L1.length + 1 := ⟨_, rfl⟩
        obtain ⟨g5, c5, rfl⟩ : ∃ g c, v5 = .slice (some ⟨g, 0, none⟩) m c := by
          rcases ho5.cases with ⟨_, h, _⟩ | ⟨g, c, h⟩
          · simp at h
          · simp at h; rw [hmd]; exact ⟨g, c, h⟩
        have hma : 1 ≤ m := by omega
        have hmb : m ≤ most := by omega
        have f0 : w5.cell? ⟨g5, 0, none⟩ = some (.int .i64 p) := by
          have := ho5.cells (g := g5) (by rfl) 0 (.int .i64 p) rfl
          rwa [Addr.add_lit, Nat.zero_add] at this
        have f1 : w5.cell? ⟨g5, 1, none⟩ = some (.int .i64 q) := by
          have := ho5.cells (g := g5) (by rfl) 1 (.int .i64 q) rfl
          rwa [Addr.add_lit, Nat.zero_add] at this
        have kK5 := (kK1.out oK1 he2).fr hf5 (No.no _)
        have k50 := kK5.cell (j := 0) rfl
        have k51 := kK5.cell (j := 1) rfl
        have hp5 := he2.pool.no hf5
        have hheld : s2.a.fs.length = m := by rw [ha2, hmd]; exact hm
        have HH := Lib.hid hheld
        have HA2 := Lib.hid ha2
        have hpp : (p == p) = true := by simp
        have hz1 : ((m : Int) == 0) = false := by simp; omega
        have hz2 : decide ((m : Int) = 0) = false := by simp; omega
        have hz3 : decide ((most : Int) < (m : Int)) = false := by simp; omega
        have hqq : (q == q) = true := by simp
        have hend : Stands w most pb [] (k + 1) w5 := ⟨s2, L1 ++ [{ x with pins := 0 }], hp5, hpb2, by rw [ha2]; exact hLM2, by rw [ha2, hl2]; omega, by
          refine ((hfw.thn hfa).trans ((he1.trans he2).fr) (fun b hb => .inr (hft b hb))).thn hf5, fun b hb => by
          rcases (he1.trans he2).ft b hb with h | h
          · exact hft b h
          · have := hfw.size; have := hfa.size; omega⟩
        have hend' : ∀ N, Stands w most pb [] (k + 1) (w5.drewN N) := fun N => by
          obtain ⟨s', L', q1, q2, q3, q4, q5, q6⟩ := hend
          exact ⟨s', L', q1.no ((Fr.refl No _).drewN N), q2, q3, q4, q5.drewN N, q6⟩
        clear ho5 ha2 hheld k10 k11 hm hmd hmm
        have HE := Lib.hid hend'
        clear hend hend'
        go_quiet ((go_at_call 14; exact Calls.quiet_of_same ((held_ok s2 pb hpb2 m _ (hp5.no ((Fr.refl No _).drewN _)) HH.out).mono fun e w' ⟨h1, h2⟩ => ⟨h1, h2.symm⟩)))
        go_wp2_with fail
        go_roundw
        case rel => exact ⟨k + 1, by omega, by go_num, HE.out _⟩
        case measure => simp [intOf]; omega
      · obtain rfl : k = n := by omega
        go_wp2_with fail
        have hS1 : Stands w most pb [] 100 wr := by
          obtain ⟨s', L', q1, q2, q3, q4, q5, q6⟩ := hS
          exact ⟨s', L', q1, q2, q3, by omega, q5, q6⟩
        have HS1 := Lib.hid hS1
        clear hS hS1 hst
        go_loopw [12] (fun i wr => ∃ (k : Nat) (M : List AF), k ≤ most ∧ i = .int .i64 k ∧ M.map AF.key = keysTo k ∧ Stands w most pb M (100 + k) wr) (fun i _ => most - (intOf i).toNat)
        case atStart => exact ⟨0, [], Nat.zero_le _, rfl, rfl, HS1.out⟩
        case round =>
          obtain ⟨j, M, hj, rfl, hMk, hS⟩ := hrel
          obtain ⟨s, L, hp0, hpb, hLM, hll, hfw, hft⟩ := hS
          have ok0 : s.a.Ok := hLM.ok (by omega)
          have hMl := keysTo_len hMk
          by_cases hlt : j < most
          · obtain ⟨L1, x, A1, hpin, hLM1, hx, hl1, hL1⟩ := hLM.pin (keysTo_new hMk) (by omega) (in_tils _ _ (by omega) (by omega))
            have H1 := Lib.hid hpin
            have HMK := Lib.hid hMk
            have e1 : ((1 + (j / 4 : Nat) : Int)) = 1 + (j : Int) / 4 := by omega
            have e2 : ((j % 4 : Nat) : Int) = (j : Int) % 4 := by omega
            rw [e1, e2] at hpin
            have H2 := Lib.hid hpin
            have HX := Lib.hid hx
            clear hpin hMk hMl hx e1 e2
            go_wp2_with (go_at_call 10; refine (pin_ok s pb hpb _ _ 0 A1 _ hp0 ok0 H2.out).mono ?_; rintro e w2 ⟨s1, rfl, he1, ha1⟩)
            go_roundw
            case rel =>
              refine ⟨j + 1, M ++ [x], by omega, by go_num, ?_, ⟨s1, L1, he1.pool, he1.pb.trans hpb, by rw [ha1]; exact hLM1, by rw [ha1]; omega, hfw.trans he1.fr (fun b hb => .inr (hft b hb)), ?_⟩⟩
              · rw [List.map_append, HMK.out, keysTo_succ]
                simp only [List.map_cons, List.map_nil]
                rw [HX.out]
              · intro b hb
                rcases he1.ft b hb with h | h
                · exact hft b h
                · have := hfw.size; omega
            case measure => simp [intOf]; omega
          · obtain rfl : j = most := by omega
            obtain ⟨hpin, hlen⟩ := hLM.full (p := 3) (q := 3) hMl (keysTo_33 hm8 hMk)
            have hpins : s.a.pins = (M.length : Int) := hLM.pins
            rw [hMl] at hpins
            have hkl : s.a.keys.length = j := by simp [AS.keys, hlen]
            have HPI := Lib.hid hpin
            have HLE := Lib.hid hlen
            have HPS := Lib.hid hpins
            have HKL := Lib.hid hkl
            clear hpin hlen hpins hkl hMk hMl
            go_wp2_with (first | (go_at_call 15; refine (refKeys_same v4 v2 s.a.keys (by rw [HKL.out]; omega) _ ho4 ho24).mono ?_; rintro e w5 ⟨rfl, hf5⟩; have hp5 := he3.pool.no (hf4.thn hf5)) | (go_at_call 13; refine (keys_ok s3 pb (he3.pb.trans hpb) _ s.a.keys (by rw [ha3]) he3.pool).mono ?_; rintro e w4 ⟨v4, rfl, ho4, hf4, hn4⟩; have ho24 := ho23.fr hf4 (fun _ _ => No.no _)) | (go_at_call 13; refine (keys_ok s pb hpb _ s.a.keys rfl hp0).mono ?_; rintro e w2 ⟨v2, rfl, ho2, hf2, hn2⟩) | (go_at_call 10; refine (pin_ok s pb hpb 3 3 101 s.a _ (hp0.no hf2) ok0 HPI.out).mono ?_; rintro e w3 ⟨s3, rfl, he3, ha3⟩; have ho23 := ho2.fr he3.fr (fun b hb hF => by have := hn2 b hb; have := hp0.footLt hF; omega)) | (go_at_call 11; refine (pins_ok s3 pb (he3.pb.trans hpb) j _ hp5 (by rw [ha3]; exact ok0) (by rw [ha3]; exact HPS.out)).mono ?_; rintro e w6 ⟨rfl, rfl⟩) | (go_at_call 14; refine (held_ok s3 pb (he3.pb.trans hpb) j _ hp5 (by rw [ha3]; exact HLE.out)).mono ?_; rintro e w6 ⟨rfl, rfl⟩))
            go_ret
            exact ⟨rfl, (((hfw.thn hf2).trans he3.fr (fun b hb => .inr (hft b hb))).thn hf4).thn hf5⟩

end Go.Proofs.Ythjejgepdbonpaa
