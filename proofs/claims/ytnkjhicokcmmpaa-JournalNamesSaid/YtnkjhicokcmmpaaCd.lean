/-
  The checksum of bytes: what the document's functions come to.
-/
import Derived.Test.YtnkjhicokcmmpaaCc
namespace Go.Proofs.Ytnkjhicokcmmpaa
open Go.RowKit Go.Shelf

theorem step_any (c b : Nat) (hc : c < 2 ^ 32) (hb : b < 2) (w : World) : Calls Try.prog 121 #[.int .u32 c, .int .u32 b] w fun e w' => e = .returned (.int .u32 (rs1 c b : Nat)) ∧ w = w' := by
  have hx : bits .xor .u32 (c : Int) (b : Int) = ((c ^^^ b : Nat) : Int) := xor_u32 c b hc (by omega)
  have hc2 : ((c / 2 : Nat) : Int) = (c : Int) / 2 := by omega
  have hxp : bits .xor .u32 ((c : Int) / 2) 3988292384 = ((c / 2 ^^^ poly : Nat) : Int) := by
    have := xor_u32 (c / 2) poly (by omega) (by decide)
    rw [hc2] at this
    exact this
  by_cases hp : (c ^^^ b) % 2 = 1
  · have hd : rs1 c b = c / 2 ^^^ poly := by unfold rs1; rw [if_pos hp]
    have ht : (((c ^^^ b : Nat) : Int) % 2 == 1) = true := by simp; omega
    rw [hd]
    clear hd hc2
    go_enter Try.func121, Try.ntmps121
    go_wp2
    go_ret
    exact ⟨rfl, rfl⟩
  · have hd : rs1 c b = c / 2 := by unfold rs1; rw [if_neg hp]
    have ht : (((c ^^^ b : Nat) : Int) % 2 == 1) = false := by simp; omega
    rw [hd, hc2]
    clear hd hc2 hxp
    go_enter Try.func121, Try.ntmps121
    go_wp2
    go_ret
    exact ⟨rfl, rfl⟩

theorem step_mod (c y : Nat) (hc : c < 2 ^ 32) (w : World) : Calls Try.prog 121 #[.int .u32 c, .int .u32 ((y : Int) % 2)] w fun e w' => e = .returned (.int .u32 (rs1 c (y % 2) : Nat)) ∧ w = w' := by
  rw [show (y : Int) % 2 = ((y % 2 : Nat) : Int) by omega]
  exact step_any c (y % 2) hc (Nat.mod_lt _ (by decide)) w

set_option maxRecDepth 100000 in
set_option maxHeartbeats 4000000 in
theorem refMore_any (a : Option Addr) (n c : Nat) (bs : List UInt8) (w : World) (h : Win w a n c (bs.map byt)) (hb : n ≤ 1000000) :
    Calls Try.prog 106 #[.int .u32 0, .slice a n c] w fun e w' => e = .returned (.int .u32 (sumOf bs : Nat)) ∧ w = w' := by
  have hl : bs.length = n := by have := h.len; simpa using this
  have HL := Lib.hid hl
  have hw := Lib.hid h
  clear hl h
  go_enter Try.func106, Try.ntmps106
  go_wp2
  have hst : Value.int .u32 4294967295 = .int .u32 (crcTo bs 0 : Nat) := rfl
  rw [hst]
  clear hst
  go_loop [5, 6] (fun r t => ∃ k : Nat, k ≤ n ∧ r = .int .u32 (crcTo bs k : Nat) ∧ t = .int .i64 k) (fun _ t => n - (intOf t).toNat)
  case atStart => exact ⟨0, Nat.zero_le _, rfl, rfl⟩
  case round =>
    obtain ⟨k, hk, rfl, rfl⟩ := hrel
    by_cases hlt : k < n
    · have hkb : k < bs.length := by rw [HL.out]; exact hlt
      obtain ⟨ad, u, rfl, hu, hcell⟩ := hw.out.at hlt
      have hc := crcTo_lt bs k
      have hsuc := crcTo_succ bs k hkb
      obtain ⟨c', hcd⟩ : ∃ c', c' = crcTo bs k := ⟨_, rfl⟩
      rw [← hcd] at hc hsuc ⊢
      have hx := (bs[k]).toNat_lt
      have hu' : u = .int .u8 ((bs[k]).toNat : Int) := by
        rw [List.getElem?_map, List.getElem?_eq_getElem hkb] at hu
        exact (Option.some.inj hu).symm
      subst hu'
      generalize (bs[k]).toNat = x at *
      rw [csB_eq c' x hx] at hsuc
      have HS := Lib.hid hsuc
      have hxw : IntKind.u32.wrap (x : Int) = (x : Int) := wrap_u32 x (by omega)
      clear hsuc hcd hu
      go_wp2
      go_loop [5, 7, 8] (fun r y j => ∃ m : Nat, m ≤ 8 ∧ r = .int .u32 (rsN x m c' : Nat) ∧ y = .int .u32 (x / 2 ^ m : Nat) ∧ j = .int .i64 m) (fun _ _ j => 8 - (intOf j).toNat)
      case atStart => exact ⟨0, Nat.zero_le _, rfl, by simp, rfl⟩
      case round =>
        obtain ⟨m, hm, rfl, rfl, rfl⟩ := hrel
        by_cases hml : m < 8
        · have hr := rsN_lt (x := x) hc m
          have hs1 : Hid (rsN x (m + 1) c' = rs1 (rsN x m c') (x / 2 ^ m % 2)) := rfl
          have hs2 : Hid (x / 2 ^ (m + 1) = x / 2 ^ m / 2) := by
            show x / 2 ^ (m + 1) = x / 2 ^ m / 2
            rw [Nat.pow_succ, Nat.div_div_eq_div_mul]
          have hyb : x / 2 ^ m ≤ 255 := Nat.le_trans (Nat.div_le_self _ _) (by omega)
          generalize rsN x m c' = r at *
          generalize x / 2 ^ m = y at *
          go_wp2_with (go_at_call 121; refine (step_mod r y hr _).mono ?_; rintro e w1 ⟨rfl, rfl⟩)
          go_round
          case rel => exact ⟨m + 1, by omega, by rw [hs1.out], (by rw [hs2.out]; congr 1), by go_num⟩
          case measure => (simp [intOf]; omega)
        · obtain rfl : m = 8 := by omega
          go_wp2
          go_round
          case rel => exact ⟨k + 1, by omega, by rw [HS.out], by go_num⟩
          case measure => (simp [intOf]; omega)
    · obtain rfl : k = n := by omega
      have hend : sumOf bs = 4294967295 - crcTo bs k := by
        unfold sumOf crcTo
        rw [List.take_of_length_le (by rw [HL.out]; exact Nat.le_refl _)]
      have hlt2 := crcTo_lt bs k
      have HE := Lib.hid hend
      clear hend
      generalize crcTo bs k = c' at *
      have hsub : IntKind.u32.wrap (4294967295 - (c' : Int)) = ((4294967295 - c' : Nat) : Int) := by
        rw [show (4294967295 - (c' : Int)) = ((4294967295 - c' : Nat) : Int) by omega]
        exact wrap_u32 _ (by omega)
      go_wp2
      go_ret
      exact ⟨by rw [HE.out]; rfl, rfl⟩

theorem refOf_any (a : Option Addr) (n c : Nat) (bs : List UInt8) (w : World) (h : Win w a n c (bs.map byt)) (hb : n ≤ 1000000) :
    Calls Try.prog 70 #[.slice a n c] w fun e w' => e = .returned (.int .u32 (sumOf bs : Nat)) ∧ w = w' := by
  go_enter Try.func70, Try.ntmps70
  go_wp2_with (go_at_call 106; refine (refMore_any a n c bs _ h hb).mono ?_; rintro e w1 ⟨rfl, rfl⟩)
  go_ret
  exact ⟨rfl, rfl⟩

end Go.Proofs.Ytnkjhicokcmmpaa
