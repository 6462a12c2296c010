/-
  The writer of bytes: what its functions come to.
-/
import Derived.Test.YtnkjhicokcmmpaaBytes
import Derived.Deep.QuietTactic
import Derived.BigQuiet
import Derived.RegionTactic
import Derived.BigRegion
import Derived.Deep.RegionLaw
import Derived.Deep.RegionWith
import Derived.Outline
import Derived.IntWalk
namespace Go.Proofs.Ytnkjhicokcmmpaa
open Go.RowKit

theorem Try.infoU8 : (Try.prog.info? 5).map (fun i => (i.zero, i.size, i.bytes)) = some (some (.int .u8 0), 1, 1) := by kernel_rfl

theorem sized_yes (n : Nat) (hs : n = 1 ∨ n = 2 ∨ n = 4 ∨ n = 8) (w : World) : Calls Try.prog 103 #[.int .i64 n] w fun e w' => e = .returned (.bool true) ∧ w = w' := by
  rcases hs with rfl | rfl | rfl | rfl
  all_goals
    go_enter Try.func103, Try.ntmps103
    go_wp2
    go_ret
    exact ⟨rfl, rfl⟩

/-- A writer in block b: its slice, and what it holds. -/
structure WrAt (w : World) (b : Nat) (v : Value) (bs : List UInt8) : Prop where
  blk : Blk w b 110 [v]
  own : Own w 5 1 v bs.length (bs.map byt)

/-- The byte at place i of a number of so many bytes. -/
def numByte (size n i : Nat) : UInt8 := UInt8.ofNat (n / 2 ^ (8 * (size - 1 - i)))
def numTo (size n k : Nat) : List UInt8 := (List.range k).map (numByte size n)
def num (size n : Nat) : List UInt8 := numTo size n size
theorem numTo_succ (size n k : Nat) : numTo size n (k + 1) = numTo size n k ++ [numByte size n k] := by simp [numTo, List.range_succ]
theorem num_len (size n : Nat) : (num size n).length = size := by simp [num, numTo]
theorem byte_u8 (x : Nat) : Value.int .u8 (IntKind.u8.wrap (x : Int)) = byt (UInt8.ofNat x) := by
  unfold byt
  congr 1
theorem new_cell {w : World} {T : TypeId} {x : Value} : ∀ (j : Nat) (u : Value), [x][j]? = some u → (w.alloc (.cells #[x] T)).cell? ((⟨w.heap.size, 0, none⟩ : Addr).add j) = some u := by
  intro j u hj
  match j, hj with
  | 0, hj => simp at hj; subst hj; simp [Addr.add]

theorem app_keep {w0 w w' : World} {T T' : TypeId} {size n m b : Nat} {v v' : Value} {l l' : List Value} (hap : Appended w T size v n m l v' w') (h0 : Fr No w0 w) (hB : Blk w0 b T' l') (hn : ∀ k, v.ownBlock = some k → k ≠ b) : Blk w' b T' l' :=
  (hB.fr h0 (No.no _)).fr hap.fr (fun e => hn _ e rfl)
theorem WrAt.ne {w : World} {b : Nat} {v : Value} {bs : List UInt8} (h : WrAt w b v bs) : ∀ k, v.ownBlock = some k → k ≠ b := h.blk.neOwn h.own (by decide)
/-- A writer's bytes are appended to. -/
theorem WrAt.app {w0 w w' : World} {b m : Nat} {v v' : Value} {bs cs : List UInt8} (h : WrAt w0 b v bs) (h0 : Fr No w0 w) (hap : Appended w 5 1 v bs.length m (bs.map byt ++ cs.map byt) v' w') (hm : cs.length = m) :
    WrAt (w'.setCell ⟨b, 0, none⟩ v') b v' (bs ++ cs) ∧ Fr (fun k => k = b ∨ v.ownBlock = some k) w0 (w'.setCell ⟨b, 0, none⟩ v') ∧ AtOr w0 v v' := by
  subst hm
  have hB := app_keep hap h0 h.blk h.ne
  have hb := h.blk.lt
  have hz := h0.size
  have ha := hap.atOr hz
  refine ⟨⟨hB.set 0 _, ?_⟩, ?_, ha⟩
  · have ho := hap.own
    rw [← List.map_append, ← List.length_append] at ho
    refine ho.other (fun e => ?_) _
    rcases ha _ e with e' | e'
    · exact h.ne _ e' rfl
    · have e2 : w0.heap.size ≤ b := e'
      omega
  · exact ((h0.no_any.trans hap.fr (fun k hk => .inl (.inr hk))).setCell (.inl (.inl rfl)) _)

set_option maxHeartbeats 1000000 in
set_option maxRecDepth 100000 in
theorem wnum_any (b : Nat) (v : Value) (bs : List UInt8) (size n : Nat) (hs : size = 1 ∨ size = 2 ∨ size = 4 ∨ size = 8) (hn : n < 2 ^ (8 * size)) (hl : bs.length ≤ 1000000) (w : World) (h : WrAt w b v bs) :
    Calls Try.prog 65 #[.pointer (some ⟨b, 0, none⟩), .int .i64 size, .int .u64 n] w fun e w' => ∃ v', e = .returned (.int .i64 0) ∧ WrAt w' b v' (bs ++ num size n) ∧ Fr (fun k => k = b ∨ v.ownBlock = some k) w w' ∧ AtOr w v v' := by
  have hs8 : size ≤ 8 := by omega
  have hs1 : 1 ≤ size := by omega
  have hq : (n : Int) / 2 ^ (8 * size) = 0 := by
    have : n / 2 ^ (8 * size) = 0 := Nat.div_eq_of_lt hn
    exact_mod_cast this
  have hd : decide (0 < (n : Int) / 2 ^ (8 * size)) = false := by rw [hq]; rfl
  have HD : decide (0 < (n : Int) / 2 ^ (8 * size)) = false := hd
  obtain ⟨i0, hi0, hz0, hz1, hz2⟩ := info_parts Try.infoU8
  clear hq hd hn
  by_cases h8 : size < 8
  all_goals
    go_enter Try.func65, Try.ntmps65
    go_wp2_with (go_at_call 103; refine (sized_yes _ hs _).mono ?_; rintro e w1 ⟨rfl, rfl⟩)
    go_loopw [7] (fun s wr => ∃ (k : Nat) (v' : Value), k ≤ size ∧ s = .int .i64 ((size : Int) - 1 - (k : Nat)) ∧ WrAt wr b v' (bs ++ numTo size n k) ∧ Fr (fun k => k = b ∨ v.ownBlock = some k) w wr ∧ AtOr w v v') (fun s _ => (intOf s + 1).toNat)
    case atStart => exact ⟨0, v, Nat.zero_le _, by simp, by simpa [numTo] using h, Fr.refl _ _, AtOr.refl _ _⟩
    case round =>
      obtain ⟨k, v', hk, rfl, hW, hfr, hat⟩ := hrel
      by_cases hlt : k < size
      · obtain ⟨i, hi⟩ : ∃ i : Nat, i = size - 1 - k := ⟨_, rfl⟩
        have e1 : (size : Int) - 1 - (k : Nat) = (i : Nat) := by omega
        rw [e1]
        have HI := Lib.hid hi
        have HE := Lib.hid e1
        have hib : i ≤ 7 := by omega
        have hwr : IntKind.i64.wrap (8 * (i : Int)) = 8 * (i : Int) := by rw [IntKind.wrap_i64]; omega
        have hp0 : (0 : Int) ≤ 8 * (i : Int) := by omega
        have hp2 : (8 * (i : Int)).toNat = 8 * i := by omega
        clear hi e1
        have hB := hW.blk
        have c0 := hB.cell (j := 0) rfl
        have hBl := hB.lt
        have hBf := hB.free
        have hlb : (bs ++ numTo size n k).length ≤ 1000008 := by simp [numTo]; omega
        obtain ⟨cs, hcs⟩ : ∃ cs, cs = bs ++ numTo size n k := ⟨_, rfl⟩
        rw [← hcs] at hW hlb
        have HCS := Lib.hid hcs
        clear hcs
        have hval : Hid (Value.int .u8 (IntKind.u8.wrap ((n : Int) / 2 ^ (8 * i))) = byt (numByte size n k)) := by
          have e2 : (n : Int) / 2 ^ (8 * i) = ((n / 2 ^ (8 * i) : Nat) : Int) := by simp
          rw [e2, byte_u8]
          unfold numByte
          rw [HI.out]
          exact rfl
        have hO := hW.own
        have hl1 : Hid ([Value.int .u8 (IntKind.u8.wrap ((n : Int) / 2 ^ (8 * i)))].length = 1 * 1) := rfl
        have h1c : Hid (∀ u ∈ [Value.int .u8 (IntKind.u8.wrap ((n : Int) / 2 ^ (8 * i)))], u.oneCell' = true) := fun u hu => by simp at hu; subst hu; rfl
        have hm1 : cs.length + 1 ≤ maxLen := by unfold maxLen; omega
        have hm2 : (cs.length + 1) * 1 ≤ 140737488355328 := by omega
        go_wp2_with fail
        go_region_law (refine step_app _ rfl (.tmp 35) (.tmp 41) 26 rfl 5 i0 (.int .u8 0) 1 1 Try.underlying26 hi0 hz0 hz1 hz2 rfl v' _ _ (by simp [Act.eval, Act.put]) (by first | exact hO.drew.alloc _ | exact (hO.alloc _).drew) ⟨wr.heap.size, 0, none⟩ 1 1 [Value.int .u8 (IntKind.u8.wrap ((n : Int) / 2 ^ (8 * i)))] (by simp [Act.eval, Act.put]) hl1.out (by first | exact new_cell | exact new_cell (w := wr)) h1c.out hm1 hm2 ?_; intro v2 w2 hap; obtain ⟨g2, c2, rfl⟩ := hap.some (by omega); have hB2 := app_keep hap (w0 := wr) (by first | exact ((Fr.refl No wr).drew).alloc _ | exact ((Fr.refl No wr).alloc _).drew) hB hW.ne; have d0 := hB2.cell (j := 0) rfl; have dl := hB2.lt; have df := hB2.free)
        all_goals
          rw [show [Value.int .u8 (IntKind.u8.wrap ((n : Int) / 2 ^ (8 * i)))] = [numByte size n k].map byt from by rw [hval.out]; rfl] at hap
          have hfin := hW.app (by first | exact ((Fr.refl No wr).drew).alloc _ | exact ((Fr.refl No wr).alloc _).drew) hap rfl
          have HF := Lib.hid hfin
          clear hfin hap d0 dl df hB2 hO hW
          go_wp2
          go_roundw
          case rel =>
            refine ⟨k + 1, _, by omega, ?_, by rw [numTo_succ, ← List.append_assoc, ← HCS.out]; exact HF.out.1, hfr.trans HF.out.2.1 ?_, hat.trans HF.out.2.2 hfr.size⟩
            · have := HE.out
              congr 1
              omega
            · rintro x (hx | hx)
              · exact .inl (.inl hx)
              · rcases hat x hx with h1 | h1
                · exact .inl (.inr h1)
                · exact .inr h1
          case measure => (simp [intOf]; try omega)
      · obtain rfl : k = size := by omega
        have e1 : (k : Int) - 1 - (k : Nat) = -1 := by omega
        rw [e1]
        go_wp2
        go_ret
        exact ⟨v', rfl, hW, hfr, hat⟩

end Go.Proofs.Ytnkjhicokcmmpaa
