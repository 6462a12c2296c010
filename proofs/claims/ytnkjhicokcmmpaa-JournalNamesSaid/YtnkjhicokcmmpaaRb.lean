/-
  A root's sector: what the document's Encode comes to; refusals; areas.
-/
import Derived.Test.YtnkjhicokcmmpaaRa
namespace Go.Proofs.Ytnkjhicokcmmpaa
open Go.RowKit Go.Shelf

set_option maxRecDepth 100000 in
set_option maxHeartbeats 1000000 in
theorem encode_bad (r : RootD) (hr : r.ok = false) (w : World) :
    Calls Try.prog 18 #[.agg r.cells.toArray] w fun e w' => e = .returned (.tuple #[.slice none 0 0, .int .i64 60]) ∧ Fr No w w' := by
  obtain ⟨n, L, sum⟩ := r
  have h3 : n = 0 ∨ (n ≠ 0 ∧ L < 0) ∨ (n ≠ 0 ∧ ¬ L < 0 ∧ 3072 < L) := by
    by_cases h0 : n = 0
    · exact .inl h0
    · by_cases h1 : L < 0
      · exact .inr (.inl ⟨h0, h1⟩)
      · refine .inr (.inr ⟨h0, h1, ?_⟩)
        simp [RootD.ok, h0, h1] at hr
        omega
  clear hr
  show Calls _ _ #[.agg #[.int .u64 n, .int .i64 L, .int .u32 sum]] _ _
  rcases h3 with rfl | ⟨h0, h1⟩ | ⟨h0, h1, h2⟩
  · go_enter Try.func18, Try.ntmps18
    go_wp2
    go_ret2
    exact ⟨rfl, (Fr.refl No w).alloc _⟩
  · have hn0 : ((n : Int) == 0) = false := by simp; omega
    have hd1 : decide (L < 0) = true := by simp; omega
    go_enter Try.func18, Try.ntmps18
    go_wp2
    go_ret2
    exact ⟨rfl, (Fr.refl No w).alloc _⟩
  · have hn0 : ((n : Int) == 0) = false := by simp; omega
    have hd1 : decide (L < 0) = false := by simp; omega
    have hd2 : decide (3072 < L) = true := by simp; omega
    go_enter Try.func18, Try.ntmps18
    go_wp2
    go_ret2
    exact ⟨rfl, (Fr.refl No w).alloc _⟩

set_option maxRecDepth 100000 in
set_option maxHeartbeats 1000000 in
theorem refEncode_bad (r : RootD) (hr : r.ok = false) (w : World) :
    Calls Try.prog 19 #[.agg r.cells.toArray] w fun e w' => e = .returned (.tuple #[.slice none 0 0, .int .i64 60]) ∧ Fr No w w' := by
  obtain ⟨n, L, sum⟩ := r
  have h3 : n = 0 ∨ (n ≠ 0 ∧ L < 0) ∨ (n ≠ 0 ∧ ¬ L < 0 ∧ 3072 < L) := by
    by_cases h0 : n = 0
    · exact .inl h0
    · by_cases h1 : L < 0
      · exact .inr (.inl ⟨h0, h1⟩)
      · refine .inr (.inr ⟨h0, h1, ?_⟩)
        simp [RootD.ok, h0, h1] at hr
        omega
  clear hr
  show Calls _ _ #[.agg #[.int .u64 n, .int .i64 L, .int .u32 sum]] _ _
  rcases h3 with rfl | ⟨h0, h1⟩ | ⟨h0, h1, h2⟩
  · go_enter Try.func19, Try.ntmps19
    go_wp2
    go_ret2
    exact ⟨rfl, (Fr.refl No w).alloc _⟩
  · have hn0 : ((n : Int) == 0) = false := by simp; omega
    have hd1 : decide (L < 0) = true := by simp; omega
    go_enter Try.func19, Try.ntmps19
    go_wp2
    go_ret2
    exact ⟨rfl, (Fr.refl No w).alloc _⟩
  · have hn0 : ((n : Int) == 0) = false := by simp; omega
    have hd1 : decide (L < 0) = false := by simp; omega
    have hd2 : decide (3072 < L) = true := by simp; omega
    go_enter Try.func19, Try.ntmps19
    go_wp2
    go_ret2
    exact ⟨rfl, (Fr.refl No w).alloc _⟩

/-- The area of a number. -/
def areaOf (n : Nat) : Nat := if n % 2 = 0 then 2 else 26
theorem place_any (n : Nat) (hn : n < 2 ^ 64) (w : World) (v1 v2 : Value) :
    Calls Try.prog 76 #[.agg #[.int .u64 n, v1, v2]] w fun e w' => e = .returned (.int .i64 (n % 2 : Nat)) ∧ Fr No w w' := by
  clear hn
  have hw : wrap64 ((n : Int) % 2) = (n : Int) % 2 := Go.IntWalk.wrap64_in _ (by omega)
  go_enter Try.func76, Try.ntmps76
  go_wp2
  go_ret
  exact ⟨by simp, (Fr.refl No w).alloc _⟩

theorem area_any (n : Nat) (hn : n < 2 ^ 64) (w : World) : Calls Try.prog 22 #[.int .u64 n] w fun e w' => e = .returned (.int .i64 (areaOf n : Nat)) ∧ Fr No w w' := by
  have h2 : n % 2 = 0 ∨ n % 2 = 1 := by omega
  have HN := Lib.hid hn
  clear hn
  rcases h2 with h2 | h2
  all_goals
    have HH := Lib.hid h2
    clear h2
    go_enter Try.func22, Try.ntmps22
    go_wp2_with (go_at_call 76; refine (place_any n HN.out _ _ _).mono ?_; rintro e w1 ⟨rfl, hf1⟩; rw [HH.out])
    go_ret
    exact ⟨by unfold areaOf; rw [HH.out]; rfl, hf1⟩

theorem refArea_any (n : Nat) (w : World) : Calls Try.prog 23 #[.int .u64 n] w fun e w' => e = .returned (.int .i64 (areaOf n : Nat)) ∧ w = w' := by
  unfold areaOf
  by_cases h2 : n % 2 = 0
  · have ht : ((n : Int) % 2 == 0) = true := by simp; omega
    rw [if_pos h2]
    go_enter Try.func23, Try.ntmps23
    go_wp2
    go_ret
    exact ⟨rfl, rfl⟩
  · have ht : ((n : Int) % 2 == 0) = false := by simp; omega
    rw [if_neg h2]
    go_enter Try.func23, Try.ntmps23
    go_wp2
    go_ret
    exact ⟨rfl, rfl⟩

/-- Bytes that are owned, in blocks from N on. -/
structure OIn (N : Nat) (w : World) (v : Value) (bs : List UInt8) : Prop where
  own : Own w 5 1 v bs.length (bs.map byt)
  new : ∀ k, v.ownBlock = some k → N ≤ k
theorem OIn.no {N : Nat} {w w' : World} {v : Value} {bs : List UInt8} (h : OIn N w v bs) (hf : Fr No w w') : OIn N w' v bs := ⟨h.own.fr hf (fun _ _ => No.no _), h.new⟩
theorem OIn.app {N : Nat} {w0 w w' : World} {m : Nat} {v v' : Value} {bs cs : List UInt8} (h : OIn N w0 v bs) (hz : N ≤ w0.heap.size) (h0 : Fr No w0 w) (hap : Appended w 5 1 v bs.length m (bs.map byt ++ cs.map byt) v' w') (hm : cs.length = m) : OIn N w' v' (bs ++ cs) ∧ From N w0 w' := by
  subst hm
  have ho := hap.own
  rw [← List.map_append, ← List.length_append] at ho
  refine ⟨⟨ho, fun k hk => ?_⟩, h0.no_any.trans hap.fr (fun k hk => .inl (h.new k hk))⟩
  rcases hap.atOr (Nat.le_refl _) k hk with e | e
  · exact h.new k e
  · exact Nat.le_trans hz (Nat.le_trans h0.size e)

theorem OIn.step {N : Nat} {w0 w w' : World} {m : Nat} {v v' : Value} {bs : List UInt8} (cs : List UInt8) (h : OIn N w0 v bs) (hz : N ≤ w0.heap.size) (h0 : Fr No w0 w) (hap : Appended w 5 1 v bs.length m (bs.map byt ++ cs.map byt) v' w') (hm : cs.length = m) :
    ∃ b1, Hid (b1 = bs ++ cs) ∧ Hid (b1.length = bs.length + m) ∧ OIn N w' v' b1 ∧ From N w0 w' := by
  obtain ⟨h1, h2⟩ := h.app hz h0 hap hm
  exact ⟨bs ++ cs, rfl, by show (bs ++ cs).length = bs.length + m; rw [List.length_append, hm], h1, h2⟩

end Go.Proofs.Ytnkjhicokcmmpaa
