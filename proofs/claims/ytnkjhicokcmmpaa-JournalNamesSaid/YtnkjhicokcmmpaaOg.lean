/-
  A writer whose memory lies from some block on; a reader, whatever is left.
-/
import Derived.Test.YtnkjhicokcmmpaaOe
import Derived.Test.YtnkjhicokcmmpaaOf
namespace Go.Proofs.Ytnkjhicokcmmpaa
open Go.RowKit Go.Shelf

/-- A writer all of whose blocks lie from N on. -/
structure WIn (N : Nat) (w : World) (b : Nat) (v : Value) (bs : List UInt8) : Prop where
  at' : WrAt w b v bs
  lo : N ≤ b
  new : ∀ k, v.ownBlock = some k → N ≤ k
theorem WIn.no {N : Nat} {w w' : World} {b : Nat} {v : Value} {bs : List UInt8} (h : WIn N w b v bs) (hf : Fr No w w') : WIn N w' b v bs :=
  ⟨⟨h.at'.blk.fr hf (No.no _), h.at'.own.fr hf (fun _ _ => No.no _)⟩, h.lo, h.new⟩
/-- Only blocks from N on may have changed. -/
abbrev From (N : Nat) (w w' : World) : Prop := Fr (fun k => N ≤ k) w w'
theorem From.t {N : Nat} {a b c : World} (h : From N a b) (k : From N b c) : From N a c := h.trans k (fun _ h => .inl h)
theorem From.no {N : Nat} {a b : World} (h : From N a b) (hN : a.heap.size ≤ N) : Fr No a b :=
  ⟨h.os, h.tape, h.output, h.size, fun k hk _ => h.block k hk (by omega)⟩
theorem Blk.from {N : Nat} {w w' : World} {b : Nat} {T : TypeId} {l : List Value} (h : Blk w b T l) (hf : From N w w') (hn : b < N) : Blk w' b T l := h.fr hf (by omega)

/-- What a writer's call comes to. -/
def Wrote1 (N b : Nat) (bs : List UInt8) (w : World) (e : Ending) (w' : World) : Prop := ∃ v', e = .returned (.int .i64 0) ∧ WIn N w' b v' bs ∧ From N w w'

theorem wrote_of {N b : Nat} {v v' : Value} {bs cs : List UInt8} {w w' : World} (h : WIn N w b v bs) (hz : N ≤ w.heap.size) (h1 : WrAt w' b v' cs) (h2 : Fr (fun k => k = b ∨ v.ownBlock = some k) w w') (h3 : AtOr w v v') : WIn N w' b v' cs ∧ From N w w' := by
  refine ⟨⟨h1, h.lo, fun k hk => (h3 k hk).elim (h.new k) (fun q => Nat.le_trans hz q)⟩, h2.mono ?_⟩
  rintro x (rfl | hx)
  · exact h.lo
  · exact h.new _ hx

theorem wnumN (N b : Nat) (v : Value) (bs : List UInt8) (size n : Nat) (hs : size = 1 ∨ size = 2 ∨ size = 4 ∨ size = 8) (hn : n < 2 ^ (8 * size)) (hl : bs.length ≤ 1000000) (w : World) (hz : N ≤ w.heap.size) (h : WIn N w b v bs) :
    Calls Try.prog 65 #[.pointer (some ⟨b, 0, none⟩), .int .i64 size, .int .u64 n] w (Wrote1 N b (bs ++ num size n) w) :=
  (wnum_any b v bs size n hs hn hl w h.at').mono fun e w' ⟨v', h1, h2, h3, h4⟩ => ⟨v', h1, wrote_of h hz h2 h3 h4⟩
theorem wrawN (N b : Nat) (v : Value) (bs cs : List UInt8) (a : Option Addr) (n c : Nat) (hl : bs.length + n ≤ 1000000) (w : World) (hz : N ≤ w.heap.size) (h : WIn N w b v bs) (hw : Win w a n c (cs.map byt)) :
    Calls Try.prog 64 #[.pointer (some ⟨b, 0, none⟩), .slice a n c] w (Wrote1 N b (bs ++ cs) w) :=
  (wraw_any b v bs cs a n c hl w h.at' hw).mono fun e w' ⟨v', h1, h2, h3, h4⟩ => ⟨v', h1, wrote_of h hz h2 h3 h4⟩
theorem wlenN (N b : Nat) (v : Value) (bs : List UInt8) (m : Nat) (hm : bs.length = m) (w : World) (h : WIn N w b v bs) :
    Calls Try.prog 66 #[.pointer (some ⟨b, 0, none⟩)] w fun e w' => e = .returned (.int .i64 (m : Nat)) ∧ w = w' := by
  subst hm
  exact wlen_any b v bs w h.at'
theorem wbytesN (N b : Nat) (v : Value) (bs : List UInt8) (m : Nat) (hm : bs.length = m) (h0 : 0 < m) (w : World) (h : WIn N w b v bs) (hl : m ≤ 1000000) :
    Calls Try.prog 68 #[.pointer (some ⟨b, 0, none⟩)] w fun e w' => ∃ g c, e = .returned (.slice (some ⟨g, 0, none⟩) m c) ∧ Own w' 5 1 (.slice (some ⟨g, 0, none⟩) m c) m (bs.map byt) ∧ w.heap.size ≤ g ∧ Fr No w w' := by
  subst hm
  refine (wbytes_any b v bs w h.at' hl).mono ?_
  rintro e w' ⟨v', rfl, h1, h2, _, h3⟩
  rcases h1.cases with ⟨_, e, _⟩ | ⟨g, c, rfl⟩
  · omega
  · exact ⟨g, c, rfl, h1, h2 g rfl, h3⟩

/-- A reader all of whose blocks lie from N on. -/
structure RIn (N : Nat) (w : World) (rb : Nat) (v : Value) (bs : List UInt8) (pos : Nat) : Prop where
  at' : RdAt w rb v bs pos
  pos : pos ≤ bs.length
  lo : N ≤ rb
  new : ∀ k, v.ownBlock = some k → N ≤ k
theorem RIn.no {N : Nat} {w w' : World} {rb pos : Nat} {v : Value} {bs : List UInt8} (h : RIn N w rb v bs pos) (hf : Fr No w w') : RIn N w' rb v bs pos := ⟨h.at'.no hf, h.pos, h.lo, h.new⟩

/-- A number is read, if there are bytes enough. -/
theorem rnumN (N rb pos size : Nat) (v : Value) (bs : List UInt8) (hl : bs.length ≤ 1000000) (hs : size = 1 ∨ size = 2 ∨ size = 4 ∨ size = 8) (w : World) (h : RIn N w rb v bs pos) :
    Calls Try.prog 73 #[.pointer (some ⟨rb, 0, none⟩), .int .i64 size] w fun e w' => ∃ (x : Nat) (c : Int) (pos' : Nat), e = .returned (.tuple #[.int .u64 x, .int .i64 c]) ∧ x < 256 ^ size ∧ (pos + size ≤ bs.length → x = wh ((bs.drop pos).take size) ∧ pos' = pos + size) ∧ RIn N w' rb v bs pos' ∧ From N w w' := by
  by_cases hp : pos + size ≤ bs.length
  · refine (rnum_yes rb pos size v bs hp hl hs w h.at').mono ?_
    rintro e w' ⟨rfl, h1, h2⟩
    refine ⟨_, _, _, rfl, ?_, fun _ => ⟨rfl, rfl⟩, ⟨h1, hp, h.lo, h.new⟩, h2.mono (fun k hk => by rw [hk]; exact h.lo)⟩
    have h3 := wh_lt ((bs.drop pos).take size)
    rwa [show ((bs.drop pos).take size).length = size by rw [List.length_take, List.length_drop]; omega] at h3
  · refine (rnum_no rb pos size v bs h.pos hp hl hs w h.at').mono ?_
    rintro e w' ⟨rfl, h1⟩
    exact ⟨0, 10, pos, rfl, Nat.pow_pos (by decide), fun hc => absurd hc hp, h.no h1, h1.no_any⟩
theorem rrawN (N rb pos n : Nat) (v : Value) (bs : List UInt8) (hl : bs.length ≤ 1000000) (w : World) (hz : N ≤ w.heap.size) (h : RIn N w rb v bs pos) :
    Calls Try.prog 72 #[.pointer (some ⟨rb, 0, none⟩), .int .i64 n] w fun e w' => ∃ (u : Value) (c : Int) (m pos' : Nat) (cs : List UInt8), e = .returned (.tuple #[u, .int .i64 c]) ∧ Own w' 5 1 u m (cs.map byt) ∧ m ≤ n ∧ (∀ k, u.ownBlock = some k → w.heap.size ≤ k) ∧ (pos + n ≤ bs.length → cs = (bs.drop pos).take n ∧ m = n ∧ pos' = pos + n) ∧ RIn N w' rb v bs pos' ∧ From N w w' := by
  by_cases hp : pos + n ≤ bs.length
  · refine (rraw_yes rb pos n v bs hp hl w h.at').mono ?_
    rintro e w' ⟨u, rfl, h1, h2, h3, h4⟩
    exact ⟨u, _, n, _, _, rfl, h1, Nat.le_refl _, h2, fun _ => ⟨rfl, rfl, rfl⟩, ⟨h3, hp, h.lo, h.new⟩, h4.mono (fun k hk => by rw [hk]; exact h.lo)⟩
  · refine (rraw_no rb pos n v bs h.pos hp hl w h.at').mono ?_
    rintro e w' ⟨rfl, h1⟩
    exact ⟨_, 10, 0, pos, [], rfl, World.ownsRow_nil _ _ _ _, Nat.zero_le _, fun k hk => by simp [Value.ownBlock] at hk, fun hc => absurd hc hp, h.no h1, h1.no_any⟩
theorem readN (a : Option Addr) (n c : Nat) (bs : List UInt8) (w : World) (h : Win w a n c (bs.map byt)) (hb : n ≤ 1000000) :
    Calls Try.prog 71 #[.slice a n c] w fun e w' => ∃ rb v, e = .returned (.pointer (some ⟨rb, 0, none⟩)) ∧ RIn w.heap.size w' rb v bs 0 ∧ Fr No w w' :=
  (read_any a n c bs w h hb).mono fun e w' ⟨rb, v, h1, h2, h3, h4, h5⟩ => ⟨rb, v, h1, ⟨h2, Nat.zero_le _, h3, h4⟩, h5⟩

/-- New bytes, all noughts. -/
theorem Try.makeB (n : Nat) (hn : n ≤ 1000000) (u : World) : (Instr.makeSlice 26 (.int .i64 n) (.int .i64 n)).run Try.prog u = .ok (.slice (some ⟨u.heap.size, 0, none⟩) n n) (u.alloc (.cells ((List.replicate n (0 : UInt8)).map byt).toArray 5)) := by
  obtain ⟨i0, hi, hz0, hz1, hz2⟩ := info_parts Try.infoU8
  have := run_makeSlice (P := Try.prog) u 26 5 i0 (.int .u8 0) Try.underlying26 hi hz0 .i64 .i64 n n (by omega) (Int.le_refl _) (by rw [hz1]; simp; omega) (by rw [hz2]; simp; omega) (by omega)
  rw [this]
  have e : madeCells (Value.int .u8 0).cells n = ((List.replicate n (0 : UInt8)).map byt).toArray := by
    apply Array.ext'
    rw [show (Value.int .u8 0).cells = #[Value.int .u8 0] from rfl, toList_madeCells_one]
    simp [byt]
  simp [hz1, e]

/-- Comparing bytes. -/
theorem equal_any (a a' : Option Addr) (n c n' c' : Nat) (bs cs : List UInt8) (w : World) (h : Win w a n c (bs.map byt)) (h' : Win w a' n' c' (cs.map byt)) :
    Calls Try.prog 74 #[.slice a n c, .slice a' n' c'] w fun e w' => e = .returned (.bool (decide (bs = cs))) ∧ w = w' := by
  have h1 := run_str (P := Try.prog) (src := 26) (dst := 9) Try.underlying26 Try.underlying5 Try.underlying9 h
  have h2 := run_str (P := Try.prog) (src := 26) (dst := 9) Try.underlying26 Try.underlying5 Try.underlying9 h'
  have he : ((str bs).toList == (str cs).toList) = decide (bs = cs) := by
    rw [str_list, str_list]
    by_cases hc : bs = cs <;> simp [hc]
  clear h h'
  go_enter Try.func74, Try.ntmps74
  go_wp2
  go_ret
  exact ⟨by rw [← he]; rfl, rfl⟩

end Go.Proofs.Ytnkjhicokcmmpaa
