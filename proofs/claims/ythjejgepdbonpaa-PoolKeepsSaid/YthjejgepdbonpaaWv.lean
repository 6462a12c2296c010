/-
  What a new pool over the law's memory comes to.
-/
import Derived.Test.YthjejgepdbonpaaWu
import Derived.Test.YthjejgepdbonpaaWo
namespace Go.Proofs.Ythjejgepdbonpaa
open Go.RowKit Go.Shelf
attribute [local go_sem] Oper.semAt_some

set_option maxHeartbeats 1000000 in
theorem new_any (most mb : Nat) (h1 : 1 ≤ most) (h2 : most ≤ 64) (w : World) :
    Calls Try.prog 8 #[.int .i64 most, backV mb] w fun e w' => e = .returned (.tuple #[.pointer (some ⟨w.heap.size, 0, none⟩), .int .i64 0]) ∧ w.alloc (.cells #[.int .i64 most, backV mb, .slice none 0 0] 64) = w' := by
  go_enter Try.func8, Try.ntmps8
  go_wp2
  go_ret2
  exact ⟨rfl, rfl⟩

set_option maxHeartbeats 1000000 in
theorem new_bad (most : Int) (b : Value) (hb : (∃ mb, b = backV mb) ∨ b = .nilIface) (h : most < 1 ∨ 64 < most ∨ b = .nilIface) (w : World) :
    Calls Try.prog 8 #[.int .i64 most, b] w fun e w' => e = .returned (.tuple #[.pointer none, .int .i64 100]) ∧ w = w' := by
  by_cases h1 : most < 1
  · clear h
    go_enter Try.func8, Try.ntmps8
    go_wp2
    go_ret2
    exact ⟨rfl, rfl⟩
  · by_cases h2 : 64 < most
    · clear h
      go_enter Try.func8, Try.ntmps8
      go_wp2
      go_ret2
      exact ⟨rfl, rfl⟩
    · obtain rfl : b = .nilIface := by rcases h with h | h | h; omega; omega; exact h
      clear h hb
      go_enter Try.func8, Try.ntmps8
      go_wp2
      go_ret2
      exact ⟨rfl, rfl⟩

/-- The tile at place i of the law's memory. -/
def til0 (i : Nat) : AT := ⟨1 + (i / 4 : Nat), (i % 4 : Nat), 1, [i, 10 * i, -1, 7]⟩
def tils0 (k : Nat) : List AT := (List.range k).map til0
theorem tils0_succ (k : Nat) : tils0 (k + 1) = tils0 k ++ [til0 k] := by simp [tils0, List.range_succ]

/-- The memory while it is made. -/
structure BackAt (w0 : World) (k : Nat) (w : World) : Prop where
  fr : Fr No w0 w
  at' : ∃ v ts, Blk w w0.heap.size 47 [v, .slice none 0 0, .int .i64 0] ∧ Own w 43 4 v k (tilCells ts) ∧ ts.map TilM.a = tils0 k ∧ (∀ b, v.ownBlock = some b → w0.heap.size ≤ b) ∧
    (∀ t ∈ ts, Own w 2 1 t.sl t.el.length (t.el.map (Value.int .i64)) ∧ w0.heap.size ≤ t.g) ∧ (ts.map (·.g)).Nodup

theorem Try.infoTile : (Try.prog.info? 43).map (fun i => (i.zero, i.size, i.bytes)) = some (some (.agg #[.int .i64 0, .int .i64 0, .int .i64 0, .slice none 0 0]), 4, 48) := by kernel_rfl
set_option maxHeartbeats 2000000 in
theorem back_any (w : World) :
    Calls Try.prog 9 #[.int .i64 0] w fun e w' => e = .returned (.pointer (some ⟨w.heap.size, 0, none⟩)) ∧ BackAt w 12 w' := by
  obtain ⟨i0, hi0, hz0, hz1, hz2⟩ := info_parts Try.infoTile
  go_enter Try.func9, Try.ntmps9
  go_wp2
  go_loopw [4] (fun i wr => ∃ k : Nat, k ≤ 12 ∧ i = .int .i64 k ∧ BackAt w k wr) (fun i _ => 12 - (intOf i).toNat)
  case atStart => exact ⟨0, by omega, rfl, ⟨(Fr.refl No w).alloc _, .slice none 0 0, [], Blk.new w _ _, World.ownsRow_nil _ _ _ _, rfl, fun b hb => by simp [Value.ownBlock] at hb, fun t ht => by simp at ht, by simp⟩⟩
  case round =>
    obtain ⟨k, hk, rfl, hB⟩ := hrel
    by_cases hlt : k < 12
    · obtain ⟨hf, v, ts, hb, ho, hts, hv, hel, hnd⟩ := hB
      have b0 := hb.cell (j := 0) rfl
      have bl := hb.lt
      have bf := hb.free
      obtain ⟨w2, hw2⟩ : ∃ w2, w2 = (wr.alloc (.cells #[.int .i64 k, .int .i64 (10 * k), .int .i64 (-1), .int .i64 7] 2)).alloc (.cells #[.int .i64 (1 + (k : Int) / 4), .int .i64 ((k : Int) % 4), .int .i64 1, .slice (some ⟨wr.heap.size, 0, none⟩) 4 4] 43) := ⟨_, rfl⟩
      have hf2 : Fr No wr w2 := by rw [hw2]; exact ((Fr.refl No wr).alloc _).alloc _
      have hE2 : Own w2 2 1 (.slice (some ⟨wr.heap.size, 0, none⟩) 4 4) 4 [.int .i64 k, .int .i64 (10 * k), .int .i64 (-1), .int .i64 7] := by
        rw [hw2]
        exact Own.of_blk (sp := []) ((Blk.new wr 2 [.int .i64 k, .int .i64 (10 * k), .int .i64 (-1), .int .i64 7]).alloc _) rfl rfl (by omega) (by unfold maxLen; omega)
      have hN2 : Blk w2 (wr.heap.size + 1) 43 [.int .i64 (1 + (k : Int) / 4), .int .i64 ((k : Int) % 4), .int .i64 1, .slice (some ⟨wr.heap.size, 0, none⟩) 4 4] := by
        have := Blk.new (wr.alloc (.cells #[.int .i64 k, .int .i64 (10 * k), .int .i64 (-1), .int .i64 7] 2)) 43 [.int .i64 (1 + (k : Int) / 4), .int .i64 ((k : Int) % 4), .int .i64 1, .slice (some ⟨wr.heap.size, 0, none⟩) 4 4]
        rw [hw2]
        simpa using this
      have hO2 : Hid (Own w2 43 4 v k (tilCells ts)) := ho.fr hf2 (fun _ _ => No.no _)
      have hb2 : Blk w2 w.heap.size 47 _ := hb.fr hf2 (No.no _)
      have hN1 : Hid (∀ j u, [Value.int .i64 (1 + (k : Int) / 4), .int .i64 ((k : Int) % 4), .int .i64 1, .slice (some ⟨wr.heap.size, 0, none⟩) 4 4][j]? = some u → w2.cell? ((⟨wr.heap.size + 1, 0, none⟩ : Addr).add j) = some u) := by
        intro j u hu
        rw [Addr.add_lit, Nat.zero_add]
        exact hN2.cell hu
      have h1c : Hid (∀ u ∈ [Value.int .i64 (1 + (k : Int) / 4), .int .i64 ((k : Int) % 4), .int .i64 1, .slice (some ⟨wr.heap.size, 0, none⟩) 4 4], u.oneCell' = true) := by intro u hu; simp at hu; rcases hu with rfl | rfl | rfl | rfl <;> rfl
      have hb1 : Hid (k + 1 ≤ maxLen) := by unfold maxLen; unfold Hid; omega
      have hb2' : Hid ((k + 1) * 48 ≤ 140737488355328) := by unfold Hid; omega
      have HB := Lib.hid (And.intro hf (And.intro hts (And.intro hv (And.intro hel hnd))))
      clear hf hts hv hel hnd
      go_wp2_with (at_builtin; rw [← hw2]; refine wpList_app _ rfl (.tmp 16) (.tmp 27) 44 rfl 43 i0 _ 4 48 Try.underlying44 hi0 hz0 hz1 hz2 rfl v k (tilCells ts) rfl hO2.out ⟨wr.heap.size + 1, 0, none⟩ 1 1 [.int .i64 (1 + (k : Int) / 4), .int .i64 ((k : Int) % 4), .int .i64 1, .slice (some ⟨wr.heap.size, 0, none⟩) 4 4] rfl rfl hN1.out h1c.out hb1.out hb2'.out ?_; intro v' w3 hap; obtain ⟨g', c', rfl⟩ := hap.some (by omega); have hne := hb2.neOwn hO2.out (by decide); have hb3 := hb2.fr hap.fr (fun hk => hne _ hk rfl); have c30 := hb3.cell (j := 0) rfl; have hf3 := hb3.free; have hl3 := hb3.lt)
      go_roundw
      case rel =>
        refine ⟨k + 1, by omega, by go_num, ?_⟩
        obtain ⟨hf, hts, hv, hel, hnd⟩ := HB.out
        have hfr : Fr (fun x => x = w.heap.size ∨ v.ownBlock = some x) w2 (w3.setCell ⟨w.heap.size, 0, none⟩ (.slice (some ⟨g', 0, none⟩) (k + 1) c')) := (hap.fr.mono (fun x h => .inr h)).setCell (.inl (.inl rfl)) _
        have hel2 : ∀ t ∈ ts ++ [(⟨1 + (k : Int) / 4, (k : Int) % 4, 1, wr.heap.size, 4, [(k : Int), 10 * k, -1, 7]⟩ : TilM)], Own w2 2 1 t.sl t.el.length (t.el.map (Value.int .i64)) ∧ w.heap.size ≤ t.g := by
          intro t ht
          rcases List.mem_append.1 ht with h | h
          · exact ⟨(hel t h).1.fr hf2 (fun _ _ => No.no _), (hel t h).2⟩
          · simp at h; subst h; exact ⟨hE2, hf.size⟩
        have hne1 := hb3.neOwn hap.own (by decide)
        refine ⟨hf.trans (hf2.no_any.trans hfr (fun x h => .inl h)) (fun x h => .inr (h.elim (fun e => by omega) (fun e => hv x e))), _, ts ++ [⟨1 + (k : Int) / 4, (k : Int) % 4, 1, wr.heap.size, 4, [(k : Int), 10 * k, -1, 7]⟩], hb3.set 0 _, ?_, ?_, ?_, ?_, ?_⟩
        · have := hap.own.other (p := ⟨w.heap.size, 0, none⟩) (fun e => hne1 _ e rfl) (.slice (some ⟨g', 0, none⟩) (k + 1) c')
          have e1 : ∀ t : TilM, tilCells (ts ++ [t]) = tilCells ts ++ t.cells := fun t => by simp [tilCells]
          rw [e1]
          exact this
        · rw [List.map_append, hts, tils0_succ]
          simp [TilM.a, til0]
        · intro b hb'
          rcases hap.blk with e | ⟨k', e, hk'⟩
          · exact hv b (by rw [← e]; exact hb')
          · rw [e] at hb'; cases hb'; have := hf.size; have := hf2.size; omega
        · intro t ht
          refine ⟨(hel2 t ht).1.fr hfr ?_, (hel2 t ht).2⟩
          rintro x hx (e | e)
          · exact hb2.neOwn (hel2 t ht).1 (by decide) x hx e
          · exact (hel2 t ht).1.neOwn hO2.out (by decide) x hx e
        · rw [List.map_append, List.nodup_append]
          refine ⟨hnd, by simp, ?_⟩
          intro x hx y hy
          simp at hy
          subst hy
          obtain ⟨t, ht, rfl⟩ := List.mem_map.1 hx
          have := (hel t ht).1.lt (k := t.g) rfl
          omega
      case measure => simp [intOf]; omega
    · go_wp2
      go_ret
      obtain rfl : k = 12 := by omega
      exact ⟨rfl, hB⟩

theorem tils0_len (k : Nat) : (tils0 k).length = k := by simp [tils0]
theorem BackAt.mem {w w' : World} (h : BackAt w 12 w') : ∃ lb lc ts, MemAt w' w.heap.size lb lc (.slice none 0 0) ts [] ∧ ts.map TilM.a = tils0 12 ∧ w.heap.size ≤ lb ∧ (∀ t ∈ ts, w.heap.size ≤ t.g) ∧ (ts.map (·.g)).Nodup := by
  obtain ⟨hf, v, ts, hb, ho, hts, hv, hel, hnd⟩ := h
  have hl : ts.length = 12 := by rw [← List.length_map TilM.a, hts]; rfl
  rcases ho.cases with ⟨_, h, _⟩ | ⟨g, c, rfl⟩
  · omega
  · rw [← hl] at hb ho
    exact ⟨g, c, ts, ⟨hb, ho, World.ownsRow_nil _ _ _ _, fun t ht => (hel t ht).1⟩, hts, hv g rfl, fun t ht => (hel t ht).2, hnd⟩

/-- The pool as it is made. -/
def start (most : Nat) : AS := ⟨most, [], tils0 12, []⟩

/-- What a new pool over a new memory is. -/
theorem fresh_pool {w w1 w2 : World} {most : Nat} (h1 : 1 ≤ most) (h2 : most ≤ 64) (hB : BackAt w 12 w1) (hf : Fr No w1 w2) :
    ∃ s, PoolAt (w2.alloc (.cells #[.int .i64 most, backV w.heap.size, .slice none 0 0] 64)) s ∧ s.pb = w2.heap.size ∧ s.mb = w.heap.size ∧ s.a = start most ∧ (∀ k, Foot s k → w.heap.size ≤ k) ∧ Fr No w (w2.alloc (.cells #[.int .i64 most, backV w.heap.size, .slice none 0 0] 64)) := by
  obtain ⟨lb, lc, ts, hM, hts, hlb, hg, hnd⟩ := hB.mem
  have hl : ts.length = 12 := by rw [← List.length_map TilM.a, hts]; rfl
  have hsz := hB.fr.size
  have hsz2 := hf.size
  refine ⟨⟨w2.heap.size, w.heap.size, lb, lc, most, .slice none 0 0, .slice none 0 0, [], ts, []⟩, ⟨⟨Blk.new w2 _ _, World.ownsRow_nil _ _ _ _, fun x hx => by simp at hx⟩, hM.no (hf.alloc _), ⟨h1, h2, Nat.zero_le _, by simp, by simpa using hnd, fun x hx => by simp at hx, fun x hx => by simp at hx, ?_, by simp only; omega⟩⟩, rfl, rfl, ?_, ?_, ?_⟩
  · intro t ht
    have : t.a ∈ tils0 12 := by rw [← hts]; exact List.mem_map.2 ⟨t, ht, rfl⟩
    obtain ⟨i, _, hi⟩ := List.mem_map.1 this
    have e : t.el = t.a.el := rfl
    rw [e, ← hi]
    rfl
  · simp [St.a, start, hts]
  · rintro k (rfl | e | ⟨x, hx, _⟩ | rfl | rfl | e | ⟨t, ht, rfl⟩)
    · simp only; omega
    · simp [Value.ownBlock] at e
    · simp at hx
    · exact Nat.le_refl _
    · exact hlb
    · simp [Value.ownBlock] at e
    · exact hg t ht
  · exact (hB.fr.thn hf).alloc _

end Go.Proofs.Ythjejgepdbonpaa
