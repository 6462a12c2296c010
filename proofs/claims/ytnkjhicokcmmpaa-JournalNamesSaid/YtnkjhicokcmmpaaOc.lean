/-
  The reader of bytes: the bytes that are left, told one by one.
-/
import Derived.Test.YtnkjhicokcmmpaaOb
import Derived.Test.YtnkjhicokcmmpaaRange
import Derived.Sort.QuietTacIn
import Derived.Sort.BigQuietIn
namespace Go.Proofs.Ytnkjhicokcmmpaa
open Go.RowKit Go.Shelf
attribute [local go_sem] Oper.semAt_some

/-- A reader in block rb: its bytes, and how many were read. -/
structure RdAt (w : World) (rb : Nat) (v : Value) (bs : List UInt8) (pos : Nat) : Prop where
  blk : Blk w rb 149 [v, .int .i64 pos, .bool true]
  own : Own w 5 1 v bs.length (bs.map byt)
theorem RdAt.fr {S : Nat → Prop} {w w' : World} {rb pos : Nat} {v : Value} {bs : List UInt8} (h : RdAt w rb v bs pos) (hf : Fr S w w') (h1 : ¬ S rb) (h2 : ∀ k, v.ownBlock = some k → ¬ S k) : RdAt w' rb v bs pos :=
  ⟨h.blk.fr hf h1, h.own.fr hf h2⟩
theorem RdAt.no {w w' : World} {rb pos : Nat} {v : Value} {bs : List UInt8} (h : RdAt w rb v bs pos) (hf : Fr No w w') : RdAt w' rb v bs pos := h.fr hf (No.no _) (fun _ _ => No.no _)
theorem RdAt.ne {w : World} {rb pos : Nat} {v : Value} {bs : List UInt8} (h : RdAt w rb v bs pos) : ∀ k, v.ownBlock = some k → k ≠ rb := h.blk.neOwn h.own (by decide)

/-- The first k of some bytes, each with its place. -/
def told (l : List UInt8) (k : Nat) : List (Nat × UInt8) := (List.range k).map fun i => (i, l[i]?.getD 0)
def toldAll (l : List UInt8) : List (Nat × UInt8) := told l l.length
theorem told_succ (l : List UInt8) (k : Nat) : told l (k + 1) = told l k ++ [(k, l[k]?.getD 0)] := by simp [told, List.range_succ]
theorem told_len (l : List UInt8) (k : Nat) : (told l k).length = k := by simp [told]
theorem told_prefix {l : List UInt8} {k : Nat} (hk : k ≤ l.length) : told l k <+: toldAll l := by
  unfold toldAll told
  obtain ⟨d, hd⟩ := Nat.exists_eq_add_of_le hk
  rw [hd, List.range_add, List.map_append]
  exact List.prefix_append _ _

set_option maxRecDepth 100000 in
set_option maxHeartbeats 2000000 in
theorem ahead1_in (n : Nat) (hn : 1 ≤ n) (l Bs n₀ rb pos : Nat) (v : Value) (bs : List UInt8) (hpos : pos ≤ bs.length) (hlen : bs.length ≤ 1000000) (J Jx : List (Nat × UInt8) → World → Prop)
    (hY : ∀ pre x W, J pre W → pre.length < (bs.drop pos).length → YieldAt Fence.wide (n - 1) Try.prog l #[.int .i64 (x.1 : Nat), byt x.2] W fun e W' =>
      (e = .returned (.bool true) ∧ J (pre ++ [x]) W' ∧ Below n₀ W W') ∨ (e = .returned (.bool false) ∧ Jx (pre ++ [x]) W'))
    (W : World) (hBs : Blk W Bs 115 [.pointer (some ⟨rb, 0, none⟩)]) (hR : RdAt W rb v bs pos) (hn0 : ∀ k, v.ownBlock = some k → k < n₀) (hN : ∀ N, J [] (W.drewN N)) :
    CallsIn Fence.wide n Try.prog 138 #[.func (.yield l) #[] #[], .pointer (some ⟨Bs, 0, none⟩)] W fun e W' => (∃ v, e = .returned v) ∧
      ((∃ ys, ys = toldAll (bs.drop pos) ∧ J ys W') ∨ (∃ pre, pre <+: toldAll (bs.drop pos) ∧ Jx pre W')) := by
  have b0 := hBs.cell (j := 0) rfl
  have r0 := hR.blk.cell (j := 0) rfl
  have r1 := hR.blk.cell (j := 1) rfl
  obtain ⟨a, c, rfl, hw⟩ := Win.of_own hR.own
  have hcap := hw.cap
  have hmax := hw.max
  unfold maxLen at hmax
  have hbl := hBs.lt
  have hrl := hR.blk.lt
  refine callsIn_of_wp Try.func138 rfl trivial ?_ rfl
  simp only [Try.ntmps138, List.size_toArray, List.length_cons, List.length_nil, Nat.reduceAdd, Nat.reduceSub, Array.replicate_succ, Array.replicate_zero, List.push_toArray, List.append_toArray, List.nil_append, List.cons_append]
  gi_wp2
  gi_quiet_th (fail)
  have hwd := hw.drop hpos
  rw [← List.map_drop] at hwd
  obtain ⟨a', ha'⟩ : ∃ a', a' = (if c = pos then a else Option.map (fun x => x.add pos) a) := ⟨_, rfl⟩
  obtain ⟨m, hm⟩ : ∃ m, m = bs.length - pos := ⟨_, rfl⟩
  have hwd : Win W a' m (c - pos) ((bs.drop pos).map byt) := by rw [ha', hm]; exact hwd
  have hlm : (bs.drop pos).length = m := by rw [List.length_drop, hm]
  have hbk : ∀ ad, a' = some ad → ad.block < n₀ := by
    intro ad hd
    rw [ha'] at hd
    split at hd
    · exact hn0 ad.block (by rw [hd]; rfl)
    · cases a with
      | none => cases hd
      | some ad0 => cases hd; rw [add_block]; exact hn0 ad0.block rfl
  rw [← ha', ← hm]
  obtain ⟨ds, hds⟩ : ∃ ds, ds = bs.drop pos := ⟨_, rfl⟩
  rw [← hds] at hwd hlm hY
  have HDS := Lib.hid hds
  have hml : m ≤ 1000000 := by omega
  have HL := Lib.hid hlm
  have HNN := Lib.hid (hN nq)
  clear hds ha' hm b0 r0 r1 hN hlm hcap hmax hbl hrl hw hpos hlen hBs hR hn0
  gi_wp2
  gi_loopw [15] (fun t wr => ∃ k : Nat, k ≤ m ∧ t = .int .i64 k ∧ J (told ds k) wr ∧ Below n₀ (W.drewN nq) wr) (fun t _ => m - (intOf t).toNat)
  case atStart => exact ⟨0, Nat.zero_le _, rfl, HNN.out, Below.refl _ _⟩
  case round =>
    obtain ⟨k, hk, rfl, hJs, hnx⟩ := hrel
    by_cases hlt : k < m
    · have hkd : k < ds.length := by rw [HL.out]; exact hlt
      obtain ⟨ad, u, rfl, hu, hcell⟩ := hwd.at hlt
      have hu' : u = byt (ds[k]?.getD 0) := by
        rw [List.getElem?_map, List.getElem?_eq_getElem hkd] at hu
        rw [List.getElem?_eq_getElem hkd]
        exact (Option.some.inj hu).symm
      subst hu'
      have hc1 : wr.cell? (ad.add k) = some (byt (ds[k]?.getD 0)) := by
        have h1 : (W.drewN nq).cell? (ad.add k) = some (byt (ds[k]?.getD 0)) := hcell
        exact (hnx.cell (p := ad.add k) (by rw [add_block]; exact hbk ad rfl)).trans h1
      obtain ⟨fn, tmps, assign, body, hy, hR⟩ := hY _ (k, ds[k]?.getD 0) wr hJs (by rw [told_len]; exact hkd)
      dsimp only at hy
      have HT : Hid (told ds (k + 1) = told ds k ++ [(k, ds[k]?.getD 0)]) := told_succ ds k
      generalize ds[k]?.getD 0 = x at *
      clear hcell hu
      gi_wp2
      refine hR.mono ?_
      rintro e W3 (⟨rfl, hJ3, hk3⟩ | ⟨rfl, hJx3⟩)
      · gi_wp2
        go_roundw
        case rel => exact ⟨k + 1, by omega, by simp, by rw [HT.out]; exact hJ3, hnx.trans hk3⟩
        case measure => (simp [intOf]; try omega)
      · gi_wp2
        refine bodyPost_ret (results_none rfl _ _ _) rfl ?_
        exact ⟨⟨_, rfl⟩, .inr ⟨_, by rw [← HDS.out, ← HT.out]; exact told_prefix (by omega), hJx3⟩⟩
    · obtain rfl : k = m := by omega
      gi_wp2
      go_end0
      exact ⟨⟨_, rfl⟩, .inl ⟨_, by unfold toldAll; rw [← HDS.out, HL.out], hJs⟩⟩

end Go.Proofs.Ytnkjhicokcmmpaa
