/-
  Texts of this claim, laid together: Up, Uq, Ur, Us, Range, Oc, Od, Oe, Of, Og, Ca, Seq, Cb, Cc, Cd, Ra, Rb, Rc, Rd, Re, Rf, Ya, Ea, Eb, Ec, Ed, Ee, Ef, Eg.
-/
import Derived.Test.YtnkjhicokcmmpaaQc
import Derived.Test.YtnkjhicokcmmpaaQa
import Derived.RangeFuncNested
import Derived.RangeFuncBound
import Derived.RangeFuncCalls
import Derived.RangeFuncLeaves
import Derived.Shelf.Abstract
import Derived.OwnWalkIn
import Derived.TacticsInMore
import Derived.LoopNIn
import Derived.LoopIn
import Derived.WalkMore
import Derived.Sort.QuietTacIn
import Derived.Sort.BigQuietIn
import Derived.Laws.Bits64b
import Derived.Lib.SmallJoins
import Derived.Deep.RegionHeld3
import Derived.Deep.DeepCutAuto
import Derived.Control
import Derived.Orders
import Derived.KernelRfl
import Derived.Laws.Slices
import Derived.WalkKit
import Derived.Laws.Tables
import Derived.Deep.MidRow
import Derived.Deep.AppendSrc

/-
  Disks, plainly: what falls and what is flushed, sector by sector; disks that look alike.
-/
namespace Go.Proofs.Ytnkjhicokcmmpaa.Sm
open Go Go.RowKit

theorem getM_putM (m : List (Int × List UInt8)) (z : Int) (b : List UInt8) (y : Int) : getM (putM m z b) y = if y = z then some b else getM m y := by
  induction m with
  | nil => simp only [putM, getM]; by_cases h : z = y <;> simp [h, eq_comm]
  | cons p m ih =>
    unfold putM
    by_cases hp : p.1 = z
    · rw [if_pos hp]
      by_cases hy : y = z
      · subst hy; simp [getM]
      · rw [if_neg hy]; simp only [getM]; rw [if_neg (fun e => hy e.symm), if_neg (fun e => hy (e.symm.trans hp))]
    · rw [if_neg hp]
      simp only [getM]
      by_cases h1 : p.1 = y
      · rw [if_pos h1, if_pos h1, if_neg (fun e => hp (h1.trans e))]
      · rw [if_neg h1, if_neg h1, ih]
theorem getM_isSome {m : List (Int × List UInt8)} {z : Int} : (getM m z).isSome = true ↔ z ∈ m.map (·.1) := by
  constructor
  · intro h
    by_cases hm : z ∈ m.map (·.1)
    · exact hm
    · rw [getM_none hm] at h; cases h
  · intro h
    obtain ⟨v, hv, _⟩ := getM_mem h
    rw [hv]; rfl
theorem keysD_congr {m m' : List (Int × List UInt8)} (h1 : (m.map (·.1)).Nodup) (h2 : (m'.map (·.1)).Nodup) (h : ∀ z, (getM m z).isSome = (getM m' z).isSome) : keysD m = keysD m' := by
  have hp : (m.map (·.1)).Perm (m'.map (·.1)) := (List.perm_ext_iff_of_nodup h1 h2).2 fun z => by rw [← getM_isSome, ← getM_isSome, h]
  have hs := List.pairwise_mergeSort (le := leI) (fun a b c => by simp only [leI, decide_eq_true_eq]; omega) (fun a b => by simp only [leI, Bool.or_eq_true, decide_eq_true_eq]; omega)
  refine List.Perm.eq_of_pairwise (le := fun a b => leI a b = true) (fun a b _ _ => by simp only [leI, decide_eq_true_eq]; omega) (hs _) (hs _) ?_
  exact (List.mergeSort_perm _ _).trans (hp.trans (List.mergeSort_perm _ _).symm)
/-- Rows that are turned one by one. -/
theorem rows_fold (g : Int → List UInt8 → List UInt8) (k : Nat) : ∀ (ks : List Int) (ll : List (List UInt8)), ks.Nodup → (∀ z ∈ ks, 0 ≤ z) → k < ll.length →
    (ks.foldl (fun ll z => ll.set z.toNat (g z (ll.getD z.toNat []))) ll).getD k [] = if (k : Int) ∈ ks then g k (ll.getD k []) else ll.getD k [] := by
  intro ks
  induction ks with
  | nil => intro ll _ _ _; simp
  | cons z ks ih =>
    intro ll hn h0 hk
    have hz := h0 z (by simp)
    rw [List.foldl_cons, ih _ (List.nodup_cons.1 hn).2 (fun y hy => h0 y (by simp [hy])) (by rw [List.length_set]; exact hk)]
    have hzn := (List.nodup_cons.1 hn).1
    by_cases e : (k : Int) = z
    · subst e
      rw [if_neg hzn, if_pos (by simp), Int.toNat_natCast]
      simp [List.getD_eq_getElem?_getD, List.getElem?_set, hk]
    · have e' : ¬ z.toNat = k := by omega
      have e2 : (ll.set z.toNat (g z (ll.getD z.toNat []))).getD k [] = ll.getD k [] := by simp [List.getD_eq_getElem?_getD, List.getElem?_set, e']
      rw [e2]
      simp only [List.mem_cons, e, false_or]
theorem keysD_nodup {m : List (Int × List UInt8)} (h : (m.map (·.1)).Nodup) : (keysD m).Nodup := (List.mergeSort_perm _ _).nodup_iff.2 h
def fallAt (c : CrashD) (z : Int) (w : Option (List UInt8)) (s : List UInt8) : List UInt8 := match w with
  | none => s
  | some v => v.take (keptN c z) ++ s.drop (keptN c z)
theorem fallL_at {d : DiskD} (hd : d.Ok) (c : CrashD) {k : Nat} (hk : k < d.stays.length) : (fallL d.waits c (keysD d.waits) d.stays).getD k [] = fallAt c k (getM d.waits k) (d.stays.getD k []) := by
  have := rows_fold (fun z s => ((getM d.waits z).getD []).take (keptN c z) ++ s.drop (keptN c z)) k (keysD d.waits) d.stays (keysD_nodup hd.one) (fun z hz => by
    obtain ⟨p, hp, rfl⟩ := List.mem_map.1 (keysD_mem.1 hz)
    exact (hd.keys p hp).1) hk
  refine (Eq.trans ?_ this).trans ?_
  · rfl
  · by_cases h : (k : Int) ∈ keysD d.waits
    · rw [if_pos h]
      obtain ⟨v, hv, _⟩ := getM_mem (keysD_mem.1 h)
      rw [hv]; rfl
    · rw [if_neg h, getM_none (fun hm => h (keysD_mem.2 hm))]; rfl
theorem rows_ext {a b : List (List UInt8)} (h : a.length = b.length) (hk : ∀ k, k < a.length → a.getD k [] = b.getD k []) : a = b := by
  apply List.ext_getElem h
  intro k h1 h2
  have := hk k h1
  simpa [List.getD_eq_getElem?_getD, h1, h2] using this
/-- Disks that look alike: what stays and what waits. -/
structure Alike (d e : DiskD) : Prop where
  stays : d.stays = e.stays
  waits : ∀ z, getM d.waits z = getM e.waits z
theorem Alike.keys {d e : DiskD} (h : Alike d e) (hd : d.Ok) (he : e.Ok) : keysD d.waits = keysD e.waits := keysD_congr hd.one he.one fun z => by rw [h.waits]
theorem Alike.fall {d e : DiskD} (h : Alike d e) (hd : d.Ok) (he : e.Ok) {c c' : CrashD} (hc : ∀ z, keptN c z = keptN c' z) : (fallD d c).stays = (fallD e c').stays := by
  refine rows_ext ?_ fun k hk => ?_
  · show (fallL _ _ _ _).length = (fallL _ _ _ _).length
    rw [fallL_len, fallL_len, h.stays]
  · have hk' : k < d.stays.length := by have := fallL_len d.waits c (keysD d.waits) d.stays; rw [← this]; exact hk
    show (fallL d.waits c (keysD d.waits) d.stays).getD k [] = (fallL e.waits c' (keysD e.waits) e.stays).getD k []
    rw [fallL_at hd c hk', fallL_at he c' (by rw [← h.stays]; exact hk'), h.waits, h.stays]
    unfold fallAt
    cases getM e.waits k with
    | none => rfl
    | some v => simp only [hc]
theorem Alike.put {d e : DiskD} (h : Alike d e) (z : Int) (b : List UInt8) : Alike (d.put z b) (e.put z b) :=
  ⟨h.stays, fun y => by show getM (putM d.waits z _) y = getM (putM e.waits z _) y; rw [getM_putM, getM_putM, h.waits]⟩
end Go.Proofs.Ytnkjhicokcmmpaa.Sm

/-
  The disk's laws' helper all; that writes and the like keep a disk fine.
-/
namespace Go.Proofs.Ytnkjhicokcmmpaa.Sm
open Go Go.RowKit
end Go.Proofs.Ytnkjhicokcmmpaa.Sm

/-
  What a disk's methods keep of it.
-/
namespace Go.Proofs.Ytnkjhicokcmmpaa.Sm
open Go Go.RowKit
/-- A disk that is fine, behind so many writes. -/
structure DiskD.In (d : DiskD) (n : Nat) : Prop where
  fine : d.Fine
  wr : d.writes ≤ n
  size : n ≤ 1000000000
theorem DiskD.In.more {d : DiskD} {n m : Nat} (h : d.In n) (hm : n ≤ m) (hM : m ≤ 1000000000) : d.In m := ⟨h.fine, by have := h.wr; omega, hM⟩
theorem none_cw : (0 : Int) ≤ CrashD.none.w ∧ fits .i64 CrashD.none.w := ⟨Int.le_refl _, fits_i64 (by decide) (by decide)⟩
theorem none_at : fits .i64 CrashD.none.at_ := fits_i64 (by decide) (by decide)
theorem DiskD.Ok.rows' {d d' : DiskD} (h : d.Ok) (h1 : d'.stays.length = d.stays.length) (h2 : ∀ l ∈ d'.stays, l.length = 128) (h3 : d'.waits = d.waits ∨ d'.waits = []) : d'.Ok := by
  obtain ⟨a, b, c, e, f⟩ := h
  refine ⟨fun q => a (List.eq_nil_of_length_eq_zero (by rw [← h1, q]; rfl)), by rw [h1]; exact b, h2, fun p hp => ?_, ?_⟩
  · rcases h3 with h3 | h3
    · rw [h3] at hp; rw [h1]; exact e p hp
    · rw [h3] at hp; cases hp
  · rcases h3 with h3 | h3
    · rw [h3]; exact f
    · rw [h3]; exact List.nodup_nil
theorem DiskD.Ok.fall {d : DiskD} (h : d.Ok) (c : CrashD) : (fallD d c).Ok :=
  h.rows' (fallL_len _ _ _ _) (fallL_rows h c _ _ h.rows (fun z hz => keysD_mem.1 hz)) (.inr rfl)
theorem DiskD.In.fall {d : DiskD} {n : Nat} (h : d.In n) (c : CrashD) : (fallD d c).In n :=
  ⟨⟨h.fine.ok.fall c, none_cw, Nat.zero_le _, none_at, h.fine.wr⟩, h.wr, h.size⟩
theorem DiskD.In.put {d : DiskD} {n : Nat} (h : d.In n) (hn : n < 1000000000) {z : Int} {b : List UInt8} (h0 : 0 ≤ z) (h1 : z < d.stays.length) (hb : b.length = 128) : (d.put z b).In (n + 1) := by
  have hw := h.wr
  have hw2 := h.fine.wr
  refine ⟨⟨h.fine.ok.put h0 h1 (by rw [List.length_take]; omega), h.fine.cw, h.fine.keep, h.fine.at_, ?_⟩, ?_, hn⟩
  · show 0 ≤ d.writes + 1 ∧ d.writes + 1 ≤ 4000000000000000000
    omega
  · show d.writes + 1 ≤ ((n + 1 : Nat) : Int)
    omega
theorem DiskD.In.tick {d : DiskD} {n : Nat} (h : d.In n) (hc : d.crash.w ≠ 0) : d.tick.In n := by
  have h1 := h.fine.cw
  refine ⟨⟨h.fine.ok.of rfl rfl, ⟨?_, ?_⟩, h.fine.keep, h.fine.at_, h.fine.wr⟩, h.wr, h.size⟩
  · show 0 ≤ d.crash.w - 1; omega
  · have h2 : d.crash.w ≤ (9223372036854775807 : Int) := h1.2.2
    exact fits_i64 (by show (-9223372036854775808 : Int) ≤ d.crash.w - 1; omega) (by show d.crash.w - 1 ≤ (9223372036854775807 : Int); omega)
theorem DiskD.In.write {d : DiskD} {n : Nat} (h : d.In n) (hn : n < 1000000000) (z : Int) (b : List UInt8) : (writeD d z b).1.In (n + 1) := by
  unfold writeD
  split
  · exact h.more (by omega) (by omega)
  · split
    · exact h.more (by omega) (by omega)
    · split
      · exact h.more (by omega) (by omega)
      · split
        · exact h.more (by omega) (by omega)
        · rename_i h1 h2 h3 h4
          have hp := h.put hn (z := z) (b := b) (by omega) (by omega) (by omega)
          split
          · exact hp
          · rename_i h5
            split
            · exact hp.tick h5
            · exact (hp.tick h5).fall _
theorem DiskD.In.down {d : DiskD} {n : Nat} (h : d.In n) (c : CrashD) : (downD d c).1.In n := by
  unfold downD
  split
  · exact h
  · exact h.fall c
end Go.Proofs.Ytnkjhicokcmmpaa.Sm

/-
  The chapter's first examples hold.
-/
namespace Go.Proofs.Ytnkjhicokcmmpaa.Sm
open Go Go.RowKit
def a0 : DiskD := newD 3
def a1 : DiskD := (writeD a0 0 (List.replicate 128 1)).1
def a2 : DiskD := (writeD a1 2 (List.replicate 128 1)).1
def a3 : DiskD := (writeD a2 0 (List.replicate 128 2)).1
def a4 : DiskD := (downD a3 ⟨0, [2], 0, 10⟩).1
def a5 : DiskD := ⟨[List.replicate 10 2 ++ List.replicate 118 0, List.replicate 128 0, List.replicate 128 1], [], CrashD.none, 3, false⟩
end Go.Proofs.Ytnkjhicokcmmpaa.Sm

/-
  A range over a function, met in a plain walk; a function's end behind it.
-/
namespace Go.Proofs.Ytnkjhicokcmmpaa
open Go.RowKit Go.Shelf

theorem Fr.putObj {S : Nat → Prop} {a w : World} (h : Fr S a w) {D : Nat} (hD : S D ∨ a.heap.size ≤ D) (o : Obj) : Fr S a (w.putObj D o) :=
  h.grown (grownBy_putObj' w D o) (fun k hk => by cases hk; exact hD)
theorem Blk.putObj {w : World} {b : Nat} {T : TypeId} {l : List Value} (h : Blk w b T l) {D : Nat} (hD : b ≠ D) (o : Obj) : Blk (w.putObj D o) b T l := (World.putObj_heap_other (fun e => hD e)).trans h
/-- The block at which a loop's deferred calls lie holds no cells. -/
theorem Blk.neDef {w : World} {b D : Nat} {T : TypeId} {l : List Value} {o : Option (List Deferred)} (h : Blk w b T l) (hD : w.heap[D]? = some (.deferred o)) : b ≠ D := by
  intro e
  subst e
  have := h.symm.trans hD
  simp at this

variable {P : Program}
/-- A range over a function in a plain walk. -/
theorem wp_range {α : Type} {g : Operand} {ps : Array Tmp} {assign body : Code} {Q : Exit → Act → World → Prop} {a : Act} {w : World}
    {gf : Nat} {lb : Array Value} (hg : a.eval g = .func (.func gf) #[] lb) (eg : ∀ args w, (callFunc gf args).run P w = .ok (.enter gf args) w)
    {encs : α → Array Value} {Kp : World → World → Prop} {S Sp : List α → Prop} {N : Nat} {w0 : World} (hseq : SeqStopsK Fence.wide 4 P gf lb encs Kp S Sp N w0)
    (hKt : ∀ {A B C : World}, Kp A B → Kp B C → Kp A C) (hKb : ∀ (W : World) (l : Nat) (o o' : Obj), w.heap.size ≤ l → W.heap[l]? = some o → o.isCells = false → o.isWalk = false → Kp W (W.putObj l o')) (hb0 : Below w0.heap.size w0 w) (hps : ∀ x, (encs x).size = ps.size)
    (I : List α → World → Prop) (Ix : Code → List α → World → Prop) (hI : OwnFrom w.heap.size I) (hIx : ∀ c, OwnFrom w.heap.size (Ix c)) (h0 : I [] w) (a₁ : α → Act)
    (hassign : ∀ (l : Nat) (x : α) (W : World) (K : Act → World → Prop), K (a₁ x) W →
      assign.wpIn (Fence.wide.inRound l) 3 P (Exit.then K (fun _ _ _ => False)) { tmps := (ps.zip (encs x)).foldl (fun t (p, v) => t.setIfInBounds p v) a.tmps, defers := [] } W)
    (hbody : ∀ (l : Nat) (pre : List α) (x : α) (W : World), I pre W → pre.length < N → body.wpIn (Fence.wide.inRound l) 3 P (ownPostK Kp I Ix (pre ++ [x]) W) (a₁ x) W)
    (hdone : ∀ (D : Nat) (xs : List α) (W : World), w.heap.size ≤ D → S xs → I xs W → W.heap[D]? = some (.deferred (some [])) → Q .normal { a with defers := { target := .collected D, args := #[] } :: a.defers } W)
    (hstop : ∀ (D : Nat) (c : Code) (pre : List α) (W : World), w.heap.size ≤ D → Sp pre → Ix c pre W → W.heap[D]? = some (.deferred (some [])) → c.wp P Q { a with defers := { target := .collected D, args := #[] } :: a.defers } W) :
    (Code.rangeFunc g ps assign body).wp P Q a w :=
  wpIn_wide.1 (wpIn_rangeFunc_ownF (n := 5) rfl (by omega) hg trivial eg hseq hKt hKb hb0 hps I Ix hI hIx h0 a₁ hassign hbody hdone (fun D c pre W h1 h2 h3 h4 => wpIn_wide.2 (hstop D c pre W h1 h2 h3 h4)))

/-- A post in which no panic is borne. -/
def noPanic (Q : Exit → Act → World → Prop) : Exit → Act → World → Prop
  | .panic _, _, _ => False
  | e, a, w => Q e a w
theorem noPanic_le {Q : Exit → Act → World → Prop} (e : Exit) (a : Act) (w : World) (h : noPanic Q e a w) : Q e a w := by
  cases e <;> first | exact h | exact h.elim

/-- A function that holds a range over a function, entered by a plain walk. -/
theorem calls_of_marks {f : FuncId} {fn : Func} {c : Code} {args : Array Value} {w : World} {R : Ending → World → Prop} (hf : P.funcs[f]? = some fn) (hb : fn.body = some c)
    (h : c.wp P (noPanic (bodyPostM Fence.wide 5 P fn R)) { tmps := args ++ Array.replicate (fn.ntmps - args.size) undef, defers := [] } w) : Calls P f args w R :=
  callsIn_wide.1 (callsIn_of_wp_marks (F := Fence.wide) (n := 5) hf hb trivial (wpIn_wide.2 (wp_mono h noPanic_le)) rfl)

/-- Its end, behind one loop. -/
theorem end_marks {fn : Func} {R : Ending → World → Prop} {tmps : Array Value} {D : Nat} {w : World} {v : Value} (hK : w.heap[D]? = some (.deferred (some [])))
    (hr : (results fn tmps).run P (w.putObj D (.deferred none)) = .ok v (w.putObj D (.deferred none))) (h : R (.returned v) (w.putObj D (.deferred none))) :
    noPanic (bodyPostM Fence.wide 5 P fn R) .ret { tmps := tmps, defers := [{ target := .collected D, args := #[] }] } w := by
  show LeavesInM Fence.wide 5 P fn tmps R [_] .returning w
  refine ⟨by simp, .inl ⟨_, _, rfl, run_takeDeferred hK, ?_⟩⟩
  exact ⟨v, hr, h⟩

end Go.Proofs.Ytnkjhicokcmmpaa

/-
  The reader of bytes: the bytes that are left, told one by one.
-/
namespace Go.Proofs.Ytnkjhicokcmmpaa
open Go.RowKit Go.Shelf
attribute [local go_sem] Oper.semAt_some

/-- A reader in block rb: its bytes, and how many were read. -/
structure RdAt (w : World) (rb : Nat) (v : Value) (bs : List UInt8) (pos : Nat) : Prop where
  blk : Blk w rb 149 [v, .int .i64 pos, .bool true]
  own : Own w 5 1 v bs.length (bs.map byt)
theorem RdAt.fr {S : Nat → Prop} {w w' : World} {rb pos : Nat} {v : Value} {bs : List UInt8} (h : RdAt w rb v bs pos) (hf : Fr S w w') (h1 : ¬ S rb) (h2 : ∀ k, v.ownBlock = some k → ¬ S k) : RdAt w' rb v bs pos :=
  ⟨h.blk.fr hf h1, h.own.fr hf h2⟩
theorem RdAt.no {w w' : World} {rb pos : Nat} {v : Value} {bs : List UInt8} (h : RdAt w rb v bs pos) (hf : Fr No w w') : RdAt w' rb v bs pos := h.fr hf (No.no _) (fun _ _ => No.no _)
theorem RdAt.ne {w : World} {rb pos : Nat} {v : Value} {bs : List UInt8} (h : RdAt w rb v bs pos) : ∀ k, v.ownBlock = some k → k ≠ rb := h.blk.neOwn h.own (by decide)

/-- The first k of some bytes, each with its place. -/
def told (l : List UInt8) (k : Nat) : List (Nat × UInt8) := (List.range k).map fun i => (i, l[i]?.getD 0)
def toldAll (l : List UInt8) : List (Nat × UInt8) := told l l.length
theorem told_succ (l : List UInt8) (k : Nat) : told l (k + 1) = told l k ++ [(k, l[k]?.getD 0)] := by simp [told, List.range_succ]
theorem told_len (l : List UInt8) (k : Nat) : (told l k).length = k := by simp [told]
theorem told_prefix {l : List UInt8} {k : Nat} (hk : k ≤ l.length) : told l k <+: toldAll l := by
  unfold toldAll told
  obtain ⟨d, hd⟩ := Nat.exists_eq_add_of_le hk
  rw [hd, List.range_add, List.map_append]
  exact List.prefix_append _ _

set_option maxRecDepth 100000 in
set_option maxHeartbeats 2000000 in
theorem ahead1_in (n : Nat) (hn : 1 ≤ n) (l Bs n₀ rb pos : Nat) (v : Value) (bs : List UInt8) (hpos : pos ≤ bs.length) (hlen : bs.length ≤ 1000000) (J Jx : List (Nat × UInt8) → World → Prop)
    (hY : ∀ pre x W, J pre W → pre.length < (bs.drop pos).length → YieldAt Fence.wide (n - 1) Try.prog l #[.int .i64 (x.1 : Nat), byt x.2] W fun e W' =>
      (e = .returned (.bool true) ∧ J (pre ++ [x]) W' ∧ Below n₀ W W') ∨ (e = .returned (.bool false) ∧ Jx (pre ++ [x]) W'))
    (W : World) (hBs : Blk W Bs 115 [.pointer (some ⟨rb, 0, none⟩)]) (hR : RdAt W rb v bs pos) (hn0 : ∀ k, v.ownBlock = some k → k < n₀) (hN : ∀ N, J [] (W.drewN N)) :
    CallsIn Fence.wide n Try.prog 138 #[.func (.yield l) #[] #[], .pointer (some ⟨Bs, 0, none⟩)] W fun e W' => (∃ v, e = .returned v) ∧
      ((∃ ys, ys = toldAll (bs.drop pos) ∧ J ys W') ∨ (∃ pre, pre <+: toldAll (bs.drop pos) ∧ Jx pre W')) := by
  have b0 := hBs.cell (j := 0) rfl
  have r0 := hR.blk.cell (j := 0) rfl
  have r1 := hR.blk.cell (j := 1) rfl
  obtain ⟨a, c, rfl, hw⟩ := Win.of_own hR.own
  have hcap := hw.cap
  have hmax := hw.max
  unfold maxLen at hmax
  have hbl := hBs.lt
  have hrl := hR.blk.lt
  refine callsIn_of_wp Try.func138 rfl trivial ?_ rfl
  simp only [Try.ntmps138, List.size_toArray, List.length_cons, List.length_nil, Nat.reduceAdd, Nat.reduceSub, Array.replicate_succ, Array.replicate_zero, List.push_toArray, List.append_toArray, List.nil_append, List.cons_append]
  gi_wp2
  gi_quiet_th (fail)
  have hwd := hw.drop hpos
  rw [← List.map_drop] at hwd
  obtain ⟨a', ha'⟩ : ∃ a', a' = (if c = pos then a else Option.map (fun x => x.add pos) a) := ⟨_, rfl⟩
  obtain ⟨m, hm⟩ : ∃ m, m = bs.length - pos := ⟨_, rfl⟩
  have hwd : Win W a' m (c - pos) ((bs.drop pos).map byt) := by rw [ha', hm]; exact hwd
  have hlm : (bs.drop pos).length = m := by rw [List.length_drop, hm]
  have hbk : ∀ ad, a' = some ad → ad.block < n₀ := by
    intro ad hd
    rw [ha'] at hd
    split at hd
    · exact hn0 ad.block (by rw [hd]; rfl)
    · cases a with
      | none => cases hd
      | some ad0 => cases hd; rw [add_block]; exact hn0 ad0.block rfl
  rw [← ha', ← hm]
  obtain ⟨ds, hds⟩ : ∃ ds, ds = bs.drop pos := ⟨_, rfl⟩
  rw [← hds] at hwd hlm hY
  have HDS := Lib.hid hds
  have hml : m ≤ 1000000 := by omega
  have HL := Lib.hid hlm
  have HNN := Lib.hid (hN nq)
  clear hds ha' hm b0 r0 r1 hN hlm hcap hmax hbl hrl hw hpos hlen hBs hR hn0
  gi_wp2
  gi_loopw [15] (fun t wr => ∃ k : Nat, k ≤ m ∧ t = .int .i64 k ∧ J (told ds k) wr ∧ Below n₀ (W.drewN nq) wr) (fun t _ => m - (intOf t).toNat)
  case atStart => exact ⟨0, Nat.zero_le _, rfl, HNN.out, Below.refl _ _⟩
  case round =>
    obtain ⟨k, hk, rfl, hJs, hnx⟩ := hrel
    by_cases hlt : k < m
    · have hkd : k < ds.length := by rw [HL.out]; exact hlt
      obtain ⟨ad, u, rfl, hu, hcell⟩ := hwd.at hlt
      have hu' : u = byt (ds[k]?.getD 0) := by
        rw [List.getElem?_map, List.getElem?_eq_getElem hkd] at hu
        rw [List.getElem?_eq_getElem hkd]
        exact (Option.some.inj hu).symm
      subst hu'
      have hc1 : wr.cell? (ad.add k) = some (byt (ds[k]?.getD 0)) := by
        have h1 : (W.drewN nq).cell? (ad.add k) = some (byt (ds[k]?.getD 0)) := hcell
        exact (hnx.cell (p := ad.add k) (by rw [add_block]; exact hbk ad rfl)).trans h1
      obtain ⟨fn, tmps, assign, body, hy, hR⟩ := hY _ (k, ds[k]?.getD 0) wr hJs (by rw [told_len]; exact hkd)
      dsimp only at hy
      have HT : Hid (told ds (k + 1) = told ds k ++ [(k, ds[k]?.getD 0)]) := told_succ ds k
      generalize ds[k]?.getD 0 = x at *
      clear hcell hu
      gi_wp2
      refine hR.mono ?_
      rintro e W3 (⟨rfl, hJ3, hk3⟩ | ⟨rfl, hJx3⟩)
      · gi_wp2
        go_roundw
        case rel => exact ⟨k + 1, by omega, by simp, by rw [HT.out]; exact hJ3, hnx.trans hk3⟩
        case measure => (simp [intOf]; try omega)
      · gi_wp2
        refine bodyPost_ret (results_none rfl _ _ _) rfl ?_
        exact ⟨⟨_, rfl⟩, .inr ⟨_, by rw [← HDS.out, ← HT.out]; exact told_prefix (by omega), hJx3⟩⟩
    · obtain rfl : k = m := by omega
      gi_wp2
      go_end0
      exact ⟨⟨_, rfl⟩, .inl ⟨_, by unfold toldAll; rw [← HDS.out, HL.out], hJs⟩⟩

end Go.Proofs.Ytnkjhicokcmmpaa

/-
  The reader of bytes: the number that the next bytes are.
-/
namespace Go.Proofs.Ytnkjhicokcmmpaa
open Go.RowKit Go.Shelf
attribute [local go_sem] Oper.semAt_some

theorem ahead_in (n : Nat) (a : Option Addr) (w : World) :
    CallsIn Fence.wide n Try.prog 122 #[.pointer a] w fun e w' => e = .returned (.func (.func 138) #[] #[.pointer (some ⟨w.heap.size, 0, none⟩)]) ∧ w.alloc (.cells #[.pointer a] 115) = w' := by
  refine callsIn_of_wp Try.func122 rfl trivial ?_ rfl
  simp only [Try.ntmps122, List.size_toArray, List.length_cons, List.length_nil, Nat.reduceAdd, Nat.reduceSub, Array.replicate_succ, Array.replicate_zero, List.push_toArray, List.append_toArray, List.nil_append, List.cons_append]
  gi_wp2
  go_ret
  exact ⟨rfl, rfl⟩

theorem ahead_stops (n : Nat) (hn : 1 ≤ n) (Bs n₀ rb pos : Nat) (v : Value) (bs : List UInt8) (hpos : pos ≤ bs.length) (hlen : bs.length ≤ 1000000) (w : World)
    (hBs : Blk w Bs 115 [.pointer (some ⟨rb, 0, none⟩)]) (hR : RdAt w rb v bs pos) (hn0 : ∀ k, v.ownBlock = some k → k < n₀) :
    SeqStopsK Fence.wide n Try.prog 138 #[.pointer (some ⟨Bs, 0, none⟩)] (fun x : Nat × UInt8 => #[Value.int .i64 (x.1 : Nat), byt x.2]) (Below n₀) (fun ys => ys = toldAll (bs.drop pos)) (fun pre => pre <+: toldAll (bs.drop pos)) (bs.drop pos).length w := fun l J Jx W hW hJ _ hY h0 => by
  have hB' : Blk W Bs 115 [.pointer (some ⟨rb, 0, none⟩)] := (hW.block Bs hBs.lt).trans hBs
  have hR' : RdAt W rb v bs pos := hR.fr (S := fun k => w.heap.size ≤ k) ⟨hW.os, hW.tape, hW.output, hW.size, fun k hk hn => hW.block k hk⟩ (by have := hR.blk.lt; omega) (fun k hk => by have := hR.own.lt hk; omega)
  refine ahead1_in n hn l Bs n₀ rb pos v bs hpos hlen J Jx hY W hB' hR' hn0 (fun N => ?_)
  exact hJ [] W (W.drewN N) none h0 ⟨rfl, rfl, rfl, Nat.le_refl _, fun _ _ _ => rfl⟩ (fun k hk => by cases hk)

/-- The number of some bytes, the first one going highest. -/
def wh (l : List UInt8) : Nat := l.foldl (fun n c => n * 256 + c.toNat) 0

/-- The register behind bytes. -/
def accS (m : Int) (c : UInt8) : Int := bits .or .u64 (IntKind.u64.wrap (m * 256)) (IntKind.u64.wrap (c.toNat : Int))
def accN (l : List (Nat × UInt8)) : Int := l.foldl (fun n x => accS n x.2) 0
theorem accN_snoc (l : List (Nat × UInt8)) (x : Nat × UInt8) : accN (l ++ [x]) = accS (accN l) x.2 := by simp [accN]
theorem wh_snoc (l : List UInt8) (c : UInt8) : wh (l ++ [c]) = wh l * 256 + c.toNat := by simp [wh]
theorem wh_lt (l : List UInt8) : wh l < 256 ^ l.length := by
  induction hn : l.length generalizing l with
  | zero =>
    have : l = [] := List.eq_nil_of_length_eq_zero hn
    subst this
    simp [wh]
  | succ n ih =>
    rcases List.eq_nil_or_concat l with rfl | ⟨l', c, rfl⟩
    · simp at hn
    · rw [List.concat_eq_append] at *
      simp at hn
      have h1 := ih l' hn
      have h2 : c.toNat < 256 := c.toNat_lt
      rw [wh_snoc, Nat.pow_succ]
      omega
theorem wrap_u64 (a : Nat) (h : a < 2 ^ 64) : IntKind.u64.wrap (a : Int) = a := by
  simp [IntKind.wrap, IntKind.signed, IntKind.bits]
  omega
theorem accS_nat (m : Nat) (c : UInt8) (hm : m < 2 ^ 56) : accS m c = ((m * 256 + c.toNat : Nat) : Int) := by
  have hc : c.toNat < 256 := c.toNat_lt
  unfold accS
  rw [show (m : Int) * 256 = ((m * 256 : Nat) : Int) by simp, wrap_u64 _ (by omega), wrap_u64 _ (by omega), bits_or_u64_nat _ _ (by omega) (by omega)]
  congr 1
  have := Nat.shiftLeft_add_eq_or_of_lt (i := 8) (b := c.toNat) hc m
  rw [Nat.shiftLeft_eq, show (2 : Nat) ^ 8 = 256 from rfl] at this
  omega
theorem accN_eq (l : List (Nat × UInt8)) : l.length ≤ 8 → accN l = (wh (l.map (·.2)) : Nat) := by
  induction hn : l.length generalizing l with
  | zero =>
    intro _
    have : l = [] := List.eq_nil_of_length_eq_zero hn
    subst this
    rfl
  | succ n ih =>
    intro h8
    rcases List.eq_nil_or_concat l with rfl | ⟨l', c, rfl⟩
    · simp at hn
    · rw [List.concat_eq_append] at *
      simp at hn
      have h1 := ih l' hn (by omega)
      have h2 := wh_lt (l'.map (·.2))
      rw [List.length_map, hn] at h2
      have h3 : 256 ^ n ≤ 256 ^ 7 := Nat.pow_le_pow_right (by decide) (by omega)
      rw [accN_snoc, h1, accS_nat _ _ (by omega), List.map_append]
      show _ = ((wh (l'.map (·.2) ++ [c.2]) : Nat) : Int)
      rw [wh_snoc]
theorem told_snd (l : List UInt8) (k : Nat) (hk : k ≤ l.length) : (told l k).map (·.2) = l.take k := by
  apply List.ext_getElem
  · simp [told]; omega
  · intro i h1 h2
    simp [told] at h1 ⊢
    have : i < l.length := by omega
    simp [this]
theorem told_mem (l : List UInt8) {k i : Nat} (hi : i < k) : (i, l[i]?.getD 0) ∈ told l k := List.mem_map.2 ⟨i, by simpa using hi, rfl⟩

/-- A world in which two boxes were stored to, and the block of deferred calls is struck. -/
theorem two_boxes {w W : World} {N1 N2 D : Nat} {T1 T2 : TypeId} {x1 x2 y1 y2 : Value} (h1 : Blk W N1 T1 [x1]) (h2 : Blk W N2 T2 [x2]) (hne : N1 ≠ N2) (hK : W.heap[D]? = some (.deferred (some []))) (hf : Fr (fun k => k = N1 ∨ k = N2) w W) (hD : w.heap.size ≤ D) (o : Obj) :
    (((W.setCell ⟨N1, 0, none⟩ y1).setCell ⟨N2, 0, none⟩ y2).drew).heap[D]? = some (.deferred (some [])) ∧ Blk ((((W.setCell ⟨N1, 0, none⟩ y1).setCell ⟨N2, 0, none⟩ y2).drew).putObj D o) N1 T1 [y1] ∧ Blk ((((W.setCell ⟨N1, 0, none⟩ y1).setCell ⟨N2, 0, none⟩ y2).drew).putObj D o) N2 T2 [y2] ∧ Fr (fun k => k = N1 ∨ k = N2) w ((((W.setCell ⟨N1, 0, none⟩ y1).setCell ⟨N2, 0, none⟩ y2).drew).putObj D o) := by
  have n1 := h1.neDef hK
  have n2 := h2.neDef hK
  have b1 : Blk (((W.setCell ⟨N1, 0, none⟩ y1).setCell ⟨N2, 0, none⟩ y2).drew) N1 T1 [y1] := ((h1.set 0 y1).other (by show N1 ≠ N2; exact hne) y2).drew
  have b2 : Blk (((W.setCell ⟨N1, 0, none⟩ y1).setCell ⟨N2, 0, none⟩ y2).drew) N2 T2 [y2] := ((h2.other (by show N2 ≠ N1; exact fun e => hne e.symm) y1).set 0 y2).drew
  have hk : (((W.setCell ⟨N1, 0, none⟩ y1).setCell ⟨N2, 0, none⟩ y2).drew).heap[D]? = some (.deferred (some [])) := by
    refine Eq.trans (Below.heap_setCell _ ⟨N2, 0, none⟩ y2 D (fun e => n2 e.symm)) ?_
    exact Eq.trans (Below.heap_setCell _ ⟨N1, 0, none⟩ y1 D (fun e => n1 e.symm)) hK
  refine ⟨hk, b1.putObj n1 o, b2.putObj n2 o, ?_⟩
  exact (((hf.setCell (p := ⟨N1, 0, none⟩) (.inl (.inl rfl)) y1).setCell (p := ⟨N2, 0, none⟩) (.inl (.inr rfl)) y2).drew).putObj (.inr hD) o

set_option maxRecDepth 100000 in
set_option maxHeartbeats 4000000 in
theorem number_any (rb pos size : Nat) (v : Value) (bs : List UInt8) (hpos : pos ≤ bs.length) (hlen : bs.length ≤ 1000000) (hs1 : 1 ≤ size) (hs8 : size ≤ 8) (w : World) (h : RdAt w rb v bs pos) :
    Calls Try.prog 109 #[.pointer (some ⟨rb, 0, none⟩), .int .i64 size] w fun e w' =>
      (∃ x : Int, e = .returned (.tuple #[.int .u64 x, .bool (decide (pos + size ≤ bs.length))]) ∧ (pos + size ≤ bs.length → x = wh ((bs.drop pos).take size))) ∧ Fr No w w' := by
  refine calls_of_marks Try.func109 rfl ?_
  simp only [Try.ntmps109, List.size_toArray, List.length_cons, List.length_nil, Nat.reduceAdd, Nat.reduceSub, Array.replicate_succ, Array.replicate_zero, List.push_toArray, List.append_toArray, List.nil_append, List.cons_append]
  go_wp2
  go_step3
  go_wp2
  go_step3
  go_wp2_with (go_at_call 122; refine (callsIn_wide.1 (ahead_in 5 _ _)).mono ?_; rintro e w1 ⟨rfl, rfl⟩)
  have hS : Blk ((((w.alloc (.cells #[.int .i64 size] 3)).alloc (.cells #[.int .u64 0] 22)).alloc (.cells #[.bool false] 4)).alloc (.cells #[.pointer (some ⟨rb, 0, none⟩)] 115)) w.heap.size 3 [.int .i64 size] := (((Blk.new w _ _).alloc _).alloc _).alloc _
  have hN : Blk ((((w.alloc (.cells #[.int .i64 size] 3)).alloc (.cells #[.int .u64 0] 22)).alloc (.cells #[.bool false] 4)).alloc (.cells #[.pointer (some ⟨rb, 0, none⟩)] 115)) (w.heap.size + 1) 22 [.int .u64 0] := by
    have := Blk.new (w.alloc (.cells #[.int .i64 size] 3)) 22 [.int .u64 0]
    rw [World.size_alloc] at this
    exact (this.alloc _).alloc _
  have hI : Blk ((((w.alloc (.cells #[.int .i64 size] 3)).alloc (.cells #[.int .u64 0] 22)).alloc (.cells #[.bool false] 4)).alloc (.cells #[.pointer (some ⟨rb, 0, none⟩)] 115)) (w.heap.size + 1 + 1) 4 [.bool false] := by
    have := Blk.new ((w.alloc (.cells #[.int .i64 size] 3)).alloc (.cells #[.int .u64 0] 22)) 4 [.bool false]
    rw [World.size_alloc, World.size_alloc] at this
    exact this.alloc _
  have hX : Blk ((((w.alloc (.cells #[.int .i64 size] 3)).alloc (.cells #[.int .u64 0] 22)).alloc (.cells #[.bool false] 4)).alloc (.cells #[.pointer (some ⟨rb, 0, none⟩)] 115)) (w.heap.size + 1 + 1 + 1) 115 [.pointer (some ⟨rb, 0, none⟩)] := by
    have := Blk.new (((w.alloc (.cells #[.int .i64 size] 3)).alloc (.cells #[.int .u64 0] 22)).alloc (.cells #[.bool false] 4)) 115 [.pointer (some ⟨rb, 0, none⟩)]
    rwa [World.size_alloc, World.size_alloc, World.size_alloc] at this
  have hfr1 : Fr No w ((((w.alloc (.cells #[.int .i64 size] 3)).alloc (.cells #[.int .u64 0] 22)).alloc (.cells #[.bool false] 4)).alloc (.cells #[.pointer (some ⟨rb, 0, none⟩)] 115)) := ((((Fr.refl No w).alloc _).alloc _).alloc _).alloc _
  generalize (((w.alloc (.cells #[.int .i64 size] 3)).alloc (.cells #[.int .u64 0] 22)).alloc (.cells #[.bool false] 4)).alloc (.cells #[.pointer (some ⟨rb, 0, none⟩)] 115) = w1 at *
  have h1 := h.no hfr1
  have hz := hX.lt
  have hrl := h.blk.lt
  have hvl : ∀ k, v.ownBlock = some k → k < w.heap.size := fun k hk => h.own.lt hk
  refine wp_range (gf := 138) (lb := #[.pointer (some ⟨w.heap.size + 1 + 1 + 1, 0, none⟩)]) rfl (enters_of Try.func138 (by kernel_rfl) rfl)
    (ahead_stops 4 (by omega) (w.heap.size + 1 + 1 + 1) w.heap.size rb pos v bs hpos hlen w1 hX h1 hvl) belowK_t (belowK_b (by omega)) (Below.refl _ _) (fun _ => rfl)
    (fun pre W => Blk W (w.heap.size + 1) 22 [.int .u64 (accN pre)] ∧ (∀ x ∈ pre, x.1 + 1 ≠ size) ∧ Fr (fun k => k = w.heap.size + 1) w1 W)
    (fun c pre W => c = .exit 0 ∧ ∃ pre' x, pre = pre' ++ [x] ∧ x.1 + 1 = size ∧ (∀ x ∈ pre', x.1 + 1 ≠ size) ∧ Blk W (w.heap.size + 1) 22 [.int .u64 (accN pre)] ∧ Blk W (w.heap.size + 1 + 1) 4 [.bool true] ∧ Fr (fun k => k = w.heap.size + 1 ∨ k = w.heap.size + 1 + 1) w1 W)
    ?hI ?hIx ⟨hN, by simp, Fr.refl _ _⟩ (fun x : Nat × UInt8 => { tmps := #[.pointer (some ⟨rb, 0, none⟩), .int .i64 size, undef, .pointer (some ⟨w.heap.size, 0, none⟩), .pointer (some ⟨w.heap.size + 1, 0, none⟩), .pointer (some ⟨w.heap.size + 1 + 1, 0, none⟩), .int .i64 (x.1 : Nat), byt x.2, .pointer (some ⟨rb, 0, none⟩), .func (.func 138) #[] #[.pointer (some ⟨w.heap.size + 1 + 1 + 1, 0, none⟩)], .int .i64 (x.1 : Nat), byt x.2, undef, undef, undef, undef, undef, undef, undef, undef, undef, undef, undef], defers := [] }) ?assign ?body ?done ?stop
  case hI =>
    rintro s A B row ⟨h1, h2, h3⟩ hg hr
    exact ⟨h1.fr ((Fr.refl (fun k => w1.heap.size ≤ k) A).grown hg (fun k hk => .inl (hr k hk).1)) (by omega), h2, h3.grown hg (fun k hk => .inr (hr k hk).1)⟩
  case hIx =>
    rintro cc s A B row ⟨h0, pre', x, h1, h2, h3, h4, h5, h6⟩ hg hr
    exact ⟨h0, pre', x, h1, h2, h3, h4.fr ((Fr.refl (fun k => w1.heap.size ≤ k) A).grown hg (fun k hk => .inl (hr k hk).1)) (by omega), h5.fr ((Fr.refl (fun k => w1.heap.size ≤ k) A).grown hg (fun k hk => .inl (hr k hk).1)) (by omega), h6.grown hg (fun k hk => .inr (hr k hk).1)⟩
  case assign =>
    intro ll x W K hK
    gi_wp2
    exact hK
  case body =>
    rintro ll pre x W ⟨hW1, hW2, hW3⟩ _
    have hb0 := hW1.cell (j := 0) rfl
    have hbf := hW1.free
    have hbl := hW1.lt
    have hSW := hS.fr hW3 (by omega)
    have hIW := hI.fr hW3 (by omega)
    have s0 := hSW.cell (j := 0) rfl
    have i0 := hIW.cell (j := 0) rfl
    have if' := hIW.free
    have il := hIW.lt
    have hw1 : IntKind.i64.wrap ((size : Int) - 1) = (size : Int) - 1 := by rw [IntKind.wrap_i64]; omega
    obtain ⟨i, c⟩ := x
    obtain ⟨m, hm⟩ : ∃ m, m = accN pre := ⟨_, rfl⟩
    rw [← hm] at hb0
    have HM := Lib.hid hm
    clear hm
    by_cases hi : i + 1 = size
    · have ht : ((i : Int) == (size : Int) - 1) = true := by simp; omega
      unfold byt
      gi_wp2
      refine ⟨((KeepsOthers.setCell _ _ _).trans (KeepsOthers.setCell _ _ _)), rfl, pre, (i, c), rfl, hi, hW2, ?_, ?_, ?_⟩
      · rw [accN_snoc, ← HM.out]
        exact (hW1.set 0 _).other (by show w.heap.size + 1 ≠ w.heap.size + 1 + 1; omega) _
      · exact (hIW.other (by show w.heap.size + 1 + 1 ≠ w.heap.size + 1; omega) _).set 0 _
      · exact ((hW3.mono (fun k hk => .inl hk)).setCell (p := ⟨w.heap.size + 1, 0, none⟩) (.inl (.inl rfl)) _).setCell (p := ⟨w.heap.size + 1 + 1, 0, none⟩) (.inl (.inr rfl)) _
    · have ht : ((i : Int) == (size : Int) - 1) = false := by simp; omega
      unfold byt
      gi_wp2
      refine ⟨KeepsOthers.setCell _ _ _, (Below.refl _ _).setCell (p := ⟨w.heap.size + 1, 0, none⟩) (by show w.heap.size ≤ w.heap.size + 1; omega) _, ?_, ?_, hW3.setCell (p := ⟨w.heap.size + 1, 0, none⟩) (.inl rfl) _⟩
      · rw [accN_snoc, ← HM.out]
        exact hW1.set 0 _
      · intro x hx
        rcases List.mem_append.1 hx with hx | hx
        · exact hW2 x hx
        · simp at hx; subst hx; exact hi
  case done =>
    rintro D ys W hD rfl ⟨hW1, hW2, hW3⟩ hK
    have hno : ¬ pos + size ≤ bs.length := by
      intro hle
      have h1 : size - 1 < (bs.drop pos).length := by rw [List.length_drop]; omega
      exact hW2 _ (told_mem (bs.drop pos) h1) (by show size - 1 + 1 = size; omega)
    have hb0 := hW1.cell (j := 0) rfl
    have hbf := hW1.free
    have hbl := hW1.lt
    have hIW := hI.fr hW3 (by omega)
    have i0 := hIW.cell (j := 0) rfl
    have if' := hIW.free
    have il := hIW.lt
    go_wp2
    go_region
    all_goals go_wp2
    all_goals
      rw [Exit.noGoto_ret]
      obtain ⟨hk2, q1, q2, q3⟩ := two_boxes hW1 hIW (by omega) hK (hW3.mono (fun k hk => .inl hk)) hD (.deferred none) (y1 := .int .u64 (accN (toldAll (List.drop pos bs)))) (y2 := .bool false)
      have z1 := q1.cell (j := 0) rfl
      have z2 := q2.cell (j := 0) rfl
      have l1 := q1.lt
      have l2 := q2.lt
      refine end_marks (v := .tuple #[.int .u64 (accN (toldAll (List.drop pos bs))), .bool false]) hk2 (by simp [results, Try.results109, go_sem, z1, z2]) ⟨⟨_, by rw [decide_eq_false hno], fun hc => absurd hc hno⟩, ?_⟩
      exact hfr1.trans q3 (fun k hk => .inr (by omega))
  case stop =>
    rintro D cc pre W hD hSp ⟨rfl, pre', x, rfl, hx, hpre, hW1, hIW, hW3⟩ hK
    have hpl := hSp.length_le
    obtain ⟨k, hk⟩ : ∃ k, pre' ++ [x] = told (bs.drop pos) k ∧ k ≤ (bs.drop pos).length := by
      refine ⟨(pre' ++ [x]).length, ?_, ?_⟩
      · have h2 := told_prefix (l := bs.drop pos) (k := (pre' ++ [x]).length) (by unfold toldAll at hpl; rwa [told_len] at hpl)
        exact (List.prefix_of_prefix_length_le hSp h2 (by rw [told_len]; exact Nat.le_refl _)).eq_of_length (by rw [told_len])
      · unfold toldAll at hpl; rwa [told_len] at hpl
    obtain ⟨hk, hkl⟩ := hk
    have hk1 : k = pre'.length + 1 := by
      have := congrArg List.length hk
      rw [told_len] at this
      simpa using this.symm
    have hxl : x = (pre'.length, (bs.drop pos)[pre'.length]?.getD 0) := by
      rw [hk1, told_succ] at hk
      have := List.append_inj_right hk (by rw [told_len])
      simpa using this
    have hsz : k = size := by rw [hxl] at hx; omega
    have hyes : pos + size ≤ bs.length := by rw [List.length_drop] at hkl; omega
    have hval : accN (pre' ++ [x]) = (wh ((bs.drop pos).take size) : Nat) := by
      rw [hk, accN_eq _ (by rw [told_len]; omega), told_snd _ _ hkl, hsz]
    have hb0 := hW1.cell (j := 0) rfl
    have hbf := hW1.free
    have hbl := hW1.lt
    have i0 := hIW.cell (j := 0) rfl
    have if' := hIW.free
    have il := hIW.lt
    have HV := Lib.hid hval
    clear hval hxl hk hSp
    generalize accN (pre' ++ [x]) = m at *
    go_wp2
    go_region
    all_goals go_wp2
    all_goals
      rw [Exit.noGoto_ret]
      obtain ⟨hk2, q1, q2, q3⟩ := two_boxes hW1 hIW (by omega) hK hW3 hD (.deferred none) (y1 := .int .u64 m) (y2 := .bool true)
      have z1 := q1.cell (j := 0) rfl
      have z2 := q2.cell (j := 0) rfl
      refine end_marks (v := .tuple #[.int .u64 m, .bool true]) hk2 (by simp [results, Try.results109, go_sem, z1, z2]) ⟨⟨_, by rw [decide_eq_true hyes], fun _ => HV.out⟩, ?_⟩
      exact hfr1.trans q3 (fun k hk => .inr (by omega))

end Go.Proofs.Ytnkjhicokcmmpaa

/-
  The reader of bytes: numbers, raw bytes, a new reader.
-/
namespace Go.Proofs.Ytnkjhicokcmmpaa
open Go.RowKit Go.Shelf
attribute [local go_sem] Oper.semAt_some

theorem rnone_no (rb pos : Nat) (v : Value) (bs : List UInt8) (w : World) (h : RdAt w rb v bs pos) :
    Calls Try.prog 107 #[.pointer (some ⟨rb, 0, none⟩)] w fun e w' => e = .returned (.bool false) ∧ w = w' := by
  have r2 := h.blk.cell (j := 2) rfl
  go_enter Try.func107, Try.ntmps107
  go_wp2
  go_ret
  exact ⟨rfl, rfl⟩

theorem rleft_any (rb pos : Nat) (v : Value) (bs : List UInt8) (hpos : pos ≤ bs.length) (hl : bs.length ≤ 1000000) (w : World) (h : RdAt w rb v bs pos) :
    Calls Try.prog 108 #[.pointer (some ⟨rb, 0, none⟩)] w fun e w' => e = .returned (.int .i64 ((bs.length - pos : Nat) : Int)) ∧ Fr No w w' := by
  have r0 := h.blk.cell (j := 0) rfl
  have r1 := h.blk.cell (j := 1) rfl
  obtain ⟨a, c, rfl⟩ := own_slice h.own
  have hw : IntKind.i64.wrap ((bs.length : Int) - (pos : Int)) = ((bs.length - pos : Nat) : Int) := by rw [IntKind.wrap_i64]; omega
  have hrl := h.blk.lt
  go_enter Try.func108, Try.ntmps108
  go_wp2_with (go_at_call 107; refine (rnone_no rb pos _ bs _ h).mono ?_; rintro e w1 ⟨rfl, rfl⟩)
  go_quiet (fail)
  go_wp2
  go_ret
  exact ⟨rfl, (Fr.refl No w).drewN _⟩

/-- A reader's place has moved. -/
theorem RdAt.moved {w : World} {rb pos : Nat} {v : Value} {bs : List UInt8} (h : RdAt w rb v bs pos) (q : Nat) : RdAt (w.setCell ⟨rb, 1, none⟩ (.int .i64 q)) rb v bs q :=
  ⟨h.blk.set 1 _, h.own.other (fun e => h.ne _ e rfl) _⟩

set_option maxHeartbeats 1000000 in
theorem rnum_yes (rb pos size : Nat) (v : Value) (bs : List UInt8) (hpos : pos + size ≤ bs.length) (hl : bs.length ≤ 1000000) (hs : size = 1 ∨ size = 2 ∨ size = 4 ∨ size = 8) (w : World) (h : RdAt w rb v bs pos) :
    Calls Try.prog 73 #[.pointer (some ⟨rb, 0, none⟩), .int .i64 size] w fun e w' => e = .returned (.tuple #[.int .u64 (wh ((bs.drop pos).take size) : Nat), .int .i64 0]) ∧ RdAt w' rb v bs (pos + size) ∧ Fr (fun k => k = rb) w w' := by
  have hd : decide (pos + size ≤ bs.length) = true := decide_eq_true hpos
  have hw : IntKind.i64.wrap ((pos : Int) + (size : Int)) = ((pos + size : Nat) : Int) := by rw [IntKind.wrap_i64]; omega
  have HP := Lib.hid hpos
  clear hpos
  go_enter Try.func73, Try.ntmps73
  go_wp2_with (first | (go_at_call 107; refine (rnone_no rb pos _ bs _ h).mono ?_; rintro e w1 ⟨rfl, rfl⟩) | (go_at_call 103; refine (sized_yes _ hs _).mono ?_; rintro e w1 ⟨rfl, rfl⟩) | (go_at_call 109; refine (number_any rb pos size v bs (by have := HP.out; omega) hl (by omega) (by omega) _ h).mono ?_; rintro e w1 ⟨⟨x, rfl, hx⟩, hf1⟩; rw [hd]; have h1 := h.no hf1; have r1 := h1.blk.cell (j := 1) rfl; have rl := h1.blk.lt; have rf := h1.blk.free))
  go_ret2
  exact ⟨by rw [hx HP.out]; rfl, h1.moved (pos + size), (hf1.no_any (S := fun k => k = rb)).setCell (p := ⟨rb, 1, none⟩) (.inl rfl) _⟩

set_option maxHeartbeats 1000000 in
theorem rnum_no (rb pos size : Nat) (v : Value) (bs : List UInt8) (hpos : pos ≤ bs.length) (hno : ¬ pos + size ≤ bs.length) (hl : bs.length ≤ 1000000) (hs : size = 1 ∨ size = 2 ∨ size = 4 ∨ size = 8) (w : World) (h : RdAt w rb v bs pos) :
    Calls Try.prog 73 #[.pointer (some ⟨rb, 0, none⟩), .int .i64 size] w fun e w' => e = .returned (.tuple #[.int .u64 0, .int .i64 10]) ∧ Fr No w w' := by
  have hd : decide (pos + size ≤ bs.length) = false := decide_eq_false hno
  have HN := Lib.hid hno
  clear hno
  go_enter Try.func73, Try.ntmps73
  go_wp2_with (first | (go_at_call 107; refine (rnone_no rb pos _ bs _ h).mono ?_; rintro e w1 ⟨rfl, rfl⟩) | (go_at_call 103; refine (sized_yes _ hs _).mono ?_; rintro e w1 ⟨rfl, rfl⟩) | (go_at_call 109; refine (number_any rb pos size v bs hpos hl (by omega) (by omega) _ h).mono ?_; rintro e w1 ⟨⟨x, rfl, hx⟩, hf1⟩; rw [hd]))
  go_ret2
  exact ⟨rfl, hf1⟩

set_option maxHeartbeats 1000000 in
theorem rraw_yes (rb pos n : Nat) (v : Value) (bs : List UInt8) (hpos : pos + n ≤ bs.length) (hl : bs.length ≤ 1000000) (w : World) (h : RdAt w rb v bs pos) :
    Calls Try.prog 72 #[.pointer (some ⟨rb, 0, none⟩), .int .i64 n] w fun e w' => ∃ v', e = .returned (.tuple #[v', .int .i64 0]) ∧ Own w' 5 1 v' n (((bs.drop pos).take n).map byt) ∧ (∀ k, v'.ownBlock = some k → w.heap.size ≤ k) ∧ RdAt w' rb v bs (pos + n) ∧ Fr (fun k => k = rb) w w' := by
  have hw : IntKind.i64.wrap ((pos : Int) + (n : Int)) = ((pos + n : Nat) : Int) := by rw [IntKind.wrap_i64]; omega
  have hgt : decide (bs.length - pos < n) = false := by simp; omega
  obtain ⟨a, c, rfl, hwin⟩ := Win.of_own h.own
  have hcap := hwin.cap
  have hmax := hwin.max
  unfold maxLen at hmax
  have hp0 : pos ≤ bs.length := by omega
  have hwd := (hwin.drop hp0).take (k := n) (by omega)
  rw [← List.map_drop, ← List.map_take] at hwd
  obtain ⟨a', ha'⟩ : ∃ a', a' = (if c = pos then a else Option.map (fun x => x.add pos) a) := ⟨_, rfl⟩
  have HA := Lib.hid ha'
  have hwd : Win w a' n (c - pos) (((bs.drop pos).take n).map byt) := by rw [ha']; exact hwd
  have HW := Lib.hid hwd
  have hle1 : (pos : Int) ≤ ((pos + n : Nat) : Int) := by omega
  have hle2 : ((pos + n : Nat) : Int) ≤ (c : Int) := by omega
  have hsub : pos + n - pos = n := by omega
  have r0 := h.blk.cell (j := 0) rfl
  have r1 := h.blk.cell (j := 1) rfl
  have rl := h.blk.lt
  have rf := h.blk.free
  have HH := Lib.hid h
  have hnl : n ≤ 1000000 := by omega
  clear hwd ha' hwin hpos h
  go_enter Try.func72, Try.ntmps72
  go_wp2_with (first | (go_at_call 107; refine (rnone_no rb pos _ bs _ HH.out).mono ?_; rintro e w1 ⟨rfl, rfl⟩) | (go_at_call 108; refine (rleft_any rb pos _ bs hp0 hl _ HH.out).mono ?_; rintro e w1 ⟨rfl, hf1⟩; have h1 := HH.out.no hf1; have s0 := h1.blk.cell (j := 0) rfl; have s1 := h1.blk.cell (j := 1) rfl; have sl := h1.blk.lt; have sf := h1.blk.free))
  go_quiet (fail)
  rw [← HA.out]
  rename Nat => nq
  obtain ⟨w2, hw2⟩ : ∃ w2, w2 = w1.drewN nq := ⟨_, rfl⟩
  rw [← hw2]
  have hf2 : Fr No w w2 := by rw [hw2]; exact hf1.drewN _
  clear hw2 h1 s0 s1 sl sf
  have h2 := HH.out.no hf2
  have s0 := h2.blk.cell (j := 0) rfl
  have s1 := h2.blk.cell (j := 1) rfl
  have sl := h2.blk.lt
  have sf := h2.blk.free
  have hf3 : Fr (fun k => k = rb) w (w2.setCell ⟨rb, 1, none⟩ (.int .i64 ((pos + n : Nat) : Int))) := (hf2.no_any (S := fun k => k = rb)).setCell (p := ⟨rb, 1, none⟩) (.inl rfl) _
  have hb' : ∀ ad, a' = some ad → ad.block ≠ rb := by
    intro ad hd
    rw [HA.out] at hd
    split at hd
    · exact HH.out.ne ad.block (by rw [hd]; rfl)
    · cases a with
      | none => cases hd
      | some ad0 => cases hd; rw [add_block]; exact HH.out.ne ad0.block rfl
  go_wp2_with (go_at_call 89; refine (cloneB_any a' n (c - pos) ((bs.drop pos).take n) _ ?_ hnl).mono ?_; exact HW.out.fr hf3 hb'; rintro e w3 ⟨v3, rfl, hc3⟩)
  go_ret2
  exact ⟨v3, rfl, hc3.own, fun k hk => Nat.le_trans hf3.size (hc3.new k hk), (h2.moved (pos + n)).no hc3.fr, hf3.thn hc3.fr⟩

set_option maxHeartbeats 1000000 in
theorem rraw_no (rb pos n : Nat) (v : Value) (bs : List UInt8) (hpos : pos ≤ bs.length) (hno : ¬ pos + n ≤ bs.length) (hl : bs.length ≤ 1000000) (w : World) (h : RdAt w rb v bs pos) :
    Calls Try.prog 72 #[.pointer (some ⟨rb, 0, none⟩), .int .i64 n] w fun e w' => e = .returned (.tuple #[.slice none 0 0, .int .i64 10]) ∧ Fr No w w' := by
  have hgt : decide (bs.length - pos < n) = true := by simp; omega
  have HH := Lib.hid h
  clear h
  go_enter Try.func72, Try.ntmps72
  go_wp2_with (first | (go_at_call 107; refine (rnone_no rb pos _ bs _ HH.out).mono ?_; rintro e w1 ⟨rfl, rfl⟩) | (go_at_call 108; refine (rleft_any rb pos _ bs hpos hl _ HH.out).mono ?_; rintro e w1 ⟨rfl, hf1⟩))
  go_ret2
  exact ⟨rfl, hf1⟩

set_option maxHeartbeats 1000000 in
/-- A new reader. -/
theorem read_any (a : Option Addr) (n c : Nat) (bs : List UInt8) (w : World) (h : Win w a n c (bs.map byt)) (hb : n ≤ 1000000) :
    Calls Try.prog 71 #[.slice a n c] w fun e w' => ∃ rb v, e = .returned (.pointer (some ⟨rb, 0, none⟩)) ∧ RdAt w' rb v bs 0 ∧ w.heap.size ≤ rb ∧ (∀ k, v.ownBlock = some k → w.heap.size ≤ k) ∧ Fr No w w' := by
  have hl : bs.length = n := by have := h.len; simpa using this
  have HL := Lib.hid hl
  clear hl
  go_enter Try.func71, Try.ntmps71
  go_wp2_with (go_at_call 89; refine (cloneB_any a n c bs _ ?_ hb).mono ?_; exact h; rintro e w1 ⟨v1, rfl, hc⟩; obtain ⟨a1, c1, rfl⟩ := own_slice hc.own)
  go_ret
  have hf := hc.fr.thn ((Fr.refl No w1).alloc (.cells #[.slice a1 n c1, .int .i64 0, .bool true] 149))
  refine ⟨w1.heap.size, _, rfl, ⟨Blk.new w1 _ _, ?_⟩, hc.fr.size, hc.new, hf⟩
  rw [HL.out]
  exact hc.own.alloc _

end Go.Proofs.Ytnkjhicokcmmpaa

/-
  Numbers as bytes: what the document's functions come to.
-/
namespace Go.Proofs.Ytnkjhicokcmmpaa
open Go.RowKit Go.Shelf

theorem num_succ (k n : Nat) : num (k + 1) n = UInt8.ofNat (n / 2 ^ (8 * k)) :: num k n := by
  unfold num numTo
  rw [List.range_succ_eq_map, List.map_cons, List.map_map]
  congr 1
  apply List.map_congr_left
  intro i hi
  have hi' : i < k := by simpa using hi
  show numByte (k + 1) n (i + 1) = numByte k n i
  unfold numByte
  congr 3
  omega

end Go.Proofs.Ytnkjhicokcmmpaa

/-
  A writer whose memory lies from some block on; a reader, whatever is left.
-/
namespace Go.Proofs.Ytnkjhicokcmmpaa
open Go.RowKit Go.Shelf

/-- A writer all of whose blocks lie from N on. -/
structure WIn (N : Nat) (w : World) (b : Nat) (v : Value) (bs : List UInt8) : Prop where
  at' : WrAt w b v bs
  lo : N ≤ b
  new : ∀ k, v.ownBlock = some k → N ≤ k
theorem WIn.no {N : Nat} {w w' : World} {b : Nat} {v : Value} {bs : List UInt8} (h : WIn N w b v bs) (hf : Fr No w w') : WIn N w' b v bs :=
  ⟨⟨h.at'.blk.fr hf (No.no _), h.at'.own.fr hf (fun _ _ => No.no _)⟩, h.lo, h.new⟩
/-- Only blocks from N on may have changed. -/
abbrev From (N : Nat) (w w' : World) : Prop := Fr (fun k => N ≤ k) w w'
theorem From.t {N : Nat} {a b c : World} (h : From N a b) (k : From N b c) : From N a c := h.trans k (fun _ h => .inl h)
theorem From.no {N : Nat} {a b : World} (h : From N a b) (hN : a.heap.size ≤ N) : Fr No a b :=
  ⟨h.os, h.tape, h.output, h.size, fun k hk _ => h.block k hk (by omega)⟩
theorem Blk.from {N : Nat} {w w' : World} {b : Nat} {T : TypeId} {l : List Value} (h : Blk w b T l) (hf : From N w w') (hn : b < N) : Blk w' b T l := h.fr hf (by omega)

/-- What a writer's call comes to. -/
def Wrote1 (N b : Nat) (bs : List UInt8) (w : World) (e : Ending) (w' : World) : Prop := ∃ v', e = .returned (.int .i64 0) ∧ WIn N w' b v' bs ∧ From N w w'

theorem wrote_of {N b : Nat} {v v' : Value} {bs cs : List UInt8} {w w' : World} (h : WIn N w b v bs) (hz : N ≤ w.heap.size) (h1 : WrAt w' b v' cs) (h2 : Fr (fun k => k = b ∨ v.ownBlock = some k) w w') (h3 : AtOr w v v') : WIn N w' b v' cs ∧ From N w w' := by
  refine ⟨⟨h1, h.lo, fun k hk => (h3 k hk).elim (h.new k) (fun q => Nat.le_trans hz q)⟩, h2.mono ?_⟩
  rintro x (rfl | hx)
  · exact h.lo
  · exact h.new _ hx

theorem wnumN (N b : Nat) (v : Value) (bs : List UInt8) (size n : Nat) (hs : size = 1 ∨ size = 2 ∨ size = 4 ∨ size = 8) (hn : n < 2 ^ (8 * size)) (hl : bs.length ≤ 1000000) (w : World) (hz : N ≤ w.heap.size) (h : WIn N w b v bs) :
    Calls Try.prog 65 #[.pointer (some ⟨b, 0, none⟩), .int .i64 size, .int .u64 n] w (Wrote1 N b (bs ++ num size n) w) :=
  (wnum_any b v bs size n hs hn hl w h.at').mono fun e w' ⟨v', h1, h2, h3, h4⟩ => ⟨v', h1, wrote_of h hz h2 h3 h4⟩
theorem wrawN (N b : Nat) (v : Value) (bs cs : List UInt8) (a : Option Addr) (n c : Nat) (hl : bs.length + n ≤ 1000000) (w : World) (hz : N ≤ w.heap.size) (h : WIn N w b v bs) (hw : Win w a n c (cs.map byt)) :
    Calls Try.prog 64 #[.pointer (some ⟨b, 0, none⟩), .slice a n c] w (Wrote1 N b (bs ++ cs) w) :=
  (wraw_any b v bs cs a n c hl w h.at' hw).mono fun e w' ⟨v', h1, h2, h3, h4⟩ => ⟨v', h1, wrote_of h hz h2 h3 h4⟩
theorem wlenN (N b : Nat) (v : Value) (bs : List UInt8) (m : Nat) (hm : bs.length = m) (w : World) (h : WIn N w b v bs) :
    Calls Try.prog 66 #[.pointer (some ⟨b, 0, none⟩)] w fun e w' => e = .returned (.int .i64 (m : Nat)) ∧ w = w' := by
  subst hm
  exact wlen_any b v bs w h.at'
theorem wbytesN (N b : Nat) (v : Value) (bs : List UInt8) (m : Nat) (hm : bs.length = m) (h0 : 0 < m) (w : World) (h : WIn N w b v bs) (hl : m ≤ 1000000) :
    Calls Try.prog 68 #[.pointer (some ⟨b, 0, none⟩)] w fun e w' => ∃ g c, e = .returned (.slice (some ⟨g, 0, none⟩) m c) ∧ Own w' 5 1 (.slice (some ⟨g, 0, none⟩) m c) m (bs.map byt) ∧ w.heap.size ≤ g ∧ Fr No w w' := by
  subst hm
  refine (wbytes_any b v bs w h.at' hl).mono ?_
  rintro e w' ⟨v', rfl, h1, h2, _, h3⟩
  rcases h1.cases with ⟨_, e, _⟩ | ⟨g, c, rfl⟩
  · omega
  · exact ⟨g, c, rfl, h1, h2 g rfl, h3⟩

/-- A reader all of whose blocks lie from N on. -/
structure RIn (N : Nat) (w : World) (rb : Nat) (v : Value) (bs : List UInt8) (pos : Nat) : Prop where
  at' : RdAt w rb v bs pos
  pos : pos ≤ bs.length
  lo : N ≤ rb
  new : ∀ k, v.ownBlock = some k → N ≤ k
theorem RIn.no {N : Nat} {w w' : World} {rb pos : Nat} {v : Value} {bs : List UInt8} (h : RIn N w rb v bs pos) (hf : Fr No w w') : RIn N w' rb v bs pos := ⟨h.at'.no hf, h.pos, h.lo, h.new⟩

/-- A number is read, if there are bytes enough. -/
theorem rnumN (N rb pos size : Nat) (v : Value) (bs : List UInt8) (hl : bs.length ≤ 1000000) (hs : size = 1 ∨ size = 2 ∨ size = 4 ∨ size = 8) (w : World) (h : RIn N w rb v bs pos) :
    Calls Try.prog 73 #[.pointer (some ⟨rb, 0, none⟩), .int .i64 size] w fun e w' => ∃ (x : Nat) (c : Int) (pos' : Nat), e = .returned (.tuple #[.int .u64 x, .int .i64 c]) ∧ x < 256 ^ size ∧ (pos + size ≤ bs.length → x = wh ((bs.drop pos).take size) ∧ pos' = pos + size) ∧ RIn N w' rb v bs pos' ∧ From N w w' := by
  by_cases hp : pos + size ≤ bs.length
  · refine (rnum_yes rb pos size v bs hp hl hs w h.at').mono ?_
    rintro e w' ⟨rfl, h1, h2⟩
    refine ⟨_, _, _, rfl, ?_, fun _ => ⟨rfl, rfl⟩, ⟨h1, hp, h.lo, h.new⟩, h2.mono (fun k hk => by rw [hk]; exact h.lo)⟩
    have h3 := wh_lt ((bs.drop pos).take size)
    rwa [show ((bs.drop pos).take size).length = size by rw [List.length_take, List.length_drop]; omega] at h3
  · refine (rnum_no rb pos size v bs h.pos hp hl hs w h.at').mono ?_
    rintro e w' ⟨rfl, h1⟩
    exact ⟨0, 10, pos, rfl, Nat.pow_pos (by decide), fun hc => absurd hc hp, h.no h1, h1.no_any⟩
theorem rrawN (N rb pos n : Nat) (v : Value) (bs : List UInt8) (hl : bs.length ≤ 1000000) (w : World) (hz : N ≤ w.heap.size) (h : RIn N w rb v bs pos) :
    Calls Try.prog 72 #[.pointer (some ⟨rb, 0, none⟩), .int .i64 n] w fun e w' => ∃ (u : Value) (c : Int) (m pos' : Nat) (cs : List UInt8), e = .returned (.tuple #[u, .int .i64 c]) ∧ Own w' 5 1 u m (cs.map byt) ∧ m ≤ n ∧ (∀ k, u.ownBlock = some k → w.heap.size ≤ k) ∧ (pos + n ≤ bs.length → cs = (bs.drop pos).take n ∧ m = n ∧ pos' = pos + n) ∧ RIn N w' rb v bs pos' ∧ From N w w' := by
  by_cases hp : pos + n ≤ bs.length
  · refine (rraw_yes rb pos n v bs hp hl w h.at').mono ?_
    rintro e w' ⟨u, rfl, h1, h2, h3, h4⟩
    exact ⟨u, _, n, _, _, rfl, h1, Nat.le_refl _, h2, fun _ => ⟨rfl, rfl, rfl⟩, ⟨h3, hp, h.lo, h.new⟩, h4.mono (fun k hk => by rw [hk]; exact h.lo)⟩
  · refine (rraw_no rb pos n v bs h.pos hp hl w h.at').mono ?_
    rintro e w' ⟨rfl, h1⟩
    exact ⟨_, 10, 0, pos, [], rfl, World.ownsRow_nil _ _ _ _, Nat.zero_le _, fun k hk => by simp [Value.ownBlock] at hk, fun hc => absurd hc hp, h.no h1, h1.no_any⟩
theorem readN (a : Option Addr) (n c : Nat) (bs : List UInt8) (w : World) (h : Win w a n c (bs.map byt)) (hb : n ≤ 1000000) :
    Calls Try.prog 71 #[.slice a n c] w fun e w' => ∃ rb v, e = .returned (.pointer (some ⟨rb, 0, none⟩)) ∧ RIn w.heap.size w' rb v bs 0 ∧ Fr No w w' :=
  (read_any a n c bs w h hb).mono fun e w' ⟨rb, v, h1, h2, h3, h4, h5⟩ => ⟨rb, v, h1, ⟨h2, Nat.zero_le _, h3, h4⟩, h5⟩

/-- New bytes, all noughts. -/
theorem Try.makeB (n : Nat) (hn : n ≤ 1000000) (u : World) : (Instr.makeSlice 26 (.int .i64 n) (.int .i64 n)).run Try.prog u = .ok (.slice (some ⟨u.heap.size, 0, none⟩) n n) (u.alloc (.cells ((List.replicate n (0 : UInt8)).map byt).toArray 5)) := by
  obtain ⟨i0, hi, hz0, hz1, hz2⟩ := info_parts Try.infoU8
  have := run_makeSlice (P := Try.prog) u 26 5 i0 (.int .u8 0) Try.underlying26 hi hz0 .i64 .i64 n n (by omega) (Int.le_refl _) (by rw [hz1]; simp; omega) (by rw [hz2]; simp; omega) (by omega)
  rw [this]
  have e : madeCells (Value.int .u8 0).cells n = ((List.replicate n (0 : UInt8)).map byt).toArray := by
    apply Array.ext'
    rw [show (Value.int .u8 0).cells = #[Value.int .u8 0] from rfl, toList_madeCells_one]
    simp [byt]
  simp [hz1, e]

/-- Comparing bytes. -/
theorem equal_any (a a' : Option Addr) (n c n' c' : Nat) (bs cs : List UInt8) (w : World) (h : Win w a n c (bs.map byt)) (h' : Win w a' n' c' (cs.map byt)) :
    Calls Try.prog 74 #[.slice a n c, .slice a' n' c'] w fun e w' => e = .returned (.bool (decide (bs = cs))) ∧ w = w' := by
  have h1 := run_str (P := Try.prog) (src := 26) (dst := 9) Try.underlying26 Try.underlying5 Try.underlying9 h
  have h2 := run_str (P := Try.prog) (src := 26) (dst := 9) Try.underlying26 Try.underlying5 Try.underlying9 h'
  have he : ((str bs).toList == (str cs).toList) = decide (bs = cs) := by
    rw [str_list, str_list]
    by_cases hc : bs = cs <;> simp [hc]
  clear h h'
  go_enter Try.func74, Try.ntmps74
  go_wp2
  go_ret
  exact ⟨by rw [← he]; rfl, rfl⟩

end Go.Proofs.Ytnkjhicokcmmpaa

/-
  The plain law of the checksum: a table's step is eight steps of a bit. No program in sight.
-/
namespace Go.Proofs.Ytnkjhicokcmmpaa

def poly : Nat := 3988292384
/-- One step of the register. -/
def cs1 (c : Nat) : Nat := if c % 2 = 1 then (c / 2) ^^^ poly else c / 2
def csN : Nat → Nat → Nat
  | 0, c => c
  | k + 1, c => cs1 (csN k c)
/-- The table's entry. -/
def tab (i : Nat) : Nat := csN 8 i

/-- A byte's step. -/
def csB (c x : Nat) : Nat := (c / 256) ^^^ tab ((c % 256) ^^^ x)
theorem poly_lt : poly < 2 ^ 32 := by decide
theorem cs1_lt {c : Nat} (h : c < 2 ^ 32) : cs1 c < 2 ^ 32 := by
  unfold cs1
  split
  · exact Nat.xor_lt_two_pow (by omega) poly_lt
  · omega
theorem csN_lt {c : Nat} (h : c < 2 ^ 32) : ∀ k, csN k c < 2 ^ 32
  | 0 => h
  | k + 1 => cs1_lt (csN_lt h k)
theorem tab_lt {i : Nat} (h : i < 2 ^ 32) : tab i < 2 ^ 32 := csN_lt h 8
theorem csB_lt {c x : Nat} (h : c < 2 ^ 32) (hx : x < 256) : csB c x < 2 ^ 32 := by
  unfold csB
  refine Nat.xor_lt_two_pow (by omega) (tab_lt ?_)
  exact Nat.lt_of_lt_of_le (Nat.xor_lt_two_pow (n := 8) (Nat.mod_lt _ (by decide)) hx) (by decide)
/-- The register behind bytes. -/
def regTo (l : List UInt8) (c : Nat) : Nat := l.foldl (fun c x => csB c x.toNat) c
theorem regTo_snoc (l : List UInt8) (x : UInt8) (c : Nat) : regTo (l ++ [x]) c = csB (regTo l c) x.toNat := by simp [regTo]
theorem regTo_lt {l : List UInt8} {c : Nat} (h : c < 2 ^ 32) : regTo l c < 2 ^ 32 := by
  unfold regTo
  induction l generalizing c with
  | nil => exact h
  | cons x l ih => exact ih (csB_lt h x.toNat_lt)
/-- The sum of bytes. -/
def sumOf (l : List UInt8) : Nat := 4294967295 - regTo l 4294967295
theorem sumOf_lt (l : List UInt8) : sumOf l < 2 ^ 32 := by unfold sumOf; omega

end Go.Proofs.Ytnkjhicokcmmpaa

/-
  A range over a function that keeps state of its own in a cell (a variable that its closure has captured): a law for a plain walk.
-/
namespace Go.Proofs.Ytnkjhicokcmmpaa
open Go.RowKit Go.Shelf

section
variable {P : Program}
/-- An iterator that writes no block but its own (cb), and tells a list in S, whatever its rounds do that leave cb as it is. -/
def Tells {α : Type} (P : Program) (gf : Nat) (lb : Array Value) (encs : α → Array Value) (cb : Nat) (S : List α → Prop) (w : World) : Prop :=
  ∀ (l : Nat) (J : List α → World → Prop) (W : World), Below w.heap.size w W → (∀ pre A B, J pre A → Fr (fun k => k = cb) A B → J pre B) →
    (∀ pre x W1, J pre W1 → YieldAt Fence.wide 3 P l (encs x) W1 fun e W' => e = .returned (.bool true) ∧ J (pre ++ [x]) W' ∧ W'.heap[cb]? = W1.heap[cb]?) →
    J [] W →
    CallsIn Fence.wide 4 P gf (#[.func (.yield l) #[] #[]] ++ lb) W fun e W' => (∃ v, e = .returned v) ∧ ∃ xs, S xs ∧ J xs W'

theorem wp_tells {α : Type} {g : Operand} {ps : Array Tmp} {assign body : Code} {Q : Exit → Act → World → Prop} {a : Act} {w : World}
    {gf : Nat} {lb : Array Value} (hg : a.eval g = .func (.func gf) #[] lb) (eg : ∀ args w, (callFunc gf args).run P w = .ok (.enter gf args) w)
    {encs : α → Array Value} {cb : Nat} (hcb : cb < w.heap.size) {S : List α → Prop} (hseq : Tells P gf lb encs cb S w) (hps : ∀ x, (encs x).size = ps.size)
    (I : List α → World → Prop) (hI : OwnFrom w.heap.size I) (hIc : ∀ pre A B, I pre A → Fr (fun k => k = cb) A B → I pre B) (h0 : I [] w) (a₁ : α → Act)
    (hassign : ∀ (l : Nat) (x : α) (W : World) (K : Act → World → Prop), K (a₁ x) W →
      assign.wpIn (Fence.wide.inRound l) 3 P (Exit.then K (fun _ _ _ => False)) { tmps := (ps.zip (encs x)).foldl (fun t (p, v) => t.setIfInBounds p v) a.tmps, defers := [] } W)
    (hbody : ∀ (l : Nat) (pre : List α) (x : α) (W : World), I pre W → body.wpIn (Fence.wide.inRound l) 3 P (fun e _ W' => e = .normal ∧ KeepsOthers W W' ∧ W'.heap[cb]? = W.heap[cb]? ∧ I (pre ++ [x]) W') (a₁ x) W)
    (hdone : ∀ (D : Nat) (xs : List α) (W : World), w.heap.size ≤ D → S xs → I xs W → W.heap[D]? = some (.deferred (some [])) → Q .normal { a with defers := { target := .collected D, args := #[] } :: a.defers } W) :
    (Code.rangeFunc g ps assign body).wp P Q a w := by
  refine wpIn_wide.1 (wpIn_rangeFunc (F := Fence.wide) (n := 5) fun fn hfn => ?_)
  let rec_ : LoopState → Option Code → Loop := fun st pe => { state := st, pending := pe, fn, tmps := a.tmps, params := ps, assign, body, defers := w.heap.size }
  obtain ⟨W1, hW1⟩ : ∃ W1, W1 = (w.alloc (.deferred (some []))).alloc (.loop (rec_ .ready none)) := ⟨_, rfl⟩
  have hL1 : W1.heap[w.heap.size + 1]? = some (.loop (rec_ .ready none)) := by
    have := World.alloc_heap_new (w.alloc (.deferred (some []))) (.loop (rec_ .ready none))
    rw [World.size_alloc] at this
    rw [hW1]; exact this
  have hK1 : W1.heap[w.heap.size]? = some (.deferred (some [])) := by
    rw [hW1]; exact (Below.heap_alloc _ _ _ (by simp)).trans (World.alloc_heap_new w _)
  have hb1 : Below w.heap.size w W1 := by rw [hW1]; exact ((Below.refl _ w).alloc (Nat.le_refl _) _).alloc (by simp) _
  refine ⟨w.heap.size + 1, [{ target := .collected w.heap.size, args := #[] }], W1, { target := .fn (.func gf) lb, args := #[.func (.yield (w.heap.size + 1)) #[] #[]] }, W1, gf,
    #[.func (.yield (w.heap.size + 1)) #[] #[]] ++ lb, W1, ?_, ?_, ?_, ?_, fun _ => by omega, ?_⟩
  · rw [hW1]; exact run_enterLoop_outer _ _ _ _ _
  · simp only [resolve, hg]
    simp [go_sem]
  · intro f' _; trivial
  · simp [invoke, go_sem, eg]
  · refine (hseq (w.heap.size + 1) (fun pre W => I pre W ∧ W.heap[w.heap.size + 1]? = some (.loop (rec_ .ready none)) ∧ W.heap[w.heap.size]? = some (.deferred (some []))) W1 hb1 ?_ ?_ ⟨?_, hL1, hK1⟩).mono ?_
    · rintro pre A B ⟨h1, h2, h3⟩ hf
      exact ⟨hIc pre A B h1 hf, (hf.heap (Array.getElem?_eq_some_iff.1 h2).1 (by omega)).trans h2, (hf.heap (Array.getElem?_eq_some_iff.1 h3).1 (by omega)).trans h3⟩
    · rintro pre x W ⟨hi, hl, hk⟩
      have hlt : w.heap.size + 1 < W.heap.size := (Array.getElem?_eq_some_iff.1 hl).1
      have hy := run_yield (P := P) (args := encs x) hl (hps x)
      refine ⟨fn, _, assign, body, hy, roundIn_of_wpIn hfn (hassign _ x W _ ⟨_, run_beginRound hl rfl, ?_⟩)⟩
      have hl2 : (W.putObj (w.heap.size + 1) (.loop { rec_ .ready none with state := .busy })).heap[w.heap.size + 1]? = some (.loop { rec_ .ready none with state := .busy }) := World.putObj_heap_same hlt
      have hk2 : (W.putObj (w.heap.size + 1) (.loop { rec_ .ready none with state := .busy })).heap[w.heap.size]? = some (.deferred (some [])) := (World.putObj_heap_other (by omega)).trans hk
      refine wpIn_mono (hbody _ pre x _ (hI.putObj _ hi (by omega) hl rfl)) ?_
      rintro e a3 W3 ⟨rfl, hk3, hc3, hi3⟩
      have hl3 := hk3.same _ _ hl2 rfl
      refine ⟨_, _, run_endRound (P := P) none hl3, rfl, ⟨hI.putObj _ hi3 (by omega) hl3 rfl, World.putObj_heap_same (Array.getElem?_eq_some_iff.1 hl3).1, (World.putObj_heap_other (by omega)).trans (hk3.same _ _ hk2 rfl)⟩, ?_⟩
      rw [World.putObj_heap_other (by omega), hc3, World.putObj_heap_other (by omega)]
    · rw [hW1]; exact hI.alloc _ (hI.alloc _ h0)
    · rintro e W2 ⟨⟨v, rfl⟩, xs, hS, hi, hl, hk⟩
      exact ⟨none, _, run_endLoop (P := P) hl (by simp [rec_]), hdone _ xs _ (Nat.le_refl _) hS (hI.putObj _ hi (by omega) hl rfl) ((World.putObj_heap_other (by omega)).trans hk)⟩

/-- The end of a function without results, behind one loop. -/
theorem end_marks0 {fn : Func} {R : Ending → World → Prop} {tmps : Array Value} {D : Nat} {w : World} (hf : fn.results = #[]) (hK : w.heap[D]? = some (.deferred (some []))) (h : R (.returned (.tuple #[])) (w.putObj D (.deferred none))) :
    Exit.noGoto (noPanic (bodyPostM Fence.wide 5 P fn R)) .normal { tmps := tmps, defers := [{ target := .collected D, args := #[] }] } w := by
  show LeavesInM Fence.wide 5 P fn tmps R [_] .returning w
  refine ⟨by simp, .inl ⟨_, _, rfl, run_takeDeferred hK, ?_⟩⟩
  exact ⟨_, results_none hf _ _ _, h⟩
end

end Go.Proofs.Ytnkjhicokcmmpaa

/-
  The checksum's table: what its functions come to.
-/
namespace Go.Proofs.Ytnkjhicokcmmpaa
open Go.RowKit Go.Shelf
attribute [local go_sem] Oper.semAt_some

theorem ofInt_32 (a : Nat) (ha : a < 2 ^ 32) : (BitVec.ofInt 32 (a : Int)).toNat = a := by
  rw [BitVec.ofInt_natCast, BitVec.toNat_ofNat]
  exact Nat.mod_eq_of_lt ha
theorem wrap_u32 (a : Nat) (h : a < 2 ^ 32) : IntKind.u32.wrap (a : Int) = a := by
  simp [IntKind.wrap, IntKind.signed, IntKind.bits]
  omega
theorem and1_u32 (c : Nat) (hc : c < 2 ^ 32) : bits .and .u32 (c : Int) 1 = ((c % 2 : Nat) : Int) := by
  show IntKind.u32.wrap ((BitVec.ofInt 32 (c : Int) &&& BitVec.ofInt 32 ((1 : Nat) : Int)).toNat : Int) = _
  rw [BitVec.toNat_and, ofInt_32 _ hc, ofInt_32 _ (by decide), Nat.and_one_is_mod, wrap_u32 _ (by omega)]
theorem xor_u32 (a b : Nat) (ha : a < 2 ^ 32) (hb : b < 2 ^ 32) : bits .xor .u32 (a : Int) (b : Int) = ((a ^^^ b : Nat) : Int) := by
  show IntKind.u32.wrap ((BitVec.ofInt 32 (a : Int) ^^^ BitVec.ofInt 32 (b : Int)).toNat : Int) = _
  rw [BitVec.toNat_xor, ofInt_32 _ ha, ofInt_32 _ hb, wrap_u32 _ (Nat.xor_lt_two_pow ha hb)]

def lowsTo (c k : Nat) : List (Nat × Bool) := (List.range k).map fun k => (csN k c / 2, csN k c % 2 == 1)
theorem lowsTo_succ (c k : Nat) : lowsTo c (k + 1) = lowsTo c k ++ [(csN k c / 2, csN k c % 2 == 1)] := by simp [lowsTo, List.range_succ]

set_option maxRecDepth 100000 in
set_option maxHeartbeats 2000000 in
theorem lows1_tells (cb c0 : Nat) (hc0 : c0 < 2 ^ 32) (w : World) (hcb : Blk w cb 23 [.int .u32 c0]) :
    Tells Try.prog 160 #[.pointer (some ⟨cb, 0, none⟩)] (fun x : Nat × Bool => #[Value.int .u32 (x.1 : Nat), .bool x.2]) cb (fun xs => xs = lowsTo c0 8) w := by
  intro l J W hW hJ hY h0
  have hB : Blk W cb 23 [.int .u32 c0] := (hW.block cb hcb.lt).trans hcb
  clear hcb hW
  refine callsIn_of_wp Try.func160 rfl trivial ?_ rfl
  simp only [Try.ntmps160, List.size_toArray, List.length_cons, List.length_nil, Nat.reduceAdd, Nat.reduceSub, Array.replicate_succ, Array.replicate_zero, List.push_toArray, List.append_toArray, List.nil_append, List.cons_append]
  gi_wp2
  gi_loopw [4] (fun t wr => ∃ k : Nat, k ≤ 8 ∧ t = .int .i64 k ∧ J (lowsTo c0 k) wr ∧ Blk wr cb 23 [.int .u32 (csN k c0)]) (fun t _ => 8 - (intOf t).toNat)
  case atStart => exact ⟨0, Nat.zero_le _, rfl, h0, hB⟩
  case round =>
    obtain ⟨k, hk, rfl, hJs, hBr⟩ := hrel
    by_cases hlt : k < 8
    · have hc := csN_lt hc0 k
      obtain ⟨c, hcd⟩ : ∃ c, c = csN k c0 := ⟨_, rfl⟩
      rw [← hcd] at hBr hc
      have HT : Hid (lowsTo c0 (k + 1) = lowsTo c0 k ++ [(c / 2, c % 2 == 1)]) := by rw [hcd]; exact lowsTo_succ c0 k
      have HC : Hid (csN (k + 1) c0 = cs1 c) := by rw [hcd]; rfl
      clear hcd hB hc0
      have b0 := hBr.cell (j := 0) rfl
      have bf := hBr.free
      have bl := hBr.lt
      have hfs : Fr (fun k => k = cb) wr (wr.setCell ⟨cb, 0, none⟩ (.int .u32 ((c : Int) / 2))) := (Fr.refl (fun k => k = cb) wr).setCell (p := ⟨cb, 0, none⟩) (.inl rfl) _
      have hB2 : Blk (wr.setCell ⟨cb, 0, none⟩ (.int .u32 ((c : Int) / 2))) cb 23 [.int .u32 ((c : Int) / 2)] := hBr.set 0 _
      have hd2 : ((c / 2 : Nat) : Int) = (c : Int) / 2 := by omega
      by_cases hp : c % 2 = 1
      · have hand : bits .and .u32 (c : Int) 1 = 1 := by
          have := and1_u32 c hc
          rw [hp] at this
          exact this
        have hxor : bits .xor .u32 ((c : Int) / 2) 3988292384 = ((cs1 c : Nat) : Int) := by
          have := xor_u32 (c / 2) poly (by omega) (by decide)
          rw [hd2] at this
          rw [show ((3988292384 : Int)) = ((poly : Nat) : Int) by rfl, this]
          unfold cs1
          rw [if_pos hp]
        obtain ⟨fn, tmps, assign, body, hy, hR⟩ := hY (lowsTo c0 k) (c / 2, c % 2 == 1) _ (hJ _ _ _ hJs hfs)
        dsimp only at hy
        rw [hp, hd2, show ((1 : Nat) == 1) = true from rfl] at hy
        have HX := Lib.hid hxor
        clear hxor hd2
        gi_wp2
        refine hR.mono ?_
        rintro e W3 ⟨rfl, hJ3, hk3⟩
        have hB3 : Blk W3 cb 23 [.int .u32 ((c : Int) / 2)] := hk3.trans hB2
        have d0 := hB3.cell (j := 0) rfl
        have df := hB3.free
        have dl := hB3.lt
        have hxor := HX.out
        gi_wp2
        go_roundw
        case rel =>
          refine ⟨k + 1, by omega, by simp, ?_, ?_⟩
          · rw [HT.out]
            exact hJ _ _ _ hJ3 ((Fr.refl (fun k => k = cb) W3).setCell (p := ⟨cb, 0, none⟩) (.inl rfl) _)
          · rw [HC.out]
            exact hB3.set 0 _
        case measure => (simp [intOf]; try omega)
      · have hp0 : c % 2 = 0 := by omega
        have hand : bits .and .u32 (c : Int) 1 = 0 := by
          have := and1_u32 c hc
          rw [hp0] at this
          exact this
        have hcs : cs1 c = c / 2 := by unfold cs1; rw [if_neg hp]
        obtain ⟨fn, tmps, assign, body, hy, hR⟩ := hY (lowsTo c0 k) (c / 2, c % 2 == 1) _ (hJ _ _ _ hJs hfs)
        dsimp only at hy
        rw [hp0, hd2, show ((0 : Nat) == 1) = false from rfl] at hy
        have HX : Hid (((cs1 c : Nat) : Int) = (c : Int) / 2) := by rw [hcs]; exact hd2
        clear hd2 hcs
        gi_wp2
        refine hR.mono ?_
        rintro e W3 ⟨rfl, hJ3, hk3⟩
        have hB3 : Blk W3 cb 23 [.int .u32 ((c : Int) / 2)] := hk3.trans hB2
        gi_wp2
        go_roundw
        case rel =>
          refine ⟨k + 1, by omega, by simp, ?_, ?_⟩
          · rw [HT.out]
            exact hJ3
          · rw [HC.out, HX.out]
            exact hB3
        case measure => (simp [intOf]; try omega)
    · obtain rfl : k = 8 := by omega
      gi_wp2
      go_end0
      exact ⟨⟨_, rfl⟩, _, rfl, hJs⟩

theorem lows_any (c : Int) (w : World) : Calls Try.prog 154 #[.int .u32 c] w fun e w' => e = .returned (.func (.func 160) #[] #[.pointer (some ⟨w.heap.size, 0, none⟩)]) ∧ w.alloc (.cells #[.int .u32 c] 23) = w' := by
  go_enter Try.func154, Try.ntmps154
  go_wp2
  go_ret
  exact ⟨rfl, rfl⟩

/-- What a round of 'fill' makes of what it is told. -/
def fillS (x : Nat × Bool) : Int := if x.2 then bits .xor .u32 (x.1 : Int) 3988292384 else x.1
def fillN (i : Nat) (l : List (Nat × Bool)) : Int := match l.getLast? with | some x => fillS x | none => i
theorem fillN_snoc (i : Nat) (l : List (Nat × Bool)) (x : Nat × Bool) : fillN i (l ++ [x]) = fillS x := by simp [fillN]
theorem fillN_8 (i : Nat) (hi : i < 2 ^ 32) : fillN i (lowsTo i 8) = ((tab i : Nat) : Int) := by
  rw [lowsTo_succ, fillN_snoc]
  have hc := csN_lt hi 7
  have hx := xor_u32 (csN 7 i / 2) poly (by omega) (by decide)
  show (if (csN 7 i % 2 == 1) = true then _ else _) = ((cs1 (csN 7 i) : Nat) : Int)
  unfold cs1
  by_cases hp : csN 7 i % 2 = 1
  · rw [if_pos hp, if_pos (by simp [hp])]
    exact hx
  · rw [if_neg hp, if_neg (by simp [hp])]

set_option maxRecDepth 100000 in
set_option maxHeartbeats 4000000 in
theorem fill_any (tb i : Nat) (hi : i < 256) (l : List Value) (hl : l.length = 256) (w : World) (h : Blk w tb 181 l) :
    Calls Try.prog 137 #[.pointer (some ⟨tb, 0, none⟩), .int .i64 i] w fun e w' => (∃ v, e = .returned v) ∧ Blk w' tb 181 (l.set i (.int .u32 (tab i))) ∧ Fr (fun k => k = tb) w w' := by
  have hi32 : i < 2 ^ 32 := by omega
  have hwr : IntKind.u32.wrap (i : Int) = i := wrap_u32 _ hi32
  have htl := h.lt
  refine calls_of_marks Try.func137 rfl ?_
  simp only [Try.ntmps137, List.size_toArray, List.length_cons, List.length_nil, Nat.reduceAdd, Nat.reduceSub, Array.replicate_succ, Array.replicate_zero, List.push_toArray, List.append_toArray, List.nil_append, List.cons_append]
  go_wp2
  go_step3
  go_wp2
  go_step3
  go_wp2_with (go_at_call 154; refine (lows_any _ _).mono ?_; rintro e w1 ⟨rfl, rfl⟩)
  have hN : Blk ((w.alloc (.cells #[.int .u32 i] 23)).alloc (.cells #[.int .u32 i] 23)) w.heap.size 23 [.int .u32 i] := (Blk.new w _ _).alloc _
  have hC : Blk ((w.alloc (.cells #[.int .u32 i] 23)).alloc (.cells #[.int .u32 i] 23)) (w.heap.size + 1) 23 [.int .u32 i] := by
    have := Blk.new (w.alloc (.cells #[.int .u32 i] 23)) 23 [.int .u32 i]
    rwa [World.size_alloc] at this
  have hfr1 : Fr No w ((w.alloc (.cells #[.int .u32 i] 23)).alloc (.cells #[.int .u32 i] 23)) := ((Fr.refl No w).alloc _).alloc _
  generalize (w.alloc (.cells #[.int .u32 i] 23)).alloc (.cells #[.int .u32 i] 23) = w1 at *
  have hz := hC.lt
  refine wp_tells (gf := 160) (lb := #[.pointer (some ⟨w.heap.size + 1, 0, none⟩)]) rfl (enters_of Try.func160 (by kernel_rfl) rfl) (cb := w.heap.size + 1) hz
    (lows1_tells (w.heap.size + 1) i hi32 w1 hC) (fun _ => rfl)
    (fun pre W => Blk W w.heap.size 23 [.int .u32 (fillN i pre)] ∧ Fr (fun k => k = w.heap.size ∨ k = w.heap.size + 1) w1 W)
    ?hI ?hIc ⟨hN, Fr.refl _ _⟩ (fun x : Nat × Bool => { tmps := #[.pointer (some ⟨tb, 0, none⟩), .int .i64 i, undef, undef, .pointer (some ⟨w.heap.size, 0, none⟩), .int .u32 (x.1 : Nat), .bool x.2, .int .i64 i, .int .u32 i, .int .u32 i, .func (.func 160) #[] #[.pointer (some ⟨w.heap.size + 1, 0, none⟩)], .int .u32 (x.1 : Nat), .bool x.2, undef, undef, undef, undef, undef, undef, undef, undef, undef, undef, undef], defers := [] }) ?assign ?body ?done
  case hI =>
    rintro s A B row ⟨h1, h3⟩ hg hr
    exact ⟨h1.fr ((Fr.refl (fun k => w1.heap.size ≤ k) A).grown hg (fun k hk => .inl (hr k hk).1)) (by omega), h3.grown hg (fun k hk => .inr (hr k hk).1)⟩
  case hIc =>
    rintro pre A B ⟨h1, h3⟩ hf
    exact ⟨h1.fr hf (by omega), h3.trans hf (fun k hk => .inl (.inr hk))⟩
  case assign =>
    intro ll x W K hK
    gi_wp2
    exact hK
  case body =>
    rintro ll pre x W ⟨hW1, hW3⟩
    have hb0 := hW1.cell (j := 0) rfl
    have hbf := hW1.free
    have hbl := hW1.lt
    obtain ⟨low, out⟩ := x
    cases out
    · gi_wp2
      refine ⟨KeepsOthers.setCell _ _ _, Below.heap_setCell _ _ _ _ (by show w.heap.size + 1 ≠ w.heap.size; omega), ?_, hW3.setCell (p := ⟨w.heap.size, 0, none⟩) (.inl (.inl rfl)) _⟩
      rw [fillN_snoc]
      exact hW1.set 0 _
    · gi_wp2
      refine ⟨(KeepsOthers.setCell _ _ _).trans (KeepsOthers.setCell _ _ _), (Below.heap_setCell _ _ _ _ (by show w.heap.size + 1 ≠ w.heap.size; omega)).trans (Below.heap_setCell _ _ _ _ (by show w.heap.size + 1 ≠ w.heap.size; omega)), ?_, (hW3.setCell (p := ⟨w.heap.size, 0, none⟩) (.inl (.inl rfl)) _).setCell (p := ⟨w.heap.size, 0, none⟩) (.inl (.inl rfl)) _⟩
      rw [fillN_snoc]
      exact (hW1.set 0 _).set 0 _
  case done =>
    rintro D ys W hD rfl ⟨hW1, hW3⟩ hK
    rw [fillN_8 i hi32] at hW1
    have hb0 := hW1.cell (j := 0) rfl
    have hbl := hW1.lt
    have hT := (h.fr hfr1 (No.no _)).fr hW3 (by omega)
    have t0 := hT.cell (j := i) (v := l[i]'(by omega)) (List.getElem?_eq_getElem (by omega))
    have tf := hT.free
    have tl := hT.lt
    go_wp2
    go_region
    all_goals go_wp2
    all_goals
      have hB2 : Blk (W.setCell ⟨tb, i, none⟩ (.int .u32 (tab i))).drew tb 181 (l.set i (.int .u32 (tab i))) := (hT.set i _).drew
      have hk2 : (W.setCell ⟨tb, i, none⟩ (.int .u32 (tab i))).drew.heap[D]? = some (.deferred (some [])) := (Below.heap_setCell W ⟨tb, i, none⟩ _ D (fun e => hT.neDef hK e.symm)).trans hK
      refine end_marks0 rfl hk2 ⟨⟨_, rfl⟩, hB2.putObj (hB2.neDef hk2) _, ?_⟩
      have hf1 : Fr (fun k => k = tb) w W := (hfr1.no_any (S := fun k => k = tb)).trans hW3 (fun k hk => .inr (by omega))
      exact ((hf1.setCell (p := ⟨tb, i, none⟩) (.inl rfl) _).drew).putObj (.inr (by have := hfr1.size; omega)) _

end Go.Proofs.Ytnkjhicokcmmpaa

/-
  The checksum of bytes: what the program's functions come to.
-/
namespace Go.Proofs.Ytnkjhicokcmmpaa
open Go.RowKit Go.Shelf
attribute [local go_sem] Oper.semAt_some

/-- The table, filled up to k. -/
def tabTo (k : Nat) : List Value := (List.range 256).map fun j => if j < k then .int .u32 (tab j : Nat) else .int .u32 0
theorem tabTo_len (k : Nat) : (tabTo k).length = 256 := by simp [tabTo]
theorem tabTo_succ (k : Nat) (hk : k < 256) : (tabTo k).set k (.int .u32 (tab k : Nat)) = tabTo (k + 1) := by
  apply List.ext_getElem
  · simp [tabTo]
  · intro i h1 h2
    rw [List.getElem_set]
    simp only [tabTo, List.getElem_map, List.getElem_range]
    split
    · rename_i e; subst e; rw [if_pos (by omega)]
    · rename_i e
      by_cases hi : i < k
      · rw [if_pos hi, if_pos (by omega)]
      · rw [if_neg hi, if_neg (by omega)]
theorem tabTo_get (i : Nat) (hi : i < 256) : (tabTo 256)[i]? = some (.int .u32 (tab i : Nat)) := by
  simp [tabTo, hi]

/-- The register behind the first k bytes. -/
def crcTo (l : List UInt8) (k : Nat) : Nat := regTo (l.take k) 4294967295
theorem crcTo_lt (l : List UInt8) (k : Nat) : crcTo l k < 2 ^ 32 := regTo_lt (by decide)
theorem crcTo_succ (l : List UInt8) (k : Nat) (hk : k < l.length) : crcTo l (k + 1) = csB (crcTo l k) (l[k]).toNat := by
  unfold crcTo
  rw [List.take_succ_eq_append_getElem hk, regTo_snoc]
theorem not_u32 (c : Nat) (h : c < 2 ^ 32) : bits .xor .u32 IntKind.u32.max (c : Int) = ((4294967295 - c : Nat) : Int) := by
  have h1 := xor_u32 4294967295 c (by decide) h
  have h2 : 4294967295 ^^^ c = 4294967295 - c := by
    apply Nat.eq_of_testBit_eq
    intro i
    have h3 := Nat.testBit_two_pow_sub_succ h i
    rw [show 2 ^ 32 - (c + 1) = 4294967295 - c by omega] at h3
    rw [h3, Nat.testBit_xor]
    have h4 : (4294967295 : Nat).testBit i = decide (i < 32) := Nat.testBit_two_pow_sub_one 32 i
    rw [h4]
    by_cases hi : i < 32
    · simp [hi]
    · have : c.testBit i = false := Nat.testBit_lt_two_pow (Nat.lt_of_lt_of_le h (Nat.pow_le_pow_right (by decide) (by omega)))
      simp [hi, this]
  rw [h2] at h1
  exact h1
theorem xor_u8 (c x : Nat) (hx : x < 256) : bits .xor .u8 ((c : Int) % 256) (x : Int) = ((c % 256 ^^^ x : Nat) : Int) := by
  have h8 : ∀ a : Nat, a < 256 → (BitVec.ofInt 8 (a : Int)).toNat = a := fun a ha => by
    rw [BitVec.ofInt_natCast, BitVec.toNat_ofNat]
    exact Nat.mod_eq_of_lt ha
  have hl : c % 256 ^^^ x < 256 := Nat.xor_lt_two_pow (n := 8) (Nat.mod_lt _ (by decide)) hx
  show IntKind.u8.wrap ((BitVec.ofInt 8 ((c : Int) % 256) ^^^ BitVec.ofInt 8 (x : Int)).toNat : Int) = _
  rw [show (c : Int) % 256 = ((c % 256 : Nat) : Int) by simp, BitVec.toNat_xor, h8 _ (Nat.mod_lt _ (by decide)), h8 _ hx]
  generalize c % 256 ^^^ x = m at *
  simp [IntKind.wrap, IntKind.signed, IntKind.bits]
  omega

theorem tab0 : (tabTo 0).toArray = Try.zeroCells181 := by kernel_rfl

set_option maxRecDepth 100000 in
set_option maxHeartbeats 4000000 in
theorem known_any (w : World) : Calls Try.prog 120 #[] w fun e w' => e = .returned (.pointer (some ⟨w.heap.size, 0, none⟩)) ∧ Blk w' w.heap.size 181 (tabTo 256) ∧ Fr No w w' := by
  go_enter Try.func120, Try.ntmps120
  go_wp2
  have hB : Blk (w.alloc (.cells Try.zeroCells181 181)) w.heap.size 181 (tabTo 0) := by
    have h := Blk.new w 181 (tabTo 0)
    rw [tab0] at h
    exact h
  have hf : Fr No w (w.alloc (.cells Try.zeroCells181 181)) := (Fr.refl No w).alloc _
  generalize w.alloc (.cells Try.zeroCells181 181) = w0 at *
  go_loopw [5] (fun t wr => ∃ k : Nat, k ≤ 256 ∧ t = .int .i64 k ∧ Blk wr w.heap.size 181 (tabTo k) ∧ Fr No w wr) (fun t _ => 256 - (intOf t).toNat)
  case atStart => exact ⟨0, Nat.zero_le _, rfl, hB, hf⟩
  case round =>
    obtain ⟨k, hk, rfl, hT, hfr⟩ := hrel
    clear hB hf
    by_cases hlt : k < 256
    · go_wp2_with (go_at_call 137; refine (fill_any w.heap.size k hlt _ (tabTo_len k) _ hT).mono ?_; rintro e w1 ⟨⟨v, rfl⟩, h1, h2⟩)
      go_roundw
      case rel =>
        rw [tabTo_succ k hlt] at h1
        exact ⟨k + 1, by omega, by go_num, h1, hfr.trans h2 (fun x hx => .inr (by omega))⟩
      case measure => (simp [intOf]; omega)
    · obtain rfl : k = 256 := by omega
      have hl := hT.lt
      go_wp2
      go_ret
      exact ⟨rfl, hT, hfr⟩

set_option maxRecDepth 100000 in
set_option maxHeartbeats 4000000 in
theorem crcMore_any (a : Option Addr) (n c : Nat) (bs : List UInt8) (w : World) (h : Win w a n c (bs.map byt)) (hb : n ≤ 1000000) :
    Calls Try.prog 104 #[.int .u32 0, .slice a n c] w fun e w' => e = .returned (.int .u32 (sumOf bs : Nat)) ∧ Fr No w w' := by
  have hl : bs.length = n := by have := h.len; simpa using this
  have HL := Lib.hid hl
  have hw := Lib.hid h
  clear hl h
  go_enter Try.func104, Try.ntmps104
  go_wp2_with (go_at_call 120; refine (known_any _).mono ?_; rintro e w1 ⟨rfl, hT, hf1⟩)
  have hst : Value.int .u32 (bits .xor .u32 IntKind.u32.max 0) = .int .u32 (crcTo bs 0 : Nat) := by
    have h0 : bits .xor .u32 IntKind.u32.max 0 = ((4294967295 - 0 : Nat) : Int) := not_u32 0 (by decide)
    rw [h0]
    rfl
  rw [hst]
  have HT := Lib.hid hT
  clear hst hT
  go_loopw [6, 14] (fun r t wr => ∃ k : Nat, k ≤ n ∧ r = .int .u32 (crcTo bs k : Nat) ∧ t = .int .i64 k ∧ Fr No w1 wr) (fun _ t _ => n - (intOf t).toNat)
  case atStart => exact ⟨0, Nat.zero_le _, rfl, rfl, Fr.refl _ _⟩
  case round =>
    obtain ⟨k, hk, rfl, rfl, hfr⟩ := hrel
    by_cases hlt : k < n
    · have hkb : k < bs.length := by rw [HL.out]; exact hlt
      obtain ⟨ad, u, rfl, hu, hcell⟩ := (hw.out.no (hf1.thn hfr)).at hlt
      have hc := crcTo_lt bs k
      have hsuc := crcTo_succ bs k hkb
      obtain ⟨c', hcd⟩ : ∃ c', c' = crcTo bs k := ⟨_, rfl⟩
      rw [← hcd] at hc hsuc ⊢
      have hx := (bs[k]).toNat_lt
      have hu' : u = .int .u8 ((bs[k]).toNat : Int) := by
        rw [List.getElem?_map, List.getElem?_eq_getElem hkb] at hu
        exact (Option.some.inj hu).symm
      subst hu'
      generalize (bs[k]).toNat = x at *
      obtain ⟨m, hm⟩ : ∃ m, m = c' % 256 ^^^ x := ⟨_, rfl⟩
      have hml : m < 256 := by rw [hm]; exact Nat.xor_lt_two_pow (n := 8) (Nat.mod_lt _ (by decide)) hx
      have hidx : bits .xor .u8 ((c' : Int) % 256) (x : Int) = (m : Int) := by rw [xor_u8 c' x hx, hm]
      have hTr := HT.out.fr hfr (No.no _)
      have ht := hTr.cell (j := m) (tabTo_get m hml)
      have hxor : bits .xor .u32 ((c' : Int) / 256) ((tab m : Nat) : Int) = ((csB c' x : Nat) : Int) := by
        have h1 := xor_u32 (c' / 256) (tab m) (by omega) (tab_lt (by omega))
        rw [show ((c' / 256 : Nat) : Int) = (c' : Int) / 256 by omega] at h1
        rw [h1]
        unfold csB
        rw [hm]
      have HS := Lib.hid hsuc
      have hmi : (m : Int) < 256 := by omega
      have htl := hTr.lt
      clear hsuc hm hcd hu
      go_wp2
      go_roundw
      case rel => exact ⟨k + 1, by omega, by rw [HS.out], by go_num, hfr⟩
      case measure => (simp [intOf]; omega)
    · obtain rfl : k = n := by omega
      have hend : bits .xor .u32 IntKind.u32.max ((crcTo bs k : Nat) : Int) = ((sumOf bs : Nat) : Int) := by
        rw [not_u32 _ (crcTo_lt bs k)]
        unfold sumOf crcTo
        rw [List.take_of_length_le (by rw [HL.out]; exact Nat.le_refl _)]
      have HE := Lib.hid hend
      clear hend
      go_wp2
      go_ret
      exact ⟨by rw [← HE.out]; rfl, hf1.thn hfr⟩

theorem crcOf_any (a : Option Addr) (n c : Nat) (bs : List UInt8) (w : World) (h : Win w a n c (bs.map byt)) (hb : n ≤ 1000000) :
    Calls Try.prog 67 #[.slice a n c] w fun e w' => e = .returned (.int .u32 (sumOf bs : Nat)) ∧ Fr No w w' := by
  go_enter Try.func67, Try.ntmps67
  go_wp2_with (go_at_call 104; refine (crcMore_any a n c bs _ h hb).mono ?_; rintro e w1 ⟨rfl, hf1⟩)
  go_ret
  exact ⟨rfl, hf1⟩

end Go.Proofs.Ytnkjhicokcmmpaa

/-
  The checksum of bytes: what the document's functions come to.
-/
namespace Go.Proofs.Ytnkjhicokcmmpaa
open Go.RowKit Go.Shelf

end Go.Proofs.Ytnkjhicokcmmpaa

/-
  A root's sector: what the program's Encode comes to.
-/
namespace Go.Proofs.Ytnkjhicokcmmpaa
open Go.RowKit Go.Shelf

/-- A root. -/
structure RootD where
  n : Nat
  len : Int
  sum : Nat
structure RootD.Fits (r : RootD) : Prop where
  n : r.n < 2 ^ 64
  sum : r.sum < 2 ^ 32
def RootD.cells (r : RootD) : List Value := [.int .u64 r.n, .int .i64 r.len, .int .u32 r.sum]
/-- May it be? -/
def RootD.ok (r : RootD) : Bool := !(r.n == 0) && !(decide (r.len < 0)) && !(decide (3072 < r.len))
/-- What is ahead of the sum. -/
def rootFront (r : RootD) : List UInt8 := [81, 82, 1, 0] ++ num 8 r.n ++ num 4 r.len.toNat ++ num 4 r.sum ++ List.replicate 96 0
def rootBytes (r : RootD) : List UInt8 := rootFront r ++ num 4 (sumOf (rootFront r)) ++ num 8 r.n
theorem rootFront_len (r : RootD) : (rootFront r).length = 116 := by simp [rootFront, num_len]
theorem rootBytes_len (r : RootD) : (rootBytes r).length = 128 := by simp [rootBytes, rootFront_len, num_len]

set_option maxRecDepth 100000 in
set_option maxHeartbeats 1000000 in
theorem encode_ok (r : RootD) (hf : r.Fits) (hr : r.ok = true) (w : World) :
    Calls Try.prog 18 #[.agg r.cells.toArray] w fun e w' => ∃ g c, e = .returned (.tuple #[.slice (some ⟨g, 0, none⟩) 128 c, .int .i64 0]) ∧ Own w' 5 1 (.slice (some ⟨g, 0, none⟩) 128 c) 128 ((rootBytes r).map byt) ∧ w.heap.size ≤ g ∧ Fr No w w' := by
  obtain ⟨n, len, sum⟩ := r
  simp only [RootD.ok, Bool.and_eq_true, Bool.not_eq_true', beq_eq_false_iff_ne, decide_eq_false_iff_not] at hr
  obtain ⟨⟨hr1, hr2⟩, hr3⟩ := hr
  obtain ⟨L, rfl⟩ : ∃ L : Nat, len = (L : Int) := ⟨len.toNat, by omega⟩
  have hL : L ≤ 3072 := by omega
  have hn0 : ((n : Int) == 0) = false := by simp; omega
  have hLw : IntKind.u64.wrap (L : Int) = (L : Int) := wrap_u64 L (by omega)
  have hsw : IntKind.u64.wrap (sum : Int) = (sum : Int) := wrap_u64 sum (Nat.lt_of_lt_of_le hf.sum (by decide))
  have kc := fun (w : World) (C : Array Value) (n c g : Nat) (hg : g = w.heap.size) => Joins.run_convert_bytes_const_at (P := Try.prog) w 26 5 C n c g hg Try.underlying26 Try.underlying5
  have hd1 : decide ((L : Int) < 0) = false := by simp
  have hd2 : decide (3072 < (L : Int)) = false := by simp; omega
  have HF := Lib.hid hf
  clear hf hr1 hr2 hr3
  show Calls _ _ #[.agg #[.int .u64 n, .int .i64 (L : Int), .int .u32 sum]] _ _
  go_enter Try.func18, Try.ntmps18
  go_wp2_with fail
  obtain ⟨N, hN⟩ : ∃ N, N = w.heap.size + 1 := ⟨_, rfl⟩
  have kR : Blk (((w.alloc (.cells #[.int .u64 n, .int .i64 L, .int .u32 sum] 25)).alloc (.cells #[.slice none 0 0] 110)).alloc (.cells #[.int .u8 81, .int .u8 82, .int .u8 1, .int .u8 0] 5 (4, 5))) w.heap.size 25 [.int .u64 n, .int .i64 L, .int .u32 sum] := ((Blk.new w _ _).alloc _).alloc _
  have hW0 : WIn N (((w.alloc (.cells #[.int .u64 n, .int .i64 L, .int .u32 sum] 25)).alloc (.cells #[.slice none 0 0] 110)).alloc (.cells #[.int .u8 81, .int .u8 82, .int .u8 1, .int .u8 0] 5 (4, 5))) N (.slice none 0 0) [] := by
    refine ⟨⟨?_, World.ownsRow_nil _ _ _ _⟩, Nat.le_refl _, fun k hk => by simp [Value.ownBlock] at hk⟩
    have := Blk.new (w.alloc (.cells #[.int .u64 n, .int .i64 L, .int .u32 sum] 25)) 110 [.slice none 0 0]
    rw [World.size_alloc, ← hN] at this
    exact this.alloc _
  have hC : Win (((w.alloc (.cells #[.int .u64 n, .int .i64 L, .int .u32 sum] 25)).alloc (.cells #[.slice none 0 0] 110)).alloc (.cells #[.int .u8 81, .int .u8 82, .int .u8 1, .int .u8 0] 5 (4, 5))) (some ⟨w.heap.size + 1 + 1, 0, none⟩) 4 4 (([81, 82, 1, 0] : List UInt8).map byt) := by
    have := win_const ((w.alloc (.cells #[.int .u64 n, .int .i64 L, .int .u32 sum] 25)).alloc (.cells #[.slice none 0 0] 110)) 5 [.int .u8 81, .int .u8 82, .int .u8 1, .int .u8 0] (by unfold maxLen; simp)
    rw [World.size_alloc, World.size_alloc] at this
    exact this
  have f0 : Fr No w (((w.alloc (.cells #[.int .u64 n, .int .i64 L, .int .u32 sum] 25)).alloc (.cells #[.slice none 0 0] 110)).alloc (.cells #[.int .u8 81, .int .u8 82, .int .u8 1, .int .u8 0] 5 (4, 5))) := (((Fr.refl No w).alloc _).alloc _).alloc _
  have hz0 : N ≤ (((w.alloc (.cells #[.int .u64 n, .int .i64 L, .int .u32 sum] 25)).alloc (.cells #[.slice none 0 0] 110)).alloc (.cells #[.int .u8 81, .int .u8 82, .int .u8 1, .int .u8 0] 5 (4, 5))).heap.size := by simp; omega
  generalize ((w.alloc (.cells #[.int .u64 n, .int .i64 L, .int .u32 sum] 25)).alloc (.cells #[.slice none 0 0] 110)).alloc (.cells #[.int .u8 81, .int .u8 82, .int .u8 1, .int .u8 0] 5 (4, 5)) = w0 at *
  have hbN : w.heap.size < N := by omega
  rw [← hN]
  rw [← hN] at hC
  have HN := Lib.hid hN
  clear hN kc
  refine (wrawN N N _ [] [81, 82, 1, 0] _ 4 4 (by simp) _ hz0 hW0 hC).mono ?_
  rintro e w1 ⟨v1, rfl, h1, g1⟩
  have k1 := kR.from g1 hbN
  have z1 : N ≤ w1.heap.size := Nat.le_trans hz0 g1.size
  have c1 := k1.cell (j := 0) rfl
  clear hW0 hC
  go_wp2_with fail
  refine (wnumN N N v1 _ 8 n (by omega) HF.out.n (by simp) _ z1 h1).mono ?_
  rintro e w2 ⟨v2, rfl, h2, g2⟩
  have k2 := k1.from g2 hbN
  have z2 : N ≤ w2.heap.size := Nat.le_trans z1 g2.size
  have c2 := k2.cell (j := 1) rfl
  clear c1 h1
  go_wp2_with fail
  refine (wnumN N N v2 _ 4 L (by omega) (by omega) (by simp [num_len]) _ z2 h2).mono ?_
  rintro e w3 ⟨v3, rfl, h3, g3⟩
  have k3 := k2.from g3 hbN
  have z3 : N ≤ w3.heap.size := Nat.le_trans z2 g3.size
  have c3 := k3.cell (j := 2) rfl
  clear c2 h2
  go_wp2_with fail
  refine (wnumN N N v3 _ 4 sum (by omega) HF.out.sum (by simp [num_len]) _ z3 h3).mono ?_
  rintro e w4 ⟨v4, rfl, h4, g4⟩
  have k4 := k3.from g4 hbN
  have z4 : N ≤ w4.heap.size := Nat.le_trans z3 g4.size
  clear c3 h3
  go_wp2_with fail
  refine (wlenN N N v4 _ 20 (by simp [num_len]) _ h4).mono ?_
  rintro e w5 ⟨rfl, rfl⟩
  have hmk : ∀ u : World, (Instr.makeSlice 26 (.int .i64 96) (.int .i64 96)).run Try.prog u = .ok (.slice (some ⟨u.heap.size, 0, none⟩) 96 96) (u.alloc (.cells ((List.replicate 96 (0 : UInt8)).map byt).toArray 5)) := Try.makeB 96 (by decide)
  obtain ⟨zz, hzz⟩ : ∃ zz : Array Value, zz = ((List.replicate 96 (0 : UInt8)).map byt).toArray := ⟨_, rfl⟩
  rw [← hzz] at hmk
  have HZZ := Lib.hid hzz
  clear hzz
  go_wp2_with fail
  have f4 : Fr No w4 (w4.alloc (.cells zz 5)) := (Fr.refl No w4).alloc _
  have hZ : Win (w4.alloc (.cells zz 5)) (some ⟨w4.heap.size, 0, none⟩) 96 96 ((List.replicate 96 (0 : UInt8)).map byt) := by
    rw [HZZ.out]
    exact Win.of_own' (Own.of_blk (sp := []) (by rw [List.append_nil]; exact Blk.new w4 _ _) (by simp) (by simp) (Nat.le_refl _) (by unfold maxLen; simp))
  have z4' : N ≤ (w4.alloc (.cells zz 5)).heap.size := Nat.le_trans z4 f4.size
  have h4' := h4.no f4
  refine (wrawN N N v4 _ (List.replicate 96 0) _ 96 96 (by simp [num_len]) _ z4' h4' hZ).mono ?_
  rintro e w5 ⟨v5, rfl, h5, g5⟩
  have k5 := (k4.fr f4 (No.no _)).from g5 hbN
  have z5 : N ≤ w5.heap.size := Nat.le_trans z4' g5.size
  have hfr5 : From N w0 w5 := ((((g1.t g2).t g3).t g4).t (f4.no_any)).t g5
  clear h4 h4' hZ hmk k4 k3 k2 k1 kR g1 g2 g3 g4 g5
  have hfront : [81, 82, 1, 0] ++ num 8 n ++ num 4 L ++ num 4 sum ++ List.replicate 96 0 = rootFront ⟨n, L, sum⟩ := rfl
  rw [List.nil_append, hfront] at h5
  clear hfront
  obtain ⟨fr, hfrd⟩ : ∃ fr, fr = rootFront ⟨n, (L : Int), sum⟩ := ⟨_, rfl⟩
  have hfl : fr.length = 116 := by rw [hfrd]; exact rootFront_len _
  rw [← hfrd] at h5
  have HFR := Lib.hid hfrd
  clear hfrd
  go_wp2_with fail
  refine (wbytesN N N v5 fr 116 hfl (by decide) _ h5 (by decide)).mono ?_
  rintro e w6 ⟨ga, ca, rfl, o6, p6, g6⟩
  go_wp2_with fail
  refine (crcOf_any _ 116 ca fr _ (Win.of_own' o6) (by decide)).mono ?_
  rintro e w7 ⟨rfl, g7⟩
  have h7 := (h5.no g6).no g7
  have z7 : N ≤ w7.heap.size := Nat.le_trans z5 (Nat.le_trans g6.size g7.size)
  have k7 := (k5.fr g6 (No.no _)).fr g7 (No.no _)
  have hcw : IntKind.u64.wrap ((sumOf fr : Nat) : Int) = ((sumOf fr : Nat) : Int) := wrap_u64 _ (Nat.lt_trans (sumOf_lt fr) (by decide))
  clear h5 o6 k5
  go_wp2_with fail
  refine (wnumN N N v5 fr 4 (sumOf fr) (by omega) (sumOf_lt fr) (by omega) _ z7 h7).mono ?_
  rintro e w8 ⟨v8, rfl, h8, g8⟩
  have k8 := k7.from g8 hbN
  have z8 : N ≤ w8.heap.size := Nat.le_trans z7 g8.size
  have c8 := k8.cell (j := 0) rfl
  clear h7 hcw
  go_wp2_with fail
  refine (wnumN N N v8 _ 8 n (by omega) HF.out.n (by simp [num_len, hfl]) _ z8 h8).mono ?_
  rintro e w9 ⟨v9, rfl, h9, g9⟩
  clear c8 h8
  go_wp2_with fail
  refine (wbytesN N N v9 _ 128 (by simp [num_len, hfl]) (by decide) _ h9 (by decide)).mono ?_
  rintro e w10 ⟨gb, cb, rfl, o10, p10, g10⟩
  go_wp2
  go_ret2
  have hall : From N w0 w10 := (((hfr5.t (g6.thn g7).no_any).t g8).t g9).t g10.no_any
  refine ⟨gb, cb, rfl, ?_, ?_, f0.trans hall (fun k hk => .inr (by omega))⟩
  · rw [HFR.out] at o10
    exact o10
  · have := f0.size
    have := hall.size
    have := g9.size
    have := hfr5.size
    have := g6.size
    have := g7.size
    have := g8.size
    omega

end Go.Proofs.Ytnkjhicokcmmpaa

/-
  A root's sector: what the document's Encode comes to; refusals; areas.
-/
namespace Go.Proofs.Ytnkjhicokcmmpaa
open Go.RowKit Go.Shelf

set_option maxRecDepth 100000 in
set_option maxHeartbeats 1000000 in
theorem encode_bad (r : RootD) (hr : r.ok = false) (w : World) :
    Calls Try.prog 18 #[.agg r.cells.toArray] w fun e w' => e = .returned (.tuple #[.slice none 0 0, .int .i64 60]) ∧ Fr No w w' := by
  obtain ⟨n, L, sum⟩ := r
  have h3 : n = 0 ∨ (n ≠ 0 ∧ L < 0) ∨ (n ≠ 0 ∧ ¬ L < 0 ∧ 3072 < L) := by
    by_cases h0 : n = 0
    · exact .inl h0
    · by_cases h1 : L < 0
      · exact .inr (.inl ⟨h0, h1⟩)
      · refine .inr (.inr ⟨h0, h1, ?_⟩)
        simp [RootD.ok, h0, h1] at hr
        omega
  clear hr
  show Calls _ _ #[.agg #[.int .u64 n, .int .i64 L, .int .u32 sum]] _ _
  rcases h3 with rfl | ⟨h0, h1⟩ | ⟨h0, h1, h2⟩
  · go_enter Try.func18, Try.ntmps18
    go_wp2
    go_ret2
    exact ⟨rfl, (Fr.refl No w).alloc _⟩
  · have hn0 : ((n : Int) == 0) = false := by simp; omega
    have hd1 : decide (L < 0) = true := by simp; omega
    go_enter Try.func18, Try.ntmps18
    go_wp2
    go_ret2
    exact ⟨rfl, (Fr.refl No w).alloc _⟩
  · have hn0 : ((n : Int) == 0) = false := by simp; omega
    have hd1 : decide (L < 0) = false := by simp; omega
    have hd2 : decide (3072 < L) = true := by simp; omega
    go_enter Try.func18, Try.ntmps18
    go_wp2
    go_ret2
    exact ⟨rfl, (Fr.refl No w).alloc _⟩

/-- Bytes that are owned, in blocks from N on. -/
structure OIn (N : Nat) (w : World) (v : Value) (bs : List UInt8) : Prop where
  own : Own w 5 1 v bs.length (bs.map byt)
  new : ∀ k, v.ownBlock = some k → N ≤ k
theorem OIn.no {N : Nat} {w w' : World} {v : Value} {bs : List UInt8} (h : OIn N w v bs) (hf : Fr No w w') : OIn N w' v bs := ⟨h.own.fr hf (fun _ _ => No.no _), h.new⟩
theorem OIn.app {N : Nat} {w0 w w' : World} {m : Nat} {v v' : Value} {bs cs : List UInt8} (h : OIn N w0 v bs) (hz : N ≤ w0.heap.size) (h0 : Fr No w0 w) (hap : Appended w 5 1 v bs.length m (bs.map byt ++ cs.map byt) v' w') (hm : cs.length = m) : OIn N w' v' (bs ++ cs) ∧ From N w0 w' := by
  subst hm
  have ho := hap.own
  rw [← List.map_append, ← List.length_append] at ho
  refine ⟨⟨ho, fun k hk => ?_⟩, h0.no_any.trans hap.fr (fun k hk => .inl (h.new k hk))⟩
  rcases hap.atOr (Nat.le_refl _) k hk with e | e
  · exact h.new k e
  · exact Nat.le_trans hz (Nat.le_trans h0.size e)

theorem OIn.step {N : Nat} {w0 w w' : World} {m : Nat} {v v' : Value} {bs : List UInt8} (cs : List UInt8) (h : OIn N w0 v bs) (hz : N ≤ w0.heap.size) (h0 : Fr No w0 w) (hap : Appended w 5 1 v bs.length m (bs.map byt ++ cs.map byt) v' w') (hm : cs.length = m) :
    ∃ b1, Hid (b1 = bs ++ cs) ∧ Hid (b1.length = bs.length + m) ∧ OIn N w' v' b1 ∧ From N w0 w' := by
  obtain ⟨h1, h2⟩ := h.app hz h0 hap hm
  exact ⟨bs ++ cs, rfl, by show (bs ++ cs).length = bs.length + m; rw [List.length_append, hm], h1, h2⟩

end Go.Proofs.Ytnkjhicokcmmpaa

/-
  A root's sector: what the document's Encode comes to, where a root may be.
-/
namespace Go.Proofs.Ytnkjhicokcmmpaa
open Go.RowKit Go.Shelf

/-- New bytes, in blocks from where the heap ended. -/
theorem OIn.of {w w' : World} {v : Value} {n : Nat} {bs : List UInt8} (h : Own w' 5 1 v n (bs.map byt)) (hn : bs.length = n) (h2 : ∀ k, v.ownBlock = some k → w.heap.size ≤ k) : OIn w.heap.size w' v bs := ⟨by rw [hn]; exact h, h2⟩

end Go.Proofs.Ytnkjhicokcmmpaa

/-
  A sector's root: what the program's Decode comes to.
-/
namespace Go.Proofs.Ytnkjhicokcmmpaa
open Go.RowKit Go.Shelf

/-- The root that a sector could be. -/
def rootAt (b : List UInt8) : RootD := ⟨wh ((b.drop 4).take 8), (wh ((b.drop 12).take 4) : Nat), wh ((b.drop 16).take 4)⟩
/-- A sector's root. -/
def decRoot (b : List UInt8) : Option RootD := if b.length = 128 ∧ (rootAt b).ok = true ∧ rootBytes (rootAt b) = b then some (rootAt b) else none
def RootD.zero : RootD := ⟨0, 0, 0⟩
def decV (b : List UInt8) : Value := .agg ((decRoot b).getD .zero).cells.toArray
def decE (b : List UInt8) : Int := if (decRoot b).isSome then 0 else 60
theorem dec_some {b : List UInt8} {r : RootD} (hX : b.length = 128 → r = rootAt b) (hok : r.ok = true) (h : rootBytes r = b) : decRoot b = some r := by
  have hl : b.length = 128 := by rw [← h]; exact rootBytes_len r
  have := hX hl
  subst this
  unfold decRoot
  rw [if_pos ⟨hl, hok, h⟩]
theorem dec_none {b : List UInt8} {r : RootD} (hX : b.length = 128 → r = rootAt b) (h : r.ok = false ∨ rootBytes r ≠ b) : decRoot b = none := by
  unfold decRoot
  refine if_neg (fun ⟨h1, h2, h3⟩ => ?_)
  rw [← hX h1] at h2 h3
  rcases h with h | h
  · rw [h] at h2; cases h2
  · exact h h3

/-- What changes the block just behind the heap alone changes nothing that was there. -/
theorem Fr.fresh {w w' : World} (h : Fr (fun k => k = w.heap.size) w w') : Fr No w w' := ⟨h.os, h.tape, h.output, h.size, fun k hk _ => h.block k hk (by omega)⟩

set_option maxRecDepth 100000 in
set_option maxHeartbeats 1000000 in
theorem decode_any (a : Option Addr) (n c : Nat) (b : List UInt8) (w : World) (h : Win w a n c (b.map byt)) (hb : n ≤ 1000) :
    Calls Try.prog 20 #[.slice a n c] w fun e w' => e = .returned (.tuple #[decV b, .int .i64 (decE b)]) ∧ Fr No w w' := by
  have hbl : b.length = n := by have := h.len; simpa using this
  have hbm : b.length ≤ 1000000 := by omega
  have kB : Blk (w.alloc (.cells #[.int .u64 0, .int .i64 0, .int .u32 0] 25)) w.heap.size 25 [.int .u64 0, .int .i64 0, .int .u32 0] := Blk.new w _ _
  have f0 : Fr No w (w.alloc (.cells #[.int .u64 0, .int .i64 0, .int .u32 0] 25)) := (Fr.refl No w).alloc _
  have hz0 : w.heap.size < (w.alloc (.cells #[.int .u64 0, .int .i64 0, .int .u32 0] 25)).heap.size := by simp
  have HBL := Lib.hid hbl
  clear hbl
  go_enter Try.func20, Try.ntmps20
  go_wp2_with fail
  generalize w.alloc (.cells #[.int .u64 0, .int .i64 0, .int .u32 0] 25) = w0 at *
  refine (readN a n c b _ (h.no f0) (by omega)).mono ?_
  rintro e w1 ⟨rb, v, rfl, h1, g1⟩
  go_wp2_with fail
  refine (rrawN w0.heap.size rb 0 4 v b hbm _ g1.size h1).mono ?_
  rintro e w2 ⟨u2, c2, m2, p2, cs2, rfl, _, _, _, e2, h2, g2⟩
  have E2 := Lib.hid e2
  clear e2 h1
  go_wp2_with fail
  refine (rnumN w0.heap.size rb p2 8 v b hbm (by omega) _ h2).mono ?_
  rintro e w3 ⟨x3, c3, p3, rfl, l3, e3, h3, g3⟩
  have E3 := Lib.hid e3
  clear e3 h2
  go_wp2_with fail
  refine (rnumN w0.heap.size rb p3 4 v b hbm (by omega) _ h3).mono ?_
  rintro e w4 ⟨x4, c4, p4, rfl, l4, e4, h4, g4⟩
  have E4 := Lib.hid e4
  clear e4 h3
  go_wp2_with fail
  refine (rnumN w0.heap.size rb p4 4 v b hbm (by omega) _ h4).mono ?_
  rintro e w5 ⟨x5, c5, p5, rfl, l5, e5, h5, g5⟩
  have E5 := Lib.hid e5
  clear e5 h4
  have hX : b.length = 128 → (⟨x3, (x4 : Int), x5⟩ : RootD) = rootAt b := by
    intro hl
    obtain ⟨-, -, hp2⟩ := E2.out (by omega)
    obtain ⟨hx3, hp3⟩ := E3.out (by omega)
    obtain ⟨hx4, hp4⟩ := E4.out (by omega)
    obtain ⟨hx5, hp5⟩ := E5.out (by omega)
    unfold rootAt
    rw [hx3, hx4, hx5, hp4, hp3, hp2]
  have hF : RootD.Fits ⟨x3, (x4 : Int), x5⟩ := ⟨by simpa using l3, by simpa using l5⟩
  have hall : From w0.heap.size w0 w5 := From.t (g1.no_any) ((From.t g2 g3).t (From.t g4 g5))
  have k5 := kB.from hall hz0
  have hw4 : wrap64 (x4 : Int) = (x4 : Int) := Go.IntWalk.wrap64_in _ (by simp at l4; omega)
  have hw5 : IntKind.u32.wrap (x5 : Int) = (x5 : Int) := wrap_u32 x5 (by simpa using l5)
  have HX := Lib.hid hX
  have HF := Lib.hid hF
  clear g1 g2 g3 g4 g5 h5 kB hX hF l3 l4 l5 E2 E3 E4 E5
  have hfa : Fr No w0 w0 := Fr.refl No w0
  have hfin : ∀ W : World, From w0.heap.size w0 W → Fr (fun k => k = w.heap.size) w W := fun W hW => (f0.no_any (S := fun k => k = w.heap.size)).trans hW (fun k hk => .inr (by omega))
  have HFIN := Lib.hid hfin
  clear hfin hfa
  obtain ⟨X, hXd⟩ : ∃ X : RootD, X = ⟨x3, (x4 : Int), x5⟩ := ⟨_, rfl⟩
  rcases Bool.eq_false_or_eq_true X.ok with hok | hok
  · go_wp2_with fail
    have fb : Fr No w5 (w5.alloc (.cells #[.int .u64 x3, .int .i64 x4, .int .u32 x5] 25)) := (Fr.refl No w5).alloc _
    have kX : Blk (w5.alloc (.cells #[.int .u64 x3, .int .i64 x4, .int .u32 x5] 25)) w5.heap.size 25 [.int .u64 x3, .int .i64 x4, .int .u32 x5] := Blk.new w5 _ _
    refine (encode_ok ⟨x3, (x4 : Int), x5⟩ HF.out (by rw [← hXd]; exact hok) _).mono ?_
    rintro e w6 ⟨g6, c6, rfl, o6, n6, f6⟩
    have k6 := (k5.fr fb (No.no _)).fr f6 (No.no _)
    have kX6 := kX.fr f6 (No.no _)
    have hw6 : Win w6 a n c (b.map byt) := h.old (S := fun k => w0.heap.size ≤ k) (f0.no_any.trans (hall.t ((fb.thn f6).no_any)) (fun k hk => .inl hk)) (fun k hk => by omega)
    rw [← hXd] at o6
    have HX2 := Lib.hid hXd
    clear hXd
    have q0 := kX6.cell (j := 0) rfl
    have q1 := kX6.cell (j := 1) rfl
    have q2 := kX6.cell (j := 2) rfl
    have rl := k6.lt
    have rf := k6.free
    have r0 := k6.cell (j := 0) rfl
    have r1 := k6.cell (j := 1) rfl
    have r2 := k6.cell (j := 2) rfl
    have hall6 : From w0.heap.size w0 w6 := hall.t ((fb.thn f6).no_any)
    by_cases heq : rootBytes X = b
    · have hd : decide (rootBytes X = b) = true := decide_eq_true heq
      have hdec : decRoot b = some X := dec_some (by rw [HX2.out]; exact HX.out) hok heq
      have HD := Lib.hid hdec
      clear hdec heq
      go_wp2_with (go_at_call 74; refine (equal_any _ _ 128 c6 n c (rootBytes X) b _ (Win.of_own' o6) hw6).mono ?_; rintro e w7 ⟨rfl, rfl⟩; rw [hd])
      have kE : Blk (((w6.setCell ⟨w.heap.size, 0, none⟩ (.int .u64 x3)).setCell ⟨w.heap.size, 1, none⟩ (.int .i64 x4)).setCell ⟨w.heap.size, 2, none⟩ (.int .u32 x5)) w.heap.size 25 [.int .u64 x3, .int .i64 x4, .int .u32 x5] := ((k6.set 0 _).set 1 _).set 2 _
      have z0 := kE.cell (j := 0) rfl
      have z1 := kE.cell (j := 1) rfl
      have z2 := kE.cell (j := 2) rfl
      refine bodyPost_ret (v := .tuple #[decV b, .int .i64 (decE b)]) ?_ rfl ⟨rfl, ?_⟩
      · unfold decV decE
        rw [HD.out, HX2.out]
        simp [results, Try.results20, go_sem, z0, z1, z2, RootD.cells]
      · exact (((HFIN.out w6 hall6).setCell (p := ⟨w.heap.size, 0, none⟩) (.inl rfl) _).setCell (p := ⟨w.heap.size, 1, none⟩) (.inl rfl) _).setCell (p := ⟨w.heap.size, 2, none⟩) (.inl rfl) _ |>.fresh
    · have hd : decide (rootBytes X = b) = false := decide_eq_false heq
      have hdec : decRoot b = none := dec_none (by rw [HX2.out]; exact HX.out) (.inr heq)
      have HD := Lib.hid hdec
      clear hdec heq
      go_wp2_with (go_at_call 74; refine (equal_any _ _ 128 c6 n c (rootBytes X) b _ (Win.of_own' o6) hw6).mono ?_; rintro e w7 ⟨rfl, rfl⟩; rw [hd])
      have kE : Blk (((w6.setCell ⟨w.heap.size, 0, none⟩ (.int .u64 0)).setCell ⟨w.heap.size, 1, none⟩ (.int .i64 0)).setCell ⟨w.heap.size, 2, none⟩ (.int .u32 0)) w.heap.size 25 [.int .u64 0, .int .i64 0, .int .u32 0] := ((k6.set 0 _).set 1 _).set 2 _
      have z0 := kE.cell (j := 0) rfl
      have z1 := kE.cell (j := 1) rfl
      have z2 := kE.cell (j := 2) rfl
      refine bodyPost_ret (v := .tuple #[decV b, .int .i64 (decE b)]) ?_ rfl ⟨rfl, ?_⟩
      · unfold decV decE
        rw [HD.out]
        simp [results, Try.results20, go_sem, z0, z1, z2, RootD.cells, RootD.zero]
      · exact (((HFIN.out w6 hall6).setCell (p := ⟨w.heap.size, 0, none⟩) (.inl rfl) _).setCell (p := ⟨w.heap.size, 1, none⟩) (.inl rfl) _).setCell (p := ⟨w.heap.size, 2, none⟩) (.inl rfl) _ |>.fresh
  · have hdec : decRoot b = none := dec_none (by rw [hXd]; exact HX.out) (.inl hok)
    have HD := Lib.hid hdec
    clear hdec
    go_wp2_with fail
    have fb : Fr No w5 (w5.alloc (.cells #[.int .u64 x3, .int .i64 x4, .int .u32 x5] 25)) := (Fr.refl No w5).alloc _
    refine (encode_bad ⟨x3, (x4 : Int), x5⟩ (by rw [← hXd]; exact hok) _).mono ?_
    rintro e w6 ⟨rfl, f6⟩
    have k6 := (k5.fr fb (No.no _)).fr f6 (No.no _)
    have hall6 : From w0.heap.size w0 w6 := hall.t ((fb.thn f6).no_any)
    have rl := k6.lt
    have rf := k6.free
    have r0 := k6.cell (j := 0) rfl
    have r1 := k6.cell (j := 1) rfl
    have r2 := k6.cell (j := 2) rfl
    clear hXd
    go_wp2
    have kE : Blk (((w6.setCell ⟨w.heap.size, 0, none⟩ (.int .u64 0)).setCell ⟨w.heap.size, 1, none⟩ (.int .i64 0)).setCell ⟨w.heap.size, 2, none⟩ (.int .u32 0)) w.heap.size 25 [.int .u64 0, .int .i64 0, .int .u32 0] := ((k6.set 0 _).set 1 _).set 2 _
    have z0 := kE.cell (j := 0) rfl
    have z1 := kE.cell (j := 1) rfl
    have z2 := kE.cell (j := 2) rfl
    refine bodyPost_ret (v := .tuple #[decV b, .int .i64 (decE b)]) ?_ rfl ⟨rfl, ?_⟩
    · unfold decV decE
      rw [HD.out]
      simp [results, Try.results20, go_sem, z0, z1, z2, RootD.cells, RootD.zero]
    · exact (((HFIN.out w6 hall6).setCell (p := ⟨w.heap.size, 0, none⟩) (.inl rfl) _).setCell (p := ⟨w.heap.size, 1, none⟩) (.inl rfl) _).setCell (p := ⟨w.heap.size, 2, none⟩) (.inl rfl) _ |>.fresh

end Go.Proofs.Ytnkjhicokcmmpaa

/-
  A sector's root: what the document's Decode comes to.
-/
namespace Go.Proofs.Ytnkjhicokcmmpaa
open Go.RowKit Go.Shelf

end Go.Proofs.Ytnkjhicokcmmpaa

/-
  The walk through RootForms.
-/
namespace Go.Proofs.Ytnkjhicokcmmpaa
open Go.RowKit Go.Shelf

end Go.Proofs.Ytnkjhicokcmmpaa

/-
  A root is read from its sector as it was (plain).
-/
namespace Go.Proofs.Ytnkjhicokcmmpaa
open Go.RowKit

theorem wh_foldl (l : List UInt8) : ∀ x : Nat, l.foldl (fun n c => n * 256 + c.toNat) x = x * 256 ^ l.length + wh l := by
  induction l with
  | nil => intro x; simp [wh]
  | cons c l ih =>
    intro x
    have h0 : wh (c :: l) = c.toNat * 256 ^ l.length + wh l := by
      show l.foldl _ (0 * 256 + c.toNat) = _
      rw [ih]; simp
    rw [h0, List.foldl_cons, ih, List.length_cons, Nat.pow_succ]
    rw [Nat.add_mul, Nat.mul_assoc, Nat.mul_comm 256, Nat.add_assoc]
theorem wh_cons (c : UInt8) (l : List UInt8) : wh (c :: l) = c.toNat * 256 ^ l.length + wh l := by
  show l.foldl _ (0 * 256 + c.toNat) = _
  rw [wh_foldl]; simp
theorem wh_num : ∀ (s n : Nat), wh (num s n) = n % 256 ^ s
  | 0, n => by simp [num, numTo, wh, Nat.mod_one]
  | s + 1, n => by
    rw [num_succ, wh_cons, num_len, wh_num s n, Nat.pow_succ, Nat.mod_mul, Nat.mul_comm, Nat.add_comm]
    congr 2
    have e : (2 : Nat) ^ (8 * s) = 256 ^ s := by rw [Nat.pow_mul]
    rw [e]
    simp
theorem wh_num' {s n : Nat} (h : n < 256 ^ s) : wh (num s n) = n := by rw [wh_num, Nat.mod_eq_of_lt h]
theorem take_at (A B C : List UInt8) (k m : Nat) (hk : A.length = k) (hm : B.length = m) : ((A ++ (B ++ C)).drop k).take m = B := by
  subst hk hm
  simp
theorem wh_lt8 (l : List UInt8) (h : l.length ≤ 8) : wh l < 2 ^ 64 := by
  have h1 := wh_lt l
  have h2 : 256 ^ l.length ≤ 256 ^ 8 := Nat.pow_le_pow_right (by decide) h
  have h3 : (256 : Nat) ^ 8 = 2 ^ 64 := by decide
  omega
theorem wh_lt4 (l : List UInt8) (h : l.length ≤ 4) : wh l < 2 ^ 32 := by
  have h1 := wh_lt l
  have h2 : 256 ^ l.length ≤ 256 ^ 4 := Nat.pow_le_pow_right (by decide) h
  have h3 : (256 : Nat) ^ 4 = 2 ^ 32 := by decide
  omega
theorem rootOk_iff {r : RootD} : r.ok = true ↔ r.n ≠ 0 ∧ 0 ≤ r.len ∧ r.len ≤ 3072 := by
  simp only [RootD.ok, Bool.and_eq_true, Bool.not_eq_true', beq_eq_false_iff_ne, decide_eq_false_iff_not]
  omega
/-- A root's sector with another number at its tail. -/
def rootTail (r : RootD) (t : Nat) : List UInt8 := rootFront r ++ num 4 (sumOf (rootFront r)) ++ num 8 t
theorem rootTail_self (r : RootD) : rootTail r r.n = rootBytes r := rfl
theorem rootTail_at {r : RootD} (hf : r.Fits) (hr : r.ok = true) (t : Nat) : rootAt (rootTail r t) = r := by
  obtain ⟨n, len, sum⟩ := r
  obtain ⟨h0, h1, h2⟩ := rootOk_iff.1 hr
  have hn : n < 256 ^ 8 := hf.n
  have hs : sum < 256 ^ 4 := hf.sum
  simp only at h1 h2
  have hl : len.toNat < 256 ^ 4 := by omega
  have e1 : rootTail ⟨n, len, sum⟩ t = [81, 82, 1, 0] ++ (num 8 n ++ (num 4 len.toNat ++ (num 4 sum ++ (List.replicate 96 0 ++ (num 4 (sumOf (rootFront ⟨n, len, sum⟩)) ++ num 8 t))))) := by
    unfold rootTail
    rw [show rootFront ⟨n, len, sum⟩ = [81, 82, 1, 0] ++ num 8 n ++ num 4 len.toNat ++ num 4 sum ++ List.replicate 96 0 from rfl]
    simp only [List.append_assoc]
  unfold rootAt
  rw [e1]
  have f1 : (([81, 82, 1, 0] ++ (num 8 n ++ (num 4 len.toNat ++ (num 4 sum ++ (List.replicate 96 0 ++ (num 4 (sumOf (rootFront ⟨n, len, sum⟩)) ++ num 8 t))))) : List UInt8).drop 4).take 8 = num 8 n := take_at _ _ _ 4 8 rfl (num_len _ _)
  have f2 : (([81, 82, 1, 0] ++ (num 8 n ++ (num 4 len.toNat ++ (num 4 sum ++ (List.replicate 96 0 ++ (num 4 (sumOf (rootFront ⟨n, len, sum⟩)) ++ num 8 t))))) : List UInt8).drop 12).take 4 = num 4 len.toNat := by
    rw [← List.append_assoc]; exact take_at _ _ _ 12 4 (by simp [num_len]) (num_len _ _)
  have f3 : (([81, 82, 1, 0] ++ (num 8 n ++ (num 4 len.toNat ++ (num 4 sum ++ (List.replicate 96 0 ++ (num 4 (sumOf (rootFront ⟨n, len, sum⟩)) ++ num 8 t))))) : List UInt8).drop 16).take 4 = num 4 sum := by
    rw [← List.append_assoc, ← List.append_assoc]; exact take_at _ _ _ 16 4 (by simp [num_len]) (num_len _ _)
  rw [f1, f2, f3, wh_num' hn, wh_num' hl, wh_num' hs]
  congr 1
  omega
theorem dec_of_root {r : RootD} (hf : r.Fits) (hr : r.ok = true) : decRoot (rootBytes r) = some r :=
  dec_some (fun _ => (rootTail_at hf hr r.n).symm) hr rfl
theorem dec_of_tail {r : RootD} (hf : r.Fits) (hr : r.ok = true) {t : Nat} (ht : t < 2 ^ 64) (hne : t ≠ r.n) : decRoot (rootTail r t) = none :=
  dec_none (fun _ => (rootTail_at hf hr t).symm) (.inr fun e => hne (by
    have h8 : num 8 r.n = num 8 t := by
      have := congrArg (List.drop 120) (show rootFront r ++ num 4 (sumOf (rootFront r)) ++ num 8 r.n = rootFront r ++ num 4 (sumOf (rootFront r)) ++ num 8 t from e)
      rwa [List.drop_left' (by simp [rootFront_len, num_len]), List.drop_left' (by simp [rootFront_len, num_len])] at this
    have := congrArg wh h8
    rw [wh_num' hf.n, wh_num' ht] at this
    exact this.symm))
/-- What a sector of a root is. -/
theorem dec_root_inv {b : List UInt8} {r : RootD} (h : decRoot b = some r) : rootBytes r = b ∧ r.ok = true ∧ r.Fits ∧ b.length = 128 := by
  unfold decRoot at h
  split at h
  · rename_i hc
    obtain ⟨h1, h2, h3⟩ := hc
    simp only [Option.some.injEq] at h
    subst h
    refine ⟨h3, h2, ⟨?_, ?_⟩, h1⟩
    · exact wh_lt8 _ (by rw [List.length_take]; omega)
    · exact wh_lt4 _ (by rw [List.length_take]; omega)
  · cases h
end Go.Proofs.Ytnkjhicokcmmpaa

/-
  A small machine beside the model's: its values, its memory, and what it means that they stand for the model's.
-/
namespace Go.Proofs.Ytnkjhicokcmmpaa.Ev
open Go

/-- A tree of entries by number. -/
inductive Tr (α : Type) where
  | e
  | n (l : Tr α) (x : Option α) (r : Tr α)

namespace Tr
variable {α : Type}
def get : Tr α → Nat → Option α
  | .e, _ => none
  | .n l x r, k => cond (Nat.beq k 0) x (cond (Nat.beq (k % 2) 1) (get l (k / 2)) (get r (k / 2 - 1)))
def put : Nat → Tr α → Nat → α → Tr α
  | 0, t, _, _ => t
  | f + 1, .e, k, v => cond (Nat.beq k 0) (.n .e (some v) .e) (cond (Nat.beq (k % 2) 1) (.n (put f .e (k / 2) v) none .e) (.n .e none (put f .e (k / 2 - 1) v)))
  | f + 1, .n l x r, k, v => cond (Nat.beq k 0) (.n l (some v) r) (cond (Nat.beq (k % 2) 1) (.n (put f l (k / 2) v) x r) (.n l x (put f r (k / 2 - 1) v)))
theorem get_put : ∀ (f : Nat) (t : Tr α) (k : Nat) (v : α) (j : Nat), k < f → (put f t k v).get j = if j = k then some v else t.get j := by
  intro f
  induction f with
  | zero => intro t k v j h; omega
  | succ f ih =>
    intro t k v j h
    have hb : ∀ a b : Nat, Nat.beq a b = decide (a = b) := fun a b => by
      rw [Bool.eq_iff_iff]; simp [Nat.beq_eq]
    by_cases hk : k = 0
    · subst hk
      cases t <;> by_cases hj : j = 0 <;> simp [put, get, hb, hj]
    · by_cases hm : k % 2 = 1
      · have h1 : k / 2 < f := by omega
        cases t <;> simp only [put, hb, hk, hm, decide_true, decide_false, cond_true, cond_false, get]
        all_goals
          by_cases hj : j = 0
          · simp [hj, Ne.symm hk]
          · by_cases hn : j % 2 = 1
            · simp only [hj, hn, decide_true, decide_false, cond_true, cond_false, ih _ _ _ _ h1]
              by_cases e : j = k
              · simp [e]
              · simp [e, show ¬ j / 2 = k / 2 by omega, get]
            · have : ¬ j = k := by intro e; subst e; exact hn hm
              simp [hj, hn, this, get]
      · have h1 : k / 2 - 1 < f := by omega
        cases t <;> simp only [put, hb, hk, hm, decide_true, decide_false, cond_true, cond_false, get]
        all_goals
          by_cases hj : j = 0
          · simp [hj, Ne.symm hk]
          · by_cases hn : j % 2 = 1
            · have : ¬ j = k := by intro e; subst e; exact hm hn
              simp [hj, hn, this, get]
            · simp only [hj, hn, decide_true, decide_false, cond_true, cond_false, ih _ _ _ _ h1]
              by_cases e : j = k
              · simp [e]
              · simp [e, show ¬ j / 2 - 1 = k / 2 - 1 by omega, get]
end Tr

/-- A value: as the model's, with memory named by numbers of this machine. -/
inductive AV where
  | v (x : Value)
  | ptr (i o : Nat)
  | sl (i o n c : Nat)
  | su (i o n k q : Nat)
  | se
  | s0
  | mp (i : Nat)
  | agg (l : List AV)
  | tup (l : List AV)
  | fn (f : Fn) (l m : List AV)
  | yl (i : Nat)
  | ifc (t : TypeId) (x : AV)

/-- What number stands for which block (and its capacity, where it is a slice's own). -/
abbrev Env := Nat → Option (Nat × Nat)

mutual
inductive VR (ρ : Env) : AV → Value → Prop
  | v (x : Value) : VR ρ (.v x) x
  | ptr {i b c : Nat} (o : Nat) (h : ρ i = some (b, c)) : VR ρ (.ptr i o) (.pointer (some ⟨b, o, none⟩))
  | sl {i b d : Nat} (o n c : Nat) (h : ρ i = some (b, d)) : VR ρ (.sl i o n c) (.slice (some ⟨b, o, none⟩) n c)
  | su {i b c : Nat} (o n k q : Nat) (h : ρ i = some (b, c)) (hn : n ≤ q ∧ q ≤ c - k) : VR ρ (.su i o n k q) (.slice (some ⟨b, o, none⟩) n (c - k))
  | se (a : Addr) (c : Nat) : VR ρ .se (.slice (some a) 0 c)
  | s0 (a : Option Addr) (c : Nat) : VR ρ .s0 (.slice a 0 c)
  | mp {i b c : Nat} (h : ρ i = some (b, c)) : VR ρ (.mp i) (.map (some b))
  | agg {l : List AV} {vs : List Value} (h : VRs ρ l vs) : VR ρ (.agg l) (.agg vs.toArray)
  | tup {l : List AV} {vs : List Value} (h : VRs ρ l vs) : VR ρ (.tup l) (.tuple vs.toArray)
  | fn (f : Fn) {l m : List AV} {vs us : List Value} (h : VRs ρ l vs) (h' : VRs ρ m us) : VR ρ (.fn f l m) (.func f vs.toArray us.toArray)
  | yl {i b c : Nat} (h : ρ i = some (b, c)) : VR ρ (.yl i) (.func (.yield b) #[] #[])
  | ifc (t : TypeId) {x : AV} {u : Value} (h : VR ρ x u) : VR ρ (.ifc t x) (.iface t u)
inductive VRs (ρ : Env) : List AV → List Value → Prop
  | nil : VRs ρ [] []
  | cons {x : AV} {u : Value} {l : List AV} {vs : List Value} (h : VR ρ x u) (t : VRs ρ l vs) : VRs ρ (x :: l) (u :: vs)
end

def Env.le (ρ ρ' : Env) : Prop := ∀ i b, ρ i = some b → ρ' i = some b
theorem Env.le_refl (ρ : Env) : ρ.le ρ := fun _ _ h => h
theorem Env.le_trans {ρ ρ' ρ'' : Env} (h : ρ.le ρ') (k : ρ'.le ρ'') : ρ.le ρ'' := fun i b e => k i b (h i b e)

mutual
theorem VR.mono {ρ ρ' : Env} (h : ρ.le ρ') : ∀ {x : AV} {u : Value}, VR ρ x u → VR ρ' x u
  | _, _, .v x => .v x
  | _, _, .ptr o e => .ptr o (h _ _ e)
  | _, _, .sl o n c e => .sl o n c (h _ _ e)
  | _, _, .su o n k q e hn => .su o n k q (h _ _ e) hn
  | _, _, .se a c => .se a c
  | _, _, .s0 a c => .s0 a c
  | _, _, .mp e => .mp (h _ _ e)
  | _, _, .agg e => .agg (VRs.mono h e)
  | _, _, .tup e => .tup (VRs.mono h e)
  | _, _, .fn f e e' => .fn f (VRs.mono h e) (VRs.mono h e')
  | _, _, .yl e => .yl (h _ _ e)
  | _, _, .ifc t e => .ifc t (VR.mono h e)
theorem VRs.mono {ρ ρ' : Env} (h : ρ.le ρ') : ∀ {l : List AV} {vs : List Value}, VRs ρ l vs → VRs ρ' l vs
  | _, _, .nil => .nil
  | _, _, .cons e t => .cons (VR.mono h e) (VRs.mono h t)
end

namespace VRs
variable {ρ : Env}
theorem length {l : List AV} {vs : List Value} (h : VRs ρ l vs) : l.length = vs.length := by
  induction l generalizing vs with
  | nil => cases h; rfl
  | cons x l ih => cases h with | cons _ t => simp [ih t]
theorem get {l : List AV} {vs : List Value} (h : VRs ρ l vs) {k : Nat} {x : AV} (hx : l[k]? = some x) : ∃ u, vs[k]? = some u ∧ VR ρ x u := by
  induction l generalizing vs k with
  | nil => simp at hx
  | cons y l ih =>
    cases h with
    | cons e t =>
      cases k with
      | zero => simp at hx; subst hx; exact ⟨_, rfl, e⟩
      | succ k => simpa using ih t (by simpa using hx)
theorem append {l m : List AV} {vs us : List Value} (h : VRs ρ l vs) (k : VRs ρ m us) : VRs ρ (l ++ m) (vs ++ us) := by
  induction l generalizing vs with
  | nil => cases h; simpa using k
  | cons y l ih => cases h with | cons e t => exact .cons e (ih t)
theorem take {l : List AV} {vs : List Value} (h : VRs ρ l vs) (n : Nat) : VRs ρ (l.take n) (vs.take n) := by
  induction l generalizing vs n with
  | nil => cases h; simpa using VRs.nil
  | cons y l ih => cases h with | cons e t => cases n with | zero => exact .nil | succ n => exact .cons e (ih t n)
theorem drop {l : List AV} {vs : List Value} (h : VRs ρ l vs) (n : Nat) : VRs ρ (l.drop n) (vs.drop n) := by
  induction l generalizing vs n with
  | nil => cases h; simpa using VRs.nil
  | cons y l ih => cases h with | cons e t => cases n with | zero => exact .cons e t | succ n => exact ih t n
theorem of_vals : ∀ l : List Value, VRs ρ (l.map .v) l
  | [] => .nil
  | x :: l => .cons (.v x) (of_vals l)
end VRs

/-- A value of the model's as one of this machine's: parts one by one. -/
def ofV : Value → AV
  | .agg cs => .agg (cs.toList.map .v)
  | .tuple vs => .tup (vs.toList.map .v)
  | x => .v x
theorem ofV_VR {ρ : Env} : ∀ x : Value, VR ρ (ofV x) x := by
  intro x
  cases x <;> first | exact .v _ | (simpa [ofV] using VR.agg (VRs.of_vals _)) | (simpa [ofV] using VR.tup (VRs.of_vals _))

mutual
/-- Where no memory is named: the model's value. -/
def AV.val? : AV → Option Value
  | .v x => some x
  | .agg l => match vals? l with | some vs => some (.agg vs.toArray) | none => none
  | .tup l => match vals? l with | some vs => some (.tuple vs.toArray) | none => none
  | .ifc t x => match x.val? with | some u => some (.iface t u) | none => none
  | _ => none
def vals? : List AV → Option (List Value)
  | [] => some []
  | x :: l => match x.val? with
    | some u => match vals? l with | some vs => some (u :: vs) | none => none
    | none => none
end
mutual
theorem AV.val?_VR {ρ : Env} : ∀ {x : AV} {u v : Value}, x.val? = some u → VR ρ x v → v = u
  | .v x, u, v, h, k => by cases k; simpa [AV.val?] using h
  | .agg l, u, v, h, k => by
    cases k with
    | agg e =>
      simp only [AV.val?] at h
      split at h <;> simp at h
      rename_i vs hvs
      rw [← h, vals?_VR hvs e]
  | .tup l, u, v, h, k => by
    cases k with
    | tup e =>
      simp only [AV.val?] at h
      split at h <;> simp at h
      rename_i vs hvs
      rw [← h, vals?_VR hvs e]
  | .ifc t x, u, v, h, k => by
    cases k with
    | ifc _ e =>
      simp only [AV.val?] at h
      cases hx : x.val? with
      | none => rw [hx] at h; cases h
      | some y => rw [hx] at h; simp only [Option.some.injEq] at h; rw [← h, AV.val?_VR hx e]
  | .ptr .., _, _, h, _ => by simp [AV.val?] at h
  | .sl .., _, _, h, _ => by simp [AV.val?] at h
  | .su .., _, _, h, _ => by simp [AV.val?] at h
  | .se, _, _, h, _ => by simp [AV.val?] at h
  | .s0, _, _, h, _ => by simp [AV.val?] at h
  | .mp .., _, _, h, _ => by simp [AV.val?] at h
  | .fn .., _, _, h, _ => by simp [AV.val?] at h
  | .yl .., _, _, h, _ => by simp [AV.val?] at h
theorem vals?_VR {ρ : Env} : ∀ {l : List AV} {us vs : List Value}, vals? l = some us → VRs ρ l vs → vs = us
  | [], us, vs, h, k => by cases k; simpa [vals?] using h
  | x :: l, us, vs, h, k => by
    cases k with
    | cons e t =>
      simp only [vals?] at h
      cases hx : x.val? with
      | none => rw [hx] at h; cases h
      | some y =>
        rw [hx] at h
        cases hl : vals? l with
        | none => rw [hl] at h; cases h
        | some ys => rw [hl] at h; simp only [Option.some.injEq] at h; rw [← h, AV.val?_VR hx e, vals?_VR hl t]
end

/-- The cells of a value. -/
def AV.cells : AV → List AV
  | .agg l => l
  | .v (.agg cs) => cs.toList.map .v
  | x => [x]
theorem VR.cells {ρ : Env} {x : AV} {u : Value} (h : VR ρ x u) : VRs ρ x.cells u.cells.toList := by
  cases h with
  | v =>
    cases u
    case agg cs => exact VRs.of_vals _
    all_goals exact .cons (.v _) .nil
  | agg e => exact e
  | ptr _ e => exact .cons (.ptr _ e) .nil
  | sl _ _ _ e => exact .cons (.sl _ _ _ e) .nil
  | su _ _ _ _ e hn => exact .cons (.su _ _ _ _ e hn) .nil
  | se a c => exact .cons (.se a c) .nil
  | s0 a c => exact .cons (.s0 a c) .nil
  | mp e => exact .cons (.mp e) .nil
  | tup e => exact .cons (.tup e) .nil
  | fn _ e e' => exact .cons (.fn _ e e') .nil
  | yl e => exact .cons (.yl e) .nil
  | ifc _ e => exact .cons (.ifc _ e) .nil

/-- A function's temporaries. -/
def At (T : Tr AV) (s : Nat) : AV := match T.get s with | some x => x | none => .v undef
def TR (ρ : Env) (n : Nat) (T : Tr AV) (ts : Array Value) : Prop := ts.size = n ∧ ∀ s, VR ρ (At T s) (ts.getD s undef)

/-- An operand. -/
def aev (T : Tr AV) : Operand → AV
  | .tmp t => At T t
  | .const x => ofV x
  | .global g => .v (.pointer (some ⟨g, 0, none⟩))
  | .func f => .fn (.func f) [] []

end Go.Proofs.Ytnkjhicokcmmpaa.Ev

/-
  Operations that only reckon: what the small machine makes of them is what the model makes.
-/
namespace Go.Proofs.Ytnkjhicokcmmpaa.Ev
open Go

section basics
variable {P : Program} {w : World}
theorem run_underlying {t : TypeId} {d : TypeDesc} (h : P.underlying t = some d) : (underlying t).run P w = .ok d w := by
  unfold underlying; simp [h]
theorem run_typeInfo {t : TypeId} {i : TypeInfo} (h : P.info? t = some i) : (typeInfo t).run P w = .ok i w := by
  unfold typeInfo; simp [h]
theorem run_sizeOf {t : TypeId} {i : TypeInfo} (h : P.info? t = some i) : (sizeOf t).run P w = .ok i.size w := by
  unfold sizeOf; simp [run_typeInfo h]
theorem run_zeroValue {t : TypeId} {i : TypeInfo} {z : Value} (h : P.info? t = some i) (hz : i.zero = some z) : (zeroValue t).run P w = .ok z w := by
  unfold zeroValue; simp [run_typeInfo h, hz]
def aggB (d : TypeDesc) : Bool := match d with | .struct _ => true | .array _ _ => true | _ => false
theorem run_isAgg {t : TypeId} {d : TypeDesc} (h : P.underlying t = some d) : (isAgg t).run P w = .ok (aggB d) w := by
  unfold isAgg; simp [run_underlying h]; cases d <;> rfl
end basics

/-- A computation that asks for nothing but the program. -/
def pureRun (P : Program) {α : Type} : Sem α → Option α
  | .pure a => some a
  | .program k => pureRun P (k P)
  | _ => none
theorem pureRun_run {P : Program} {α : Type} : ∀ {s : Sem α} {a : α} (w : World), pureRun P s = some a → s.run P w = .ok a w
  | .pure a, b, w, h => by simp [pureRun] at h; subst h; rfl
  | .program k, b, w, h => by
    have := pureRun_run (s := k P) w (by simpa [pureRun] using h)
    simpa [Sem.run] using this
  | .load .., _, _, h => by simp [pureRun] at h
  | .store .., _, _, h => by simp [pureRun] at h
  | .new .., _, _, h => by simp [pureRun] at h
  | .shape .., _, _, h => by simp [pureRun] at h
  | .freeze .., _, _, h => by simp [pureRun] at h
  | .frozen .., _, _, h => by simp [pureRun] at h
  | .getObj .., _, _, h => by simp [pureRun] at h
  | .setObj .., _, _, h => by simp [pureRun] at h
  | .choose .., _, _, h => by simp [pureRun] at h
  | .sys .., _, _, h => by simp [pureRun] at h
  | .mark .., _, _, h => by simp [pureRun] at h
  | .halt .., _, _, h => by simp [pureRun] at h

def partA (P : Program) (t : TypeId) (l : List AV) (off : Nat) : Option AV :=
  match P.underlying t with
  | some d => cond (aggB d) (match P.info? t with | some i => cond (Nat.ble (off + i.size) l.length) (some (.agg ((l.drop off).take i.size))) none | none => none) (l[off]?)
  | none => none
theorem partA_sound {P : Program} {ρ : Env} {t : TypeId} {l : List AV} {vs : List Value} {off : Nat} {x : AV} (h : partA P t l off = some x) (hv : VRs ρ l vs) :
    ∃ u, VR ρ x u ∧ ∀ w, (part t vs.toArray off).run P w = .ok u w := by
  unfold partA at h
  cases hd : P.underlying t with
  | none => simp [hd] at h
  | some d =>
    simp only [hd] at h
    cases hb : aggB d with
    | true =>
      simp only [hb, cond_true] at h
      cases hi : P.info? t with
      | none => simp [hi] at h
      | some i =>
        simp only [hi] at h
        cases hc : Nat.ble (off + i.size) l.length with
        | false => simp [hc] at h
        | true =>
          simp [hc] at h
          subst h
          refine ⟨_, .agg ((hv.drop off).take i.size), fun w => ?_⟩
          unfold part
          simp [run_isAgg hd, hb, run_sizeOf hi, List.extract_eq_take_drop]
    | false =>
      simp only [hb, cond_false] at h
      obtain ⟨u, hu, hx⟩ := hv.get h
      refine ⟨u, hx, fun w => ?_⟩
      unfold part
      simp [run_isAgg hd, hb, hu]

/-- Where each part goes. -/
def fillA (place : Nat → Option (Nat × Nat)) (cells : List AV) : List (Nat × AV) → Option (List AV)
  | [] => some cells
  | (i, x) :: rest =>
    match place i with
    | none => none
    | some (off, size) =>
      let c := x.cells
      cond (Nat.beq c.length size && Nat.ble (off + c.length) cells.length) (fillA place (cells.take off ++ c ++ cells.drop (off + c.length)) rest) none
theorem setAll (l c : List Value) : ∀ (off : Nat), off + c.length ≤ l.length → (c.toArray.zipIdx.foldl (fun cs (p : Value × Nat) => cs.setIfInBounds (off + p.2) p.1) l.toArray).toList = l.take off ++ c ++ l.drop (off + c.length) := by
  intro off h
  suffices H : ∀ (c : List Value) (k : Nat) (l : List Value), off + k + c.length ≤ l.length → ((c.zipIdx k).foldl (fun (cs : Array Value) (p : Value × Nat) => cs.setIfInBounds (off + p.2) p.1) l.toArray).toList = l.take (off + k) ++ c ++ l.drop (off + k + c.length) by
    have := H c 0 l (by simpa using h)
    simpa using this
  intro c
  induction c with
  | nil => intro k l h; simp
  | cons x c ih =>
    intro k l h
    simp only [List.zipIdx_cons, List.foldl_cons, List.setIfInBounds_toArray]
    have h' : off + (k + 1) + c.length ≤ (l.set (off + k) x).length := by simp at h ⊢; omega
    rw [ih (k + 1) (l.set (off + k) x) h']
    have e1 : (l.set (off + k) x).take (off + (k + 1)) = l.take (off + k) ++ [x] := by
      have hlt : off + k < l.length := by simp at h; omega
      rw [show off + (k + 1) = off + k + 1 by omega, List.take_succ_eq_append_getElem (by simpa using hlt), List.take_set_of_le (Nat.le_refl _)]
      simp
    have e2 : (l.set (off + k) x).drop (off + (k + 1) + c.length) = l.drop (off + k + (x :: c).length) := by
      rw [List.drop_set_of_lt (by omega)]
      congr 1
      simp; omega
    rw [e1, e2]
    simp
theorem fillA_sound {ρ : Env} {place : Nat → Option (Nat × Nat)} : ∀ {ps : List (Nat × AV)} {qs : List (Nat × Value)} {l r : List AV} {vs : List Value}, fillA place l ps = some r → VRs ρ l vs →
    qs.map Prod.fst = ps.map Prod.fst → VRs ρ (ps.map Prod.snd) (qs.map Prod.snd) → ∃ us, VRs ρ r us ∧ Instr.fill place vs.toArray qs = some us.toArray := by
  intro ps
  induction ps with
  | nil =>
    intro qs l r vs h hv hq _
    cases qs with
    | nil => simp [fillA] at h; subst h; exact ⟨vs, hv, rfl⟩
    | cons => simp at hq
  | cons p ps ih =>
    intro qs l r vs h hv hq hr
    obtain ⟨i, x⟩ := p
    cases qs with
    | nil => simp at hq
    | cons q qs =>
      obtain ⟨j, u⟩ := q
      simp only [List.map_cons, List.cons.injEq] at hq
      obtain ⟨rfl, hq⟩ := hq
      simp only [List.map_cons] at hr
      cases hr with
      | cons hx hr =>
        simp only [fillA] at h
        cases hp : place j with
        | none => simp [hp] at h
        | some os =>
          obtain ⟨off, size⟩ := os
          simp only [hp] at h
          cases hc : (Nat.beq x.cells.length size && Nat.ble (off + x.cells.length) l.length) with
          | false => simp [hc] at h
          | true =>
            simp only [hc, cond_true] at h
            simp only [Bool.and_eq_true, Nat.beq_eq, Nat.ble_eq] at hc
            have hxc := hx.cells
            have hlc := hxc.length
            have hl := hv.length
            have hv' : VRs ρ (l.take off ++ x.cells ++ l.drop (off + x.cells.length)) (vs.take off ++ u.cells.toList ++ vs.drop (off + u.cells.toList.length)) := by
              rw [hlc]; exact ((hv.take off).append hxc).append (hv.drop _)
            obtain ⟨us, h1, h2⟩ := ih h hv' hq hr
            refine ⟨us, h1, ?_⟩
            have hsz : u.cells.size = size := by rw [← Array.length_toList, ← hlc]; exact hc.1
            have hle : off + u.cells.toList.length ≤ vs.length := by rw [← hlc, ← hl]; exact hc.2
            simp only [Instr.fill, hp, hsz]
            rw [if_neg (by simp; rw [← hsz, ← Array.length_toList]; exact hle)]
            rw [← h2]
            congr 1
            have := setAll vs u.cells.toList off hle
            rw [← this]

/-- Composite literals. -/
def buildA (P : Program) (t : TypeId) (ps : List (Nat × AV)) : Option AV :=
  match P.info? t, P.underlying t with
  | some it, some (.array _ e) =>
    match it.zero, P.info? e with
    | some z, some ie => (fillA (fun i => some (i * ie.size, ie.size)) (ofV z).cells ps).map .agg
    | _, _ => none
  | some it, some (.struct fields) =>
    match it.zero, fields.toList.mapM (fun f => (P.info? f.type).map fun i => (f.offset, i.size)) with
    | some z, some places => (fillA (fun i => places[i]?) (ofV z).cells ps).map .agg
    | _, _ => none
  | _, _ => none
theorem buildA_sound {P : Program} {ρ : Env} {t : TypeId} {ps : List (Nat × AV)} {qs : Array (Nat × Value)} {x : AV} (h : buildA P t ps = some x)
    (hq : qs.toList.map Prod.fst = ps.map Prod.fst) (hr : VRs ρ (ps.map Prod.snd) (qs.toList.map Prod.snd)) : ∃ u, VR ρ x u ∧ ∀ w, (Instr.build t qs).run P w = .ok u w := by
  unfold buildA at h
  cases hit : P.info? t with
  | none => simp [hit] at h
  | some it =>
    cases hu : P.underlying t with
    | none => simp [hit, hu] at h
    | some d =>
      cases d <;> try (simp [hit, hu] at h; done)
      case array n e =>
        cases hz : it.zero with
        | none => simp [hit, hu, hz] at h
        | some z =>
          cases hie : P.info? e with
          | none => simp [hit, hu, hz, hie] at h
          | some ie =>
            simp only [hit, hu, hz, hie, Option.map_eq_some_iff] at h
            obtain ⟨r, h, rfl⟩ := h
            obtain ⟨us, h1, h2⟩ := fillA_sound h (ofV_VR (ρ := ρ) z).cells hq hr
            refine ⟨_, .agg h1, fun w => run_build w t qs _ ?_⟩
            simpa [Program.built, hit, hu, hz, hie] using h2
      case struct fields =>
        cases hz : it.zero with
        | none => simp [hit, hu, hz] at h
        | some z =>
          cases hp : fields.toList.mapM (fun f => (P.info? f.type).map fun i => (f.offset, i.size)) with
          | none => simp [hit, hu, hz, hp] at h
          | some places =>
            simp only [hit, hu, hz, hp, Option.map_eq_some_iff] at h
            obtain ⟨r, h, rfl⟩ := h
            obtain ⟨us, h1, h2⟩ := fillA_sound h (ofV_VR (ρ := ρ) z).cells hq hr
            refine ⟨_, .agg h1, fun w => run_build w t qs _ ?_⟩
            simpa [Program.built, hit, hu, hz, hp] using h2

/-- Bounds of a slice expression. -/
def bndA (y : Nat) : AV → Option Nat
  | .v (.int _ i) => cond (decide (0 ≤ i) && decide (i ≤ y)) (some i.toNat) none
  | _ => none
theorem bndA_sound {P : Program} {ρ : Env} {y : Nat} {x : AV} {u : Value} {r : Nat} (h : bndA y x = some r) (hx : VR ρ x u) : r ≤ y ∧ ∀ c w, (Instr.sliceBound u y c).run P w = .ok r w := by
  unfold bndA at h
  split at h
  · rename_i k i
    cases hx
    cases hc : (decide (0 ≤ i) && decide (i ≤ y)) with
    | false => simp [hc] at h
    | true =>
      simp only [hc, cond_true, Option.some.injEq] at h
      simp only [Bool.and_eq_true, decide_eq_true_eq] at hc
      subst h
      exact ⟨by omega, fun c w => run_sliceBound w k i y c hc.1 hc.2⟩
  · cases h
def optA (y d : Nat) : Option AV → Option Nat
  | none => some d
  | some x => bndA y x
/-- low, high, max; an upper bound's own bound 'hi'. -/
inductive OR (ρ : Env) : Option AV → Option Value → Prop
  | no : OR ρ none none
  | yes {x : AV} {u : Value} (h : VR ρ x u) : OR ρ (some x) (some u)

/-- The slice of a slice or an array. -/
def boundsA (len cap : Nat) (lo hi mx : Option AV) : Option (Nat × Nat × Nat) :=
  match mx with
  | none => match optA cap len hi with
    | some h => match optA h 0 lo with
      | some l => some (l, h, cap)
      | none => none
    | none => none
  | some x => match bndA cap x, hi with
    | some m, some y => match bndA m y with
      | some h => match optA h 0 lo with
        | some l => some (l, h, m)
        | none => none
      | none => none
    | _, _ => none
theorem boundsA_sound {P : Program} {ρ : Env} {len cap : Nat} {lo hi mx : Option AV} {lo' hi' mx' : Option Value} {r : Nat × Nat × Nat} (h : boundsA len cap lo hi mx = some r)
    (h1 : OR ρ lo lo') (h2 : OR ρ hi hi') (h3 : OR ρ mx mx') (b : Bool) : (∀ w, (Instr.sliceBounds b len cap lo' hi' mx').run P w = .ok r w) ∧ (mx = none → r.2.2 = cap) ∧ (len ≤ cap → r.1 ≤ r.2.1 ∧ r.2.1 ≤ r.2.2 ∧ r.2.2 ≤ cap) := by
  unfold boundsA at h
  cases h3 with
  | no =>
    cases h2 with
    | no =>
      simp only [optA] at h
      cases h1 with
      | no => simp [optA] at h; subst h; exact ⟨fun w => by simp [Instr.sliceBounds], fun _ => rfl, fun h => ⟨by simp, h, Nat.le_refl _⟩⟩
      | @yes z v hz =>
        simp only [optA] at h
        cases hl : bndA len z with
        | none => simp [hl] at h
        | some lv =>
          simp [hl] at h; subst h
          have e1 := bndA_sound (P := P) hl hz
          exact ⟨fun w => by simp [Instr.sliceBounds, e1.2], fun _ => rfl, fun h => ⟨e1.1, h, Nat.le_refl _⟩⟩
    | @yes y u hy =>
      simp only [optA] at h
      cases hh : bndA cap y with
      | none => simp [hh] at h
      | some hv =>
        simp only [hh] at h
        have e2 := bndA_sound (P := P) hh hy
        cases h1 with
        | no => simp [optA] at h; subst h; exact ⟨fun w => by simp [Instr.sliceBounds, e2.2], fun _ => rfl, fun h => ⟨by simp, e2.1, Nat.le_refl _⟩⟩
        | @yes z v hz =>
          simp only [optA] at h
          cases hl : bndA hv z with
          | none => simp [hl] at h
          | some lv =>
            simp [hl] at h; subst h
            have e1 := bndA_sound (P := P) hl hz
            exact ⟨fun w => by simp [Instr.sliceBounds, e1.2, e2.2], fun _ => rfl, fun h => ⟨e1.1, e2.1, Nat.le_refl _⟩⟩
  | @yes x u hx =>
    cases hm : bndA cap x with
    | none => simp [hm] at h
    | some m =>
      have e3 := bndA_sound (P := P) hm hx
      cases h2 with
      | no => simp [hm] at h
      | @yes y v hy =>
        simp only [hm] at h
        cases hh : bndA m y with
        | none => simp [hh] at h
        | some hv =>
          simp only [hh] at h
          have e2 := bndA_sound (P := P) hh hy
          cases h1 with
          | no => simp [optA] at h; subst h; exact ⟨fun w => by simp [Instr.sliceBounds, e2.2, e3.2], fun h => by simp at h, fun h => ⟨by simp, e2.1, e3.1⟩⟩
          | @yes z v hz =>
            simp only [optA] at h
            cases hl : bndA hv z with
            | none => simp [hl] at h
            | some lv =>
              simp [hl] at h; subst h
              have e1 := bndA_sound (P := P) hl hz
              exact ⟨fun w => by simp [Instr.sliceBounds, e1.2, e2.2, e3.2], fun h => by simp at h, fun h => ⟨e1.1, e2.1, e3.1⟩⟩

end Go.Proofs.Ytnkjhicokcmmpaa.Ev

/-
  Operations that only reckon, second half: slices, addresses, comparisons with nil, and the whole list.
-/
namespace Go.Proofs.Ytnkjhicokcmmpaa.Ev
open Go

theorem bndA_mono {y y' r : Nat} {x : AV} (h : bndA y x = some r) (hy : y ≤ y') : bndA y' x = some r := by
  unfold bndA at *
  split at h
  · rename_i k i
    cases hc : (decide (0 ≤ i) && decide (i ≤ (y : Int))) with
    | false => simp [hc] at h
    | true =>
      have hc' : (decide (0 ≤ i) && decide (i ≤ (y' : Int))) = true := by
        simp only [Bool.and_eq_true, decide_eq_true_eq] at hc ⊢; omega
      simp only [hc', hc, cond_true] at h ⊢; exact h
  · cases h
theorem boundsA_in {n q l h m : Nat} {lo hi mx : Option AV} (hb : boundsA n q lo hi mx = some (l, h, m)) (hn : n ≤ q) : l ≤ h ∧ h ≤ q ∧ (mx.isNone = true → m = q) ∧ h ≤ m ∧ m ≤ q := by
  have bl : ∀ {y r : Nat} {x : AV}, bndA y x = some r → r ≤ y := fun {y r x} h => by
    unfold bndA at h
    split at h
    · rename_i k i
      cases hc : (decide (0 ≤ i) && decide (i ≤ (y : Int))) with
      | false => simp [hc] at h
      | true =>
        simp only [hc, cond_true, Option.some.injEq] at h
        simp only [Bool.and_eq_true, decide_eq_true_eq] at hc
        omega
    · cases h
  have ol : ∀ {y d r : Nat} {x : Option AV}, optA y d x = some r → d ≤ y → r ≤ y := fun {y d r x} h hd => by
    cases x with
    | none => simp [optA] at h; omega
    | some x => exact bl (by simpa [optA] using h)
  unfold boundsA at hb
  cases mx with
  | none =>
    simp only at hb
    cases hh : optA q n hi with
    | none => simp [hh] at hb
    | some hv =>
      simp only [hh] at hb
      cases hl : optA hv 0 lo with
      | none => simp [hl] at hb
      | some lv =>
        simp only [hl, Option.some.injEq, Prod.mk.injEq] at hb
        obtain ⟨rfl, rfl, rfl⟩ := hb
        exact ⟨ol hl (Nat.zero_le _), ol hh hn, fun _ => rfl, ol hh hn, Nat.le_refl _⟩
  | some x =>
    simp only at hb
    cases hm : bndA q x with
    | none => simp [hm] at hb
    | some mv =>
      cases hi with
      | none => simp [hm] at hb
      | some y =>
        simp only [hm] at hb
        cases hh : bndA mv y with
        | none => simp [hh] at hb
        | some hv =>
          simp only [hh] at hb
          cases hl : optA hv 0 lo with
          | none => simp [hl] at hb
          | some lv =>
            simp only [hl, Option.some.injEq, Prod.mk.injEq] at hb
            obtain ⟨rfl, rfl, rfl⟩ := hb
            exact ⟨ol hl (Nat.zero_le _), Nat.le_trans (bl hh) (bl hm), fun h => by simp at h, bl hh, bl hm⟩
theorem boundsA_mono {n q c l h m : Nat} {lo hi mx : Option AV} (hb : boundsA n q lo hi mx = some (l, h, m)) (hn : n ≤ q) (hc : q ≤ c) :
    boundsA n c lo hi mx = some (l, h, if mx.isNone then c else m) ∧ l ≤ h ∧ h ≤ q ∧ (mx.isNone = true → m = q) ∧ h ≤ m ∧ m ≤ q := by
  refine ⟨?_, boundsA_in hb hn⟩
  unfold boundsA at hb ⊢
  cases mx with
  | none =>
    dsimp only at hb ⊢
    have hopt : ∀ {r}, optA q n hi = some r → optA c n hi = some r := fun {r} h => by
      cases hi with
      | none => exact h
      | some y => exact bndA_mono h hc
    cases hh : optA q n hi with
    | none => simp [hh] at hb
    | some hv =>
      rw [hopt hh]
      simp only [hh] at hb
      dsimp only
      cases hl : optA hv 0 lo with
      | none => simp [hl] at hb
      | some lv => simp only [hl, Option.some.injEq, Prod.mk.injEq] at hb ⊢; simp [hb]
  | some x =>
    cases hm : bndA q x with
    | none => simp [hm] at hb
    | some mv =>
      dsimp only
      rw [bndA_mono hm hc]
      simp only [hm] at hb
      simp only [Option.isNone_some, Bool.false_eq_true, if_false]
      exact hb

def vopt : Option AV → Option (Option Value)
  | none => some none
  | some x => match x.val? with | some u => some (some u) | none => none
theorem vopt_sound {ρ : Env} {x : Option AV} {u : Option Value} {r : Option Value} (h : vopt x = some r) (hx : OR ρ x u) : u = r := by
  cases hx with
  | no => simpa [vopt] using h
  | yes e =>
    rename_i y v
    simp only [vopt] at h
    cases hv : y.val? with
    | none => rw [hv] at h; cases h
    | some z => rw [hv] at h; simp at h; rw [← h, AV.val?_VR hv e]

def sliceA (P : Program) (t : TypeId) (x : AV) (lo hi mx : Option AV) : Option AV :=
  match P.underlying t with
  | some (.array n e) =>
    match x, P.info? e, boundsA n n lo hi mx with
    | .ptr i o, some ie, some (l, h, m) => some (.sl i (cond (Nat.beq m l) o (o + l * ie.size)) (h - l) (m - l))
    | _, _, _ => none
  | some (.slice e) =>
    match x, P.info? e with
    | .sl i o n c, some ie =>
      match boundsA n c lo hi mx with
      | some (l, h, m) => some (.sl i (cond (Nat.beq m l) o (o + l * ie.size)) (h - l) (m - l))
      | none => none
    | .su i o n k q, some ie =>
      match boundsA n q lo hi mx with
      | some (l, h, m) =>
        match mx with
        | none => cond (Nat.beq l 0) (some (.su i o h k q)) (cond (Nat.blt l q) (some (.su i (o + l * ie.size) (h - l) (k + l) (q - l))) (some .se))
        | some _ => some (.sl i (cond (Nat.beq m l) o (o + l * ie.size)) (h - l) (m - l))
      | none => none
    | .se, some _ =>
      match mx, boundsA 0 0 lo hi none with
      | none, some _ => some .se
      | _, _ => none
    | .v (.slice none 0 0), some _ =>
      match boundsA 0 0 lo hi mx with
      | some _ => some (.v (.slice none 0 0))
      | none => none
    | _, _ => none
  | some .string =>
    match x, vopt lo, vopt hi, vopt mx with
    | .v u, some a, some b, some c => (pureRun P (Instr.sliceAt t u a b c)).map ofV
    | _, _, _, _ => none
  | _ => none
theorem beq_dec (a b : Nat) : Nat.beq a b = decide (a = b) := by rw [Bool.eq_iff_iff]; simp [Nat.beq_eq]
theorem cond_addr (b o m l k : Nat) : (if m = l then (⟨b, o, none⟩ : Addr) else (⟨b, o, none⟩ : Addr).add (l * k)) = ⟨b, cond (Nat.beq m l) o (o + l * k), none⟩ := by
  rw [beq_dec]
  by_cases h : m = l <;> simp [h, Addr.add_lit]
theorem sliceA_sound {P : Program} {ρ : Env} {t : TypeId} {x y : AV} {lo hi mx : Option AV} {u : Value} {lo' hi' mx' : Option Value} (h : sliceA P t x lo hi mx = some y)
    (hx : VR ρ x u) (h1 : OR ρ lo lo') (h2 : OR ρ hi hi') (h3 : OR ρ mx mx') : ∃ v, VR ρ y v ∧ ∀ w, (Instr.sliceAt t u lo' hi' mx').run P w = .ok v w := by
  unfold sliceA at h
  split at h
  · rename_i n e hu
    split at h
    · rename_i i o ie l hh m hie hb
      cases hx with
      | ptr _ hi' =>
        simp only [Option.some.injEq] at h
        subst h
        have hr := (boundsA_sound (P := P) hb h1 h2 h3 false).1
        refine ⟨_, .sl _ _ _ hi', fun w => ?_⟩
        unfold Instr.sliceAt
        simp only [Sem.run_bind, run_underlying hu, Result.andThen_ok, Instr.sureAddr, Sem.run_pure, hr, run_sizeOf hie]
        rw [cond_addr]
    · cases h
  · rename_i e hu
    have hat : Instr.sliceAt t u lo' hi' mx' = (do match ← underlying t with
      | .array n elem =>
        let a ← Instr.sureAddr u
        let (l, h, m) ← Instr.sliceBounds false n n lo' hi' mx'
        let size ← sizeOf elem
        pure (.slice (some (if m = l then a else a.add (l * size))) (h - l) (m - l))
      | _ => Instr.slice t u lo' hi' mx') := rfl
    have key : ∀ {bs : Option Addr} {n c : Nat} {ie : TypeInfo} {r : Nat × Nat × Nat}, P.info? e = some ie → u = .slice bs n c → (∀ w, (Instr.sliceBounds true n c lo' hi' mx').run P w = .ok r w) →
        ∀ w, (Instr.sliceAt t u lo' hi' mx').run P w = .ok (.slice (if r.2.2 = r.1 then bs else bs.map (·.add (r.1 * ie.size))) (r.2.1 - r.1) (r.2.2 - r.1)) w := by
      intro bs n c ie r hie hue hr w
      subst hue
      obtain ⟨l, hh, m⟩ := r
      rw [hat]
      unfold Instr.slice
      simp only [Sem.run_bind, run_underlying hu, Result.andThen_ok, hr, run_sizeOf hie, Sem.run_pure]
    split at h
    · rename_i i o n c ie hie
      split at h
      · rename_i l hh m hb
        simp only [Option.some.injEq] at h
        subst h
        cases hx with
        | sl _ _ _ hi' =>
          have hr := (boundsA_sound (P := P) hb h1 h2 h3 true).1
          refine ⟨_, .sl _ _ _ hi', fun w => ?_⟩
          rw [key hie rfl hr w]
          simp only [Option.map_some, ← cond_addr]
          by_cases e : m = l <;> simp [e]
      · cases h
    · rename_i i o n k q ie hie
      split at h
      · rename_i l hh m hb
        cases hx with
        | @su _ b c _ _ _ _ hi' hn =>
          obtain ⟨hb', hlh, hhn, hmn, hhm, hmn'⟩ := boundsA_mono hb hn.1 hn.2
          have hr := (boundsA_sound (P := P) hb' h1 h2 h3 true).1
          have hk := key hie rfl hr
          split at h
          · simp only [Option.isNone_none, if_true] at hk
            rw [beq_dec] at h
            by_cases hl : l = 0
            · subst hl
              simp at h
              subst h
              refine ⟨_, .su o hh k q hi' ⟨by omega, by omega⟩, fun w => ?_⟩
              rw [hk w]
              simp [Addr.add_zero']
            · simp only [hl, decide_false, cond_false] at h
              cases hln : Nat.blt l q with
              | true =>
                simp only [hln, cond_true, Option.some.injEq] at h
                have hlt : l < q := by simpa [Nat.blt_eq] using hln
                subst h
                refine ⟨_, .su (o + l * ie.size) (hh - l) (k + l) (q - l) hi' ⟨by omega, by omega⟩, fun w => ?_⟩
                rw [hk w]
                have hne : ¬ (c - k = l) := by omega
                simp [hne, Addr.add_lit, Nat.sub_sub]
              | false =>
                simp only [hln, cond_false, Option.some.injEq] at h
                have hge : q ≤ l := by
                  have : ¬ l < q := by intro hlt; have := Nat.blt_eq.symm ▸ hlt; rw [hln] at this; cases this
                  omega
                subst h
                have hz : hh - l = 0 := by omega
                refine ⟨.slice (some (if c - k = l then ⟨b, o, none⟩ else (⟨b, o, none⟩ : Addr).add (l * ie.size))) 0 (c - k - l), .se _ _, fun w => ?_⟩
                rw [hk w]
                simp only [hz, Option.map_some]
                by_cases e : c - k = l <;> simp [e]
          · simp only [Option.isNone_some, Bool.false_eq_true, if_false] at hk
            simp only [Option.some.injEq] at h
            subst h
            refine ⟨_, .sl _ _ _ hi', fun w => ?_⟩
            rw [hk w]
            simp only [Option.map_some, ← cond_addr]
            by_cases e : m = l <;> simp [e]
      · cases h
    · rename_i ie hie
      split at h
      · rename_i r hb
        simp only [Option.some.injEq] at h
        subst h
        cases hx with
        | se a c =>
          cases h3
          obtain ⟨l, hh, m⟩ := r
          obtain ⟨hb', hlh, hhn, hmn, hhm, hmn'⟩ := boundsA_mono hb (Nat.le_refl 0) (Nat.zero_le c)
          have hr := (boundsA_sound (P := P) hb' h1 h2 .no true).1
          obtain rfl : l = 0 := by omega
          obtain rfl : hh = 0 := by omega
          refine ⟨.slice (some a) 0 c, .se _ _, fun w => ?_⟩
          rw [key hie rfl hr w]
          simp [Addr.add_zero']
      · cases h
    · rename_i ie hie
      split at h
      · rename_i r hb
        simp only [Option.some.injEq] at h
        subst h
        cases hx
        obtain ⟨l, hh, m⟩ := r
        obtain ⟨_, hlh, hhn, hmn, hhm, hmn'⟩ := boundsA_mono hb (Nat.le_refl 0) (Nat.le_refl 0)
        have hr := (boundsA_sound (P := P) hb h1 h2 h3 true).1
        obtain rfl : l = 0 := by omega
        obtain rfl : hh = 0 := by omega
        obtain rfl : m = 0 := by omega
        refine ⟨_, .v _, fun w => ?_⟩
        rw [key hie rfl hr w]
        simp
      · cases h
    · cases h
  · rename_i hu
    split at h
    · rename_i u' a b c ha hb hc
      cases hx
      obtain rfl := vopt_sound ha h1
      obtain rfl := vopt_sound hb h2
      obtain rfl := vopt_sound hc h3
      simp only [Option.map_eq_some_iff] at h
      obtain ⟨v, hv, rfl⟩ := h
      exact ⟨v, ofV_VR v, fun w => pureRun_run w hv⟩
    · cases h
  · cases h

end Go.Proofs.Ytnkjhicokcmmpaa.Ev

/-
  Operations that only reckon: the list of them, and that the small machine's answers are the model's.
-/
namespace Go.Proofs.Ytnkjhicokcmmpaa.Ev
open Go

def fieldA (P : Program) (t : TypeId) (x : AV) (f : Nat) : Option AV :=
  match P.underlying t, x with
  | some (.struct fs), .agg l => match fs[f]? with | some fd => partA P fd.type l fd.offset | none => none
  | _, _ => none
theorem fieldA_sound {P : Program} {ρ : Env} {t : TypeId} {x y : AV} {f : Nat} {u : Value} (h : fieldA P t x f = some y) (hx : VR ρ x u) : ∃ v, VR ρ y v ∧ ∀ w, (Instr.field t u f).run P w = .ok v w := by
  unfold fieldA at h
  split at h
  · rename_i fs l hu
    split at h
    · rename_i fd hf
      cases hx with
      | agg e =>
        obtain ⟨v, hv, hr⟩ := partA_sound h e
        refine ⟨v, hv, fun w => ?_⟩
        unfold Instr.field
        simp [run_underlying hu, hf, asAgg, hr]
    · cases h
  · cases h

def indexA (P : Program) (t : TypeId) (x i : AV) : Option AV :=
  match i, x with
  | .v (.int k n), .agg l =>
    match P.underlying t with
    | some (.array len e) => cond (decide (0 ≤ n) && decide (n < len)) (match P.info? e with | some ie => partA P e l (n.toNat * ie.size) | none => none) none
    | _ => none
  | .v (.int k n), .v (.string s) => (pureRun P (Instr.index t (.string s) (.int k n))).map ofV
  | _, _ => none
theorem indexA_sound {P : Program} {ρ : Env} {t : TypeId} {x i y : AV} {u j : Value} (h : indexA P t x i = some y) (hx : VR ρ x u) (hi : VR ρ i j) : ∃ v, VR ρ y v ∧ ∀ w, (Instr.index t u j).run P w = .ok v w := by
  unfold indexA at h
  split at h
  · rename_i k n l
    split at h
    · rename_i len e hu
      cases hc : (decide (0 ≤ n) && decide (n < (len : Int))) with
      | false => simp [hc] at h
      | true =>
        simp only [hc, cond_true] at h
        simp only [Bool.and_eq_true, decide_eq_true_eq] at hc
        split at h
        · rename_i ie hie
          cases hx with
          | agg el =>
            cases hi
            obtain ⟨v, hv, hr⟩ := partA_sound h el
            refine ⟨v, hv, fun w => ?_⟩
            unfold Instr.index
            simp [asIntOf, run_underlying hu, hc, run_sizeOf hie, hr]
        · cases h
    · cases h
  · rename_i k n s
    cases hx; cases hi
    simp only [Option.map_eq_some_iff] at h
    obtain ⟨v, hv, rfl⟩ := h
    exact ⟨v, ofV_VR v, fun w => pureRun_run w hv⟩
  · cases h

def fieldAddrA (P : Program) (s : TypeId) (x : AV) (f : Nat) : Option AV :=
  match P.underlying s, x with
  | some (.struct fs), .ptr i o => match fs[f]? with
    | some fd => match P.info? fd.type with
      | some ie => cond (Nat.beq ie.size 0) none (some (.ptr i (o + fd.offset)))
      | none => none
    | none => none
  | _, _ => none
theorem fieldAddrA_sound {P : Program} {ρ : Env} {t : TypeId} {x y : AV} {f : Nat} {u : Value} (h : fieldAddrA P t x f = some y) (hx : VR ρ x u) : ∃ v, VR ρ y v ∧ ∀ w, (Instr.fieldAt t u f).run P w = .ok v w := by
  unfold fieldAddrA at h
  split at h
  · rename_i fs i o hu
    split at h
    · rename_i fd hf
      split at h
      · rename_i ie hie
        rw [beq_dec] at h
        by_cases hz : ie.size = 0
        · simp [hz] at h
        · simp only [hz, decide_false, cond_false, Option.some.injEq] at h
          subst h
          cases hx with
          | ptr _ e =>
            refine ⟨_, .ptr _ e, fun w => ?_⟩
            unfold Instr.fieldAt fieldPlace
            simp [run_underlying hu, hf, Instr.sureAddr, run_sizeOf hie, hz, Addr.add_lit]
      · cases h
    · cases h
  · cases h

def indexAddrA (P : Program) (t : TypeId) (x i : AV) : Option AV :=
  match i, P.underlying t with
  | .v (.int _ n), some (.array len e) =>
    match x, P.info? e with
    | .ptr j o, some ie => cond (decide (0 ≤ n) && decide (n < len)) (some (.ptr j (o + n.toNat * ie.size))) none
    | _, _ => none
  | .v (.int _ n), some (.slice e) =>
    match x, P.info? e with
    | .sl j o len _, some ie => cond (decide (0 ≤ n) && decide (n < len)) (some (.ptr j (o + n.toNat * ie.size))) none
    | .su j o len _ _, some ie => cond (decide (0 ≤ n) && decide (n < len)) (some (.ptr j (o + n.toNat * ie.size))) none
    | _, _ => none
  | _, _ => none
theorem indexAddrA_sound {P : Program} {ρ : Env} {t : TypeId} {x i y : AV} {u j : Value} (h : indexAddrA P t x i = some y) (hx : VR ρ x u) (hi : VR ρ i j) : ∃ v, VR ρ y v ∧ ∀ w, (Instr.indexAt t u j).run P w = .ok v w := by
  unfold indexAddrA at h
  split at h
  · rename_i k n len e hu
    cases hi
    split at h
    · rename_i i' o ie hie
      cases hc : (decide (0 ≤ n) && decide (n < (len : Int))) with
      | false => simp [hc] at h
      | true =>
        simp only [hc, cond_true, Option.some.injEq] at h
        simp only [Bool.and_eq_true, decide_eq_true_eq] at hc
        subst h
        cases hx with
        | ptr _ e' =>
          refine ⟨_, .ptr _ e', fun w => ?_⟩
          unfold Instr.indexAt
          simp [asIntOf, run_underlying hu, Instr.sureAddr, hc, run_sizeOf hie, Addr.add_lit]
    · cases h
  · rename_i k n e hu
    cases hi
    split at h
    · rename_i i' o len c ie hie
      cases hc : (decide (0 ≤ n) && decide (n < (len : Int))) with
      | false => simp [hc] at h
      | true =>
        simp only [hc, cond_true, Option.some.injEq] at h
        simp only [Bool.and_eq_true, decide_eq_true_eq] at hc
        subst h
        cases hx with
        | sl _ _ _ e' =>
          refine ⟨_, .ptr _ e', fun w => ?_⟩
          unfold Instr.indexAt
          simp [asIntOf, run_underlying hu, hc, run_sizeOf hie, Addr.add_lit]
    · rename_i i' o len c q ie hie
      cases hc : (decide (0 ≤ n) && decide (n < (len : Int))) with
      | false => simp [hc] at h
      | true =>
        simp only [hc, cond_true, Option.some.injEq] at h
        simp only [Bool.and_eq_true, decide_eq_true_eq] at hc
        subst h
        cases hx with
        | su _ _ _ _ e' _ =>
          refine ⟨_, .ptr _ e', fun w => ?_⟩
          unfold Instr.indexAt
          simp [asIntOf, run_underlying hu, hc, run_sizeOf hie, Addr.add_lit]
    · cases h
  · cases h

/-- Which kind of thing that may be nil, and whether it is. -/
def nilA : AV → Option (Nat × Bool)
  | .v (.pointer none) => some (0, true)
  | .v (.slice none _ _) => some (1, true)
  | .v (.map none) => some (2, true)
  | .v .nilFunc => some (3, true)
  | .v .nilIface => some (4, true)
  | .ptr _ _ => some (0, false)
  | .sl .. => some (1, false)
  | .su .. => some (1, false)
  | .se => some (1, false)
  | .mp _ => some (2, false)
  | .fn .. => some (3, false)
  | .yl _ => some (3, false)
  | .ifc .. => some (4, false)
  | _ => none
def kindA : TypeDesc → Option Nat
  | .pointer _ => some 0
  | .slice _ => some 1
  | .map .. => some 2
  | .func .. => some 3
  | .interface _ => some 4
  | _ => none
def binA (P : Program) (op : BinOp) (t : TypeId) (x y : Operand) (a b : AV) : Option AV :=
  match a.val?, b.val? with
  | some u, some v => (pureRun P (do eqGuard op t x y u v; binOp op t u v)).map ofV
  | _, _ =>
    match nilA a, nilA b, (P.underlying t).bind kindA with
    | some (j, m), some (k, n), some q =>
      cond (Nat.beq j k && Nat.beq k q && xor m n) (match op with | .eql => some (.v (.bool false)) | .neq => some (.v (.bool true)) | _ => none) none
    | _, _, _ => none

theorem equal_unfold (t : TypeId) (u v : Value) : Op.equal t u v = Op.equalIn (9999 + 1) t u v := rfl
theorem equal_nil {P : Program} {ρ : Env} {t : TypeId} {a b : AV} {u v : Value} {k : Nat} {m n : Bool} {d : TypeDesc} (hu : P.underlying t = some d) (hk : kindA d = some k)
    (ha : nilA a = some (k, m)) (hb : nilA b = some (k, n)) (hmn : xor m n = true) (hx : VR ρ a u) (hy : VR ρ b v) :
    (∀ w, (Op.equal t u v).run P w = .ok false w) ∧ (∀ op x y w, (eqGuard op t x y u v).run P w = .ok () w) ∧ (∀ op w, (op = .eql ∨ op = .neq) → (binOp op t u v).run P w = .ok (.bool (match op with | .neq => true | _ => false)) w) := by
  have key : (∃ ad, u = .pointer (some ad) ∧ v = .pointer none ∧ ∃ e, d = .pointer e) ∨ (∃ ad, u = .pointer none ∧ v = .pointer (some ad) ∧ ∃ e, d = .pointer e) ∨
      (∃ ad l c l' c', u = .slice (some ad) l c ∧ v = .slice none l' c' ∧ ∃ e, d = .slice e) ∨ (∃ ad l c l' c', u = .slice none l' c' ∧ v = .slice (some ad) l c ∧ ∃ e, d = .slice e) ∨
      (∃ r, u = .map (some r) ∧ v = .map none ∧ ∃ e f, d = .map e f) ∨ (∃ r, u = .map none ∧ v = .map (some r) ∧ ∃ e f, d = .map e f) ∨
      (∃ f x y, u = .func f x y ∧ v = .nilFunc ∧ ∃ e g h, d = .func e g h) ∨ (∃ f x y, u = .nilFunc ∧ v = .func f x y ∧ ∃ e g h, d = .func e g h) ∨
      (∃ s x, u = .iface s x ∧ v = .nilIface ∧ ∃ e, d = .interface e) ∨ (∃ s x, u = .nilIface ∧ v = .iface s x ∧ ∃ e, d = .interface e) := by
    unfold nilA at ha hb
    cases d <;> simp [kindA] at hk <;> subst hk
    all_goals
      split at ha <;> simp at ha <;> subst ha <;> split at hb <;> simp at hb <;> subst hb <;> simp at hmn <;> cases hx <;> cases hy <;> simp
  have he : ∀ w, (Op.equal t u v).run P w = .ok false w := by
    intro w
    rw [equal_unfold]
    unfold Op.equalIn
    simp only [Sem.run_bind, run_underlying hu, Result.andThen_ok]
    rcases key with ⟨ad, rfl, rfl, e, rfl⟩ | ⟨ad, rfl, rfl, e, rfl⟩ | ⟨ad, l, c, l', c', rfl, rfl, e, rfl⟩ | ⟨ad, l, c, l', c', rfl, rfl, e, rfl⟩ | ⟨r, rfl, rfl, e, f, rfl⟩ | ⟨r, rfl, rfl, e, f, rfl⟩ |
    ⟨f, x, y, rfl, rfl, e, g, h, rfl⟩ | ⟨f, x, y, rfl, rfl, e, g, h, rfl⟩ | ⟨s, x, rfl, rfl, e, rfl⟩ | ⟨s, x, rfl, rfl, e, rfl⟩
    all_goals rfl
  have hg : ∀ op x y w, (eqGuard op t x y u v).run P w = .ok () w := by
    intro op x y w
    rcases key with ⟨ad, rfl, rfl, e, rfl⟩ | ⟨ad, rfl, rfl, e, rfl⟩ | ⟨ad, l, c, l', c', rfl, rfl, e, rfl⟩ | ⟨ad, l, c, l', c', rfl, rfl, e, rfl⟩ | ⟨r, rfl, rfl, e, f, rfl⟩ | ⟨r, rfl, rfl, e, f, rfl⟩ |
    ⟨f, x, y, rfl, rfl, e, g, h, rfl⟩ | ⟨f, x, y, rfl, rfl, e, g, h, rfl⟩ | ⟨s, x, rfl, rfl, e, rfl⟩ | ⟨s, x, rfl, rfl, e, rfl⟩
    all_goals
      unfold eqGuard
      cases op <;> rfl
  refine ⟨he, hg, fun op w ho => ?_⟩
  rcases ho with rfl | rfl
  · rcases key with ⟨ad, rfl, rfl, e, rfl⟩ | ⟨ad, rfl, rfl, e, rfl⟩ | ⟨ad, l, c, l', c', rfl, rfl, e, rfl⟩ | ⟨ad, l, c, l', c', rfl, rfl, e, rfl⟩ | ⟨r, rfl, rfl, e, f, rfl⟩ | ⟨r, rfl, rfl, e, f, rfl⟩ |
    ⟨f, x, y, rfl, rfl, e, g, h, rfl⟩ | ⟨f, x, y, rfl, rfl, e, g, h, rfl⟩ | ⟨s, x, rfl, rfl, e, rfl⟩ | ⟨s, x, rfl, rfl, e, rfl⟩
    all_goals
      show (do pure (Value.bool (← Op.equal t _ _)) : Sem Value).run P w = _
      simp only [Sem.run_bind, he, Result.andThen_ok, Sem.run_pure]
  · rcases key with ⟨ad, rfl, rfl, e, rfl⟩ | ⟨ad, rfl, rfl, e, rfl⟩ | ⟨ad, l, c, l', c', rfl, rfl, e, rfl⟩ | ⟨ad, l, c, l', c', rfl, rfl, e, rfl⟩ | ⟨r, rfl, rfl, e, f, rfl⟩ | ⟨r, rfl, rfl, e, f, rfl⟩ |
    ⟨f, x, y, rfl, rfl, e, g, h, rfl⟩ | ⟨f, x, y, rfl, rfl, e, g, h, rfl⟩ | ⟨s, x, rfl, rfl, e, rfl⟩ | ⟨s, x, rfl, rfl, e, rfl⟩
    all_goals
      show (do pure (Value.bool (!(← Op.equal t _ _))) : Sem Value).run P w = _
      simp only [Sem.run_bind, he, Result.andThen_ok, Sem.run_pure, Bool.not_false]
theorem binA_sound {P : Program} {ρ : Env} {op : BinOp} {t : TypeId} {x y : Operand} {a b z : AV} {u v : Value} (h : binA P op t x y a b = some z) (hx : VR ρ a u) (hy : VR ρ b v) :
    ∃ r, VR ρ z r ∧ ∀ w, (do eqGuard op t x y u v; binOp op t u v : Sem Value).run P w = .ok r w := by
  unfold binA at h
  split at h
  · rename_i u' v' hu hv
    obtain rfl := AV.val?_VR hu hx
    obtain rfl := AV.val?_VR hv hy
    simp only [Option.map_eq_some_iff] at h
    obtain ⟨r, hr, rfl⟩ := h
    exact ⟨r, ofV_VR r, fun w => pureRun_run w hr⟩
  · split at h
    · rename_i j m k n q ha hb hq
      cases hc : (Nat.beq j k && Nat.beq k q && xor m n) with
      | false => simp [hc] at h
      | true =>
        simp only [hc, cond_true] at h
        simp only [Bool.and_eq_true, Nat.beq_eq] at hc
        obtain ⟨⟨rfl, rfl⟩, hmn⟩ := hc
        simp only [Option.bind_eq_some_iff] at hq
        obtain ⟨d, hd, hk⟩ := hq
        obtain ⟨h1, h2, h3⟩ := equal_nil hd hk ha hb hmn hx hy
        split at h
        · simp at h; subst h
          exact ⟨_, .v _, fun w => by simp [h2, h3 .eql w (.inl rfl)]⟩
        · simp at h; subst h
          exact ⟨_, .v _, fun w => by simp [h2, h3 .neq w (.inr rfl)]⟩
        · cases h
    · cases h
end Go.Proofs.Ytnkjhicokcmmpaa.Ev

/-
  All operations that only reckon.
-/
namespace Go.Proofs.Ytnkjhicokcmmpaa.Ev
open Go

def lenA (P : Program) (t : TypeId) (x : AV) : Option AV :=
  match x with
  | .sl _ _ n _ => match P.underlying t with | some (.slice _) => some (.v (.int .i64 n)) | _ => none
  | .su _ _ n _ _ => match P.underlying t with | some (.slice _) => some (.v (.int .i64 n)) | _ => none
  | .se => match P.underlying t with | some (.slice _) => some (.v (.int .i64 0)) | _ => none
  | .v u => (pureRun P (Builtin.len_ #[t] t #[u])).map ofV
  | .agg _ => match P.underlying t with | some (.array n _) => some (.v (.int .i64 n)) | _ => none
  | _ => none
theorem len_ty {t ty : TypeId} {u : Value} : Builtin.len_ #[t] ty #[u] = Builtin.len_ #[t] t #[u] := rfl
theorem lenA_sound {P : Program} {ρ : Env} {t ty : TypeId} {x y : AV} {u : Value} (h : lenA P t x = some y) (hx : VR ρ x u) : ∃ r, VR ρ y r ∧ ∀ w, (Builtin.len_ #[t] ty #[u]).run P w = .ok r w := by
  unfold lenA at h
  split at h
  · split at h
    · rename_i hu
      simp at h; subst h
      cases hx
      exact ⟨_, .v _, fun w => by unfold Builtin.len_; simp [run_underlying hu, goInt]⟩
    · cases h
  · split at h
    · rename_i hu
      simp at h; subst h
      cases hx
      exact ⟨_, .v _, fun w => by unfold Builtin.len_; simp [run_underlying hu, goInt]⟩
    · cases h
  · split at h
    · rename_i hu
      simp at h; subst h
      cases hx
      exact ⟨_, .v _, fun w => by unfold Builtin.len_; simp [run_underlying hu, goInt]⟩
    · cases h
  · cases hx
    simp only [Option.map_eq_some_iff] at h
    obtain ⟨v, hv, rfl⟩ := h
    exact ⟨v, ofV_VR v, fun w => by rw [len_ty]; exact pureRun_run w hv⟩
  · split at h
    · rename_i hu
      simp at h; subst h
      cases hx
      exact ⟨_, .v _, fun w => by unfold Builtin.len_; simp [run_underlying hu, goInt]⟩
    · cases h
  · cases h
def capA (P : Program) (t : TypeId) (x : AV) : Option AV :=
  match x with
  | .sl _ _ _ c => match P.underlying t with | some (.slice _) => some (.v (.int .i64 c)) | _ => none
  | .v u => (pureRun P (Builtin.cap_ #[t] t #[u])).map ofV
  | _ => none
theorem cap_ty {t ty : TypeId} {u : Value} : Builtin.cap_ #[t] ty #[u] = Builtin.cap_ #[t] t #[u] := rfl
theorem capA_sound {P : Program} {ρ : Env} {t ty : TypeId} {x y : AV} {u : Value} (h : capA P t x = some y) (hx : VR ρ x u) : ∃ r, VR ρ y r ∧ ∀ w, (Builtin.cap_ #[t] ty #[u]).run P w = .ok r w := by
  unfold capA at h
  split at h
  · split at h
    · rename_i hu
      simp at h; subst h
      cases hx
      exact ⟨_, .v _, fun w => by unfold Builtin.cap_; simp [run_underlying hu, goInt]⟩
    · cases h
  · cases hx
    simp only [Option.map_eq_some_iff] at h
    obtain ⟨v, hv, rfl⟩ := h
    exact ⟨v, ofV_VR v, fun w => by rw [cap_ty]; exact pureRun_run w hv⟩
  · cases h

/-- The operations that only reckon. -/
def aopP (P : Program) (T : Tr AV) (o : Oper) : Option AV :=
  match o.op with
  | .move x => some (aev T x)
  | .assign x => some (aev T x)
  | .pick c a b => match aev T c with | .v (.bool t) => some (cond t (aev T a) (aev T b)) | _ => none
  | .extract x i => match aev T x with | .tup l => l[i]? | _ => none
  | .field t x f => fieldA P t (aev T x) f
  | .index t x i => indexA P t (aev T x) (aev T i)
  | .nilCheck x => match aev T x with | .ptr i o => some (.ptr i o) | .fn (.func g) l m => some (.fn (.func g) l m) | .ifc t y => some (.ifc t y) | _ => none
  | .binOp op t x y _ => binA P op t x y (aev T x) (aev T y)
  | .unOp op _ x => match (aev T x).val? with | some u => (pureRun P (Op.unary op u)).map ofV | none => none
  | .convert s d x => match (aev T x).val? with | some u => (pureRun P (convert s d u)).map ofV | none => none
  | .makeInterface t x => match P.underlying t with | some (.interface _) => none | some _ => some (.ifc t (aev T x)) | none => none
  | .makeFunc fn first cap => some (.fn fn (first.toList.map (aev T)) (cap.toList.map (aev T)))
  | .fieldAddr s x f => fieldAddrA P s (aev T x) f
  | .indexAddr t x i => indexAddrA P t (aev T x) (aev T i)
  | .slice t x lo hi mx => sliceA P t (aev T x) (lo.map (aev T)) (hi.map (aev T)) (mx.map (aev T))
  | .build t ps => buildA P t (ps.toList.map fun p => (p.1, aev T p.2))
  | .call ⟨.builtin b, args, ats⟩ =>
    match b, args.toList, ats.toList with
    | .len, [x], [t] => lenA P t (aev T x)
    | .cap, [x], [t] => capA P t (aev T x)
    | .min, l, _ => match vals? (l.map (aev T)) with | some us => (pureRun P (Builtin.min_ ats o.type us.toArray)).map ofV | none => none
    | .max, l, _ => match vals? (l.map (aev T)) with | some us => (pureRun P (Builtin.max_ ats o.type us.toArray)).map ofV | none => none
    | _, _, _ => none
  | _ => none

theorem VRs.map_ev {ρ : Env} {T : Tr AV} {ev : Operand → Value} : ∀ {l : List Operand}, (∀ y ∈ l, VR ρ (aev T y) (ev y)) → VRs ρ (l.map (aev T)) (l.map ev)
  | [], _ => .nil
  | y :: l, h => .cons (h y (by simp)) (map_ev fun z hz => h z (by simp [hz]))
theorem OR.map_ev {ρ : Env} {T : Tr AV} {ev : Operand → Value} {x : Option Operand} (h : ∀ y, x = some y → VR ρ (aev T y) (ev y)) : OR ρ (x.map (aev T)) (x.map ev) := by
  cases x with
  | none => exact .no
  | some y => exact .yes (h y rfl)

theorem arrmap {α β : Type} (f : α → β) (l : Array α) : (l.toList.map f).toArray = l.map f := Array.toList_inj.1 (by simp)
theorem aopP_sound {P : Program} {ρ : Env} {T : Tr AV} {o : Oper} {x : AV} {ev : Operand → Value} (h : aopP P T o = some x) (hev : ∀ y ∈ o.op.operands, VR ρ (aev T y) (ev y)) :
    ∃ v, VR ρ x v ∧ ∀ w, (execOp ev o).run P w = .ok (.value v) w := by
  obtain ⟨dst, op, type, pos, after, guard⟩ := o
  have fin : ∀ {s : Sem Value} {x : AV}, (∃ v, VR ρ x v ∧ ∀ w, s.run P w = .ok v w) → execOp ev ⟨dst, op, type, pos, after, guard⟩ = (do pure (.value (← s))) → ∃ v, VR ρ x v ∧ ∀ w, (execOp ev ⟨dst, op, type, pos, after, guard⟩).run P w = .ok (.value v) w := by
    rintro s x ⟨v, hv, hs⟩ he
    exact ⟨v, hv, fun w => by rw [he]; simp [hs w]⟩
  cases op <;> simp only [aopP] at h <;> try (cases h; done)
  case move y =>
    simp at h; subst h
    exact ⟨_, hev y (by simp [Op.operands]), fun w => rfl⟩
  case assign y =>
    simp at h; subst h
    exact ⟨_, hev y (by simp [Op.operands]), fun w => rfl⟩
  case pick c a b =>
    have hc := hev c (by simp [Op.operands])
    have ha := hev a (by simp [Op.operands])
    have hb := hev b (by simp [Op.operands])
    split at h
    · rename_i t hct
      rw [hct] at hc
      cases hcv : ev c with
      | bool q =>
        rw [hcv] at hc
        cases hc
        simp at h; subst h
        refine ⟨if t then ev a else ev b, ?_, fun w => ?_⟩
        · cases t <;> simpa
        · unfold execOp; simp [hcv, asBool]
      | _ => rw [hcv] at hc; cases hc
    · cases h
  case extract y i =>
    have hy := hev y (by simp [Op.operands])
    split at h
    · rename_i l hl
      rw [hl] at hy
      generalize hu : ev y = u at hy
      cases hy with
      | tup e =>
        obtain ⟨u, hu', hx⟩ := e.get h
        refine ⟨u, hx, fun w => ?_⟩
        unfold execOp
        simp [hu, Instr.extract, hu']
    · cases h
  case field t y f => exact fin (fieldA_sound h (hev y (by simp [Op.operands]))) rfl
  case index t y i => exact fin (indexA_sound h (hev y (by simp [Op.operands])) (hev i (by simp [Op.operands]))) rfl
  case fieldAddr t y f => exact fin (fieldAddrA_sound h (hev y (by simp [Op.operands]))) rfl
  case indexAddr t y i => exact fin (indexAddrA_sound h (hev y (by simp [Op.operands])) (hev i (by simp [Op.operands]))) rfl
  case binOp op t y z yt => exact fin (binA_sound h (hev y (by simp [Op.operands])) (hev z (by simp [Op.operands]))) rfl
  case slice t y lo hi mx =>
    refine fin (sliceA_sound h (hev y (by simp [Op.operands])) (OR.map_ev fun z hz => hev z ?_) (OR.map_ev fun z hz => hev z ?_) (OR.map_ev fun z hz => hev z ?_)) rfl
    all_goals (subst hz; simp [Op.operands])
  case build t ps =>
    refine fin (buildA_sound (qs := ps.map fun p => (p.1, ev p.2)) h (by simp) ?_) rfl
    have : VRs ρ ((ps.toList.map Prod.snd).map (aev T)) ((ps.toList.map Prod.snd).map ev) := VRs.map_ev fun y hy => hev y (by simp [Op.operands] at hy ⊢; exact hy)
    simpa [Function.comp_def] using this
  case nilCheck y =>
    have hy := hev y (by simp [Op.operands])
    generalize hu : ev y = u at hy
    split at h
    · rename_i i o hl
      rw [hl] at hy
      simp at h; subst h
      cases hy with
      | ptr _ e => exact ⟨_, .ptr _ e, fun w => by unfold execOp; simp [hu]⟩
    · rename_i g l m hl
      rw [hl] at hy
      simp at h; subst h
      cases hy with
      | fn _ e e' => exact ⟨_, .fn _ e e', fun w => by unfold execOp; simp [hu]⟩
    · rename_i t z hl
      rw [hl] at hy
      simp at h; subst h
      cases hy with
      | ifc _ e => exact ⟨_, .ifc _ e, fun w => by unfold execOp; simp [hu]⟩
    · cases h
  case unOp op t y =>
    have hy := hev y (by simp [Op.operands])
    split at h
    · rename_i u hu
      obtain hu := AV.val?_VR hu hy
      simp only [Option.map_eq_some_iff] at h
      obtain ⟨r, hr, rfl⟩ := h
      exact fin ⟨r, ofV_VR r, fun w => pureRun_run w hr⟩ (by unfold execOp; simp only [hu])
    · cases h
  case convert s d y =>
    have hy := hev y (by simp [Op.operands])
    split at h
    · rename_i u hu
      obtain hu := AV.val?_VR hu hy
      simp only [Option.map_eq_some_iff] at h
      obtain ⟨r, hr, rfl⟩ := h
      exact fin ⟨r, ofV_VR r, fun w => pureRun_run w hr⟩ (by unfold execOp; simp only [hu])
    · cases h
  case makeInterface t y =>
    have hy := hev y (by simp [Op.operands])
    split at h
    · cases h
    · rename_i d hni hd
      simp at h; subst h
      refine fin ⟨_, .ifc t hy, fun w => ?_⟩ rfl
      unfold Instr.makeInterface
      simp only [Sem.run_bind, run_underlying hd, Result.andThen_ok]
      rfl
    · cases h
  case makeFunc fn first cap =>
    simp at h; subst h
    have h1 : VRs ρ (first.toList.map (aev T)) (first.toList.map ev) := VRs.map_ev fun y hy => hev y (by simp [Op.operands]; exact .inl (by simpa using hy))
    have h2 : VRs ρ (cap.toList.map (aev T)) (cap.toList.map ev) := VRs.map_ev fun y hy => hev y (by simp [Op.operands]; exact .inr (by simpa using hy))
    refine fin (s := Instr.makeFunc fn (first.map ev) (cap.map ev)) ⟨_, .fn fn h1 h2, fun w => ?_⟩ rfl
    unfold Instr.makeFunc
    simp only [arrmap, Sem.run_pure]
  case call c =>
    obtain ⟨callee, args, ats⟩ := c
    cases callee <;> simp only at h <;> try (cases h; done)
    rename_i b
    have hex : execOp ev ⟨dst, .call ⟨.builtin b, args, ats⟩, type, pos, after, guard⟩ = builtin b ats type (args.map fun | .const _ => true | _ => false) (args.map ev) := rfl
    have harg : VRs ρ (args.toList.map (aev T)) (args.toList.map ev) := VRs.map_ev fun y hy => hev y (by simp [Op.operands, Call.operands]; simpa using hy)
    split at h
    · rename_i y t ha ht
      have ha' : args = #[y] := Array.toList_inj.1 ha
      have ht' : ats = #[t] := Array.toList_inj.1 ht
      subst ha' ht'
      exact fin (lenA_sound (ty := type) h (hev y (by simp [Op.operands, Call.operands]))) (by rw [hex]; simp [builtin])
    · rename_i y t ha ht
      have ha' : args = #[y] := Array.toList_inj.1 ha
      have ht' : ats = #[t] := Array.toList_inj.1 ht
      subst ha' ht'
      exact fin (capA_sound (ty := type) h (hev y (by simp [Op.operands, Call.operands]))) (by rw [hex]; simp [builtin])
    · split at h
      · rename_i us hus
        have := vals?_VR hus harg
        simp only [Option.map_eq_some_iff] at h
        obtain ⟨r, hr, rfl⟩ := h
        exact fin ⟨r, ofV_VR r, fun w => pureRun_run w hr⟩ (by rw [hex, ← this, arrmap]; simp only [builtin])
      · cases h
    · split at h
      · rename_i us hus
        have := vals?_VR hus harg
        simp only [Option.map_eq_some_iff] at h
        obtain ⟨r, hr, rfl⟩ := h
        exact fin ⟨r, ofV_VR r, fun w => pureRun_run w hr⟩ (by rw [hex, ← this, arrmap]; simp only [builtin])
      · cases h
    · cases h

end Go.Proofs.Ytnkjhicokcmmpaa.Ev

/-
  The small machine's memory, and what it means that it stands for the model's; loads and stores.
-/
namespace Go.Proofs.Ytnkjhicokcmmpaa.Ev
open Go Go.RowKit

def tput {α : Type} (t : Tr α) (k : Nat) (v : α) : Tr α := Tr.put (k + 1) t k v
theorem get_tput {α : Type} (t : Tr α) (k : Nat) (v : α) (j : Nat) : (tput t k v).get j = if j = k then some v else t.get j := Tr.get_put _ _ _ _ _ (Nat.lt_succ_self k)

/-- A block. -/
inductive AB where
  | mem (T : TypeId) (z : Option Nat) (l : List AV)
  | loop (st : LoopState) (pd : Option Code) (fn : FuncId) (nt : Nat) (T : Tr AV) (ps : List Tmp) (asg bd : Code) (d : Nat)
  | dfd (b : Bool)
  | map (l : List (Value × AV × Nat)) (c : Nat)
  | dead
def AB.live : AB → Bool
  | .dead => false
  | _ => true
def unfrozen (fz : Nat × Nat) (n : Nat) : Prop := fz = (0, 0) ∨ n ≤ fz.1
theorem unfrozen_zero (n : Nat) : unfrozen (0, 0) n := .inl rfl
/-- A map's entries. -/
inductive ERs (ρ : Env) : List (Value × AV × Nat) → List MapEntry → Prop
  | nil : ERs ρ [] []
  | cons {k u : Value} {x : AV} {b : Nat} {l : List (Value × AV × Nat)} {m : List MapEntry} (h : VR ρ x u) (t : ERs ρ l m) : ERs ρ ((k, x, b) :: l) (⟨k, u, b⟩ :: m)
theorem ERs.mono {ρ ρ' : Env} (hl : ρ.le ρ') {l : List (Value × AV × Nat)} {m : List MapEntry} (h : ERs ρ l m) : ERs ρ' l m := by
  induction h with
  | nil => exact .nil
  | cons h _ ih => exact .cons (h.mono hl) ih
def BR (ρ : Env) (c : Nat) : AB → Obj → Prop
  | .mem T z l, o => ∃ vs sp fz, VRs ρ l vs ∧ o = .cells (vs ++ sp).toArray T fz ∧ unfrozen fz (vs ++ sp).length ∧ (match z with | none => sp = [] | some k => (vs ++ sp).length = c * k ∧ c ≤ maxLen)
  | .loop st pd fn nt T ps asg bd d, o => ∃ ts db dc, TR ρ nt T ts ∧ ρ d = some (db, dc) ∧ o = .loop { state := st, pending := pd, fn := fn, tmps := ts, params := ps.toArray, assign := asg, body := bd, defers := db }
  | .dfd b, o => o = .deferred (if b then some [] else none)
  | .map l k, o => ∃ m, ERs ρ l m ∧ o = .map m.toArray k
  | .dead, _ => True

theorem TR.mono {ρ ρ' : Env} {n : Nat} {T : Tr AV} {ts : Array Value} (h : TR ρ n T ts) (hl : ρ.le ρ') : TR ρ' n T ts := ⟨h.1, fun s => (h.2 s).mono hl⟩
theorem BR.mono {ρ ρ' : Env} {c : Nat} {B : AB} {o : Obj} (h : BR ρ c B o) (hl : ρ.le ρ') : BR ρ' c B o := by
  cases B with
  | mem T z l => obtain ⟨vs, sp, fz, h1, h2⟩ := h; exact ⟨vs, sp, fz, h1.mono hl, h2⟩
  | loop => obtain ⟨ts, db, dc, h1, h2, h3⟩ := h; exact ⟨ts, db, dc, h1.mono hl, hl _ _ h2, h3⟩
  | dfd => exact h
  | map => obtain ⟨m, h1, h2⟩ := h; exact ⟨m, h1.mono hl, h2⟩
  | dead => exact h

/-- A world ahead, and which of its blocks may have names. -/
structure Bs where
  w : World
  S : Nat → Prop
  ρ : Env
structure HR (w0 : Bs) (ρ : Env) (H : Tr AB) (n : Nat) (w : World) : Prop where
  blk : ∀ {i b c : Nat} {B : AB}, ρ i = some (b, c) → H.get i = some B → ∃ o, w.heap[b]? = some o ∧ BR ρ c B o
  inj : ∀ {i j b c d : Nat} {B C : AB}, ρ i = some (b, c) → ρ j = some (b, d) → H.get i = some B → H.get j = some C → B.live = true → C.live = true → i = j
  top : ∀ {i : Nat}, n ≤ i → ρ i = none ∧ H.get i = none
  base : ∀ {i b c : Nat}, ρ i = some (b, c) → (w0.S b ∨ w0.w.heap.size ≤ b) ∧ b < w.heap.size
  fr : Fr w0.S w0.w w
  le : w0.ρ.le ρ

/-- What a step may have turned: nothing that is not named, and only new names are new. -/
structure Ext (ρ ρ' : Env) (H H' : Tr AB) (n n' : Nat) : Prop where
  le : ρ.le ρ'
  old : ∀ {i}, i < n → ρ' i = ρ i
  keep : ∀ {i}, i < n → ρ i = none → H'.get i = H.get i
  nn : n ≤ n'
theorem Ext.refl (ρ : Env) (H : Tr AB) (n : Nat) : Ext ρ ρ H H n n := ⟨ρ.le_refl, fun _ => rfl, fun _ _ => rfl, Nat.le_refl _⟩
theorem Ext.trans {ρ ρ' ρ'' : Env} {H H' H'' : Tr AB} {n n' n'' : Nat} (h : Ext ρ ρ' H H' n n') (k : Ext ρ' ρ'' H' H'' n' n'') : Ext ρ ρ'' H H'' n n'' :=
  ⟨Env.le_trans h.le k.le, fun hi => (k.old (Nat.lt_of_lt_of_le hi h.nn)).trans (h.old hi), fun hi hn => (k.keep (Nat.lt_of_lt_of_le hi h.nn) ((h.old hi).trans hn)).trans (h.keep hi hn), Nat.le_trans h.nn k.nn⟩

def Env.set (ρ : Env) (i : Nat) (b : Nat × Nat) : Env := fun j => if j = i then some b else ρ j
theorem Env.set_same (ρ : Env) (i : Nat) (b : Nat × Nat) : (ρ.set i b) i = some b := by simp [Env.set]
theorem Env.le_set {ρ : Env} {i : Nat} (h : ρ i = none) (b : Nat × Nat) : ρ.le (ρ.set i b) := fun j c hj => by
  unfold Env.set
  split
  · rename_i e; subst e; rw [h] at hj; cases hj
  · exact hj

section
variable {w0 : Bs} {w : World} {ρ : Env} {H : Tr AB} {n : Nat}
/-- A world of which no block has turned. -/
theorem HR.same (h : HR w0 ρ H n w) {w' : World} (hh : w'.heap = w.heap) (hf : Fr No w w') : HR w0 ρ H n w' :=
  ⟨fun h1 h2 => by rw [hh]; exact h.blk h1 h2, h.inj, h.top, fun h1 => by rw [hh]; exact h.base h1, h.fr.thn hf, h.le⟩
/-- A new block that has a name already, which stood for nothing. -/
theorem HR.name (h : HR w0 ρ H n w) {i c : Nat} {B : AB} {o : Obj} (hi : i < n) (hn : ρ i = none) (hB : H.get i = some B) (hb : BR (ρ.set i (w.heap.size, c)) c B o) :
    HR w0 (ρ.set i (w.heap.size, c)) H n (w.alloc o) := by
  have hle : ρ.le (ρ.set i (w.heap.size, c)) := Env.le_set hn _
  refine ⟨fun {j b d C} h1 h2 => ?_, fun {j k b d e C D} h1 h2 h3 h4 h5 h6 => ?_, fun {j} hj => ?_, fun {j b d} h1 => ?_, h.fr.alloc o, Env.le_trans h.le hle⟩
  · unfold Env.set at h1
    split at h1
    · rename_i e
      subst e
      cases h1
      rw [hB] at h2; cases h2
      exact ⟨o, heap_alloc_new w o, hb⟩
    · obtain ⟨o', h3, h4⟩ := h.blk h1 h2
      exact ⟨o', (Below.heap_alloc _ _ _ (h.base h1).2).trans h3, h4.mono hle⟩
  · unfold Env.set at h1 h2
    split at h1 <;> split at h2
    · rename_i e e'; rw [e, e']
    · cases h1; exact absurd (h.base h2).2 (Nat.lt_irrefl _)
    · cases h2; exact absurd (h.base h1).2 (Nat.lt_irrefl _)
    · exact h.inj h1 h2 h3 h4 h5 h6
  · refine ⟨?_, (h.top hj).2⟩
    unfold Env.set
    rw [if_neg (by omega)]
    exact (h.top hj).1
  · unfold Env.set at h1
    split at h1
    · cases h1; exact ⟨.inr h.fr.size, by simp⟩
    · have := h.base h1; exact ⟨this.1, by have := this.2; simp; omega⟩
/-- A new block that has no name yet: it gets the next one. -/
theorem HR.put (h : HR w0 ρ H n w) (B : AB) : HR w0 ρ (tput H n B) (n + 1) w := by
  refine ⟨fun {j b d C} h1 h2 => ?_, fun {j k b d e C D} h1 h2 h3 h4 h5 h6 => ?_, fun {j} hj => ?_, h.base, h.fr, h.le⟩
  · rw [get_tput] at h2
    split at h2
    · rename_i e; subst e; rw [(h.top (Nat.le_refl _)).1] at h1; cases h1
    · exact h.blk h1 h2
  · rw [get_tput] at h3 h4
    split at h3
    · rename_i e; subst e; rw [(h.top (Nat.le_refl _)).1] at h1; cases h1
    · split at h4
      · rename_i e; subst e; rw [(h.top (Nat.le_refl _)).1] at h2; cases h2
      · exact h.inj h1 h2 h3 h4 h5 h6
  · rw [get_tput, if_neg (by omega)]
    exact h.top (by omega)
theorem HR.alloc (h : HR w0 ρ H n w) {c : Nat} {B : AB} {o : Obj} (hb : BR (ρ.set n (w.heap.size, c)) c B o) :
    HR w0 (ρ.set n (w.heap.size, c)) (tput H n B) (n + 1) (w.alloc o) :=
  (h.put B).name (Nat.lt_succ_self _) (h.top (Nat.le_refl _)).1 (by rw [get_tput]; simp) hb
theorem Ext.put (h : HR w0 ρ H n w) (B : AB) : Ext ρ ρ H (tput H n B) n (n + 1) :=
  ⟨ρ.le_refl, fun _ => rfl, fun {i} hi _ => by rw [get_tput, if_neg (by omega)], Nat.le_succ _⟩
theorem Ext.alloc (h : HR w0 ρ H n w) (B : AB) (b : Nat × Nat) : Ext ρ (ρ.set n b) H (tput H n B) n (n + 1) :=
  ⟨Env.le_set (h.top (Nat.le_refl _)).1 _, fun {i} hi => by unfold Env.set; rw [if_neg (by omega)], fun {i} hi _ => by rw [get_tput, if_neg (by omega)], Nat.le_succ _⟩
/-- A block that has turned. -/
theorem HR.write (h : HR w0 ρ H n w) {i b c : Nat} {B B' : AB} {o : Obj} {w' : World} (hi : ρ i = some (b, c)) (hB : H.get i = some B) (hl : B.live = true) (ho : w'.heap[b]? = some o) (hb : BR ρ c B' o)
    (hf : Fr (fun k => k = b) w w') : HR w0 ρ (tput H i B') n w' := by
  have hin : i < n := by
    rcases Nat.lt_or_ge i n with h' | h'
    · exact h'
    · rw [(h.top h').1] at hi; cases hi
  refine ⟨fun {j b' d C} h1 h2 => ?_, fun {j k b' d e C D} h1 h2 h3 h4 h5 h6 => ?_, fun {j} hj => ?_, fun {j b' d} h1 => ?_, ?_, h.le⟩
  · rw [get_tput] at h2
    split at h2
    · rename_i e; subst e
      rw [hi] at h1; cases h1; cases h2
      exact ⟨o, ho, hb⟩
    · rename_i e
      by_cases hbb : b' = b
      · subst hbb
        cases hC : C.live with
        | true => exact absurd (h.inj h1 hi h2 hB hC hl) e
        | false =>
          cases C <;> simp [AB.live] at hC
          exact ⟨o, ho, trivial⟩
      · obtain ⟨o', h3, h4⟩ := h.blk h1 h2
        exact ⟨o', (hf.block _ (h.base h1).2 hbb).trans h3, h4⟩
  · rw [get_tput] at h3 h4
    split at h3 <;> split at h4
    · rename_i e e'; rw [e, e']
    · rename_i e e'; subst e; exact h.inj h1 h2 hB h4 hl h6
    · rename_i e e'; subst e'; exact h.inj h1 h2 h3 hB h5 hl
    · exact h.inj h1 h2 h3 h4 h5 h6
  · rw [get_tput, if_neg (by omega)]
    exact h.top hj
  · have := h.base h1; exact ⟨this.1, Nat.lt_of_lt_of_le this.2 hf.size⟩
  · refine ⟨hf.os.trans h.fr.os, hf.tape.trans h.fr.tape, hf.output.trans h.fr.output, Nat.le_trans h.fr.size hf.size, fun k hk hnS => ?_⟩
    have hkb : k ≠ b := fun e => by
      rcases (h.base hi).1 with q | q
      · exact hnS (by rw [e]; exact q)
      · omega
    exact (hf.block k (Nat.lt_of_lt_of_le hk h.fr.size) hkb).trans (h.fr.block k hk hnS)
theorem Ext.write {i : Nat} {b : Nat × Nat} (hi : ρ i = some b) (B : AB) : Ext ρ ρ H (tput H i B) n n :=
  ⟨ρ.le_refl, fun _ => rfl, fun {j} _ hj => by rw [get_tput, if_neg (fun e => by subst e; rw [hi] at hj; cases hj)], Nat.le_refl _⟩
end

/-- Memory that answers the same. -/
theorem HR.congr {w0 : Bs} {w : World} {ρ : Env} {H H' : Tr AB} {n : Nat} (h : HR w0 ρ H n w) (hg : ∀ j, H'.get j = H.get j) : HR w0 ρ H' n w :=
  ⟨fun h1 h2 => h.blk h1 (by rwa [hg] at h2), fun h1 h2 h3 h4 => h.inj h1 h2 (by rwa [hg] at h3) (by rwa [hg] at h4), fun hi => ⟨(h.top hi).1, by rw [hg]; exact (h.top hi).2⟩, h.base, h.fr, h.le⟩
/-- A block that has turned in the model alone. -/
theorem HR.touch {w0 : Bs} {w w' : World} {ρ : Env} {H : Tr AB} {n i b c : Nat} {B : AB} {o : Obj} (h : HR w0 ρ H n w) (hi : ρ i = some (b, c)) (hB : H.get i = some B) (hl : B.live = true) (ho : w'.heap[b]? = some o) (hb : BR ρ c B o)
    (hf : Fr (fun k => k = b) w w') : HR w0 ρ H n w' :=
  (h.write hi hB hl ho hb hf).congr fun j => by
    rw [get_tput]
    split
    · rename_i e; rw [e]; exact hB
    · rfl
/-- A world of which no elder block has turned. -/
theorem HR.old {w0 : Bs} {w w' : World} {ρ : Env} {H : Tr AB} {n : Nat} (h : HR w0 ρ H n w) (hf : Fr No w w') : HR w0 ρ H n w' :=
  ⟨fun h1 h2 => by
    obtain ⟨o, h3, h4⟩ := h.blk h1 h2
    exact ⟨o, (hf.block _ (h.base h1).2 (No.no _)).trans h3, h4⟩, h.inj, h.top, fun h1 => ⟨(h.base h1).1, Nat.lt_of_lt_of_le (h.base h1).2 hf.size⟩, h.fr.thn hf, h.le⟩

/-! Cells of a block. -/
section
variable {w : World} {b : Nat} {T : TypeId} {L : List Value} {fz : Nat × Nat}
theorem cells_cell (hb : w.heap[b]? = some (.cells L.toArray T fz)) (j : Nat) : w.cell? ⟨b, j, none⟩ = L[j]? := by
  simp [World.cell?, hb]
theorem cells_range (hb : w.heap[b]? = some (.cells L.toArray T fz)) {o k : Nat} (h : o + k ≤ L.length) : w.rangeAt b o ((L.drop o).take k) := fun j v hv => by
  rw [cells_cell hb]
  have hj : j < k := by
    rcases Nat.lt_or_ge j k with h' | h'
    · exact h'
    · rw [List.getElem?_eq_none (by simp; omega)] at hv; cases hv
  rw [List.getElem?_take, if_pos hj, List.getElem?_drop] at hv
  exact hv
theorem cells_there (hb : w.heap[b]? = some (.cells L.toArray T fz)) (hz : unfrozen fz L.length) {o k : Nat} (h : o + k ≤ L.length) : w.there b o k := fun j hj => by
  refine ⟨by rw [cells_cell hb]; simp; omega, ?_⟩
  rcases hz with rfl | hz
  · simp [World.frozen?, hb]
  · obtain ⟨lo, hi⟩ := fz
    have hz' : L.length ≤ lo := hz
    simp [World.frozen?, hb]
    omega
theorem cells_setCell (hb : w.heap[b]? = some (.cells L.toArray T fz)) (j : Nat) (v : Value) : (w.setCell ⟨b, j, none⟩ v).heap[b]? = some (.cells (L.set j v).toArray T fz) := by
  unfold World.setCell
  rw [Array.getElem?_modify]
  simp [hb]
theorem cells_setCells : ∀ (vs : List Value) {w : World} {L : List Value} (o : Nat), w.heap[b]? = some (.cells L.toArray T fz) → o + vs.length ≤ L.length →
    (w.setCells b o vs).heap[b]? = some (.cells (L.take o ++ vs ++ L.drop (o + vs.length)).toArray T fz)
  | [], w, L, o, hb, _ => by simpa [World.setCells] using hb
  | v :: vs, w, L, o, hb, h => by
    have := cells_setCells vs (o + 1) (cells_setCell hb o v) (by simp at h ⊢; omega)
    rw [World.setCells, this, splice_step _ _ _ _ (by simpa using h)]
theorem fr_setCells : ∀ (vs : List Value) (w : World) (o : Nat), Fr (fun k => k = b) w (w.setCells b o vs)
  | [], w, o => Fr.refl _ _
  | v :: vs, w, o => by
    rw [World.setCells]
    exact ((Fr.refl (fun k => k = b) w).setCell (p := ⟨b, o, none⟩) (.inl rfl) v).trans (fr_setCells vs _ (o + 1)) (fun _ hx => .inl hx)
end

def oneA : AV → Bool
  | .agg _ => false
  | .tup _ => false
  | .v x => x.oneCell'
  | _ => true
theorem oneA_VR {ρ : Env} {x : AV} {u : Value} (h : oneA x = true) (hx : VR ρ x u) : u.oneCell' = true := by
  cases hx <;> first | exact h | rfl | (simp [oneA] at h)
theorem oneA_VRs {ρ : Env} : ∀ {l : List AV} {vs : List Value}, l.all oneA = true → VRs ρ l vs → ∀ v ∈ vs, v.oneCell' = true
  | [], _, _, h => by cases h; simp
  | x :: l, _, ha, h => by
    cases h with
    | cons e t =>
      simp only [List.all_cons, Bool.and_eq_true] at ha
      intro v hv
      cases hv with
      | head => exact oneA_VR ha.1 e
      | tail _ hv => exact oneA_VRs ha.2 t v hv

/-- A load. -/
def loadA (P : Program) (t : TypeId) (x : AV) (H : Tr AB) : Option AV :=
  match x with
  | .ptr i o => match H.get i with
    | some (.mem _ _ l) => partA P t l o
    | _ => none
  | _ => none
theorem loadA_sound {P : Program} {w0 : Bs} {w : World} {ρ : Env} {H : Tr AB} {n : Nat} (hr : HR w0 ρ H n w) {t : TypeId} {x y : AV} {u : Value} (h : loadA P t x H = some y) (hx : VR ρ x u) :
    ∃ v, VR ρ y v ∧ (Instr.loadAt t u).run P w = .ok v w := by
  unfold loadA at h
  split at h
  · rename_i i o
    cases hx with
    | ptr _ hi =>
      rename_i b c
      split at h
      · rename_i T z l hB
        obtain ⟨ob, ho, vs, sp, fz, hv, rfl, hz, _⟩ := hr.blk hi hB
        have hlen := hv.length
        unfold partA at h
        cases hd : P.underlying t with
        | none => simp [hd] at h
        | some d =>
          simp only [hd] at h
          cases hb : aggB d with
          | true =>
            simp only [hb, cond_true] at h
            cases hi' : P.info? t with
            | none => simp [hi'] at h
            | some inf =>
              simp only [hi'] at h
              cases hc : Nat.ble (o + inf.size) l.length with
              | false => simp [hc] at h
              | true =>
                simp only [hc, cond_true, Option.some.injEq] at h
                subst h
                have hle : o + inf.size ≤ l.length := Nat.le_of_ble_eq_true hc
                refine ⟨_, .agg ((hv.drop o).take inf.size), ?_⟩
                have hcs : w.rangeAt b o ((vs.drop o).take inf.size) := by
                  have := cells_range ho (o := o) (k := inf.size) (by simp; omega)
                  rwa [List.drop_append_of_le_length (by omega), List.take_append_of_le_length (by simp; omega)] at this
                refine run_loadAt_mid w b o t _ d hcs hd (by cases d <;> simp_all [aggB]) (by simp [hi']; omega)
          | false =>
            simp only [hb, cond_false] at h
            obtain ⟨v, hv', hx⟩ := hv.get h
            refine ⟨v, hx, ?_⟩
            have : w.cell? ⟨b, o, none⟩ = some v := by
              rw [cells_cell ho, List.getElem?_append_left (List.getElem?_eq_some_iff.1 hv').1]; exact hv'
            unfold Instr.loadAt loadVar
            simp [Instr.sureAddr, run_isAgg hd, hb, this]
      · cases h
  · cases h

def spliceA (l : List AV) (o : Nat) (c : List AV) : List AV := l.take o ++ c ++ l.drop (o + c.length)
/-- A store. -/
def storeA (P : Program) (t : TypeId) (x v : AV) (H : Tr AB) : Option (Tr AB) :=
  match x with
  | .ptr i o => match H.get i with
    | some (.mem T z l) =>
      let c := v.cells
      match P.info? t with
      | some inf => cond (Nat.beq c.length inf.size && Nat.ble (o + c.length) l.length && c.all oneA) (some (tput H i (.mem T z (spliceA l o c)))) none
      | none => none
    | _ => none
  | _ => none
/-- Cells written into a block. -/
theorem HR.splice {w0 : Bs} {w : World} {ρ : Env} {H : Tr AB} {n : Nat} (hr : HR w0 ρ H n w) {i b c o : Nat} {T : TypeId} {z : Option Nat} {l cs : List AV} {us : List Value} (hi : ρ i = some (b, c)) (hB : H.get i = some (.mem T z l))
    (hle : o + cs.length ≤ l.length) (hc : VRs ρ cs us) : w.there b o us.length ∧ HR w0 ρ (tput H i (.mem T z (spliceA l o cs))) n (w.setCells b o us) := by
  obtain ⟨ob, ho, vs, sp, fz, hv, rfl, hz, hs⟩ := hr.blk hi hB
  have hlen := hv.length
  have hcl := hc.length
  refine ⟨cells_there ho hz (by simp; omega), ?_⟩
  refine hr.write hi hB rfl (cells_setCells us o ho (by simp; omega)) ⟨vs.take o ++ us ++ vs.drop (o + us.length), sp, fz, ?_, ?_, ?_, ?_⟩ (fr_setCells us w o)
  · unfold spliceA
    rw [hcl]
    exact ((hv.take o).append hc).append (hv.drop _)
  · rw [List.take_append_of_le_length (by omega), List.drop_append_of_le_length (by omega)]
    simp
  · have : (vs.take o ++ us ++ vs.drop (o + us.length) ++ sp).length = (vs ++ sp).length := by simp; omega
    rw [this]; exact hz
  · cases z with
    | none => exact hs
    | some k =>
      have : (vs.take o ++ us ++ vs.drop (o + us.length) ++ sp).length = (vs ++ sp).length := by simp; omega
      simp only [this]; exact hs
theorem storeA_sound {P : Program} {w0 : Bs} {w : World} {ρ : Env} {H H' : Tr AB} {n : Nat} (hr : HR w0 ρ H n w) {t : TypeId} {x v : AV} {u a : Value} (h : storeA P t x v H = some H') (hx : VR ρ x u) (hv : VR ρ v a) :
    ∃ w', (Instr.storeAt t u a).run P w = .ok () w' ∧ HR w0 ρ H' n w' ∧ Ext ρ ρ H H' n n := by
  unfold storeA at h
  split at h
  · rename_i i o
    cases hx with
    | ptr _ hi =>
      rename_i b c
      split at h
      · rename_i T z l hB
        split at h
        · rename_i inf hinf
          cases hc : (Nat.beq v.cells.length inf.size && Nat.ble (o + v.cells.length) l.length && v.cells.all oneA) with
          | false => simp [hc] at h
          | true =>
            simp only [hc, cond_true, Option.some.injEq] at h
            simp only [Bool.and_eq_true, Nat.beq_eq, Nat.ble_eq] at hc
            subst h
            have hvc := hv.cells
            obtain ⟨ht, hr'⟩ := hr.splice hi hB hc.1.2 hvc
            refine ⟨_, ?_, hr', Ext.write hi _⟩
            have := run_storeVar_mid (P := P) w b o t a.cells (by simpa using ht) (by simp [hinf, ← hc.1.1, hvc.length]) (by
              rw [Array.all_eq_true_iff_forall_mem]
              intro q hq
              exact oneA_VRs hc.2 hvc q (by simpa using hq))
            unfold Instr.storeAt
            simp only [Instr.sureAddr, Sem.run_bind, Sem.run_pure, Result.andThen_ok]
            have e : storeVar t ⟨b, o, none⟩ a = storeVar t ⟨b, o, none⟩ (.agg a.cells) := by unfold storeVar; rfl
            rw [e, this]
        · cases h
      · cases h
  · cases h

end Go.Proofs.Ytnkjhicokcmmpaa.Ev

/-
  New blocks; append, copy and clear.
-/
namespace Go.Proofs.Ytnkjhicokcmmpaa.Ev
open Go Go.RowKit

/-- Zero cells of n elements. -/
def zerosA (z : List AV) : Nat → List AV
  | 0 => []
  | n + 1 => z ++ zerosA z n
def zerosV (z : List Value) : Nat → List Value
  | 0 => []
  | n + 1 => z ++ zerosV z n
theorem zeros_VR {ρ : Env} {z : List AV} {zs : List Value} (h : VRs ρ z zs) : ∀ n, VRs ρ (zerosA z n) (zerosV zs n)
  | 0 => .nil
  | n + 1 => h.append (zeros_VR h n)
theorem zerosV_get (z : List Value) : ∀ (n j : Nat), j < n * z.length → (zerosV z n)[j]? = z[j % z.length]?
  | 0, j, h => by simp at h
  | n + 1, j, h => by
    unfold zerosV
    by_cases hj : j < z.length
    · rw [List.getElem?_append_left hj, Nat.mod_eq_of_lt hj]
    · rw [List.getElem?_append_right (by omega), zerosV_get z n (j - z.length) (by rw [Nat.succ_mul] at h; omega)]
      congr 1
      conv => rhs; rw [show j = (j - z.length) + z.length by omega]
      simp
theorem zerosV_length (z : List Value) : ∀ n, (zerosV z n).length = n * z.length
  | 0 => by simp [zerosV]
  | n + 1 => by simp [zerosV, zerosV_length z n, Nat.succ_mul, Nat.add_comm]
theorem range_zeros (z : Array Value) (n : Nat) : (Array.range (n * z.size)).map (fun i => z[i % z.size]!) = (zerosV z.toList n).toArray := by
  apply Array.ext'
  apply List.ext_getElem?
  intro j
  simp only [Array.toList_map, Array.toList_range, List.getElem?_map]
  by_cases hj : j < n * z.size
  · rw [List.getElem?_range hj, zerosV_get _ _ _ (by simpa using hj)]
    have hz : 0 < z.size := Nat.pos_of_ne_zero (fun e => by rw [e] at hj; simp at hj)
    have hm : j % z.size < z.size := Nat.mod_lt _ hz
    simp [hm]
  · rw [List.getElem?_eq_none (by simp; omega), List.getElem?_eq_none (by rw [zerosV_length]; simp; omega)]
    rfl
theorem zeroCells_eq (z : Array Value) (n : Nat) : Builtin.zeroCells z n = (zerosV z.toList n).toArray := range_zeros z n

/-- What a new block holds, and the value that is answered. -/
inductive NewV where
  | ptr
  | sl (n c : Nat)
def NewV.av (i : Nat) : NewV → AV
  | .ptr => .ptr i 0
  | .sl n c => .sl i 0 n c
def NewV.val (b : Nat) : NewV → Value
  | .ptr => .pointer (some ⟨b, 0, none⟩)
  | .sl n c => .slice (some ⟨b, 0, none⟩) n c
theorem NewV.VR {ρ : Env} {i b c : Nat} (h : ρ i = some (b, c)) (k : NewV) : VR ρ (k.av i) (k.val b) := by
  cases k with
  | ptr => exact .ptr _ h
  | sl n c => exact .sl _ _ _ h

/-- The operations that lay a block and do no more. -/
def aopN (P : Program) (T : Tr AV) (o : Oper) : Option (TypeId × List AV × NewV) :=
  match o.op with
  | .alloc t => match P.info? t with
    | some i => match i.zero with
      | some z => some (t, (ofV z).cells, .ptr)
      | none => none
    | none => none
  | .box t x => some (t, (aev T x).cells, .ptr)
  | .buildSlice t len ps =>
    match P.underlying t with
    | some (.slice e) => match P.info? e with
      | some i => cond (Nat.beq len 0) (match ps.toList with | [] => some (e, [], .sl 0 0) | _ => none) <| match i.zero with
        | some z =>
          let zc := (ofV z).cells
          cond (Nat.beq zc.length i.size && Nat.ble 1 (len * i.size) && Nat.ble (len * i.size) 16777216)
            (match fillA (fun j => some (j * i.size, i.size)) (zerosA zc len) (ps.toList.map fun p => (p.1, aev T p.2)) with
             | some l => some (e, l, .sl len len)
             | none => none) none
        | none => none
      | none => none
    | _ => none
  | .makeSlice t l c =>
    match aev T l, aev T c, P.underlying t with
    | .v (.int _ n), .v (.int _ m), some (.slice e) => match P.info? e with
      | some i => match i.zero with
        | some z =>
          let zc := (ofV z).cells
          cond (Nat.beq zc.length i.size && Nat.ble 1 i.size && decide (0 ≤ n) && decide (n ≤ m) && decide (m ≤ 1073741824) && Nat.ble i.bytes 65536)
            (some (e, zerosA zc m.toNat, .sl n.toNat m.toNat)) none
        | none => none
      | none => none
    | _, _, _ => none
  | _ => none
theorem aopN_sound {P : Program} {ρ : Env} {T : Tr AV} {o : Oper} {e : TypeId} {l : List AV} {k : NewV} {ev : Operand → Value} (h : aopN P T o = some (e, l, k)) (hev : ∀ y ∈ o.op.operands, VR ρ (aev T y) (ev y)) :
    ∃ vs, VRs ρ l vs ∧ ∀ w, (execOp ev o).run P w = .ok (.value (k.val w.heap.size)) (w.alloc (.cells vs.toArray e)) := by
  obtain ⟨dst, op, type, pos, after, guard⟩ := o
  cases op <;> simp only [aopN] at h <;> try (cases h; done)
  case alloc t =>
    split at h
    · rename_i i hi
      split at h
      · rename_i z hz
        simp only [Option.some.injEq, Prod.mk.injEq] at h
        obtain ⟨rfl, rfl, rfl⟩ := h
        refine ⟨_, (ofV_VR z).cells, fun w => ?_⟩
        unfold execOp Instr.alloc
        simp [run_zeroValue hi hz, newVar, newRow, NewV.val]
      · cases h
    · cases h
  case box t x =>
    simp only [Option.some.injEq, Prod.mk.injEq] at h
    obtain ⟨rfl, rfl, rfl⟩ := h
    refine ⟨_, (hev x (by simp [Op.operands])).cells, fun w => ?_⟩
    unfold execOp Instr.box
    simp [newVar, newRow, NewV.val]
  case buildSlice t len ps =>
    split at h
    · rename_i el hu
      split at h
      · rename_i i hi
        rw [beq_dec] at h
        by_cases hl0 : len = 0
        · subst hl0
          simp only [decide_true, cond_true] at h
          split at h
          · rename_i hps
            simp only [Option.some.injEq, Prod.mk.injEq] at h
            obtain ⟨rfl, rfl, rfl⟩ := h
            have hps' : ps = #[] := Array.toList_inj.1 hps
            subst hps'
            refine ⟨[], .nil, fun w => ?_⟩
            have hr0 : Array.range 0 = (#[] : Array Nat) := Array.toList_inj.1 (by simp)
            unfold execOp Instr.buildSlice
            simp [run_underlying hu, run_sizeOf hi, hr0, Instr.fill, newRow, NewV.val]
          · cases h
        simp only [hl0, decide_false, cond_false] at h
        split at h
        · rename_i z hz
          have hzc := (ofV_VR (ρ := ρ) z).cells
          cases hc : (Nat.beq (ofV z).cells.length i.size && Nat.ble 1 (len * i.size) && Nat.ble (len * i.size) 16777216) with
          | false => simp [hc] at h
          | true =>
            simp only [hc, cond_true] at h
            simp only [Bool.and_eq_true, Nat.beq_eq, Nat.ble_eq] at hc
            split at h
            · rename_i r hr
              simp only [Option.some.injEq, Prod.mk.injEq] at h
              obtain ⟨rfl, rfl, rfl⟩ := h
              have hq : VRs ρ ((ps.toList.map fun p => (p.1, aev T p.2)).map Prod.snd) ((ps.toList.map fun p => (p.1, ev p.2)).map Prod.snd) := by
                have : VRs ρ ((ps.toList.map Prod.snd).map (aev T)) ((ps.toList.map Prod.snd).map ev) := VRs.map_ev fun y hy => hev y (by simp [Op.operands] at hy ⊢; exact hy)
                simpa [Function.comp_def] using this
              obtain ⟨us, h1, h2⟩ := fillA_sound (qs := ps.toList.map fun p => (p.1, ev p.2)) hr (zeros_VR hzc len) (by simp) hq
              refine ⟨us, h1, fun w => ?_⟩
              have hsz : z.cells.size = i.size := by rw [← hc.1.1, hzc.length]; simp
              have hne : ¬ (len = 0 ∨ i.size = 0) := by
                intro h0
                have : len * i.size = 0 := by rcases h0 with h0 | h0 <;> simp [h0]
                omega
              have hz' := range_zeros z.cells len
              rw [hsz] at hz'
              unfold execOp Instr.buildSlice
              simp only [Sem.run_bind, run_underlying hu, Result.andThen_ok, run_sizeOf hi]
              rw [if_neg (by omega)]
              simp only [Sem.run_bind, Sem.run_pure, Result.andThen_ok]
              rw [if_neg (by omega)]
              simp only [Sem.run_bind, Sem.run_pure, Result.andThen_ok, run_zeroValue hi hz, hsz, hz']
              have h2' : Instr.fill (fun j => some (j * i.size, i.size)) (zerosV z.cells.toList len).toArray (ps.map fun p => (p.1, ev p.2)).toList = some us.toArray := by
                rw [← h2]; congr 1; simp
              rw [h2']
              simp [newRow, NewV.val]
            · cases h
        · cases h
      · cases h
    · cases h
  case makeSlice t ln cp =>
    have hl := hev ln (by simp [Op.operands])
    have hcp := hev cp (by simp [Op.operands])
    split at h
    · rename_i k1 nn k2 mm el e1 e2 hu
      rw [e1] at hl
      rw [e2] at hcp
      generalize hlv : ev ln = lv at hl
      generalize hcv : ev cp = cv at hcp
      cases hl
      cases hcp
      split at h
      · rename_i i hi
        split at h
        · rename_i z hz
          have hzc := (ofV_VR (ρ := ρ) z).cells
          cases hc : (Nat.beq (ofV z).cells.length i.size && Nat.ble 1 i.size && decide (0 ≤ nn) && decide (nn ≤ mm) && decide (mm ≤ 1073741824) && Nat.ble i.bytes 65536) with
          | false => simp [hc] at h
          | true =>
            simp only [hc, cond_true, Option.some.injEq, Prod.mk.injEq] at h
            simp only [Bool.and_eq_true, Nat.beq_eq, Nat.ble_eq, decide_eq_true_eq] at hc
            obtain ⟨⟨⟨⟨⟨hc1, hc2⟩, hc3⟩, hc4⟩, hc5⟩, hc6⟩ := hc
            obtain ⟨rfl, rfl, rfl⟩ := h
            refine ⟨_, zeros_VR hzc _, fun w => ?_⟩
            have hsz : z.cells.size = i.size := by rw [← hc1, hzc.length]; simp
            have w1 : IntKind.i64.wrap nn = nn := IntWalk.i64_in _ ⟨by omega, by omega⟩
            have w2 : IntKind.i64.wrap mm = mm := IntWalk.i64_in _ ⟨by omega, by omega⟩
            have hb : (i.bytes : Int) * mm ≤ 281474976710656 := by
              have h1 : (i.bytes : Int) * mm ≤ 65536 * mm := Int.mul_le_mul_of_nonneg_right (by omega) (by omega)
              omega
            have hz' := range_zeros z.cells mm.toNat
            rw [hsz] at hz'
            have hn0 : ¬ (mm < 0) := by omega
            have hn1 : ¬ (nn < 0) := by omega
            have hn2 : ¬ (mm < nn) := by omega
            have hn3 : ¬ ((281474976710656 : Int) < (i.bytes : Int) * mm) := by omega
            unfold execOp Instr.makeSlice
            have hd : (decide (mm < 0) || decide ((i.bytes : Int) * mm > 2 ^ 48) || decide (nn < 0) || decide (nn > mm)) = false := by
              simp [hn0, hn1, hn2, hn3]
            simp only [Sem.run_bind, run_underlying hu, Result.andThen_ok, hlv, hcv, asInt, asIntOf, Sem.run_pure, run_typeInfo hi, w1, w2]
            rw [if_neg (by rw [hd]; simp)]
            by_cases hm0 : mm.toNat * i.size = 0
            · have h0 : mm.toNat = 0 := by rcases Nat.mul_eq_zero.1 hm0 with h | h <;> omega
              have hr0 : Array.range 0 = (#[] : Array Nat) := Array.toList_inj.1 (by simp)
              simp [run_sizeOf hi, h0, zerosV, newRow, NewV.val, hr0]
            · simp only [Sem.run_bind, run_askRoom, Result.andThen_ok, run_sizeOf hi, if_neg hm0, run_zeroValue hi hz, Sem.run_pure, hsz, hz']
              simp [newRow, NewV.val]
        · cases h
      · cases h
    · cases h

/-- What an append or a copy takes from: how many elements, and their cells. -/
def srcA (P : Program) (tx : TypeId) (k : Nat) (x : AV) (H : Tr AB) : Option (Nat × List AV) :=
  match P.underlying tx with
  | some (.slice _) =>
    match x with
    | .v (.slice none 0 _) => some (0, [])
    | .se => some (0, [])
    | .sl i o n _ => match H.get i with
      | some (.mem _ _ l) => cond (Nat.ble (o + n * k) l.length) (some (n, (l.drop o).take (n * k))) none
      | _ => none
    | .su i o n _ _ => match H.get i with
      | some (.mem _ _ l) => cond (Nat.ble (o + n * k) l.length) (some (n, (l.drop o).take (n * k))) none
      | _ => none
    | _ => none
  | some .string =>
    match x with
    | .v (.string s) => cond (Nat.beq k 1) (some (s.size, (byteCells s).map .v)) none
    | _ => none
  | _ => none
theorem srcA_sound {P : Program} {w0 : Bs} {w : World} {ρ : Env} {H : Tr AB} {n : Nat} (hr : HR w0 ρ H n w) {tx : TypeId} {k m : Nat} {x : AV} {news : List AV} {u : Value} (h : srcA P tx k x H = some (m, news)) (hx : VR ρ x u) (h1 : news.all oneA = true) :
    ∃ us, VRs ρ news us ∧ Src P k tx u m us w := by
  have part : ∀ {i o nn c b : Nat} {e : TypeId} {T : TypeId} {z : Option Nat} {l : List AV} {cc : Nat}, P.underlying tx = some (.slice e) → ρ i = some (b, cc) → H.get i = some (.mem T z l) →
      (cond (Nat.ble (o + nn * k) l.length) (some (nn, (l.drop o).take (nn * k))) none = some (m, news)) → ∃ us, VRs ρ news us ∧ Src P k tx (.slice (some ⟨b, o, none⟩) nn c) m us w := by
    intro i o nn c b e T z l cc hu hi hB h
    cases hc : Nat.ble (o + nn * k) l.length with
    | false => simp [hc] at h
    | true =>
      simp only [hc, cond_true, Option.some.injEq, Prod.mk.injEq] at h
      obtain ⟨rfl, rfl⟩ := h
      have hle : o + nn * k ≤ l.length := Nat.le_of_ble_eq_true hc
      obtain ⟨ob, ho, vs, sp, fz, hv, rfl, hz, _⟩ := hr.blk hi hB
      have hlen := hv.length
      have hn := (hv.drop o).take (nn * k)
      have hcs : w.rangeAt b o ((vs.drop o).take (nn * k)) := by
        have := cells_range ho (o := o) (k := nn * k) (by simp; omega)
        rwa [List.drop_append_of_le_length (by omega), List.take_append_of_le_length (by simp; omega)] at this
      exact ⟨_, hn, Src.ofSlice w hu _ _ _ _ (by simp; omega) (fun j u hu => by rw [Addr.add_mid]; exact hcs j u hu) (oneA_VRs h1 hn)⟩
  unfold srcA at h
  split at h
  · rename_i e hu
    split at h
    · cases hx
      simp only [Option.some.injEq, Prod.mk.injEq] at h
      obtain ⟨rfl, rfl⟩ := h
      exact ⟨[], .nil, Src.ofNil w hu _⟩
    · cases hx
      simp only [Option.some.injEq, Prod.mk.injEq] at h
      obtain ⟨rfl, rfl⟩ := h
      exact ⟨[], .nil, Src.ofSlice w hu _ _ _ _ (by simp) (by simp) (by simp)⟩
    · cases hx with
      | sl _ _ _ hi =>
        split at h
        · rename_i hB; exact part hu hi hB h
        · cases h
    · cases hx with
      | su _ _ _ _ hi hn =>
        split at h
        · rename_i hB; exact part hu hi hB h
        · cases h
    · cases h
  · rename_i hu
    split at h
    · rename_i s
      cases hx
      rw [beq_dec] at h
      by_cases hk : k = 1
      · subst hk
        simp only [decide_true, cond_true, Option.some.injEq, Prod.mk.injEq] at h
        obtain ⟨rfl, rfl⟩ := h
        exact ⟨_, VRs.of_vals _, Src.ofString w hu s⟩
      · simp [hk] at h
    · cases h
  · cases h

/-- append -/
def appendA (P : Program) (t tx : TypeId) (s x : AV) (H : Tr AB) (n : Nat) : Option (AV × Tr AB × Nat) :=
  match P.underlying t with
  | some (.slice e) =>
    match P.info? e with
    | some inf =>
      let k := inf.size
      match inf.zero, srcA P tx k x H with
      | some z, some (m, news) =>
        cond (Nat.ble 1 k && Nat.beq (ofV z).cells.length k && news.all oneA && Nat.ble m 1073741824 && Nat.ble inf.bytes 4096)
          (match s with
           | .v (.slice none 0 0) => cond (Nat.beq m 0) (some (s, H, n)) (some (.su n 0 m 0 m, tput H n (.mem e (some k) news), n + 1))
           | .sl i o len c =>
             match H.get i with
             | some (.mem T zz l) =>
               cond (Nat.ble len 1073741824 && Nat.ble c 1073741824 && Nat.ble (o + len * k) l.length)
                 (cond (Nat.ble (len + m) c)
                   (cond (Nat.ble (o + len * k + news.length) l.length) (some (.sl i o (len + m) c, tput H i (.mem T zz (spliceA l (o + len * k) news)), n)) none)
                   (some (.su n 0 (len + m) 0 (len + m), tput H n (.mem e (some k) ((l.drop o).take (len * k) ++ news)), n + 1))) none
             | _ => none
           | .su i o len kk q =>
             match H.get i with
             | some (.mem T (some zz) l) =>
               cond (Nat.ble (len + m) q && Nat.ble (o + len * k + news.length) l.length)
                (some (.su i o (len + m) kk q, tput H i (.mem T (some zz) (spliceA l (o + len * k) news)), n)) <|
               cond (Nat.beq o 0 && Nat.beq kk 0 && Nat.beq T e && Nat.beq zz k && Nat.ble len 1073741824 && Nat.ble (len * k) l.length)
                 (some (.su n 0 (len + m) 0 (len + m), tput (tput H i .dead) n (.mem e (some k) (l.take (len * k) ++ news)), n + 1)) none
             | _ => none
           | _ => none) none
      | _, _ => none
    | none => none
  | _ => none

theorem Src.firstOlds {P : Program} {w : World} {w0 : Bs} {ρ : Env} {H : Tr AB} {n i b c o len k : Nat} {T : TypeId} {z : Option Nat} {l : List AV} (hr : HR w0 ρ H n w) (hi : ρ i = some (b, c)) (hB : H.get i = some (.mem T z l)) (hle : o + len * k ≤ l.length) (cap : Nat) :
    ∃ olds, VRs ρ ((l.drop o).take (len * k)) olds ∧ (Builtin.firstCells k len (.slice (some ⟨b, o, none⟩) len cap)).run P w.drew = .ok olds.toArray w.drew := by
  obtain ⟨ob, ho, vs, sp, fz, hv, rfl, hz, _⟩ := hr.blk hi hB
  have hlen := hv.length
  have hn := (hv.drop o).take (len * k)
  have hcs : w.rangeAt b o ((vs.drop o).take (len * k)) := by
    have := cells_range ho (o := o) (k := len * k) (by simp; omega)
    rwa [List.drop_append_of_le_length (by omega), List.take_append_of_le_length (by simp; omega)] at this
  exact ⟨_, hn, run_firstCells_some w.drew k len _ len cap _ (by simp; omega) (fun j u hu => by rw [Addr.add_mid]; simpa using hcs j u hu)⟩
/-- The new row of an append that grows. -/
theorem HR.grown {P : Program} {w : World} {w0 : Bs} {ρ : Env} {H : Tr AB} {n : Nat} (hr : HR w0 ρ H n w) {e : TypeId} {k need cap : Nat} {l : List AV} {vs : List Value} {z : Array Value} (hv : VRs ρ l vs) (hz : z.size = k) (hl : l.length = need * k) (hc : need ≤ cap) (hmx : cap ≤ maxLen) :
    HR w0 (ρ.set n (w.heap.size, cap)) (tput H n (.mem e (some k) l)) (n + 1) (w.drew.alloc (.cells (vs.toArray ++ Builtin.zeroCells z (cap - need)) e)) := by
  have hr' : HR w0 ρ H n w.drew := hr.same rfl (Fr.refl No w).drew
  refine hr'.alloc (c := cap) (B := .mem e (some k) l) ⟨vs, zerosV z.toList (cap - need), (0, 0), ?_, ?_, unfrozen_zero _, ?_⟩
  · exact hv.mono (Env.le_set (hr.top (Nat.le_refl _)).1 _)
  · rw [zeroCells_eq]; simp
  · have := hv.length
    simp only [List.length_append, zerosV_length, Array.length_toList, hz]
    refine ⟨?_, hmx⟩
    rw [← this, hl, ← Nat.add_mul]
    congr 1; omega
set_option maxHeartbeats 2000000 in
theorem appendA_sound {P : Program} {w0 : Bs} {w : World} {ρ : Env} {H H' : Tr AB} {n n' : Nat} (hr : HR w0 ρ H n w) {t tx ty : TypeId} {s x y : AV} {su xu : Value} (h : appendA P t tx s x H n = some (y, H', n')) (hs : VR ρ s su) (hx : VR ρ x xu) :
    ∃ ρ' v w', (Builtin.append_ #[t, tx] ty #[su, xu]).run P w = .ok v w' ∧ VR ρ' y v ∧ HR w0 ρ' H' n' w' ∧ Ext ρ ρ' H H' n n' := by
  unfold appendA at h
  split at h
  · rename_i e hu
    split at h
    · rename_i inf hinf
      cases hz : inf.zero with
      | none => simp [hz] at h
      | some z =>
      cases hsrc : srcA P tx inf.size x H with
      | none => simp [hz, hsrc] at h
      | some mn =>
        obtain ⟨m, news⟩ := mn
        simp only [hz, hsrc] at h
        cases hc : (Nat.ble 1 inf.size && Nat.beq (ofV z).cells.length inf.size && news.all oneA && Nat.ble m 1073741824 && Nat.ble inf.bytes 4096) with
        | false => simp [hc] at h
        | true =>
          simp only [hc, cond_true] at h
          simp only [Bool.and_eq_true, Nat.beq_eq, Nat.ble_eq] at hc
          obtain ⟨⟨⟨⟨hk1, hzl⟩, hone⟩, hm⟩, hby⟩ := hc
          obtain ⟨us, hus, hSrc⟩ := srcA_sound hr hsrc hx hone
          have hnl : news.length = m * inf.size := hus.length.trans hSrc.newsLen
          have hzs : z.cells.size = inf.size := by rw [← hzl, ((ofV_VR (ρ := ρ) z).cells).length]; simp
          have hfit : ∀ {need cap : Nat}, cap < need → need ≤ 2147483648 → Builtin.nextslicecap need cap * inf.bytes ≤ 281474976710656 := fun {need cap} h1 h2 =>
            growslice_fits h1 (by
              have : need * inf.bytes ≤ 2147483648 * 4096 := Nat.mul_le_mul h2 hby
              omega)
          have hnew : ∀ (need cap : Nat), need ≤ grownCap w need cap e := fun need cap => grownCap_ge w need cap e
          have grow : ∀ {base : Option Addr} {len cap : Nat} {olds : List AV} {ovs : List Value}, VRs ρ olds ovs → olds.length = len * inf.size → (Builtin.firstCells inf.size len (.slice base len cap)).run P w.drew = .ok ovs.toArray w.drew →
              cap < len + m → len + m ≤ 2147483648 → ∃ ρ' v w', (Builtin.append_ #[t, tx] ty #[.slice base len cap, xu]).run P w = .ok v w' ∧ VR ρ' (.su n 0 (len + m) 0 (len + m)) v ∧
                HR w0 ρ' (tput H n (.mem e (some inf.size) (olds ++ news))) (n + 1) w' ∧ Ext ρ ρ' H (tput H n (.mem e (some inf.size) (olds ++ news))) n (n + 1) := by
            intro base len cap olds ovs ho hol hold hg hle
            have hrun := run_append_grow_src (P := P) w t tx ty e inf z hu hinf hz base len cap ovs hold xu m us hSrc hg (by omega) (hfit hg hle)
            have hgr := hr.grown (P := P) (e := e) (k := inf.size) (need := len + m) (cap := grownCap w (len + m) cap e) (ho.append hus) hzs (by rw [List.length_append, hol, hnl, Nat.add_mul]) (hnew _ _) (grownCap_le_maxLen w _ cap e (by unfold maxLen; omega))
            exact ⟨_, _, _, hrun, by simpa using VR.su (ρ := ρ.set n (w.heap.size, grownCap w (len + m) cap e)) 0 (len + m) 0 (len + m) (Env.set_same _ _ _) ⟨Nat.le_refl _, by have := hnew (len + m) cap; omega⟩, hgr, Ext.alloc hr _ _⟩
          split at h
          · cases hs
            rw [beq_dec] at h
            by_cases hm0 : m = 0
            · subst hm0
              simp only [decide_true, cond_true, Option.some.injEq, Prod.mk.injEq] at h
              obtain ⟨rfl, rfl, rfl⟩ := h
              refine ⟨ρ, _, w, ?_, .v _, hr, Ext.refl _ _ _⟩
              have hnil : us = [] := List.eq_nil_of_length_eq_zero (by have := hSrc.newsLen; simpa using this)
              have hcl := hSrc.cells
              rw [hnil] at hcl
              rcases hSrc.kind with ⟨e', hk⟩ | hk <;> simp [Builtin.append_, run_underlying hu, run_underlying hk, sizeOf, run_typeInfo hinf, hSrc.len, hcl]
            · simp only [hm0, decide_false, cond_false, Option.some.injEq, Prod.mk.injEq] at h
              obtain ⟨rfl, rfl, rfl⟩ := h
              have := grow (base := none) (len := 0) (cap := 0) (olds := []) VRs.nil (by simp) (by simp [Builtin.firstCells]) (by omega) (by omega)
              simpa using this
          · rename_i i o len c
            split at h
            · rename_i T zz l hB
              cases hc : (Nat.ble len 1073741824 && Nat.ble c 1073741824 && Nat.ble (o + len * inf.size) l.length) with
              | false => simp [hc] at h
              | true =>
                simp only [hc, cond_true] at h
                simp only [Bool.and_eq_true, Nat.ble_eq] at hc
                cases hs with
                | @sl _ b d _ _ _ hi =>
                  cases hroom : Nat.ble (len + m) c with
                  | true =>
                    simp only [hroom, cond_true] at h
                    cases hfits : Nat.ble (o + len * inf.size + news.length) l.length with
                    | false => simp [hfits] at h
                    | true =>
                      simp only [hfits, cond_true, Option.some.injEq, Prod.mk.injEq] at h
                      obtain ⟨rfl, rfl, rfl⟩ := h
                      obtain ⟨ht, hr'⟩ := hr.splice hi hB (Nat.le_of_ble_eq_true hfits) hus
                      have hrun := run_append_room_src (P := P) w t tx ty e inf hu hinf b o len c xu m us hSrc (Nat.le_of_ble_eq_true hroom) (fun j hj => (ht j hj).1) (fun j hj => (ht j hj).2)
                      exact ⟨ρ, _, _, hrun, .sl _ _ _ hi, hr', Ext.write hi _⟩
                  | false =>
                    simp only [hroom, cond_false, Option.some.injEq, Prod.mk.injEq] at h
                    obtain ⟨rfl, rfl, rfl⟩ := h
                    have hlt : c < len + m := by
                      rcases Nat.lt_or_ge c (len + m) with h' | h'
                      · exact h'
                      · rw [Nat.ble_eq_true_of_le h'] at hroom; cases hroom
                    obtain ⟨olds, ho, hold⟩ := Src.firstOlds (P := P) (k := inf.size) hr hi hB hc.2 c
                    exact grow ho (by simp; omega) hold hlt (by omega)
            · cases h
          · rename_i i o len kk q
            split at h
            · rename_i T zz l hB
              cases hq : (Nat.ble (len + m) q && Nat.ble (o + len * inf.size + news.length) l.length) with
              | true =>
                simp only [hq, cond_true, Option.some.injEq, Prod.mk.injEq] at h
                simp only [Bool.and_eq_true, Nat.ble_eq] at hq
                obtain ⟨rfl, rfl, rfl⟩ := h
                cases hs with
                | @su _ b d _ _ _ _ hi hn =>
                  obtain ⟨ht, hr'⟩ := hr.splice hi hB hq.2 hus
                  have hrun := run_append_room_src (P := P) w t tx ty e inf hu hinf b o len (d - kk) xu m us hSrc (by omega) (fun j hj => (ht j hj).1) (fun j hj => (ht j hj).2)
                  exact ⟨ρ, _, _, hrun, .su _ _ _ _ hi ⟨hq.1, hn.2⟩, hr', Ext.write hi _⟩
              | false =>
              simp only [hq, cond_false] at h
              cases hc : (Nat.beq o 0 && Nat.beq kk 0 && Nat.beq T e && Nat.beq zz inf.size && Nat.ble len 1073741824 && Nat.ble (len * inf.size) l.length) with
              | false => simp [hc] at h
              | true =>
                simp only [hc, cond_true, Option.some.injEq, Prod.mk.injEq] at h
                simp only [Bool.and_eq_true, Nat.beq_eq, Nat.ble_eq] at hc
                obtain ⟨⟨⟨⟨⟨rfl, rfl⟩, rfl⟩, rfl⟩, hlen⟩, hle⟩ := hc
                obtain ⟨rfl, rfl, rfl⟩ := h
                cases hs with
                | @su _ b d _ _ _ _ hi hn =>
                  have hin : i < n := by
                    rcases Nat.lt_or_ge i n with h' | h'
                    · exact h'
                    · rw [(hr.top h').1] at hi; cases hi
                  have hdead : HR w0 ρ (tput H i .dead) n w := by
                    obtain ⟨ob, ho, hb⟩ := hr.blk hi hB
                    exact hr.write hi hB rfl ho trivial (Fr.refl _ _)
                  by_cases hroom : len + m ≤ d - 0
                  · obtain ⟨ob, ho, vs, sp, fz, hv, rfl, hz', hs'⟩ := hr.blk hi hB
                    have hvl := hv.length
                    simp only at hs'
                    have hfit' : 0 + len * inf.size + us.length ≤ (vs ++ sp).length := by
                      rw [hs'.1, hSrc.newsLen, Nat.zero_add, ← Nat.add_mul]
                      exact Nat.mul_le_mul_right _ (by omega)
                    have ht := cells_there ho hz' hfit'
                    have hrun := run_append_room_src (P := P) w t tx ty T inf hu hinf b 0 len (d - 0) xu m us hSrc hroom (fun j hj => (ht j hj).1) (fun j hj => (ht j hj).2)
                    have hset := cells_setCells us (0 + len * inf.size) ho hfit'
                    refine ⟨ρ.set n (b, d), _, _, hrun, VR.su 0 _ 0 _ (Env.set_same _ _ _) ⟨Nat.le_refl _, hroom⟩, ?_, ?_⟩
                    · have hle' : ρ.le (ρ.set n (b, d)) := Env.le_set (hr.top (Nat.le_refl _)).1 _
                      have hfr := fr_setCells (b := b) us w (0 + len * inf.size)
                      have hd2 : HR w0 ρ (tput H i .dead) n (w.setCells b (0 + len * inf.size) us) := by
                        have := hr.write (B' := .dead) hi hB rfl hset trivial hfr
                        exact this
                      have hp := hd2.put (.mem T (some inf.size) (l.take (len * inf.size) ++ news))
                      refine ⟨fun {j b' d' C} h1 h2 => ?_, fun {j k b' d' e' C D} h1 h2 h3 h4 h5 h6 => ?_, fun {j} hj => ?_, fun {j b' d'} h1 => ?_, hp.fr, Env.le_trans hp.le hle'⟩
                      · unfold Env.set at h1
                        split at h1
                        · rename_i ej
                          subst ej
                          cases h1
                          rw [get_tput, if_pos rfl] at h2
                          cases h2
                          refine ⟨_, hset, vs.take (len * inf.size) ++ us, (vs ++ sp).drop (len * inf.size + us.length), fz, ?_, ?_, ?_, ?_⟩
                          · exact ((hv.take _).append hus).mono hle'
                          · simp only [Nat.zero_add]
                            rw [List.take_append_of_le_length (by omega)]
                          · have : (vs.take (len * inf.size) ++ us ++ (vs ++ sp).drop (len * inf.size + us.length)).length = (vs ++ sp).length := by
                              simp at hfit' ⊢; omega
                            rw [this]; exact hz'
                          · have : (vs.take (len * inf.size) ++ us ++ (vs ++ sp).drop (len * inf.size + us.length)).length = (vs ++ sp).length := by
                              simp at hfit' ⊢; omega
                            simp only [this]; exact hs'
                        · obtain ⟨o', h3, h4⟩ := hp.blk h1 h2
                          exact ⟨o', h3, h4.mono hle'⟩
                      · have aux : ∀ {j b' d' : Nat} {C : AB}, ρ j = some (b, d') → (tput (tput H i .dead) n (.mem T (some inf.size) (l.take (len * inf.size) ++ news))).get j = some C → C.live = true → j ≠ n → False := by
                          intro j b' d' C q1 q2 q3 q4
                          rw [get_tput, if_neg q4, get_tput] at q2
                          split at q2
                          · cases q2; cases q3
                          · rename_i hji
                            exact hji (hr.inj q1 hi q2 hB q3 rfl)
                        unfold Env.set at h1 h2
                        split at h1 <;> split at h2
                        · rename_i e1 e2; rw [e1, e2]
                        · rename_i e1 e2; cases h1; exact (aux (b' := 0) h2 h4 h6 e2).elim
                        · rename_i e1 e2; cases h2; exact (aux (b' := 0) h1 h3 h5 e1).elim
                        · exact hp.inj h1 h2 h3 h4 h5 h6
                      · have := hp.top hj
                        refine ⟨?_, this.2⟩
                        unfold Env.set
                        rw [if_neg (by omega)]
                        exact this.1
                      · unfold Env.set at h1
                        split at h1
                        · cases h1; exact hd2.base hi
                        · exact hp.base h1
                    · exact ⟨Env.le_set (hr.top (Nat.le_refl _)).1 _, fun {j} hj => by unfold Env.set; rw [if_neg (by omega)], fun {j} hj hn => by
                        rw [get_tput, if_neg (by omega), get_tput, if_neg (fun ej => by subst ej; rw [hi] at hn; cases hn)], Nat.le_succ _⟩
                  · obtain ⟨olds, ho, hold⟩ := Src.firstOlds (P := P) (k := inf.size) (o := 0) (len := len) hr hi hB (by omega) (d - 0)
                    obtain ⟨ρ', v, w', g1, g2, g3, g4⟩ := grow ho (by simp; omega) hold (by omega) (by omega)
                    have hl0 : l.drop 0 = l := List.drop_zero
                    rw [hl0] at g3 g4
                    refine ⟨ρ', v, w', g1, g2, ?_, ?_⟩
                    · have hi' := g4.le _ _ hi
                      have hB' : (tput H n (.mem T (some inf.size) (l.take (len * inf.size) ++ news))).get i = some (.mem T (some inf.size) l) := by
                        rw [get_tput, if_neg (by omega)]; exact hB
                      obtain ⟨ob, hob, hbr⟩ := g3.blk hi' hB'
                      have hw := g3.write (B' := .dead) hi' hB' rfl hob trivial (Fr.refl _ _)
                      have hcomm : ∀ j, (tput (tput H i .dead) n (.mem T (some inf.size) (l.take (len * inf.size) ++ news))).get j = (tput (tput H n (.mem T (some inf.size) (l.take (len * inf.size) ++ news))) i .dead).get j := by
                        intro j
                        simp only [get_tput]
                        by_cases e1 : j = n
                        · have e3 : ¬ j = i := by omega
                          simp [e1, show ¬ n = i by omega]
                        · by_cases e2 : j = i
                          · subst e2; simp [e1]
                          · simp [e1, e2]
                      exact ⟨fun q1 q2 => hw.blk q1 (by rwa [hcomm] at q2), fun q1 q2 q3 q4 => hw.inj q1 q2 (by rwa [hcomm] at q3) (by rwa [hcomm] at q4), fun q => by rw [hcomm]; exact hw.top q, hw.base, hw.fr, hw.le⟩
                    · exact ⟨g4.le, g4.old, fun {j} hj hn => by
                        rw [get_tput, if_neg (by omega), get_tput, if_neg (fun ej => by subst ej; rw [hi] at hn; cases hn)], g4.nn⟩
            · cases h
          · cases h
    · cases h
  · cases h

end Go.Proofs.Ytnkjhicokcmmpaa.Ev
