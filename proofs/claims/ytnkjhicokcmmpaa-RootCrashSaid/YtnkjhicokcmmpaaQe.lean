/-
  Texts of this claim, laid together: Range, Oc, Od, Oe, Of, Og, Ca, Seq, Cb, Cc, Cd, Ra, Rb, Rc, Rd, Re, Rf, Ya, Yb, Yd, Yg, Yh, Yl.
-/
import Derived.Test.YtnkjhicokcmmpaaQa
import Derived.RangeFuncNested
import Derived.RangeFuncBound
import Derived.RangeFuncCalls
import Derived.RangeFuncLeaves
import Derived.Shelf.Abstract
import Derived.OwnWalkIn
import Derived.TacticsInMore
import Derived.LoopNIn
import Derived.LoopIn
import Derived.WalkMore
import Derived.Test.YtnkjhicokcmmpaaQd
import Derived.Sort.QuietTacIn
import Derived.Sort.BigQuietIn
import Derived.Laws.Bits64b
import Derived.Lib.SmallJoins
import Derived.Deep.RegionHeld3
import Derived.Deep.DeepCutAuto
import Derived.Test.YtnkjhicokcmmpaaQc

/-
  A range over a function, met in a plain walk; a function's end behind it.
-/
namespace Go.Proofs.Ytnkjhicokcmmpaa
open Go.RowKit Go.Shelf

theorem Fr.putObj {S : Nat → Prop} {a w : World} (h : Fr S a w) {D : Nat} (hD : S D ∨ a.heap.size ≤ D) (o : Obj) : Fr S a (w.putObj D o) :=
  h.grown (grownBy_putObj' w D o) (fun k hk => by cases hk; exact hD)
theorem Blk.putObj {w : World} {b : Nat} {T : TypeId} {l : List Value} (h : Blk w b T l) {D : Nat} (hD : b ≠ D) (o : Obj) : Blk (w.putObj D o) b T l := (World.putObj_heap_other (fun e => hD e)).trans h
/-- The block at which a loop's deferred calls lie holds no cells. -/
theorem Blk.neDef {w : World} {b D : Nat} {T : TypeId} {l : List Value} {o : Option (List Deferred)} (h : Blk w b T l) (hD : w.heap[D]? = some (.deferred o)) : b ≠ D := by
  intro e
  subst e
  have := h.symm.trans hD
  simp at this

variable {P : Program}
/-- A range over a function in a plain walk. -/
theorem wp_range {α : Type} {g : Operand} {ps : Array Tmp} {assign body : Code} {Q : Exit → Act → World → Prop} {a : Act} {w : World}
    {gf : Nat} {lb : Array Value} (hg : a.eval g = .func (.func gf) #[] lb) (eg : ∀ args w, (callFunc gf args).run P w = .ok (.enter gf args) w)
    {encs : α → Array Value} {Kp : World → World → Prop} {S Sp : List α → Prop} {N : Nat} {w0 : World} (hseq : SeqStopsK Fence.wide 4 P gf lb encs Kp S Sp N w0)
    (hKt : ∀ {A B C : World}, Kp A B → Kp B C → Kp A C) (hKb : ∀ (W : World) (l : Nat) (o o' : Obj), w.heap.size ≤ l → W.heap[l]? = some o → o.isCells = false → o.isWalk = false → Kp W (W.putObj l o')) (hb0 : Below w0.heap.size w0 w) (hps : ∀ x, (encs x).size = ps.size)
    (I : List α → World → Prop) (Ix : Code → List α → World → Prop) (hI : OwnFrom w.heap.size I) (hIx : ∀ c, OwnFrom w.heap.size (Ix c)) (h0 : I [] w) (a₁ : α → Act)
    (hassign : ∀ (l : Nat) (x : α) (W : World) (K : Act → World → Prop), K (a₁ x) W →
      assign.wpIn (Fence.wide.inRound l) 3 P (Exit.then K (fun _ _ _ => False)) { tmps := (ps.zip (encs x)).foldl (fun t (p, v) => t.setIfInBounds p v) a.tmps, defers := [] } W)
    (hbody : ∀ (l : Nat) (pre : List α) (x : α) (W : World), I pre W → pre.length < N → body.wpIn (Fence.wide.inRound l) 3 P (ownPostK Kp I Ix (pre ++ [x]) W) (a₁ x) W)
    (hdone : ∀ (D : Nat) (xs : List α) (W : World), w.heap.size ≤ D → S xs → I xs W → W.heap[D]? = some (.deferred (some [])) → Q .normal { a with defers := { target := .collected D, args := #[] } :: a.defers } W)
    (hstop : ∀ (D : Nat) (c : Code) (pre : List α) (W : World), w.heap.size ≤ D → Sp pre → Ix c pre W → W.heap[D]? = some (.deferred (some [])) → c.wp P Q { a with defers := { target := .collected D, args := #[] } :: a.defers } W) :
    (Code.rangeFunc g ps assign body).wp P Q a w :=
  wpIn_wide.1 (wpIn_rangeFunc_ownF (n := 5) rfl (by omega) hg trivial eg hseq hKt hKb hb0 hps I Ix hI hIx h0 a₁ hassign hbody hdone (fun D c pre W h1 h2 h3 h4 => wpIn_wide.2 (hstop D c pre W h1 h2 h3 h4)))

/-- A post in which no panic is borne. -/
def noPanic (Q : Exit → Act → World → Prop) : Exit → Act → World → Prop
  | .panic _, _, _ => False
  | e, a, w => Q e a w
theorem noPanic_le {Q : Exit → Act → World → Prop} (e : Exit) (a : Act) (w : World) (h : noPanic Q e a w) : Q e a w := by
  cases e <;> first | exact h | exact h.elim

/-- A function that holds a range over a function, entered by a plain walk. -/
theorem calls_of_marks {f : FuncId} {fn : Func} {c : Code} {args : Array Value} {w : World} {R : Ending → World → Prop} (hf : P.funcs[f]? = some fn) (hb : fn.body = some c)
    (h : c.wp P (noPanic (bodyPostM Fence.wide 5 P fn R)) { tmps := args ++ Array.replicate (fn.ntmps - args.size) undef, defers := [] } w) : Calls P f args w R :=
  callsIn_wide.1 (callsIn_of_wp_marks (F := Fence.wide) (n := 5) hf hb trivial (wpIn_wide.2 (wp_mono h noPanic_le)) rfl)

/-- Its end, behind one loop. -/
theorem end_marks {fn : Func} {R : Ending → World → Prop} {tmps : Array Value} {D : Nat} {w : World} {v : Value} (hK : w.heap[D]? = some (.deferred (some [])))
    (hr : (results fn tmps).run P (w.putObj D (.deferred none)) = .ok v (w.putObj D (.deferred none))) (h : R (.returned v) (w.putObj D (.deferred none))) :
    noPanic (bodyPostM Fence.wide 5 P fn R) .ret { tmps := tmps, defers := [{ target := .collected D, args := #[] }] } w := by
  show LeavesInM Fence.wide 5 P fn tmps R [_] .returning w
  refine ⟨by simp, .inl ⟨_, _, rfl, run_takeDeferred hK, ?_⟩⟩
  exact ⟨v, hr, h⟩

end Go.Proofs.Ytnkjhicokcmmpaa

/-
  The reader of bytes: the bytes that are left, told one by one.
-/
namespace Go.Proofs.Ytnkjhicokcmmpaa
open Go.RowKit Go.Shelf
attribute [local go_sem] Oper.semAt_some

/-- A reader in block rb: its bytes, and how many were read. -/
structure RdAt (w : World) (rb : Nat) (v : Value) (bs : List UInt8) (pos : Nat) : Prop where
  blk : Blk w rb 149 [v, .int .i64 pos, .bool true]
  own : Own w 5 1 v bs.length (bs.map byt)
theorem RdAt.fr {S : Nat → Prop} {w w' : World} {rb pos : Nat} {v : Value} {bs : List UInt8} (h : RdAt w rb v bs pos) (hf : Fr S w w') (h1 : ¬ S rb) (h2 : ∀ k, v.ownBlock = some k → ¬ S k) : RdAt w' rb v bs pos :=
  ⟨h.blk.fr hf h1, h.own.fr hf h2⟩
theorem RdAt.no {w w' : World} {rb pos : Nat} {v : Value} {bs : List UInt8} (h : RdAt w rb v bs pos) (hf : Fr No w w') : RdAt w' rb v bs pos := h.fr hf (No.no _) (fun _ _ => No.no _)
theorem RdAt.ne {w : World} {rb pos : Nat} {v : Value} {bs : List UInt8} (h : RdAt w rb v bs pos) : ∀ k, v.ownBlock = some k → k ≠ rb := h.blk.neOwn h.own (by decide)

/-- The first k of some bytes, each with its place. -/
def told (l : List UInt8) (k : Nat) : List (Nat × UInt8) := (List.range k).map fun i => (i, l[i]?.getD 0)
def toldAll (l : List UInt8) : List (Nat × UInt8) := told l l.length
theorem told_succ (l : List UInt8) (k : Nat) : told l (k + 1) = told l k ++ [(k, l[k]?.getD 0)] := by simp [told, List.range_succ]
theorem told_len (l : List UInt8) (k : Nat) : (told l k).length = k := by simp [told]
theorem told_prefix {l : List UInt8} {k : Nat} (hk : k ≤ l.length) : told l k <+: toldAll l := by
  unfold toldAll told
  obtain ⟨d, hd⟩ := Nat.exists_eq_add_of_le hk
  rw [hd, List.range_add, List.map_append]
  exact List.prefix_append _ _

set_option maxRecDepth 100000 in
set_option maxHeartbeats 2000000 in
theorem ahead1_in (n : Nat) (hn : 1 ≤ n) (l Bs n₀ rb pos : Nat) (v : Value) (bs : List UInt8) (hpos : pos ≤ bs.length) (hlen : bs.length ≤ 1000000) (J Jx : List (Nat × UInt8) → World → Prop)
    (hY : ∀ pre x W, J pre W → pre.length < (bs.drop pos).length → YieldAt Fence.wide (n - 1) Try.prog l #[.int .i64 (x.1 : Nat), byt x.2] W fun e W' =>
      (e = .returned (.bool true) ∧ J (pre ++ [x]) W' ∧ Below n₀ W W') ∨ (e = .returned (.bool false) ∧ Jx (pre ++ [x]) W'))
    (W : World) (hBs : Blk W Bs 115 [.pointer (some ⟨rb, 0, none⟩)]) (hR : RdAt W rb v bs pos) (hn0 : ∀ k, v.ownBlock = some k → k < n₀) (hN : ∀ N, J [] (W.drewN N)) :
    CallsIn Fence.wide n Try.prog 138 #[.func (.yield l) #[] #[], .pointer (some ⟨Bs, 0, none⟩)] W fun e W' => (∃ v, e = .returned v) ∧
      ((∃ ys, ys = toldAll (bs.drop pos) ∧ J ys W') ∨ (∃ pre, pre <+: toldAll (bs.drop pos) ∧ Jx pre W')) := by
  have b0 := hBs.cell (j := 0) rfl
  have r0 := hR.blk.cell (j := 0) rfl
  have r1 := hR.blk.cell (j := 1) rfl
  obtain ⟨a, c, rfl, hw⟩ := Win.of_own hR.own
  have hcap := hw.cap
  have hmax := hw.max
  unfold maxLen at hmax
  have hbl := hBs.lt
  have hrl := hR.blk.lt
  refine callsIn_of_wp Try.func138 rfl trivial ?_ rfl
  simp only [Try.ntmps138, List.size_toArray, List.length_cons, List.length_nil, Nat.reduceAdd, Nat.reduceSub, Array.replicate_succ, Array.replicate_zero, List.push_toArray, List.append_toArray, List.nil_append, List.cons_append]
  gi_wp2
  gi_quiet_th (fail)
  have hwd := hw.drop hpos
  rw [← List.map_drop] at hwd
  obtain ⟨a', ha'⟩ : ∃ a', a' = (if c = pos then a else Option.map (fun x => x.add pos) a) := ⟨_, rfl⟩
  obtain ⟨m, hm⟩ : ∃ m, m = bs.length - pos := ⟨_, rfl⟩
  have hwd : Win W a' m (c - pos) ((bs.drop pos).map byt) := by rw [ha', hm]; exact hwd
  have hlm : (bs.drop pos).length = m := by rw [List.length_drop, hm]
  have hbk : ∀ ad, a' = some ad → ad.block < n₀ := by
    intro ad hd
    rw [ha'] at hd
    split at hd
    · exact hn0 ad.block (by rw [hd]; rfl)
    · cases a with
      | none => cases hd
      | some ad0 => cases hd; rw [add_block]; exact hn0 ad0.block rfl
  rw [← ha', ← hm]
  obtain ⟨ds, hds⟩ : ∃ ds, ds = bs.drop pos := ⟨_, rfl⟩
  rw [← hds] at hwd hlm hY
  have HDS := Lib.hid hds
  have hml : m ≤ 1000000 := by omega
  have HL := Lib.hid hlm
  have HNN := Lib.hid (hN nq)
  clear hds ha' hm b0 r0 r1 hN hlm hcap hmax hbl hrl hw hpos hlen hBs hR hn0
  gi_wp2
  gi_loopw [15] (fun t wr => ∃ k : Nat, k ≤ m ∧ t = .int .i64 k ∧ J (told ds k) wr ∧ Below n₀ (W.drewN nq) wr) (fun t _ => m - (intOf t).toNat)
  case atStart => exact ⟨0, Nat.zero_le _, rfl, HNN.out, Below.refl _ _⟩
  case round =>
    obtain ⟨k, hk, rfl, hJs, hnx⟩ := hrel
    by_cases hlt : k < m
    · have hkd : k < ds.length := by rw [HL.out]; exact hlt
      obtain ⟨ad, u, rfl, hu, hcell⟩ := hwd.at hlt
      have hu' : u = byt (ds[k]?.getD 0) := by
        rw [List.getElem?_map, List.getElem?_eq_getElem hkd] at hu
        rw [List.getElem?_eq_getElem hkd]
        exact (Option.some.inj hu).symm
      subst hu'
      have hc1 : wr.cell? (ad.add k) = some (byt (ds[k]?.getD 0)) := by
        have h1 : (W.drewN nq).cell? (ad.add k) = some (byt (ds[k]?.getD 0)) := hcell
        exact (hnx.cell (p := ad.add k) (by rw [add_block]; exact hbk ad rfl)).trans h1
      obtain ⟨fn, tmps, assign, body, hy, hR⟩ := hY _ (k, ds[k]?.getD 0) wr hJs (by rw [told_len]; exact hkd)
      dsimp only at hy
      have HT : Hid (told ds (k + 1) = told ds k ++ [(k, ds[k]?.getD 0)]) := told_succ ds k
      generalize ds[k]?.getD 0 = x at *
      clear hcell hu
      gi_wp2
      refine hR.mono ?_
      rintro e W3 (⟨rfl, hJ3, hk3⟩ | ⟨rfl, hJx3⟩)
      · gi_wp2
        go_roundw
        case rel => exact ⟨k + 1, by omega, by simp, by rw [HT.out]; exact hJ3, hnx.trans hk3⟩
        case measure => (simp [intOf]; try omega)
      · gi_wp2
        refine bodyPost_ret (results_none rfl _ _ _) rfl ?_
        exact ⟨⟨_, rfl⟩, .inr ⟨_, by rw [← HDS.out, ← HT.out]; exact told_prefix (by omega), hJx3⟩⟩
    · obtain rfl : k = m := by omega
      gi_wp2
      go_end0
      exact ⟨⟨_, rfl⟩, .inl ⟨_, by unfold toldAll; rw [← HDS.out, HL.out], hJs⟩⟩

end Go.Proofs.Ytnkjhicokcmmpaa

/-
  The reader of bytes: the number that the next bytes are.
-/
namespace Go.Proofs.Ytnkjhicokcmmpaa
open Go.RowKit Go.Shelf
attribute [local go_sem] Oper.semAt_some

theorem ahead_in (n : Nat) (a : Option Addr) (w : World) :
    CallsIn Fence.wide n Try.prog 122 #[.pointer a] w fun e w' => e = .returned (.func (.func 138) #[] #[.pointer (some ⟨w.heap.size, 0, none⟩)]) ∧ w.alloc (.cells #[.pointer a] 115) = w' := by
  refine callsIn_of_wp Try.func122 rfl trivial ?_ rfl
  simp only [Try.ntmps122, List.size_toArray, List.length_cons, List.length_nil, Nat.reduceAdd, Nat.reduceSub, Array.replicate_succ, Array.replicate_zero, List.push_toArray, List.append_toArray, List.nil_append, List.cons_append]
  gi_wp2
  go_ret
  exact ⟨rfl, rfl⟩

theorem ahead_stops (n : Nat) (hn : 1 ≤ n) (Bs n₀ rb pos : Nat) (v : Value) (bs : List UInt8) (hpos : pos ≤ bs.length) (hlen : bs.length ≤ 1000000) (w : World)
    (hBs : Blk w Bs 115 [.pointer (some ⟨rb, 0, none⟩)]) (hR : RdAt w rb v bs pos) (hn0 : ∀ k, v.ownBlock = some k → k < n₀) :
    SeqStopsK Fence.wide n Try.prog 138 #[.pointer (some ⟨Bs, 0, none⟩)] (fun x : Nat × UInt8 => #[Value.int .i64 (x.1 : Nat), byt x.2]) (Below n₀) (fun ys => ys = toldAll (bs.drop pos)) (fun pre => pre <+: toldAll (bs.drop pos)) (bs.drop pos).length w := fun l J Jx W hW hJ _ hY h0 => by
  have hB' : Blk W Bs 115 [.pointer (some ⟨rb, 0, none⟩)] := (hW.block Bs hBs.lt).trans hBs
  have hR' : RdAt W rb v bs pos := hR.fr (S := fun k => w.heap.size ≤ k) ⟨hW.os, hW.tape, hW.output, hW.size, fun k hk hn => hW.block k hk⟩ (by have := hR.blk.lt; omega) (fun k hk => by have := hR.own.lt hk; omega)
  refine ahead1_in n hn l Bs n₀ rb pos v bs hpos hlen J Jx hY W hB' hR' hn0 (fun N => ?_)
  exact hJ [] W (W.drewN N) none h0 ⟨rfl, rfl, rfl, Nat.le_refl _, fun _ _ _ => rfl⟩ (fun k hk => by cases hk)

/-- The number of some bytes, the first one going highest. -/
def wh (l : List UInt8) : Nat := l.foldl (fun n c => n * 256 + c.toNat) 0

/-- The register behind bytes. -/
def accS (m : Int) (c : UInt8) : Int := bits .or .u64 (IntKind.u64.wrap (m * 256)) (IntKind.u64.wrap (c.toNat : Int))
def accN (l : List (Nat × UInt8)) : Int := l.foldl (fun n x => accS n x.2) 0
theorem accN_snoc (l : List (Nat × UInt8)) (x : Nat × UInt8) : accN (l ++ [x]) = accS (accN l) x.2 := by simp [accN]
theorem wh_snoc (l : List UInt8) (c : UInt8) : wh (l ++ [c]) = wh l * 256 + c.toNat := by simp [wh]
theorem wh_lt (l : List UInt8) : wh l < 256 ^ l.length := by
  induction hn : l.length generalizing l with
  | zero =>
    have : l = [] := List.eq_nil_of_length_eq_zero hn
    subst this
    simp [wh]
  | succ n ih =>
    rcases List.eq_nil_or_concat l with rfl | ⟨l', c, rfl⟩
    · simp at hn
    · rw [List.concat_eq_append] at *
      simp at hn
      have h1 := ih l' hn
      have h2 : c.toNat < 256 := c.toNat_lt
      rw [wh_snoc, Nat.pow_succ]
      omega
theorem wrap_u64 (a : Nat) (h : a < 2 ^ 64) : IntKind.u64.wrap (a : Int) = a := by
  simp [IntKind.wrap, IntKind.signed, IntKind.bits]
  omega
theorem accS_nat (m : Nat) (c : UInt8) (hm : m < 2 ^ 56) : accS m c = ((m * 256 + c.toNat : Nat) : Int) := by
  have hc : c.toNat < 256 := c.toNat_lt
  unfold accS
  rw [show (m : Int) * 256 = ((m * 256 : Nat) : Int) by simp, wrap_u64 _ (by omega), wrap_u64 _ (by omega), bits_or_u64_nat _ _ (by omega) (by omega)]
  congr 1
  have := Nat.shiftLeft_add_eq_or_of_lt (i := 8) (b := c.toNat) hc m
  rw [Nat.shiftLeft_eq, show (2 : Nat) ^ 8 = 256 from rfl] at this
  omega
theorem accN_eq (l : List (Nat × UInt8)) : l.length ≤ 8 → accN l = (wh (l.map (·.2)) : Nat) := by
  induction hn : l.length generalizing l with
  | zero =>
    intro _
    have : l = [] := List.eq_nil_of_length_eq_zero hn
    subst this
    rfl
  | succ n ih =>
    intro h8
    rcases List.eq_nil_or_concat l with rfl | ⟨l', c, rfl⟩
    · simp at hn
    · rw [List.concat_eq_append] at *
      simp at hn
      have h1 := ih l' hn (by omega)
      have h2 := wh_lt (l'.map (·.2))
      rw [List.length_map, hn] at h2
      have h3 : 256 ^ n ≤ 256 ^ 7 := Nat.pow_le_pow_right (by decide) (by omega)
      rw [accN_snoc, h1, accS_nat _ _ (by omega), List.map_append]
      show _ = ((wh (l'.map (·.2) ++ [c.2]) : Nat) : Int)
      rw [wh_snoc]
theorem told_snd (l : List UInt8) (k : Nat) (hk : k ≤ l.length) : (told l k).map (·.2) = l.take k := by
  apply List.ext_getElem
  · simp [told]; omega
  · intro i h1 h2
    simp [told] at h1 ⊢
    have : i < l.length := by omega
    simp [this]
theorem told_mem (l : List UInt8) {k i : Nat} (hi : i < k) : (i, l[i]?.getD 0) ∈ told l k := List.mem_map.2 ⟨i, by simpa using hi, rfl⟩

/-- A world in which two boxes were stored to, and the block of deferred calls is struck. -/
theorem two_boxes {w W : World} {N1 N2 D : Nat} {T1 T2 : TypeId} {x1 x2 y1 y2 : Value} (h1 : Blk W N1 T1 [x1]) (h2 : Blk W N2 T2 [x2]) (hne : N1 ≠ N2) (hK : W.heap[D]? = some (.deferred (some []))) (hf : Fr (fun k => k = N1 ∨ k = N2) w W) (hD : w.heap.size ≤ D) (o : Obj) :
    (((W.setCell ⟨N1, 0, none⟩ y1).setCell ⟨N2, 0, none⟩ y2).drew).heap[D]? = some (.deferred (some [])) ∧ Blk ((((W.setCell ⟨N1, 0, none⟩ y1).setCell ⟨N2, 0, none⟩ y2).drew).putObj D o) N1 T1 [y1] ∧ Blk ((((W.setCell ⟨N1, 0, none⟩ y1).setCell ⟨N2, 0, none⟩ y2).drew).putObj D o) N2 T2 [y2] ∧ Fr (fun k => k = N1 ∨ k = N2) w ((((W.setCell ⟨N1, 0, none⟩ y1).setCell ⟨N2, 0, none⟩ y2).drew).putObj D o) := by
  have n1 := h1.neDef hK
  have n2 := h2.neDef hK
  have b1 : Blk (((W.setCell ⟨N1, 0, none⟩ y1).setCell ⟨N2, 0, none⟩ y2).drew) N1 T1 [y1] := ((h1.set 0 y1).other (by show N1 ≠ N2; exact hne) y2).drew
  have b2 : Blk (((W.setCell ⟨N1, 0, none⟩ y1).setCell ⟨N2, 0, none⟩ y2).drew) N2 T2 [y2] := ((h2.other (by show N2 ≠ N1; exact fun e => hne e.symm) y1).set 0 y2).drew
  have hk : (((W.setCell ⟨N1, 0, none⟩ y1).setCell ⟨N2, 0, none⟩ y2).drew).heap[D]? = some (.deferred (some [])) := by
    refine Eq.trans (Below.heap_setCell _ ⟨N2, 0, none⟩ y2 D (fun e => n2 e.symm)) ?_
    exact Eq.trans (Below.heap_setCell _ ⟨N1, 0, none⟩ y1 D (fun e => n1 e.symm)) hK
  refine ⟨hk, b1.putObj n1 o, b2.putObj n2 o, ?_⟩
  exact (((hf.setCell (p := ⟨N1, 0, none⟩) (.inl (.inl rfl)) y1).setCell (p := ⟨N2, 0, none⟩) (.inl (.inr rfl)) y2).drew).putObj (.inr hD) o

set_option maxRecDepth 100000 in
set_option maxHeartbeats 4000000 in
theorem number_any (rb pos size : Nat) (v : Value) (bs : List UInt8) (hpos : pos ≤ bs.length) (hlen : bs.length ≤ 1000000) (hs1 : 1 ≤ size) (hs8 : size ≤ 8) (w : World) (h : RdAt w rb v bs pos) :
    Calls Try.prog 109 #[.pointer (some ⟨rb, 0, none⟩), .int .i64 size] w fun e w' =>
      (∃ x : Int, e = .returned (.tuple #[.int .u64 x, .bool (decide (pos + size ≤ bs.length))]) ∧ (pos + size ≤ bs.length → x = wh ((bs.drop pos).take size))) ∧ Fr No w w' := by
  refine calls_of_marks Try.func109 rfl ?_
  simp only [Try.ntmps109, List.size_toArray, List.length_cons, List.length_nil, Nat.reduceAdd, Nat.reduceSub, Array.replicate_succ, Array.replicate_zero, List.push_toArray, List.append_toArray, List.nil_append, List.cons_append]
  go_wp2
  go_step3
  go_wp2
  go_step3
  go_wp2_with (go_at_call 122; refine (callsIn_wide.1 (ahead_in 5 _ _)).mono ?_; rintro e w1 ⟨rfl, rfl⟩)
  have hS : Blk ((((w.alloc (.cells #[.int .i64 size] 3)).alloc (.cells #[.int .u64 0] 22)).alloc (.cells #[.bool false] 4)).alloc (.cells #[.pointer (some ⟨rb, 0, none⟩)] 115)) w.heap.size 3 [.int .i64 size] := (((Blk.new w _ _).alloc _).alloc _).alloc _
  have hN : Blk ((((w.alloc (.cells #[.int .i64 size] 3)).alloc (.cells #[.int .u64 0] 22)).alloc (.cells #[.bool false] 4)).alloc (.cells #[.pointer (some ⟨rb, 0, none⟩)] 115)) (w.heap.size + 1) 22 [.int .u64 0] := by
    have := Blk.new (w.alloc (.cells #[.int .i64 size] 3)) 22 [.int .u64 0]
    rw [World.size_alloc] at this
    exact (this.alloc _).alloc _
  have hI : Blk ((((w.alloc (.cells #[.int .i64 size] 3)).alloc (.cells #[.int .u64 0] 22)).alloc (.cells #[.bool false] 4)).alloc (.cells #[.pointer (some ⟨rb, 0, none⟩)] 115)) (w.heap.size + 1 + 1) 4 [.bool false] := by
    have := Blk.new ((w.alloc (.cells #[.int .i64 size] 3)).alloc (.cells #[.int .u64 0] 22)) 4 [.bool false]
    rw [World.size_alloc, World.size_alloc] at this
    exact this.alloc _
  have hX : Blk ((((w.alloc (.cells #[.int .i64 size] 3)).alloc (.cells #[.int .u64 0] 22)).alloc (.cells #[.bool false] 4)).alloc (.cells #[.pointer (some ⟨rb, 0, none⟩)] 115)) (w.heap.size + 1 + 1 + 1) 115 [.pointer (some ⟨rb, 0, none⟩)] := by
    have := Blk.new (((w.alloc (.cells #[.int .i64 size] 3)).alloc (.cells #[.int .u64 0] 22)).alloc (.cells #[.bool false] 4)) 115 [.pointer (some ⟨rb, 0, none⟩)]
    rwa [World.size_alloc, World.size_alloc, World.size_alloc] at this
  have hfr1 : Fr No w ((((w.alloc (.cells #[.int .i64 size] 3)).alloc (.cells #[.int .u64 0] 22)).alloc (.cells #[.bool false] 4)).alloc (.cells #[.pointer (some ⟨rb, 0, none⟩)] 115)) := ((((Fr.refl No w).alloc _).alloc _).alloc _).alloc _
  generalize (((w.alloc (.cells #[.int .i64 size] 3)).alloc (.cells #[.int .u64 0] 22)).alloc (.cells #[.bool false] 4)).alloc (.cells #[.pointer (some ⟨rb, 0, none⟩)] 115) = w1 at *
  have h1 := h.no hfr1
  have hz := hX.lt
  have hrl := h.blk.lt
  have hvl : ∀ k, v.ownBlock = some k → k < w.heap.size := fun k hk => h.own.lt hk
  refine wp_range (gf := 138) (lb := #[.pointer (some ⟨w.heap.size + 1 + 1 + 1, 0, none⟩)]) rfl (enters_of Try.func138 (by kernel_rfl) rfl)
    (ahead_stops 4 (by omega) (w.heap.size + 1 + 1 + 1) w.heap.size rb pos v bs hpos hlen w1 hX h1 hvl) belowK_t (belowK_b (by omega)) (Below.refl _ _) (fun _ => rfl)
    (fun pre W => Blk W (w.heap.size + 1) 22 [.int .u64 (accN pre)] ∧ (∀ x ∈ pre, x.1 + 1 ≠ size) ∧ Fr (fun k => k = w.heap.size + 1) w1 W)
    (fun c pre W => c = .exit 0 ∧ ∃ pre' x, pre = pre' ++ [x] ∧ x.1 + 1 = size ∧ (∀ x ∈ pre', x.1 + 1 ≠ size) ∧ Blk W (w.heap.size + 1) 22 [.int .u64 (accN pre)] ∧ Blk W (w.heap.size + 1 + 1) 4 [.bool true] ∧ Fr (fun k => k = w.heap.size + 1 ∨ k = w.heap.size + 1 + 1) w1 W)
    ?hI ?hIx ⟨hN, by simp, Fr.refl _ _⟩ (fun x : Nat × UInt8 => { tmps := #[.pointer (some ⟨rb, 0, none⟩), .int .i64 size, undef, .pointer (some ⟨w.heap.size, 0, none⟩), .pointer (some ⟨w.heap.size + 1, 0, none⟩), .pointer (some ⟨w.heap.size + 1 + 1, 0, none⟩), .int .i64 (x.1 : Nat), byt x.2, .pointer (some ⟨rb, 0, none⟩), .func (.func 138) #[] #[.pointer (some ⟨w.heap.size + 1 + 1 + 1, 0, none⟩)], .int .i64 (x.1 : Nat), byt x.2, undef, undef, undef, undef, undef, undef, undef, undef, undef, undef, undef], defers := [] }) ?assign ?body ?done ?stop
  case hI =>
    rintro s A B row ⟨h1, h2, h3⟩ hg hr
    exact ⟨h1.fr ((Fr.refl (fun k => w1.heap.size ≤ k) A).grown hg (fun k hk => .inl (hr k hk).1)) (by omega), h2, h3.grown hg (fun k hk => .inr (hr k hk).1)⟩
  case hIx =>
    rintro cc s A B row ⟨h0, pre', x, h1, h2, h3, h4, h5, h6⟩ hg hr
    exact ⟨h0, pre', x, h1, h2, h3, h4.fr ((Fr.refl (fun k => w1.heap.size ≤ k) A).grown hg (fun k hk => .inl (hr k hk).1)) (by omega), h5.fr ((Fr.refl (fun k => w1.heap.size ≤ k) A).grown hg (fun k hk => .inl (hr k hk).1)) (by omega), h6.grown hg (fun k hk => .inr (hr k hk).1)⟩
  case assign =>
    intro ll x W K hK
    gi_wp2
    exact hK
  case body =>
    rintro ll pre x W ⟨hW1, hW2, hW3⟩ _
    have hb0 := hW1.cell (j := 0) rfl
    have hbf := hW1.free
    have hbl := hW1.lt
    have hSW := hS.fr hW3 (by omega)
    have hIW := hI.fr hW3 (by omega)
    have s0 := hSW.cell (j := 0) rfl
    have i0 := hIW.cell (j := 0) rfl
    have if' := hIW.free
    have il := hIW.lt
    have hw1 : IntKind.i64.wrap ((size : Int) - 1) = (size : Int) - 1 := by rw [IntKind.wrap_i64]; omega
    obtain ⟨i, c⟩ := x
    obtain ⟨m, hm⟩ : ∃ m, m = accN pre := ⟨_, rfl⟩
    rw [← hm] at hb0
    have HM := Lib.hid hm
    clear hm
    by_cases hi : i + 1 = size
    · have ht : ((i : Int) == (size : Int) - 1) = true := by simp; omega
      unfold byt
      gi_wp2
      refine ⟨((KeepsOthers.setCell _ _ _).trans (KeepsOthers.setCell _ _ _)), rfl, pre, (i, c), rfl, hi, hW2, ?_, ?_, ?_⟩
      · rw [accN_snoc, ← HM.out]
        exact (hW1.set 0 _).other (by show w.heap.size + 1 ≠ w.heap.size + 1 + 1; omega) _
      · exact (hIW.other (by show w.heap.size + 1 + 1 ≠ w.heap.size + 1; omega) _).set 0 _
      · exact ((hW3.mono (fun k hk => .inl hk)).setCell (p := ⟨w.heap.size + 1, 0, none⟩) (.inl (.inl rfl)) _).setCell (p := ⟨w.heap.size + 1 + 1, 0, none⟩) (.inl (.inr rfl)) _
    · have ht : ((i : Int) == (size : Int) - 1) = false := by simp; omega
      unfold byt
      gi_wp2
      refine ⟨KeepsOthers.setCell _ _ _, (Below.refl _ _).setCell (p := ⟨w.heap.size + 1, 0, none⟩) (by show w.heap.size ≤ w.heap.size + 1; omega) _, ?_, ?_, hW3.setCell (p := ⟨w.heap.size + 1, 0, none⟩) (.inl rfl) _⟩
      · rw [accN_snoc, ← HM.out]
        exact hW1.set 0 _
      · intro x hx
        rcases List.mem_append.1 hx with hx | hx
        · exact hW2 x hx
        · simp at hx; subst hx; exact hi
  case done =>
    rintro D ys W hD rfl ⟨hW1, hW2, hW3⟩ hK
    have hno : ¬ pos + size ≤ bs.length := by
      intro hle
      have h1 : size - 1 < (bs.drop pos).length := by rw [List.length_drop]; omega
      exact hW2 _ (told_mem (bs.drop pos) h1) (by show size - 1 + 1 = size; omega)
    have hb0 := hW1.cell (j := 0) rfl
    have hbf := hW1.free
    have hbl := hW1.lt
    have hIW := hI.fr hW3 (by omega)
    have i0 := hIW.cell (j := 0) rfl
    have if' := hIW.free
    have il := hIW.lt
    go_wp2
    go_region
    all_goals go_wp2
    all_goals
      rw [Exit.noGoto_ret]
      obtain ⟨hk2, q1, q2, q3⟩ := two_boxes hW1 hIW (by omega) hK (hW3.mono (fun k hk => .inl hk)) hD (.deferred none) (y1 := .int .u64 (accN (toldAll (List.drop pos bs)))) (y2 := .bool false)
      have z1 := q1.cell (j := 0) rfl
      have z2 := q2.cell (j := 0) rfl
      have l1 := q1.lt
      have l2 := q2.lt
      refine end_marks (v := .tuple #[.int .u64 (accN (toldAll (List.drop pos bs))), .bool false]) hk2 (by simp [results, Try.results109, go_sem, z1, z2]) ⟨⟨_, by rw [decide_eq_false hno], fun hc => absurd hc hno⟩, ?_⟩
      exact hfr1.trans q3 (fun k hk => .inr (by omega))
  case stop =>
    rintro D cc pre W hD hSp ⟨rfl, pre', x, rfl, hx, hpre, hW1, hIW, hW3⟩ hK
    have hpl := hSp.length_le
    obtain ⟨k, hk⟩ : ∃ k, pre' ++ [x] = told (bs.drop pos) k ∧ k ≤ (bs.drop pos).length := by
      refine ⟨(pre' ++ [x]).length, ?_, ?_⟩
      · have h2 := told_prefix (l := bs.drop pos) (k := (pre' ++ [x]).length) (by unfold toldAll at hpl; rwa [told_len] at hpl)
        exact (List.prefix_of_prefix_length_le hSp h2 (by rw [told_len]; exact Nat.le_refl _)).eq_of_length (by rw [told_len])
      · unfold toldAll at hpl; rwa [told_len] at hpl
    obtain ⟨hk, hkl⟩ := hk
    have hk1 : k = pre'.length + 1 := by
      have := congrArg List.length hk
      rw [told_len] at this
      simpa using this.symm
    have hxl : x = (pre'.length, (bs.drop pos)[pre'.length]?.getD 0) := by
      rw [hk1, told_succ] at hk
      have := List.append_inj_right hk (by rw [told_len])
      simpa using this
    have hsz : k = size := by rw [hxl] at hx; omega
    have hyes : pos + size ≤ bs.length := by rw [List.length_drop] at hkl; omega
    have hval : accN (pre' ++ [x]) = (wh ((bs.drop pos).take size) : Nat) := by
      rw [hk, accN_eq _ (by rw [told_len]; omega), told_snd _ _ hkl, hsz]
    have hb0 := hW1.cell (j := 0) rfl
    have hbf := hW1.free
    have hbl := hW1.lt
    have i0 := hIW.cell (j := 0) rfl
    have if' := hIW.free
    have il := hIW.lt
    have HV := Lib.hid hval
    clear hval hxl hk hSp
    generalize accN (pre' ++ [x]) = m at *
    go_wp2
    go_region
    all_goals go_wp2
    all_goals
      rw [Exit.noGoto_ret]
      obtain ⟨hk2, q1, q2, q3⟩ := two_boxes hW1 hIW (by omega) hK hW3 hD (.deferred none) (y1 := .int .u64 m) (y2 := .bool true)
      have z1 := q1.cell (j := 0) rfl
      have z2 := q2.cell (j := 0) rfl
      refine end_marks (v := .tuple #[.int .u64 m, .bool true]) hk2 (by simp [results, Try.results109, go_sem, z1, z2]) ⟨⟨_, by rw [decide_eq_true hyes], fun _ => HV.out⟩, ?_⟩
      exact hfr1.trans q3 (fun k hk => .inr (by omega))

end Go.Proofs.Ytnkjhicokcmmpaa

/-
  The reader of bytes: numbers, raw bytes, a new reader.
-/
namespace Go.Proofs.Ytnkjhicokcmmpaa
open Go.RowKit Go.Shelf
attribute [local go_sem] Oper.semAt_some

theorem rnone_no (rb pos : Nat) (v : Value) (bs : List UInt8) (w : World) (h : RdAt w rb v bs pos) :
    Calls Try.prog 107 #[.pointer (some ⟨rb, 0, none⟩)] w fun e w' => e = .returned (.bool false) ∧ w = w' := by
  have r2 := h.blk.cell (j := 2) rfl
  go_enter Try.func107, Try.ntmps107
  go_wp2
  go_ret
  exact ⟨rfl, rfl⟩

theorem rleft_any (rb pos : Nat) (v : Value) (bs : List UInt8) (hpos : pos ≤ bs.length) (hl : bs.length ≤ 1000000) (w : World) (h : RdAt w rb v bs pos) :
    Calls Try.prog 108 #[.pointer (some ⟨rb, 0, none⟩)] w fun e w' => e = .returned (.int .i64 ((bs.length - pos : Nat) : Int)) ∧ Fr No w w' := by
  have r0 := h.blk.cell (j := 0) rfl
  have r1 := h.blk.cell (j := 1) rfl
  obtain ⟨a, c, rfl⟩ := own_slice h.own
  have hw : IntKind.i64.wrap ((bs.length : Int) - (pos : Int)) = ((bs.length - pos : Nat) : Int) := by rw [IntKind.wrap_i64]; omega
  have hrl := h.blk.lt
  go_enter Try.func108, Try.ntmps108
  go_wp2_with (go_at_call 107; refine (rnone_no rb pos _ bs _ h).mono ?_; rintro e w1 ⟨rfl, rfl⟩)
  go_quiet (fail)
  go_wp2
  go_ret
  exact ⟨rfl, (Fr.refl No w).drewN _⟩

/-- A reader's place has moved. -/
theorem RdAt.moved {w : World} {rb pos : Nat} {v : Value} {bs : List UInt8} (h : RdAt w rb v bs pos) (q : Nat) : RdAt (w.setCell ⟨rb, 1, none⟩ (.int .i64 q)) rb v bs q :=
  ⟨h.blk.set 1 _, h.own.other (fun e => h.ne _ e rfl) _⟩

set_option maxHeartbeats 1000000 in
theorem rnum_yes (rb pos size : Nat) (v : Value) (bs : List UInt8) (hpos : pos + size ≤ bs.length) (hl : bs.length ≤ 1000000) (hs : size = 1 ∨ size = 2 ∨ size = 4 ∨ size = 8) (w : World) (h : RdAt w rb v bs pos) :
    Calls Try.prog 73 #[.pointer (some ⟨rb, 0, none⟩), .int .i64 size] w fun e w' => e = .returned (.tuple #[.int .u64 (wh ((bs.drop pos).take size) : Nat), .int .i64 0]) ∧ RdAt w' rb v bs (pos + size) ∧ Fr (fun k => k = rb) w w' := by
  have hd : decide (pos + size ≤ bs.length) = true := decide_eq_true hpos
  have hw : IntKind.i64.wrap ((pos : Int) + (size : Int)) = ((pos + size : Nat) : Int) := by rw [IntKind.wrap_i64]; omega
  have HP := Lib.hid hpos
  clear hpos
  go_enter Try.func73, Try.ntmps73
  go_wp2_with (first | (go_at_call 107; refine (rnone_no rb pos _ bs _ h).mono ?_; rintro e w1 ⟨rfl, rfl⟩) | (go_at_call 103; refine (sized_yes _ hs _).mono ?_; rintro e w1 ⟨rfl, rfl⟩) | (go_at_call 109; refine (number_any rb pos size v bs (by have := HP.out; omega) hl (by omega) (by omega) _ h).mono ?_; rintro e w1 ⟨⟨x, rfl, hx⟩, hf1⟩; rw [hd]; have h1 := h.no hf1; have r1 := h1.blk.cell (j := 1) rfl; have rl := h1.blk.lt; have rf := h1.blk.free))
  go_ret2
  exact ⟨by rw [hx HP.out]; rfl, h1.moved (pos + size), (hf1.no_any (S := fun k => k = rb)).setCell (p := ⟨rb, 1, none⟩) (.inl rfl) _⟩

set_option maxHeartbeats 1000000 in
theorem rnum_no (rb pos size : Nat) (v : Value) (bs : List UInt8) (hpos : pos ≤ bs.length) (hno : ¬ pos + size ≤ bs.length) (hl : bs.length ≤ 1000000) (hs : size = 1 ∨ size = 2 ∨ size = 4 ∨ size = 8) (w : World) (h : RdAt w rb v bs pos) :
    Calls Try.prog 73 #[.pointer (some ⟨rb, 0, none⟩), .int .i64 size] w fun e w' => e = .returned (.tuple #[.int .u64 0, .int .i64 10]) ∧ Fr No w w' := by
  have hd : decide (pos + size ≤ bs.length) = false := decide_eq_false hno
  have HN := Lib.hid hno
  clear hno
  go_enter Try.func73, Try.ntmps73
  go_wp2_with (first | (go_at_call 107; refine (rnone_no rb pos _ bs _ h).mono ?_; rintro e w1 ⟨rfl, rfl⟩) | (go_at_call 103; refine (sized_yes _ hs _).mono ?_; rintro e w1 ⟨rfl, rfl⟩) | (go_at_call 109; refine (number_any rb pos size v bs hpos hl (by omega) (by omega) _ h).mono ?_; rintro e w1 ⟨⟨x, rfl, hx⟩, hf1⟩; rw [hd]))
  go_ret2
  exact ⟨rfl, hf1⟩

set_option maxHeartbeats 1000000 in
theorem rraw_yes (rb pos n : Nat) (v : Value) (bs : List UInt8) (hpos : pos + n ≤ bs.length) (hl : bs.length ≤ 1000000) (w : World) (h : RdAt w rb v bs pos) :
    Calls Try.prog 72 #[.pointer (some ⟨rb, 0, none⟩), .int .i64 n] w fun e w' => ∃ v', e = .returned (.tuple #[v', .int .i64 0]) ∧ Own w' 5 1 v' n (((bs.drop pos).take n).map byt) ∧ (∀ k, v'.ownBlock = some k → w.heap.size ≤ k) ∧ RdAt w' rb v bs (pos + n) ∧ Fr (fun k => k = rb) w w' := by
  have hw : IntKind.i64.wrap ((pos : Int) + (n : Int)) = ((pos + n : Nat) : Int) := by rw [IntKind.wrap_i64]; omega
  have hgt : decide (bs.length - pos < n) = false := by simp; omega
  obtain ⟨a, c, rfl, hwin⟩ := Win.of_own h.own
  have hcap := hwin.cap
  have hmax := hwin.max
  unfold maxLen at hmax
  have hp0 : pos ≤ bs.length := by omega
  have hwd := (hwin.drop hp0).take (k := n) (by omega)
  rw [← List.map_drop, ← List.map_take] at hwd
  obtain ⟨a', ha'⟩ : ∃ a', a' = (if c = pos then a else Option.map (fun x => x.add pos) a) := ⟨_, rfl⟩
  have HA := Lib.hid ha'
  have hwd : Win w a' n (c - pos) (((bs.drop pos).take n).map byt) := by rw [ha']; exact hwd
  have HW := Lib.hid hwd
  have hle1 : (pos : Int) ≤ ((pos + n : Nat) : Int) := by omega
  have hle2 : ((pos + n : Nat) : Int) ≤ (c : Int) := by omega
  have hsub : pos + n - pos = n := by omega
  have r0 := h.blk.cell (j := 0) rfl
  have r1 := h.blk.cell (j := 1) rfl
  have rl := h.blk.lt
  have rf := h.blk.free
  have HH := Lib.hid h
  have hnl : n ≤ 1000000 := by omega
  clear hwd ha' hwin hpos h
  go_enter Try.func72, Try.ntmps72
  go_wp2_with (first | (go_at_call 107; refine (rnone_no rb pos _ bs _ HH.out).mono ?_; rintro e w1 ⟨rfl, rfl⟩) | (go_at_call 108; refine (rleft_any rb pos _ bs hp0 hl _ HH.out).mono ?_; rintro e w1 ⟨rfl, hf1⟩; have h1 := HH.out.no hf1; have s0 := h1.blk.cell (j := 0) rfl; have s1 := h1.blk.cell (j := 1) rfl; have sl := h1.blk.lt; have sf := h1.blk.free))
  go_quiet (fail)
  rw [← HA.out]
  rename Nat => nq
  obtain ⟨w2, hw2⟩ : ∃ w2, w2 = w1.drewN nq := ⟨_, rfl⟩
  rw [← hw2]
  have hf2 : Fr No w w2 := by rw [hw2]; exact hf1.drewN _
  clear hw2 h1 s0 s1 sl sf
  have h2 := HH.out.no hf2
  have s0 := h2.blk.cell (j := 0) rfl
  have s1 := h2.blk.cell (j := 1) rfl
  have sl := h2.blk.lt
  have sf := h2.blk.free
  have hf3 : Fr (fun k => k = rb) w (w2.setCell ⟨rb, 1, none⟩ (.int .i64 ((pos + n : Nat) : Int))) := (hf2.no_any (S := fun k => k = rb)).setCell (p := ⟨rb, 1, none⟩) (.inl rfl) _
  have hb' : ∀ ad, a' = some ad → ad.block ≠ rb := by
    intro ad hd
    rw [HA.out] at hd
    split at hd
    · exact HH.out.ne ad.block (by rw [hd]; rfl)
    · cases a with
      | none => cases hd
      | some ad0 => cases hd; rw [add_block]; exact HH.out.ne ad0.block rfl
  go_wp2_with (go_at_call 89; refine (cloneB_any a' n (c - pos) ((bs.drop pos).take n) _ ?_ hnl).mono ?_; exact HW.out.fr hf3 hb'; rintro e w3 ⟨v3, rfl, hc3⟩)
  go_ret2
  exact ⟨v3, rfl, hc3.own, fun k hk => Nat.le_trans hf3.size (hc3.new k hk), (h2.moved (pos + n)).no hc3.fr, hf3.thn hc3.fr⟩

set_option maxHeartbeats 1000000 in
theorem rraw_no (rb pos n : Nat) (v : Value) (bs : List UInt8) (hpos : pos ≤ bs.length) (hno : ¬ pos + n ≤ bs.length) (hl : bs.length ≤ 1000000) (w : World) (h : RdAt w rb v bs pos) :
    Calls Try.prog 72 #[.pointer (some ⟨rb, 0, none⟩), .int .i64 n] w fun e w' => e = .returned (.tuple #[.slice none 0 0, .int .i64 10]) ∧ Fr No w w' := by
  have hgt : decide (bs.length - pos < n) = true := by simp; omega
  have HH := Lib.hid h
  clear h
  go_enter Try.func72, Try.ntmps72
  go_wp2_with (first | (go_at_call 107; refine (rnone_no rb pos _ bs _ HH.out).mono ?_; rintro e w1 ⟨rfl, rfl⟩) | (go_at_call 108; refine (rleft_any rb pos _ bs hpos hl _ HH.out).mono ?_; rintro e w1 ⟨rfl, hf1⟩))
  go_ret2
  exact ⟨rfl, hf1⟩

set_option maxHeartbeats 1000000 in
/-- A new reader. -/
theorem read_any (a : Option Addr) (n c : Nat) (bs : List UInt8) (w : World) (h : Win w a n c (bs.map byt)) (hb : n ≤ 1000000) :
    Calls Try.prog 71 #[.slice a n c] w fun e w' => ∃ rb v, e = .returned (.pointer (some ⟨rb, 0, none⟩)) ∧ RdAt w' rb v bs 0 ∧ w.heap.size ≤ rb ∧ (∀ k, v.ownBlock = some k → w.heap.size ≤ k) ∧ Fr No w w' := by
  have hl : bs.length = n := by have := h.len; simpa using this
  have HL := Lib.hid hl
  clear hl
  go_enter Try.func71, Try.ntmps71
  go_wp2_with (go_at_call 89; refine (cloneB_any a n c bs _ ?_ hb).mono ?_; exact h; rintro e w1 ⟨v1, rfl, hc⟩; obtain ⟨a1, c1, rfl⟩ := own_slice hc.own)
  go_ret
  have hf := hc.fr.thn ((Fr.refl No w1).alloc (.cells #[.slice a1 n c1, .int .i64 0, .bool true] 149))
  refine ⟨w1.heap.size, _, rfl, ⟨Blk.new w1 _ _, ?_⟩, hc.fr.size, hc.new, hf⟩
  rw [HL.out]
  exact hc.own.alloc _

end Go.Proofs.Ytnkjhicokcmmpaa

/-
  Numbers as bytes: what the document's functions come to.
-/
namespace Go.Proofs.Ytnkjhicokcmmpaa
open Go.RowKit Go.Shelf

theorem num_succ (k n : Nat) : num (k + 1) n = UInt8.ofNat (n / 2 ^ (8 * k)) :: num k n := by
  unfold num numTo
  rw [List.range_succ_eq_map, List.map_cons, List.map_map]
  congr 1
  apply List.map_congr_left
  intro i hi
  have hi' : i < k := by simpa using hi
  show numByte (k + 1) n (i + 1) = numByte k n i
  unfold numByte
  congr 3
  omega

end Go.Proofs.Ytnkjhicokcmmpaa

/-
  A writer whose memory lies from some block on; a reader, whatever is left.
-/
namespace Go.Proofs.Ytnkjhicokcmmpaa
open Go.RowKit Go.Shelf

/-- A writer all of whose blocks lie from N on. -/
structure WIn (N : Nat) (w : World) (b : Nat) (v : Value) (bs : List UInt8) : Prop where
  at' : WrAt w b v bs
  lo : N ≤ b
  new : ∀ k, v.ownBlock = some k → N ≤ k
theorem WIn.no {N : Nat} {w w' : World} {b : Nat} {v : Value} {bs : List UInt8} (h : WIn N w b v bs) (hf : Fr No w w') : WIn N w' b v bs :=
  ⟨⟨h.at'.blk.fr hf (No.no _), h.at'.own.fr hf (fun _ _ => No.no _)⟩, h.lo, h.new⟩
/-- Only blocks from N on may have changed. -/
abbrev From (N : Nat) (w w' : World) : Prop := Fr (fun k => N ≤ k) w w'
theorem From.t {N : Nat} {a b c : World} (h : From N a b) (k : From N b c) : From N a c := h.trans k (fun _ h => .inl h)
theorem From.no {N : Nat} {a b : World} (h : From N a b) (hN : a.heap.size ≤ N) : Fr No a b :=
  ⟨h.os, h.tape, h.output, h.size, fun k hk _ => h.block k hk (by omega)⟩
theorem Blk.from {N : Nat} {w w' : World} {b : Nat} {T : TypeId} {l : List Value} (h : Blk w b T l) (hf : From N w w') (hn : b < N) : Blk w' b T l := h.fr hf (by omega)

/-- What a writer's call comes to. -/
def Wrote1 (N b : Nat) (bs : List UInt8) (w : World) (e : Ending) (w' : World) : Prop := ∃ v', e = .returned (.int .i64 0) ∧ WIn N w' b v' bs ∧ From N w w'

theorem wrote_of {N b : Nat} {v v' : Value} {bs cs : List UInt8} {w w' : World} (h : WIn N w b v bs) (hz : N ≤ w.heap.size) (h1 : WrAt w' b v' cs) (h2 : Fr (fun k => k = b ∨ v.ownBlock = some k) w w') (h3 : AtOr w v v') : WIn N w' b v' cs ∧ From N w w' := by
  refine ⟨⟨h1, h.lo, fun k hk => (h3 k hk).elim (h.new k) (fun q => Nat.le_trans hz q)⟩, h2.mono ?_⟩
  rintro x (rfl | hx)
  · exact h.lo
  · exact h.new _ hx

theorem wnumN (N b : Nat) (v : Value) (bs : List UInt8) (size n : Nat) (hs : size = 1 ∨ size = 2 ∨ size = 4 ∨ size = 8) (hn : n < 2 ^ (8 * size)) (hl : bs.length ≤ 1000000) (w : World) (hz : N ≤ w.heap.size) (h : WIn N w b v bs) :
    Calls Try.prog 65 #[.pointer (some ⟨b, 0, none⟩), .int .i64 size, .int .u64 n] w (Wrote1 N b (bs ++ num size n) w) :=
  (wnum_any b v bs size n hs hn hl w h.at').mono fun e w' ⟨v', h1, h2, h3, h4⟩ => ⟨v', h1, wrote_of h hz h2 h3 h4⟩
theorem wrawN (N b : Nat) (v : Value) (bs cs : List UInt8) (a : Option Addr) (n c : Nat) (hl : bs.length + n ≤ 1000000) (w : World) (hz : N ≤ w.heap.size) (h : WIn N w b v bs) (hw : Win w a n c (cs.map byt)) :
    Calls Try.prog 64 #[.pointer (some ⟨b, 0, none⟩), .slice a n c] w (Wrote1 N b (bs ++ cs) w) :=
  (wraw_any b v bs cs a n c hl w h.at' hw).mono fun e w' ⟨v', h1, h2, h3, h4⟩ => ⟨v', h1, wrote_of h hz h2 h3 h4⟩
theorem wlenN (N b : Nat) (v : Value) (bs : List UInt8) (m : Nat) (hm : bs.length = m) (w : World) (h : WIn N w b v bs) :
    Calls Try.prog 66 #[.pointer (some ⟨b, 0, none⟩)] w fun e w' => e = .returned (.int .i64 (m : Nat)) ∧ w = w' := by
  subst hm
  exact wlen_any b v bs w h.at'
theorem wbytesN (N b : Nat) (v : Value) (bs : List UInt8) (m : Nat) (hm : bs.length = m) (h0 : 0 < m) (w : World) (h : WIn N w b v bs) (hl : m ≤ 1000000) :
    Calls Try.prog 68 #[.pointer (some ⟨b, 0, none⟩)] w fun e w' => ∃ g c, e = .returned (.slice (some ⟨g, 0, none⟩) m c) ∧ Own w' 5 1 (.slice (some ⟨g, 0, none⟩) m c) m (bs.map byt) ∧ w.heap.size ≤ g ∧ Fr No w w' := by
  subst hm
  refine (wbytes_any b v bs w h.at' hl).mono ?_
  rintro e w' ⟨v', rfl, h1, h2, _, h3⟩
  rcases h1.cases with ⟨_, e, _⟩ | ⟨g, c, rfl⟩
  · omega
  · exact ⟨g, c, rfl, h1, h2 g rfl, h3⟩

/-- A reader all of whose blocks lie from N on. -/
structure RIn (N : Nat) (w : World) (rb : Nat) (v : Value) (bs : List UInt8) (pos : Nat) : Prop where
  at' : RdAt w rb v bs pos
  pos : pos ≤ bs.length
  lo : N ≤ rb
  new : ∀ k, v.ownBlock = some k → N ≤ k
theorem RIn.no {N : Nat} {w w' : World} {rb pos : Nat} {v : Value} {bs : List UInt8} (h : RIn N w rb v bs pos) (hf : Fr No w w') : RIn N w' rb v bs pos := ⟨h.at'.no hf, h.pos, h.lo, h.new⟩

/-- A number is read, if there are bytes enough. -/
theorem rnumN (N rb pos size : Nat) (v : Value) (bs : List UInt8) (hl : bs.length ≤ 1000000) (hs : size = 1 ∨ size = 2 ∨ size = 4 ∨ size = 8) (w : World) (h : RIn N w rb v bs pos) :
    Calls Try.prog 73 #[.pointer (some ⟨rb, 0, none⟩), .int .i64 size] w fun e w' => ∃ (x : Nat) (c : Int) (pos' : Nat), e = .returned (.tuple #[.int .u64 x, .int .i64 c]) ∧ x < 256 ^ size ∧ (pos + size ≤ bs.length → x = wh ((bs.drop pos).take size) ∧ pos' = pos + size) ∧ RIn N w' rb v bs pos' ∧ From N w w' := by
  by_cases hp : pos + size ≤ bs.length
  · refine (rnum_yes rb pos size v bs hp hl hs w h.at').mono ?_
    rintro e w' ⟨rfl, h1, h2⟩
    refine ⟨_, _, _, rfl, ?_, fun _ => ⟨rfl, rfl⟩, ⟨h1, hp, h.lo, h.new⟩, h2.mono (fun k hk => by rw [hk]; exact h.lo)⟩
    have h3 := wh_lt ((bs.drop pos).take size)
    rwa [show ((bs.drop pos).take size).length = size by rw [List.length_take, List.length_drop]; omega] at h3
  · refine (rnum_no rb pos size v bs h.pos hp hl hs w h.at').mono ?_
    rintro e w' ⟨rfl, h1⟩
    exact ⟨0, 10, pos, rfl, Nat.pow_pos (by decide), fun hc => absurd hc hp, h.no h1, h1.no_any⟩
theorem rrawN (N rb pos n : Nat) (v : Value) (bs : List UInt8) (hl : bs.length ≤ 1000000) (w : World) (hz : N ≤ w.heap.size) (h : RIn N w rb v bs pos) :
    Calls Try.prog 72 #[.pointer (some ⟨rb, 0, none⟩), .int .i64 n] w fun e w' => ∃ (u : Value) (c : Int) (m pos' : Nat) (cs : List UInt8), e = .returned (.tuple #[u, .int .i64 c]) ∧ Own w' 5 1 u m (cs.map byt) ∧ m ≤ n ∧ (∀ k, u.ownBlock = some k → w.heap.size ≤ k) ∧ (pos + n ≤ bs.length → cs = (bs.drop pos).take n ∧ m = n ∧ pos' = pos + n) ∧ RIn N w' rb v bs pos' ∧ From N w w' := by
  by_cases hp : pos + n ≤ bs.length
  · refine (rraw_yes rb pos n v bs hp hl w h.at').mono ?_
    rintro e w' ⟨u, rfl, h1, h2, h3, h4⟩
    exact ⟨u, _, n, _, _, rfl, h1, Nat.le_refl _, h2, fun _ => ⟨rfl, rfl, rfl⟩, ⟨h3, hp, h.lo, h.new⟩, h4.mono (fun k hk => by rw [hk]; exact h.lo)⟩
  · refine (rraw_no rb pos n v bs h.pos hp hl w h.at').mono ?_
    rintro e w' ⟨rfl, h1⟩
    exact ⟨_, 10, 0, pos, [], rfl, World.ownsRow_nil _ _ _ _, Nat.zero_le _, fun k hk => by simp [Value.ownBlock] at hk, fun hc => absurd hc hp, h.no h1, h1.no_any⟩
theorem readN (a : Option Addr) (n c : Nat) (bs : List UInt8) (w : World) (h : Win w a n c (bs.map byt)) (hb : n ≤ 1000000) :
    Calls Try.prog 71 #[.slice a n c] w fun e w' => ∃ rb v, e = .returned (.pointer (some ⟨rb, 0, none⟩)) ∧ RIn w.heap.size w' rb v bs 0 ∧ Fr No w w' :=
  (read_any a n c bs w h hb).mono fun e w' ⟨rb, v, h1, h2, h3, h4, h5⟩ => ⟨rb, v, h1, ⟨h2, Nat.zero_le _, h3, h4⟩, h5⟩

/-- New bytes, all noughts. -/
theorem Try.makeB (n : Nat) (hn : n ≤ 1000000) (u : World) : (Instr.makeSlice 26 (.int .i64 n) (.int .i64 n)).run Try.prog u = .ok (.slice (some ⟨u.heap.size, 0, none⟩) n n) (u.alloc (.cells ((List.replicate n (0 : UInt8)).map byt).toArray 5)) := by
  obtain ⟨i0, hi, hz0, hz1, hz2⟩ := info_parts Try.infoU8
  have := run_makeSlice (P := Try.prog) u 26 5 i0 (.int .u8 0) Try.underlying26 hi hz0 .i64 .i64 n n (by omega) (Int.le_refl _) (by rw [hz1]; simp; omega) (by rw [hz2]; simp; omega) (by omega)
  rw [this]
  have e : madeCells (Value.int .u8 0).cells n = ((List.replicate n (0 : UInt8)).map byt).toArray := by
    apply Array.ext'
    rw [show (Value.int .u8 0).cells = #[Value.int .u8 0] from rfl, toList_madeCells_one]
    simp [byt]
  simp [hz1, e]

/-- Comparing bytes. -/
theorem equal_any (a a' : Option Addr) (n c n' c' : Nat) (bs cs : List UInt8) (w : World) (h : Win w a n c (bs.map byt)) (h' : Win w a' n' c' (cs.map byt)) :
    Calls Try.prog 74 #[.slice a n c, .slice a' n' c'] w fun e w' => e = .returned (.bool (decide (bs = cs))) ∧ w = w' := by
  have h1 := run_str (P := Try.prog) (src := 26) (dst := 9) Try.underlying26 Try.underlying5 Try.underlying9 h
  have h2 := run_str (P := Try.prog) (src := 26) (dst := 9) Try.underlying26 Try.underlying5 Try.underlying9 h'
  have he : ((str bs).toList == (str cs).toList) = decide (bs = cs) := by
    rw [str_list, str_list]
    by_cases hc : bs = cs <;> simp [hc]
  clear h h'
  go_enter Try.func74, Try.ntmps74
  go_wp2
  go_ret
  exact ⟨by rw [← he]; rfl, rfl⟩

end Go.Proofs.Ytnkjhicokcmmpaa

/-
  The plain law of the checksum: a table's step is eight steps of a bit. No program in sight.
-/
namespace Go.Proofs.Ytnkjhicokcmmpaa

def poly : Nat := 3988292384
/-- One step of the register. -/
def cs1 (c : Nat) : Nat := if c % 2 = 1 then (c / 2) ^^^ poly else c / 2
def csN : Nat → Nat → Nat
  | 0, c => c
  | k + 1, c => cs1 (csN k c)
/-- The table's entry. -/
def tab (i : Nat) : Nat := csN 8 i

/-- A byte's step. -/
def csB (c x : Nat) : Nat := (c / 256) ^^^ tab ((c % 256) ^^^ x)
theorem poly_lt : poly < 2 ^ 32 := by decide
theorem cs1_lt {c : Nat} (h : c < 2 ^ 32) : cs1 c < 2 ^ 32 := by
  unfold cs1
  split
  · exact Nat.xor_lt_two_pow (by omega) poly_lt
  · omega
theorem csN_lt {c : Nat} (h : c < 2 ^ 32) : ∀ k, csN k c < 2 ^ 32
  | 0 => h
  | k + 1 => cs1_lt (csN_lt h k)
theorem tab_lt {i : Nat} (h : i < 2 ^ 32) : tab i < 2 ^ 32 := csN_lt h 8
theorem csB_lt {c x : Nat} (h : c < 2 ^ 32) (hx : x < 256) : csB c x < 2 ^ 32 := by
  unfold csB
  refine Nat.xor_lt_two_pow (by omega) (tab_lt ?_)
  exact Nat.lt_of_lt_of_le (Nat.xor_lt_two_pow (n := 8) (Nat.mod_lt _ (by decide)) hx) (by decide)
/-- The register behind bytes. -/
def regTo (l : List UInt8) (c : Nat) : Nat := l.foldl (fun c x => csB c x.toNat) c
theorem regTo_snoc (l : List UInt8) (x : UInt8) (c : Nat) : regTo (l ++ [x]) c = csB (regTo l c) x.toNat := by simp [regTo]
theorem regTo_lt {l : List UInt8} {c : Nat} (h : c < 2 ^ 32) : regTo l c < 2 ^ 32 := by
  unfold regTo
  induction l generalizing c with
  | nil => exact h
  | cons x l ih => exact ih (csB_lt h x.toNat_lt)
/-- The sum of bytes. -/
def sumOf (l : List UInt8) : Nat := 4294967295 - regTo l 4294967295
theorem sumOf_lt (l : List UInt8) : sumOf l < 2 ^ 32 := by unfold sumOf; omega

end Go.Proofs.Ytnkjhicokcmmpaa

/-
  A range over a function that keeps state of its own in a cell (a variable that its closure has captured): a law for a plain walk.
-/
namespace Go.Proofs.Ytnkjhicokcmmpaa
open Go.RowKit Go.Shelf

section
variable {P : Program}
/-- An iterator that writes no block but its own (cb), and tells a list in S, whatever its rounds do that leave cb as it is. -/
def Tells {α : Type} (P : Program) (gf : Nat) (lb : Array Value) (encs : α → Array Value) (cb : Nat) (S : List α → Prop) (w : World) : Prop :=
  ∀ (l : Nat) (J : List α → World → Prop) (W : World), Below w.heap.size w W → (∀ pre A B, J pre A → Fr (fun k => k = cb) A B → J pre B) →
    (∀ pre x W1, J pre W1 → YieldAt Fence.wide 3 P l (encs x) W1 fun e W' => e = .returned (.bool true) ∧ J (pre ++ [x]) W' ∧ W'.heap[cb]? = W1.heap[cb]?) →
    J [] W →
    CallsIn Fence.wide 4 P gf (#[.func (.yield l) #[] #[]] ++ lb) W fun e W' => (∃ v, e = .returned v) ∧ ∃ xs, S xs ∧ J xs W'

theorem wp_tells {α : Type} {g : Operand} {ps : Array Tmp} {assign body : Code} {Q : Exit → Act → World → Prop} {a : Act} {w : World}
    {gf : Nat} {lb : Array Value} (hg : a.eval g = .func (.func gf) #[] lb) (eg : ∀ args w, (callFunc gf args).run P w = .ok (.enter gf args) w)
    {encs : α → Array Value} {cb : Nat} (hcb : cb < w.heap.size) {S : List α → Prop} (hseq : Tells P gf lb encs cb S w) (hps : ∀ x, (encs x).size = ps.size)
    (I : List α → World → Prop) (hI : OwnFrom w.heap.size I) (hIc : ∀ pre A B, I pre A → Fr (fun k => k = cb) A B → I pre B) (h0 : I [] w) (a₁ : α → Act)
    (hassign : ∀ (l : Nat) (x : α) (W : World) (K : Act → World → Prop), K (a₁ x) W →
      assign.wpIn (Fence.wide.inRound l) 3 P (Exit.then K (fun _ _ _ => False)) { tmps := (ps.zip (encs x)).foldl (fun t (p, v) => t.setIfInBounds p v) a.tmps, defers := [] } W)
    (hbody : ∀ (l : Nat) (pre : List α) (x : α) (W : World), I pre W → body.wpIn (Fence.wide.inRound l) 3 P (fun e _ W' => e = .normal ∧ KeepsOthers W W' ∧ W'.heap[cb]? = W.heap[cb]? ∧ I (pre ++ [x]) W') (a₁ x) W)
    (hdone : ∀ (D : Nat) (xs : List α) (W : World), w.heap.size ≤ D → S xs → I xs W → W.heap[D]? = some (.deferred (some [])) → Q .normal { a with defers := { target := .collected D, args := #[] } :: a.defers } W) :
    (Code.rangeFunc g ps assign body).wp P Q a w := by
  refine wpIn_wide.1 (wpIn_rangeFunc (F := Fence.wide) (n := 5) fun fn hfn => ?_)
  let rec_ : LoopState → Option Code → Loop := fun st pe => { state := st, pending := pe, fn, tmps := a.tmps, params := ps, assign, body, defers := w.heap.size }
  obtain ⟨W1, hW1⟩ : ∃ W1, W1 = (w.alloc (.deferred (some []))).alloc (.loop (rec_ .ready none)) := ⟨_, rfl⟩
  have hL1 : W1.heap[w.heap.size + 1]? = some (.loop (rec_ .ready none)) := by
    have := World.alloc_heap_new (w.alloc (.deferred (some []))) (.loop (rec_ .ready none))
    rw [World.size_alloc] at this
    rw [hW1]; exact this
  have hK1 : W1.heap[w.heap.size]? = some (.deferred (some [])) := by
    rw [hW1]; exact (Below.heap_alloc _ _ _ (by simp)).trans (World.alloc_heap_new w _)
  have hb1 : Below w.heap.size w W1 := by rw [hW1]; exact ((Below.refl _ w).alloc (Nat.le_refl _) _).alloc (by simp) _
  refine ⟨w.heap.size + 1, [{ target := .collected w.heap.size, args := #[] }], W1, { target := .fn (.func gf) lb, args := #[.func (.yield (w.heap.size + 1)) #[] #[]] }, W1, gf,
    #[.func (.yield (w.heap.size + 1)) #[] #[]] ++ lb, W1, ?_, ?_, ?_, ?_, fun _ => by omega, ?_⟩
  · rw [hW1]; exact run_enterLoop_outer _ _ _ _ _
  · simp only [resolve, hg]
    simp [go_sem]
  · intro f' _; trivial
  · simp [invoke, go_sem, eg]
  · refine (hseq (w.heap.size + 1) (fun pre W => I pre W ∧ W.heap[w.heap.size + 1]? = some (.loop (rec_ .ready none)) ∧ W.heap[w.heap.size]? = some (.deferred (some []))) W1 hb1 ?_ ?_ ⟨?_, hL1, hK1⟩).mono ?_
    · rintro pre A B ⟨h1, h2, h3⟩ hf
      exact ⟨hIc pre A B h1 hf, (hf.heap (Array.getElem?_eq_some_iff.1 h2).1 (by omega)).trans h2, (hf.heap (Array.getElem?_eq_some_iff.1 h3).1 (by omega)).trans h3⟩
    · rintro pre x W ⟨hi, hl, hk⟩
      have hlt : w.heap.size + 1 < W.heap.size := (Array.getElem?_eq_some_iff.1 hl).1
      have hy := run_yield (P := P) (args := encs x) hl (hps x)
      refine ⟨fn, _, assign, body, hy, roundIn_of_wpIn hfn (hassign _ x W _ ⟨_, run_beginRound hl rfl, ?_⟩)⟩
      have hl2 : (W.putObj (w.heap.size + 1) (.loop { rec_ .ready none with state := .busy })).heap[w.heap.size + 1]? = some (.loop { rec_ .ready none with state := .busy }) := World.putObj_heap_same hlt
      have hk2 : (W.putObj (w.heap.size + 1) (.loop { rec_ .ready none with state := .busy })).heap[w.heap.size]? = some (.deferred (some [])) := (World.putObj_heap_other (by omega)).trans hk
      refine wpIn_mono (hbody _ pre x _ (hI.putObj _ hi (by omega) hl rfl)) ?_
      rintro e a3 W3 ⟨rfl, hk3, hc3, hi3⟩
      have hl3 := hk3.same _ _ hl2 rfl
      refine ⟨_, _, run_endRound (P := P) none hl3, rfl, ⟨hI.putObj _ hi3 (by omega) hl3 rfl, World.putObj_heap_same (Array.getElem?_eq_some_iff.1 hl3).1, (World.putObj_heap_other (by omega)).trans (hk3.same _ _ hk2 rfl)⟩, ?_⟩
      rw [World.putObj_heap_other (by omega), hc3, World.putObj_heap_other (by omega)]
    · rw [hW1]; exact hI.alloc _ (hI.alloc _ h0)
    · rintro e W2 ⟨⟨v, rfl⟩, xs, hS, hi, hl, hk⟩
      exact ⟨none, _, run_endLoop (P := P) hl (by simp [rec_]), hdone _ xs _ (Nat.le_refl _) hS (hI.putObj _ hi (by omega) hl rfl) ((World.putObj_heap_other (by omega)).trans hk)⟩

/-- The end of a function without results, behind one loop. -/
theorem end_marks0 {fn : Func} {R : Ending → World → Prop} {tmps : Array Value} {D : Nat} {w : World} (hf : fn.results = #[]) (hK : w.heap[D]? = some (.deferred (some []))) (h : R (.returned (.tuple #[])) (w.putObj D (.deferred none))) :
    Exit.noGoto (noPanic (bodyPostM Fence.wide 5 P fn R)) .normal { tmps := tmps, defers := [{ target := .collected D, args := #[] }] } w := by
  show LeavesInM Fence.wide 5 P fn tmps R [_] .returning w
  refine ⟨by simp, .inl ⟨_, _, rfl, run_takeDeferred hK, ?_⟩⟩
  exact ⟨_, results_none hf _ _ _, h⟩
end

end Go.Proofs.Ytnkjhicokcmmpaa

/-
  The checksum's table: what its functions come to.
-/
namespace Go.Proofs.Ytnkjhicokcmmpaa
open Go.RowKit Go.Shelf
attribute [local go_sem] Oper.semAt_some

theorem ofInt_32 (a : Nat) (ha : a < 2 ^ 32) : (BitVec.ofInt 32 (a : Int)).toNat = a := by
  rw [BitVec.ofInt_natCast, BitVec.toNat_ofNat]
  exact Nat.mod_eq_of_lt ha
theorem wrap_u32 (a : Nat) (h : a < 2 ^ 32) : IntKind.u32.wrap (a : Int) = a := by
  simp [IntKind.wrap, IntKind.signed, IntKind.bits]
  omega
theorem and1_u32 (c : Nat) (hc : c < 2 ^ 32) : bits .and .u32 (c : Int) 1 = ((c % 2 : Nat) : Int) := by
  show IntKind.u32.wrap ((BitVec.ofInt 32 (c : Int) &&& BitVec.ofInt 32 ((1 : Nat) : Int)).toNat : Int) = _
  rw [BitVec.toNat_and, ofInt_32 _ hc, ofInt_32 _ (by decide), Nat.and_one_is_mod, wrap_u32 _ (by omega)]
theorem xor_u32 (a b : Nat) (ha : a < 2 ^ 32) (hb : b < 2 ^ 32) : bits .xor .u32 (a : Int) (b : Int) = ((a ^^^ b : Nat) : Int) := by
  show IntKind.u32.wrap ((BitVec.ofInt 32 (a : Int) ^^^ BitVec.ofInt 32 (b : Int)).toNat : Int) = _
  rw [BitVec.toNat_xor, ofInt_32 _ ha, ofInt_32 _ hb, wrap_u32 _ (Nat.xor_lt_two_pow ha hb)]

def lowsTo (c k : Nat) : List (Nat × Bool) := (List.range k).map fun k => (csN k c / 2, csN k c % 2 == 1)
theorem lowsTo_succ (c k : Nat) : lowsTo c (k + 1) = lowsTo c k ++ [(csN k c / 2, csN k c % 2 == 1)] := by simp [lowsTo, List.range_succ]

set_option maxRecDepth 100000 in
set_option maxHeartbeats 2000000 in
theorem lows1_tells (cb c0 : Nat) (hc0 : c0 < 2 ^ 32) (w : World) (hcb : Blk w cb 23 [.int .u32 c0]) :
    Tells Try.prog 160 #[.pointer (some ⟨cb, 0, none⟩)] (fun x : Nat × Bool => #[Value.int .u32 (x.1 : Nat), .bool x.2]) cb (fun xs => xs = lowsTo c0 8) w := by
  intro l J W hW hJ hY h0
  have hB : Blk W cb 23 [.int .u32 c0] := (hW.block cb hcb.lt).trans hcb
  clear hcb hW
  refine callsIn_of_wp Try.func160 rfl trivial ?_ rfl
  simp only [Try.ntmps160, List.size_toArray, List.length_cons, List.length_nil, Nat.reduceAdd, Nat.reduceSub, Array.replicate_succ, Array.replicate_zero, List.push_toArray, List.append_toArray, List.nil_append, List.cons_append]
  gi_wp2
  gi_loopw [4] (fun t wr => ∃ k : Nat, k ≤ 8 ∧ t = .int .i64 k ∧ J (lowsTo c0 k) wr ∧ Blk wr cb 23 [.int .u32 (csN k c0)]) (fun t _ => 8 - (intOf t).toNat)
  case atStart => exact ⟨0, Nat.zero_le _, rfl, h0, hB⟩
  case round =>
    obtain ⟨k, hk, rfl, hJs, hBr⟩ := hrel
    by_cases hlt : k < 8
    · have hc := csN_lt hc0 k
      obtain ⟨c, hcd⟩ : ∃ c, c = csN k c0 := ⟨_, rfl⟩
      rw [← hcd] at hBr hc
      have HT : Hid (lowsTo c0 (k + 1) = lowsTo c0 k ++ [(c / 2, c % 2 == 1)]) := by rw [hcd]; exact lowsTo_succ c0 k
      have HC : Hid (csN (k + 1) c0 = cs1 c) := by rw [hcd]; rfl
      clear hcd hB hc0
      have b0 := hBr.cell (j := 0) rfl
      have bf := hBr.free
      have bl := hBr.lt
      have hfs : Fr (fun k => k = cb) wr (wr.setCell ⟨cb, 0, none⟩ (.int .u32 ((c : Int) / 2))) := (Fr.refl (fun k => k = cb) wr).setCell (p := ⟨cb, 0, none⟩) (.inl rfl) _
      have hB2 : Blk (wr.setCell ⟨cb, 0, none⟩ (.int .u32 ((c : Int) / 2))) cb 23 [.int .u32 ((c : Int) / 2)] := hBr.set 0 _
      have hd2 : ((c / 2 : Nat) : Int) = (c : Int) / 2 := by omega
      by_cases hp : c % 2 = 1
      · have hand : bits .and .u32 (c : Int) 1 = 1 := by
          have := and1_u32 c hc
          rw [hp] at this
          exact this
        have hxor : bits .xor .u32 ((c : Int) / 2) 3988292384 = ((cs1 c : Nat) : Int) := by
          have := xor_u32 (c / 2) poly (by omega) (by decide)
          rw [hd2] at this
          rw [show ((3988292384 : Int)) = ((poly : Nat) : Int) by rfl, this]
          unfold cs1
          rw [if_pos hp]
        obtain ⟨fn, tmps, assign, body, hy, hR⟩ := hY (lowsTo c0 k) (c / 2, c % 2 == 1) _ (hJ _ _ _ hJs hfs)
        dsimp only at hy
        rw [hp, hd2, show ((1 : Nat) == 1) = true from rfl] at hy
        have HX := Lib.hid hxor
        clear hxor hd2
        gi_wp2
        refine hR.mono ?_
        rintro e W3 ⟨rfl, hJ3, hk3⟩
        have hB3 : Blk W3 cb 23 [.int .u32 ((c : Int) / 2)] := hk3.trans hB2
        have d0 := hB3.cell (j := 0) rfl
        have df := hB3.free
        have dl := hB3.lt
        have hxor := HX.out
        gi_wp2
        go_roundw
        case rel =>
          refine ⟨k + 1, by omega, by simp, ?_, ?_⟩
          · rw [HT.out]
            exact hJ _ _ _ hJ3 ((Fr.refl (fun k => k = cb) W3).setCell (p := ⟨cb, 0, none⟩) (.inl rfl) _)
          · rw [HC.out]
            exact hB3.set 0 _
        case measure => (simp [intOf]; try omega)
      · have hp0 : c % 2 = 0 := by omega
        have hand : bits .and .u32 (c : Int) 1 = 0 := by
          have := and1_u32 c hc
          rw [hp0] at this
          exact this
        have hcs : cs1 c = c / 2 := by unfold cs1; rw [if_neg hp]
        obtain ⟨fn, tmps, assign, body, hy, hR⟩ := hY (lowsTo c0 k) (c / 2, c % 2 == 1) _ (hJ _ _ _ hJs hfs)
        dsimp only at hy
        rw [hp0, hd2, show ((0 : Nat) == 1) = false from rfl] at hy
        have HX : Hid (((cs1 c : Nat) : Int) = (c : Int) / 2) := by rw [hcs]; exact hd2
        clear hd2 hcs
        gi_wp2
        refine hR.mono ?_
        rintro e W3 ⟨rfl, hJ3, hk3⟩
        have hB3 : Blk W3 cb 23 [.int .u32 ((c : Int) / 2)] := hk3.trans hB2
        gi_wp2
        go_roundw
        case rel =>
          refine ⟨k + 1, by omega, by simp, ?_, ?_⟩
          · rw [HT.out]
            exact hJ3
          · rw [HC.out, HX.out]
            exact hB3
        case measure => (simp [intOf]; try omega)
    · obtain rfl : k = 8 := by omega
      gi_wp2
      go_end0
      exact ⟨⟨_, rfl⟩, _, rfl, hJs⟩

theorem lows_any (c : Int) (w : World) : Calls Try.prog 154 #[.int .u32 c] w fun e w' => e = .returned (.func (.func 160) #[] #[.pointer (some ⟨w.heap.size, 0, none⟩)]) ∧ w.alloc (.cells #[.int .u32 c] 23) = w' := by
  go_enter Try.func154, Try.ntmps154
  go_wp2
  go_ret
  exact ⟨rfl, rfl⟩

/-- What a round of 'fill' makes of what it is told. -/
def fillS (x : Nat × Bool) : Int := if x.2 then bits .xor .u32 (x.1 : Int) 3988292384 else x.1
def fillN (i : Nat) (l : List (Nat × Bool)) : Int := match l.getLast? with | some x => fillS x | none => i
theorem fillN_snoc (i : Nat) (l : List (Nat × Bool)) (x : Nat × Bool) : fillN i (l ++ [x]) = fillS x := by simp [fillN]
theorem fillN_8 (i : Nat) (hi : i < 2 ^ 32) : fillN i (lowsTo i 8) = ((tab i : Nat) : Int) := by
  rw [lowsTo_succ, fillN_snoc]
  have hc := csN_lt hi 7
  have hx := xor_u32 (csN 7 i / 2) poly (by omega) (by decide)
  show (if (csN 7 i % 2 == 1) = true then _ else _) = ((cs1 (csN 7 i) : Nat) : Int)
  unfold cs1
  by_cases hp : csN 7 i % 2 = 1
  · rw [if_pos hp, if_pos (by simp [hp])]
    exact hx
  · rw [if_neg hp, if_neg (by simp [hp])]

set_option maxRecDepth 100000 in
set_option maxHeartbeats 4000000 in
theorem fill_any (tb i : Nat) (hi : i < 256) (l : List Value) (hl : l.length = 256) (w : World) (h : Blk w tb 181 l) :
    Calls Try.prog 137 #[.pointer (some ⟨tb, 0, none⟩), .int .i64 i] w fun e w' => (∃ v, e = .returned v) ∧ Blk w' tb 181 (l.set i (.int .u32 (tab i))) ∧ Fr (fun k => k = tb) w w' := by
  have hi32 : i < 2 ^ 32 := by omega
  have hwr : IntKind.u32.wrap (i : Int) = i := wrap_u32 _ hi32
  have htl := h.lt
  refine calls_of_marks Try.func137 rfl ?_
  simp only [Try.ntmps137, List.size_toArray, List.length_cons, List.length_nil, Nat.reduceAdd, Nat.reduceSub, Array.replicate_succ, Array.replicate_zero, List.push_toArray, List.append_toArray, List.nil_append, List.cons_append]
  go_wp2
  go_step3
  go_wp2
  go_step3
  go_wp2_with (go_at_call 154; refine (lows_any _ _).mono ?_; rintro e w1 ⟨rfl, rfl⟩)
  have hN : Blk ((w.alloc (.cells #[.int .u32 i] 23)).alloc (.cells #[.int .u32 i] 23)) w.heap.size 23 [.int .u32 i] := (Blk.new w _ _).alloc _
  have hC : Blk ((w.alloc (.cells #[.int .u32 i] 23)).alloc (.cells #[.int .u32 i] 23)) (w.heap.size + 1) 23 [.int .u32 i] := by
    have := Blk.new (w.alloc (.cells #[.int .u32 i] 23)) 23 [.int .u32 i]
    rwa [World.size_alloc] at this
  have hfr1 : Fr No w ((w.alloc (.cells #[.int .u32 i] 23)).alloc (.cells #[.int .u32 i] 23)) := ((Fr.refl No w).alloc _).alloc _
  generalize (w.alloc (.cells #[.int .u32 i] 23)).alloc (.cells #[.int .u32 i] 23) = w1 at *
  have hz := hC.lt
  refine wp_tells (gf := 160) (lb := #[.pointer (some ⟨w.heap.size + 1, 0, none⟩)]) rfl (enters_of Try.func160 (by kernel_rfl) rfl) (cb := w.heap.size + 1) hz
    (lows1_tells (w.heap.size + 1) i hi32 w1 hC) (fun _ => rfl)
    (fun pre W => Blk W w.heap.size 23 [.int .u32 (fillN i pre)] ∧ Fr (fun k => k = w.heap.size ∨ k = w.heap.size + 1) w1 W)
    ?hI ?hIc ⟨hN, Fr.refl _ _⟩ (fun x : Nat × Bool => { tmps := #[.pointer (some ⟨tb, 0, none⟩), .int .i64 i, undef, undef, .pointer (some ⟨w.heap.size, 0, none⟩), .int .u32 (x.1 : Nat), .bool x.2, .int .i64 i, .int .u32 i, .int .u32 i, .func (.func 160) #[] #[.pointer (some ⟨w.heap.size + 1, 0, none⟩)], .int .u32 (x.1 : Nat), .bool x.2, undef, undef, undef, undef, undef, undef, undef, undef, undef, undef, undef], defers := [] }) ?assign ?body ?done
  case hI =>
    rintro s A B row ⟨h1, h3⟩ hg hr
    exact ⟨h1.fr ((Fr.refl (fun k => w1.heap.size ≤ k) A).grown hg (fun k hk => .inl (hr k hk).1)) (by omega), h3.grown hg (fun k hk => .inr (hr k hk).1)⟩
  case hIc =>
    rintro pre A B ⟨h1, h3⟩ hf
    exact ⟨h1.fr hf (by omega), h3.trans hf (fun k hk => .inl (.inr hk))⟩
  case assign =>
    intro ll x W K hK
    gi_wp2
    exact hK
  case body =>
    rintro ll pre x W ⟨hW1, hW3⟩
    have hb0 := hW1.cell (j := 0) rfl
    have hbf := hW1.free
    have hbl := hW1.lt
    obtain ⟨low, out⟩ := x
    cases out
    · gi_wp2
      refine ⟨KeepsOthers.setCell _ _ _, Below.heap_setCell _ _ _ _ (by show w.heap.size + 1 ≠ w.heap.size; omega), ?_, hW3.setCell (p := ⟨w.heap.size, 0, none⟩) (.inl (.inl rfl)) _⟩
      rw [fillN_snoc]
      exact hW1.set 0 _
    · gi_wp2
      refine ⟨(KeepsOthers.setCell _ _ _).trans (KeepsOthers.setCell _ _ _), (Below.heap_setCell _ _ _ _ (by show w.heap.size + 1 ≠ w.heap.size; omega)).trans (Below.heap_setCell _ _ _ _ (by show w.heap.size + 1 ≠ w.heap.size; omega)), ?_, (hW3.setCell (p := ⟨w.heap.size, 0, none⟩) (.inl (.inl rfl)) _).setCell (p := ⟨w.heap.size, 0, none⟩) (.inl (.inl rfl)) _⟩
      rw [fillN_snoc]
      exact (hW1.set 0 _).set 0 _
  case done =>
    rintro D ys W hD rfl ⟨hW1, hW3⟩ hK
    rw [fillN_8 i hi32] at hW1
    have hb0 := hW1.cell (j := 0) rfl
    have hbl := hW1.lt
    have hT := (h.fr hfr1 (No.no _)).fr hW3 (by omega)
    have t0 := hT.cell (j := i) (v := l[i]'(by omega)) (List.getElem?_eq_getElem (by omega))
    have tf := hT.free
    have tl := hT.lt
    go_wp2
    go_region
    all_goals go_wp2
    all_goals
      have hB2 : Blk (W.setCell ⟨tb, i, none⟩ (.int .u32 (tab i))).drew tb 181 (l.set i (.int .u32 (tab i))) := (hT.set i _).drew
      have hk2 : (W.setCell ⟨tb, i, none⟩ (.int .u32 (tab i))).drew.heap[D]? = some (.deferred (some [])) := (Below.heap_setCell W ⟨tb, i, none⟩ _ D (fun e => hT.neDef hK e.symm)).trans hK
      refine end_marks0 rfl hk2 ⟨⟨_, rfl⟩, hB2.putObj (hB2.neDef hk2) _, ?_⟩
      have hf1 : Fr (fun k => k = tb) w W := (hfr1.no_any (S := fun k => k = tb)).trans hW3 (fun k hk => .inr (by omega))
      exact ((hf1.setCell (p := ⟨tb, i, none⟩) (.inl rfl) _).drew).putObj (.inr (by have := hfr1.size; omega)) _

end Go.Proofs.Ytnkjhicokcmmpaa

/-
  The checksum of bytes: what the program's functions come to.
-/
namespace Go.Proofs.Ytnkjhicokcmmpaa
open Go.RowKit Go.Shelf
attribute [local go_sem] Oper.semAt_some

/-- The table, filled up to k. -/
def tabTo (k : Nat) : List Value := (List.range 256).map fun j => if j < k then .int .u32 (tab j : Nat) else .int .u32 0
theorem tabTo_len (k : Nat) : (tabTo k).length = 256 := by simp [tabTo]
theorem tabTo_succ (k : Nat) (hk : k < 256) : (tabTo k).set k (.int .u32 (tab k : Nat)) = tabTo (k + 1) := by
  apply List.ext_getElem
  · simp [tabTo]
  · intro i h1 h2
    rw [List.getElem_set]
    simp only [tabTo, List.getElem_map, List.getElem_range]
    split
    · rename_i e; subst e; rw [if_pos (by omega)]
    · rename_i e
      by_cases hi : i < k
      · rw [if_pos hi, if_pos (by omega)]
      · rw [if_neg hi, if_neg (by omega)]
theorem tabTo_get (i : Nat) (hi : i < 256) : (tabTo 256)[i]? = some (.int .u32 (tab i : Nat)) := by
  simp [tabTo, hi]

/-- The register behind the first k bytes. -/
def crcTo (l : List UInt8) (k : Nat) : Nat := regTo (l.take k) 4294967295
theorem crcTo_lt (l : List UInt8) (k : Nat) : crcTo l k < 2 ^ 32 := regTo_lt (by decide)
theorem crcTo_succ (l : List UInt8) (k : Nat) (hk : k < l.length) : crcTo l (k + 1) = csB (crcTo l k) (l[k]).toNat := by
  unfold crcTo
  rw [List.take_succ_eq_append_getElem hk, regTo_snoc]
theorem not_u32 (c : Nat) (h : c < 2 ^ 32) : bits .xor .u32 IntKind.u32.max (c : Int) = ((4294967295 - c : Nat) : Int) := by
  have h1 := xor_u32 4294967295 c (by decide) h
  have h2 : 4294967295 ^^^ c = 4294967295 - c := by
    apply Nat.eq_of_testBit_eq
    intro i
    have h3 := Nat.testBit_two_pow_sub_succ h i
    rw [show 2 ^ 32 - (c + 1) = 4294967295 - c by omega] at h3
    rw [h3, Nat.testBit_xor]
    have h4 : (4294967295 : Nat).testBit i = decide (i < 32) := Nat.testBit_two_pow_sub_one 32 i
    rw [h4]
    by_cases hi : i < 32
    · simp [hi]
    · have : c.testBit i = false := Nat.testBit_lt_two_pow (Nat.lt_of_lt_of_le h (Nat.pow_le_pow_right (by decide) (by omega)))
      simp [hi, this]
  rw [h2] at h1
  exact h1
theorem xor_u8 (c x : Nat) (hx : x < 256) : bits .xor .u8 ((c : Int) % 256) (x : Int) = ((c % 256 ^^^ x : Nat) : Int) := by
  have h8 : ∀ a : Nat, a < 256 → (BitVec.ofInt 8 (a : Int)).toNat = a := fun a ha => by
    rw [BitVec.ofInt_natCast, BitVec.toNat_ofNat]
    exact Nat.mod_eq_of_lt ha
  have hl : c % 256 ^^^ x < 256 := Nat.xor_lt_two_pow (n := 8) (Nat.mod_lt _ (by decide)) hx
  show IntKind.u8.wrap ((BitVec.ofInt 8 ((c : Int) % 256) ^^^ BitVec.ofInt 8 (x : Int)).toNat : Int) = _
  rw [show (c : Int) % 256 = ((c % 256 : Nat) : Int) by simp, BitVec.toNat_xor, h8 _ (Nat.mod_lt _ (by decide)), h8 _ hx]
  generalize c % 256 ^^^ x = m at *
  simp [IntKind.wrap, IntKind.signed, IntKind.bits]
  omega

theorem tab0 : (tabTo 0).toArray = Try.zeroCells181 := by kernel_rfl

set_option maxRecDepth 100000 in
set_option maxHeartbeats 4000000 in
theorem known_any (w : World) : Calls Try.prog 120 #[] w fun e w' => e = .returned (.pointer (some ⟨w.heap.size, 0, none⟩)) ∧ Blk w' w.heap.size 181 (tabTo 256) ∧ Fr No w w' := by
  go_enter Try.func120, Try.ntmps120
  go_wp2
  have hB : Blk (w.alloc (.cells Try.zeroCells181 181)) w.heap.size 181 (tabTo 0) := by
    have h := Blk.new w 181 (tabTo 0)
    rw [tab0] at h
    exact h
  have hf : Fr No w (w.alloc (.cells Try.zeroCells181 181)) := (Fr.refl No w).alloc _
  generalize w.alloc (.cells Try.zeroCells181 181) = w0 at *
  go_loopw [5] (fun t wr => ∃ k : Nat, k ≤ 256 ∧ t = .int .i64 k ∧ Blk wr w.heap.size 181 (tabTo k) ∧ Fr No w wr) (fun t _ => 256 - (intOf t).toNat)
  case atStart => exact ⟨0, Nat.zero_le _, rfl, hB, hf⟩
  case round =>
    obtain ⟨k, hk, rfl, hT, hfr⟩ := hrel
    clear hB hf
    by_cases hlt : k < 256
    · go_wp2_with (go_at_call 137; refine (fill_any w.heap.size k hlt _ (tabTo_len k) _ hT).mono ?_; rintro e w1 ⟨⟨v, rfl⟩, h1, h2⟩)
      go_roundw
      case rel =>
        rw [tabTo_succ k hlt] at h1
        exact ⟨k + 1, by omega, by go_num, h1, hfr.trans h2 (fun x hx => .inr (by omega))⟩
      case measure => (simp [intOf]; omega)
    · obtain rfl : k = 256 := by omega
      have hl := hT.lt
      go_wp2
      go_ret
      exact ⟨rfl, hT, hfr⟩

set_option maxRecDepth 100000 in
set_option maxHeartbeats 4000000 in
theorem crcMore_any (a : Option Addr) (n c : Nat) (bs : List UInt8) (w : World) (h : Win w a n c (bs.map byt)) (hb : n ≤ 1000000) :
    Calls Try.prog 104 #[.int .u32 0, .slice a n c] w fun e w' => e = .returned (.int .u32 (sumOf bs : Nat)) ∧ Fr No w w' := by
  have hl : bs.length = n := by have := h.len; simpa using this
  have HL := Lib.hid hl
  have hw := Lib.hid h
  clear hl h
  go_enter Try.func104, Try.ntmps104
  go_wp2_with (go_at_call 120; refine (known_any _).mono ?_; rintro e w1 ⟨rfl, hT, hf1⟩)
  have hst : Value.int .u32 (bits .xor .u32 IntKind.u32.max 0) = .int .u32 (crcTo bs 0 : Nat) := by
    have h0 : bits .xor .u32 IntKind.u32.max 0 = ((4294967295 - 0 : Nat) : Int) := not_u32 0 (by decide)
    rw [h0]
    rfl
  rw [hst]
  have HT := Lib.hid hT
  clear hst hT
  go_loopw [6, 14] (fun r t wr => ∃ k : Nat, k ≤ n ∧ r = .int .u32 (crcTo bs k : Nat) ∧ t = .int .i64 k ∧ Fr No w1 wr) (fun _ t _ => n - (intOf t).toNat)
  case atStart => exact ⟨0, Nat.zero_le _, rfl, rfl, Fr.refl _ _⟩
  case round =>
    obtain ⟨k, hk, rfl, rfl, hfr⟩ := hrel
    by_cases hlt : k < n
    · have hkb : k < bs.length := by rw [HL.out]; exact hlt
      obtain ⟨ad, u, rfl, hu, hcell⟩ := (hw.out.no (hf1.thn hfr)).at hlt
      have hc := crcTo_lt bs k
      have hsuc := crcTo_succ bs k hkb
      obtain ⟨c', hcd⟩ : ∃ c', c' = crcTo bs k := ⟨_, rfl⟩
      rw [← hcd] at hc hsuc ⊢
      have hx := (bs[k]).toNat_lt
      have hu' : u = .int .u8 ((bs[k]).toNat : Int) := by
        rw [List.getElem?_map, List.getElem?_eq_getElem hkb] at hu
        exact (Option.some.inj hu).symm
      subst hu'
      generalize (bs[k]).toNat = x at *
      obtain ⟨m, hm⟩ : ∃ m, m = c' % 256 ^^^ x := ⟨_, rfl⟩
      have hml : m < 256 := by rw [hm]; exact Nat.xor_lt_two_pow (n := 8) (Nat.mod_lt _ (by decide)) hx
      have hidx : bits .xor .u8 ((c' : Int) % 256) (x : Int) = (m : Int) := by rw [xor_u8 c' x hx, hm]
      have hTr := HT.out.fr hfr (No.no _)
      have ht := hTr.cell (j := m) (tabTo_get m hml)
      have hxor : bits .xor .u32 ((c' : Int) / 256) ((tab m : Nat) : Int) = ((csB c' x : Nat) : Int) := by
        have h1 := xor_u32 (c' / 256) (tab m) (by omega) (tab_lt (by omega))
        rw [show ((c' / 256 : Nat) : Int) = (c' : Int) / 256 by omega] at h1
        rw [h1]
        unfold csB
        rw [hm]
      have HS := Lib.hid hsuc
      have hmi : (m : Int) < 256 := by omega
      have htl := hTr.lt
      clear hsuc hm hcd hu
      go_wp2
      go_roundw
      case rel => exact ⟨k + 1, by omega, by rw [HS.out], by go_num, hfr⟩
      case measure => (simp [intOf]; omega)
    · obtain rfl : k = n := by omega
      have hend : bits .xor .u32 IntKind.u32.max ((crcTo bs k : Nat) : Int) = ((sumOf bs : Nat) : Int) := by
        rw [not_u32 _ (crcTo_lt bs k)]
        unfold sumOf crcTo
        rw [List.take_of_length_le (by rw [HL.out]; exact Nat.le_refl _)]
      have HE := Lib.hid hend
      clear hend
      go_wp2
      go_ret
      exact ⟨by rw [← HE.out]; rfl, hf1.thn hfr⟩

theorem crcOf_any (a : Option Addr) (n c : Nat) (bs : List UInt8) (w : World) (h : Win w a n c (bs.map byt)) (hb : n ≤ 1000000) :
    Calls Try.prog 67 #[.slice a n c] w fun e w' => e = .returned (.int .u32 (sumOf bs : Nat)) ∧ Fr No w w' := by
  go_enter Try.func67, Try.ntmps67
  go_wp2_with (go_at_call 104; refine (crcMore_any a n c bs _ h hb).mono ?_; rintro e w1 ⟨rfl, hf1⟩)
  go_ret
  exact ⟨rfl, hf1⟩

end Go.Proofs.Ytnkjhicokcmmpaa

/-
  The checksum of bytes: what the document's functions come to.
-/
namespace Go.Proofs.Ytnkjhicokcmmpaa
open Go.RowKit Go.Shelf

end Go.Proofs.Ytnkjhicokcmmpaa

/-
  A root's sector: what the program's Encode comes to.
-/
namespace Go.Proofs.Ytnkjhicokcmmpaa
open Go.RowKit Go.Shelf

/-- A root. -/
structure RootD where
  n : Nat
  len : Int
  sum : Nat
structure RootD.Fits (r : RootD) : Prop where
  n : r.n < 2 ^ 64
  sum : r.sum < 2 ^ 32
def RootD.cells (r : RootD) : List Value := [.int .u64 r.n, .int .i64 r.len, .int .u32 r.sum]
/-- May it be? -/
def RootD.ok (r : RootD) : Bool := !(r.n == 0) && !(decide (r.len < 0)) && !(decide (3072 < r.len))
/-- What is ahead of the sum. -/
def rootFront (r : RootD) : List UInt8 := [81, 82, 1, 0] ++ num 8 r.n ++ num 4 r.len.toNat ++ num 4 r.sum ++ List.replicate 96 0
def rootBytes (r : RootD) : List UInt8 := rootFront r ++ num 4 (sumOf (rootFront r)) ++ num 8 r.n
theorem rootFront_len (r : RootD) : (rootFront r).length = 116 := by simp [rootFront, num_len]
theorem rootBytes_len (r : RootD) : (rootBytes r).length = 128 := by simp [rootBytes, rootFront_len, num_len]

set_option maxRecDepth 100000 in
set_option maxHeartbeats 1000000 in
theorem encode_ok (r : RootD) (hf : r.Fits) (hr : r.ok = true) (w : World) :
    Calls Try.prog 18 #[.agg r.cells.toArray] w fun e w' => ∃ g c, e = .returned (.tuple #[.slice (some ⟨g, 0, none⟩) 128 c, .int .i64 0]) ∧ Own w' 5 1 (.slice (some ⟨g, 0, none⟩) 128 c) 128 ((rootBytes r).map byt) ∧ w.heap.size ≤ g ∧ Fr No w w' := by
  obtain ⟨n, len, sum⟩ := r
  simp only [RootD.ok, Bool.and_eq_true, Bool.not_eq_true', beq_eq_false_iff_ne, decide_eq_false_iff_not] at hr
  obtain ⟨⟨hr1, hr2⟩, hr3⟩ := hr
  obtain ⟨L, rfl⟩ : ∃ L : Nat, len = (L : Int) := ⟨len.toNat, by omega⟩
  have hL : L ≤ 3072 := by omega
  have hn0 : ((n : Int) == 0) = false := by simp; omega
  have hLw : IntKind.u64.wrap (L : Int) = (L : Int) := wrap_u64 L (by omega)
  have hsw : IntKind.u64.wrap (sum : Int) = (sum : Int) := wrap_u64 sum (Nat.lt_of_lt_of_le hf.sum (by decide))
  have kc := fun (w : World) (C : Array Value) (n c g : Nat) (hg : g = w.heap.size) => Joins.run_convert_bytes_const_at (P := Try.prog) w 26 5 C n c g hg Try.underlying26 Try.underlying5
  have hd1 : decide ((L : Int) < 0) = false := by simp
  have hd2 : decide (3072 < (L : Int)) = false := by simp; omega
  have HF := Lib.hid hf
  clear hf hr1 hr2 hr3
  show Calls _ _ #[.agg #[.int .u64 n, .int .i64 (L : Int), .int .u32 sum]] _ _
  go_enter Try.func18, Try.ntmps18
  go_wp2_with fail
  obtain ⟨N, hN⟩ : ∃ N, N = w.heap.size + 1 := ⟨_, rfl⟩
  have kR : Blk (((w.alloc (.cells #[.int .u64 n, .int .i64 L, .int .u32 sum] 25)).alloc (.cells #[.slice none 0 0] 110)).alloc (.cells #[.int .u8 81, .int .u8 82, .int .u8 1, .int .u8 0] 5 (4, 5))) w.heap.size 25 [.int .u64 n, .int .i64 L, .int .u32 sum] := ((Blk.new w _ _).alloc _).alloc _
  have hW0 : WIn N (((w.alloc (.cells #[.int .u64 n, .int .i64 L, .int .u32 sum] 25)).alloc (.cells #[.slice none 0 0] 110)).alloc (.cells #[.int .u8 81, .int .u8 82, .int .u8 1, .int .u8 0] 5 (4, 5))) N (.slice none 0 0) [] := by
    refine ⟨⟨?_, World.ownsRow_nil _ _ _ _⟩, Nat.le_refl _, fun k hk => by simp [Value.ownBlock] at hk⟩
    have := Blk.new (w.alloc (.cells #[.int .u64 n, .int .i64 L, .int .u32 sum] 25)) 110 [.slice none 0 0]
    rw [World.size_alloc, ← hN] at this
    exact this.alloc _
  have hC : Win (((w.alloc (.cells #[.int .u64 n, .int .i64 L, .int .u32 sum] 25)).alloc (.cells #[.slice none 0 0] 110)).alloc (.cells #[.int .u8 81, .int .u8 82, .int .u8 1, .int .u8 0] 5 (4, 5))) (some ⟨w.heap.size + 1 + 1, 0, none⟩) 4 4 (([81, 82, 1, 0] : List UInt8).map byt) := by
    have := win_const ((w.alloc (.cells #[.int .u64 n, .int .i64 L, .int .u32 sum] 25)).alloc (.cells #[.slice none 0 0] 110)) 5 [.int .u8 81, .int .u8 82, .int .u8 1, .int .u8 0] (by unfold maxLen; simp)
    rw [World.size_alloc, World.size_alloc] at this
    exact this
  have f0 : Fr No w (((w.alloc (.cells #[.int .u64 n, .int .i64 L, .int .u32 sum] 25)).alloc (.cells #[.slice none 0 0] 110)).alloc (.cells #[.int .u8 81, .int .u8 82, .int .u8 1, .int .u8 0] 5 (4, 5))) := (((Fr.refl No w).alloc _).alloc _).alloc _
  have hz0 : N ≤ (((w.alloc (.cells #[.int .u64 n, .int .i64 L, .int .u32 sum] 25)).alloc (.cells #[.slice none 0 0] 110)).alloc (.cells #[.int .u8 81, .int .u8 82, .int .u8 1, .int .u8 0] 5 (4, 5))).heap.size := by simp; omega
  generalize ((w.alloc (.cells #[.int .u64 n, .int .i64 L, .int .u32 sum] 25)).alloc (.cells #[.slice none 0 0] 110)).alloc (.cells #[.int .u8 81, .int .u8 82, .int .u8 1, .int .u8 0] 5 (4, 5)) = w0 at *
  have hbN : w.heap.size < N := by omega
  rw [← hN]
  rw [← hN] at hC
  have HN := Lib.hid hN
  clear hN kc
  refine (wrawN N N _ [] [81, 82, 1, 0] _ 4 4 (by simp) _ hz0 hW0 hC).mono ?_
  rintro e w1 ⟨v1, rfl, h1, g1⟩
  have k1 := kR.from g1 hbN
  have z1 : N ≤ w1.heap.size := Nat.le_trans hz0 g1.size
  have c1 := k1.cell (j := 0) rfl
  clear hW0 hC
  go_wp2_with fail
  refine (wnumN N N v1 _ 8 n (by omega) HF.out.n (by simp) _ z1 h1).mono ?_
  rintro e w2 ⟨v2, rfl, h2, g2⟩
  have k2 := k1.from g2 hbN
  have z2 : N ≤ w2.heap.size := Nat.le_trans z1 g2.size
  have c2 := k2.cell (j := 1) rfl
  clear c1 h1
  go_wp2_with fail
  refine (wnumN N N v2 _ 4 L (by omega) (by omega) (by simp [num_len]) _ z2 h2).mono ?_
  rintro e w3 ⟨v3, rfl, h3, g3⟩
  have k3 := k2.from g3 hbN
  have z3 : N ≤ w3.heap.size := Nat.le_trans z2 g3.size
  have c3 := k3.cell (j := 2) rfl
  clear c2 h2
  go_wp2_with fail
  refine (wnumN N N v3 _ 4 sum (by omega) HF.out.sum (by simp [num_len]) _ z3 h3).mono ?_
  rintro e w4 ⟨v4, rfl, h4, g4⟩
  have k4 := k3.from g4 hbN
  have z4 : N ≤ w4.heap.size := Nat.le_trans z3 g4.size
  clear c3 h3
  go_wp2_with fail
  refine (wlenN N N v4 _ 20 (by simp [num_len]) _ h4).mono ?_
  rintro e w5 ⟨rfl, rfl⟩
  have hmk : ∀ u : World, (Instr.makeSlice 26 (.int .i64 96) (.int .i64 96)).run Try.prog u = .ok (.slice (some ⟨u.heap.size, 0, none⟩) 96 96) (u.alloc (.cells ((List.replicate 96 (0 : UInt8)).map byt).toArray 5)) := Try.makeB 96 (by decide)
  obtain ⟨zz, hzz⟩ : ∃ zz : Array Value, zz = ((List.replicate 96 (0 : UInt8)).map byt).toArray := ⟨_, rfl⟩
  rw [← hzz] at hmk
  have HZZ := Lib.hid hzz
  clear hzz
  go_wp2_with fail
  have f4 : Fr No w4 (w4.alloc (.cells zz 5)) := (Fr.refl No w4).alloc _
  have hZ : Win (w4.alloc (.cells zz 5)) (some ⟨w4.heap.size, 0, none⟩) 96 96 ((List.replicate 96 (0 : UInt8)).map byt) := by
    rw [HZZ.out]
    exact Win.of_own' (Own.of_blk (sp := []) (by rw [List.append_nil]; exact Blk.new w4 _ _) (by simp) (by simp) (Nat.le_refl _) (by unfold maxLen; simp))
  have z4' : N ≤ (w4.alloc (.cells zz 5)).heap.size := Nat.le_trans z4 f4.size
  have h4' := h4.no f4
  refine (wrawN N N v4 _ (List.replicate 96 0) _ 96 96 (by simp [num_len]) _ z4' h4' hZ).mono ?_
  rintro e w5 ⟨v5, rfl, h5, g5⟩
  have k5 := (k4.fr f4 (No.no _)).from g5 hbN
  have z5 : N ≤ w5.heap.size := Nat.le_trans z4' g5.size
  have hfr5 : From N w0 w5 := ((((g1.t g2).t g3).t g4).t (f4.no_any)).t g5
  clear h4 h4' hZ hmk k4 k3 k2 k1 kR g1 g2 g3 g4 g5
  have hfront : [81, 82, 1, 0] ++ num 8 n ++ num 4 L ++ num 4 sum ++ List.replicate 96 0 = rootFront ⟨n, L, sum⟩ := rfl
  rw [List.nil_append, hfront] at h5
  clear hfront
  obtain ⟨fr, hfrd⟩ : ∃ fr, fr = rootFront ⟨n, (L : Int), sum⟩ := ⟨_, rfl⟩
  have hfl : fr.length = 116 := by rw [hfrd]; exact rootFront_len _
  rw [← hfrd] at h5
  have HFR := Lib.hid hfrd
  clear hfrd
  go_wp2_with fail
  refine (wbytesN N N v5 fr 116 hfl (by decide) _ h5 (by decide)).mono ?_
  rintro e w6 ⟨ga, ca, rfl, o6, p6, g6⟩
  go_wp2_with fail
  refine (crcOf_any _ 116 ca fr _ (Win.of_own' o6) (by decide)).mono ?_
  rintro e w7 ⟨rfl, g7⟩
  have h7 := (h5.no g6).no g7
  have z7 : N ≤ w7.heap.size := Nat.le_trans z5 (Nat.le_trans g6.size g7.size)
  have k7 := (k5.fr g6 (No.no _)).fr g7 (No.no _)
  have hcw : IntKind.u64.wrap ((sumOf fr : Nat) : Int) = ((sumOf fr : Nat) : Int) := wrap_u64 _ (Nat.lt_trans (sumOf_lt fr) (by decide))
  clear h5 o6 k5
  go_wp2_with fail
  refine (wnumN N N v5 fr 4 (sumOf fr) (by omega) (sumOf_lt fr) (by omega) _ z7 h7).mono ?_
  rintro e w8 ⟨v8, rfl, h8, g8⟩
  have k8 := k7.from g8 hbN
  have z8 : N ≤ w8.heap.size := Nat.le_trans z7 g8.size
  have c8 := k8.cell (j := 0) rfl
  clear h7 hcw
  go_wp2_with fail
  refine (wnumN N N v8 _ 8 n (by omega) HF.out.n (by simp [num_len, hfl]) _ z8 h8).mono ?_
  rintro e w9 ⟨v9, rfl, h9, g9⟩
  clear c8 h8
  go_wp2_with fail
  refine (wbytesN N N v9 _ 128 (by simp [num_len, hfl]) (by decide) _ h9 (by decide)).mono ?_
  rintro e w10 ⟨gb, cb, rfl, o10, p10, g10⟩
  go_wp2
  go_ret2
  have hall : From N w0 w10 := (((hfr5.t (g6.thn g7).no_any).t g8).t g9).t g10.no_any
  refine ⟨gb, cb, rfl, ?_, ?_, f0.trans hall (fun k hk => .inr (by omega))⟩
  · rw [HFR.out] at o10
    exact o10
  · have := f0.size
    have := hall.size
    have := g9.size
    have := hfr5.size
    have := g6.size
    have := g7.size
    have := g8.size
    omega

end Go.Proofs.Ytnkjhicokcmmpaa

/-
  A root's sector: what the document's Encode comes to; refusals; areas.
-/
namespace Go.Proofs.Ytnkjhicokcmmpaa
open Go.RowKit Go.Shelf

set_option maxRecDepth 100000 in
set_option maxHeartbeats 1000000 in
theorem encode_bad (r : RootD) (hr : r.ok = false) (w : World) :
    Calls Try.prog 18 #[.agg r.cells.toArray] w fun e w' => e = .returned (.tuple #[.slice none 0 0, .int .i64 60]) ∧ Fr No w w' := by
  obtain ⟨n, L, sum⟩ := r
  have h3 : n = 0 ∨ (n ≠ 0 ∧ L < 0) ∨ (n ≠ 0 ∧ ¬ L < 0 ∧ 3072 < L) := by
    by_cases h0 : n = 0
    · exact .inl h0
    · by_cases h1 : L < 0
      · exact .inr (.inl ⟨h0, h1⟩)
      · refine .inr (.inr ⟨h0, h1, ?_⟩)
        simp [RootD.ok, h0, h1] at hr
        omega
  clear hr
  show Calls _ _ #[.agg #[.int .u64 n, .int .i64 L, .int .u32 sum]] _ _
  rcases h3 with rfl | ⟨h0, h1⟩ | ⟨h0, h1, h2⟩
  · go_enter Try.func18, Try.ntmps18
    go_wp2
    go_ret2
    exact ⟨rfl, (Fr.refl No w).alloc _⟩
  · have hn0 : ((n : Int) == 0) = false := by simp; omega
    have hd1 : decide (L < 0) = true := by simp; omega
    go_enter Try.func18, Try.ntmps18
    go_wp2
    go_ret2
    exact ⟨rfl, (Fr.refl No w).alloc _⟩
  · have hn0 : ((n : Int) == 0) = false := by simp; omega
    have hd1 : decide (L < 0) = false := by simp; omega
    have hd2 : decide (3072 < L) = true := by simp; omega
    go_enter Try.func18, Try.ntmps18
    go_wp2
    go_ret2
    exact ⟨rfl, (Fr.refl No w).alloc _⟩

/-- Bytes that are owned, in blocks from N on. -/
structure OIn (N : Nat) (w : World) (v : Value) (bs : List UInt8) : Prop where
  own : Own w 5 1 v bs.length (bs.map byt)
  new : ∀ k, v.ownBlock = some k → N ≤ k
theorem OIn.no {N : Nat} {w w' : World} {v : Value} {bs : List UInt8} (h : OIn N w v bs) (hf : Fr No w w') : OIn N w' v bs := ⟨h.own.fr hf (fun _ _ => No.no _), h.new⟩
theorem OIn.app {N : Nat} {w0 w w' : World} {m : Nat} {v v' : Value} {bs cs : List UInt8} (h : OIn N w0 v bs) (hz : N ≤ w0.heap.size) (h0 : Fr No w0 w) (hap : Appended w 5 1 v bs.length m (bs.map byt ++ cs.map byt) v' w') (hm : cs.length = m) : OIn N w' v' (bs ++ cs) ∧ From N w0 w' := by
  subst hm
  have ho := hap.own
  rw [← List.map_append, ← List.length_append] at ho
  refine ⟨⟨ho, fun k hk => ?_⟩, h0.no_any.trans hap.fr (fun k hk => .inl (h.new k hk))⟩
  rcases hap.atOr (Nat.le_refl _) k hk with e | e
  · exact h.new k e
  · exact Nat.le_trans hz (Nat.le_trans h0.size e)

theorem OIn.step {N : Nat} {w0 w w' : World} {m : Nat} {v v' : Value} {bs : List UInt8} (cs : List UInt8) (h : OIn N w0 v bs) (hz : N ≤ w0.heap.size) (h0 : Fr No w0 w) (hap : Appended w 5 1 v bs.length m (bs.map byt ++ cs.map byt) v' w') (hm : cs.length = m) :
    ∃ b1, Hid (b1 = bs ++ cs) ∧ Hid (b1.length = bs.length + m) ∧ OIn N w' v' b1 ∧ From N w0 w' := by
  obtain ⟨h1, h2⟩ := h.app hz h0 hap hm
  exact ⟨bs ++ cs, rfl, by show (bs ++ cs).length = bs.length + m; rw [List.length_append, hm], h1, h2⟩

end Go.Proofs.Ytnkjhicokcmmpaa

/-
  A root's sector: what the document's Encode comes to, where a root may be.
-/
namespace Go.Proofs.Ytnkjhicokcmmpaa
open Go.RowKit Go.Shelf

/-- New bytes, in blocks from where the heap ended. -/
theorem OIn.of {w w' : World} {v : Value} {n : Nat} {bs : List UInt8} (h : Own w' 5 1 v n (bs.map byt)) (hn : bs.length = n) (h2 : ∀ k, v.ownBlock = some k → w.heap.size ≤ k) : OIn w.heap.size w' v bs := ⟨by rw [hn]; exact h, h2⟩

end Go.Proofs.Ytnkjhicokcmmpaa

/-
  A sector's root: what the program's Decode comes to.
-/
namespace Go.Proofs.Ytnkjhicokcmmpaa
open Go.RowKit Go.Shelf

/-- The root that a sector could be. -/
def rootAt (b : List UInt8) : RootD := ⟨wh ((b.drop 4).take 8), (wh ((b.drop 12).take 4) : Nat), wh ((b.drop 16).take 4)⟩
/-- A sector's root. -/
def decRoot (b : List UInt8) : Option RootD := if b.length = 128 ∧ (rootAt b).ok = true ∧ rootBytes (rootAt b) = b then some (rootAt b) else none
def RootD.zero : RootD := ⟨0, 0, 0⟩
def decV (b : List UInt8) : Value := .agg ((decRoot b).getD .zero).cells.toArray
def decE (b : List UInt8) : Int := if (decRoot b).isSome then 0 else 60
theorem dec_some {b : List UInt8} {r : RootD} (hX : b.length = 128 → r = rootAt b) (hok : r.ok = true) (h : rootBytes r = b) : decRoot b = some r := by
  have hl : b.length = 128 := by rw [← h]; exact rootBytes_len r
  have := hX hl
  subst this
  unfold decRoot
  rw [if_pos ⟨hl, hok, h⟩]
theorem dec_none {b : List UInt8} {r : RootD} (hX : b.length = 128 → r = rootAt b) (h : r.ok = false ∨ rootBytes r ≠ b) : decRoot b = none := by
  unfold decRoot
  refine if_neg (fun ⟨h1, h2, h3⟩ => ?_)
  rw [← hX h1] at h2 h3
  rcases h with h | h
  · rw [h] at h2; cases h2
  · exact h h3

/-- What changes the block just behind the heap alone changes nothing that was there. -/
theorem Fr.fresh {w w' : World} (h : Fr (fun k => k = w.heap.size) w w') : Fr No w w' := ⟨h.os, h.tape, h.output, h.size, fun k hk _ => h.block k hk (by omega)⟩

set_option maxRecDepth 100000 in
set_option maxHeartbeats 1000000 in
theorem decode_any (a : Option Addr) (n c : Nat) (b : List UInt8) (w : World) (h : Win w a n c (b.map byt)) (hb : n ≤ 1000) :
    Calls Try.prog 20 #[.slice a n c] w fun e w' => e = .returned (.tuple #[decV b, .int .i64 (decE b)]) ∧ Fr No w w' := by
  have hbl : b.length = n := by have := h.len; simpa using this
  have hbm : b.length ≤ 1000000 := by omega
  have kB : Blk (w.alloc (.cells #[.int .u64 0, .int .i64 0, .int .u32 0] 25)) w.heap.size 25 [.int .u64 0, .int .i64 0, .int .u32 0] := Blk.new w _ _
  have f0 : Fr No w (w.alloc (.cells #[.int .u64 0, .int .i64 0, .int .u32 0] 25)) := (Fr.refl No w).alloc _
  have hz0 : w.heap.size < (w.alloc (.cells #[.int .u64 0, .int .i64 0, .int .u32 0] 25)).heap.size := by simp
  have HBL := Lib.hid hbl
  clear hbl
  go_enter Try.func20, Try.ntmps20
  go_wp2_with fail
  generalize w.alloc (.cells #[.int .u64 0, .int .i64 0, .int .u32 0] 25) = w0 at *
  refine (readN a n c b _ (h.no f0) (by omega)).mono ?_
  rintro e w1 ⟨rb, v, rfl, h1, g1⟩
  go_wp2_with fail
  refine (rrawN w0.heap.size rb 0 4 v b hbm _ g1.size h1).mono ?_
  rintro e w2 ⟨u2, c2, m2, p2, cs2, rfl, _, _, _, e2, h2, g2⟩
  have E2 := Lib.hid e2
  clear e2 h1
  go_wp2_with fail
  refine (rnumN w0.heap.size rb p2 8 v b hbm (by omega) _ h2).mono ?_
  rintro e w3 ⟨x3, c3, p3, rfl, l3, e3, h3, g3⟩
  have E3 := Lib.hid e3
  clear e3 h2
  go_wp2_with fail
  refine (rnumN w0.heap.size rb p3 4 v b hbm (by omega) _ h3).mono ?_
  rintro e w4 ⟨x4, c4, p4, rfl, l4, e4, h4, g4⟩
  have E4 := Lib.hid e4
  clear e4 h3
  go_wp2_with fail
  refine (rnumN w0.heap.size rb p4 4 v b hbm (by omega) _ h4).mono ?_
  rintro e w5 ⟨x5, c5, p5, rfl, l5, e5, h5, g5⟩
  have E5 := Lib.hid e5
  clear e5 h4
  have hX : b.length = 128 → (⟨x3, (x4 : Int), x5⟩ : RootD) = rootAt b := by
    intro hl
    obtain ⟨-, -, hp2⟩ := E2.out (by omega)
    obtain ⟨hx3, hp3⟩ := E3.out (by omega)
    obtain ⟨hx4, hp4⟩ := E4.out (by omega)
    obtain ⟨hx5, hp5⟩ := E5.out (by omega)
    unfold rootAt
    rw [hx3, hx4, hx5, hp4, hp3, hp2]
  have hF : RootD.Fits ⟨x3, (x4 : Int), x5⟩ := ⟨by simpa using l3, by simpa using l5⟩
  have hall : From w0.heap.size w0 w5 := From.t (g1.no_any) ((From.t g2 g3).t (From.t g4 g5))
  have k5 := kB.from hall hz0
  have hw4 : wrap64 (x4 : Int) = (x4 : Int) := Go.IntWalk.wrap64_in _ (by simp at l4; omega)
  have hw5 : IntKind.u32.wrap (x5 : Int) = (x5 : Int) := wrap_u32 x5 (by simpa using l5)
  have HX := Lib.hid hX
  have HF := Lib.hid hF
  clear g1 g2 g3 g4 g5 h5 kB hX hF l3 l4 l5 E2 E3 E4 E5
  have hfa : Fr No w0 w0 := Fr.refl No w0
  have hfin : ∀ W : World, From w0.heap.size w0 W → Fr (fun k => k = w.heap.size) w W := fun W hW => (f0.no_any (S := fun k => k = w.heap.size)).trans hW (fun k hk => .inr (by omega))
  have HFIN := Lib.hid hfin
  clear hfin hfa
  obtain ⟨X, hXd⟩ : ∃ X : RootD, X = ⟨x3, (x4 : Int), x5⟩ := ⟨_, rfl⟩
  rcases Bool.eq_false_or_eq_true X.ok with hok | hok
  · go_wp2_with fail
    have fb : Fr No w5 (w5.alloc (.cells #[.int .u64 x3, .int .i64 x4, .int .u32 x5] 25)) := (Fr.refl No w5).alloc _
    have kX : Blk (w5.alloc (.cells #[.int .u64 x3, .int .i64 x4, .int .u32 x5] 25)) w5.heap.size 25 [.int .u64 x3, .int .i64 x4, .int .u32 x5] := Blk.new w5 _ _
    refine (encode_ok ⟨x3, (x4 : Int), x5⟩ HF.out (by rw [← hXd]; exact hok) _).mono ?_
    rintro e w6 ⟨g6, c6, rfl, o6, n6, f6⟩
    have k6 := (k5.fr fb (No.no _)).fr f6 (No.no _)
    have kX6 := kX.fr f6 (No.no _)
    have hw6 : Win w6 a n c (b.map byt) := h.old (S := fun k => w0.heap.size ≤ k) (f0.no_any.trans (hall.t ((fb.thn f6).no_any)) (fun k hk => .inl hk)) (fun k hk => by omega)
    rw [← hXd] at o6
    have HX2 := Lib.hid hXd
    clear hXd
    have q0 := kX6.cell (j := 0) rfl
    have q1 := kX6.cell (j := 1) rfl
    have q2 := kX6.cell (j := 2) rfl
    have rl := k6.lt
    have rf := k6.free
    have r0 := k6.cell (j := 0) rfl
    have r1 := k6.cell (j := 1) rfl
    have r2 := k6.cell (j := 2) rfl
    have hall6 : From w0.heap.size w0 w6 := hall.t ((fb.thn f6).no_any)
    by_cases heq : rootBytes X = b
    · have hd : decide (rootBytes X = b) = true := decide_eq_true heq
      have hdec : decRoot b = some X := dec_some (by rw [HX2.out]; exact HX.out) hok heq
      have HD := Lib.hid hdec
      clear hdec heq
      go_wp2_with (go_at_call 74; refine (equal_any _ _ 128 c6 n c (rootBytes X) b _ (Win.of_own' o6) hw6).mono ?_; rintro e w7 ⟨rfl, rfl⟩; rw [hd])
      have kE : Blk (((w6.setCell ⟨w.heap.size, 0, none⟩ (.int .u64 x3)).setCell ⟨w.heap.size, 1, none⟩ (.int .i64 x4)).setCell ⟨w.heap.size, 2, none⟩ (.int .u32 x5)) w.heap.size 25 [.int .u64 x3, .int .i64 x4, .int .u32 x5] := ((k6.set 0 _).set 1 _).set 2 _
      have z0 := kE.cell (j := 0) rfl
      have z1 := kE.cell (j := 1) rfl
      have z2 := kE.cell (j := 2) rfl
      refine bodyPost_ret (v := .tuple #[decV b, .int .i64 (decE b)]) ?_ rfl ⟨rfl, ?_⟩
      · unfold decV decE
        rw [HD.out, HX2.out]
        simp [results, Try.results20, go_sem, z0, z1, z2, RootD.cells]
      · exact (((HFIN.out w6 hall6).setCell (p := ⟨w.heap.size, 0, none⟩) (.inl rfl) _).setCell (p := ⟨w.heap.size, 1, none⟩) (.inl rfl) _).setCell (p := ⟨w.heap.size, 2, none⟩) (.inl rfl) _ |>.fresh
    · have hd : decide (rootBytes X = b) = false := decide_eq_false heq
      have hdec : decRoot b = none := dec_none (by rw [HX2.out]; exact HX.out) (.inr heq)
      have HD := Lib.hid hdec
      clear hdec heq
      go_wp2_with (go_at_call 74; refine (equal_any _ _ 128 c6 n c (rootBytes X) b _ (Win.of_own' o6) hw6).mono ?_; rintro e w7 ⟨rfl, rfl⟩; rw [hd])
      have kE : Blk (((w6.setCell ⟨w.heap.size, 0, none⟩ (.int .u64 0)).setCell ⟨w.heap.size, 1, none⟩ (.int .i64 0)).setCell ⟨w.heap.size, 2, none⟩ (.int .u32 0)) w.heap.size 25 [.int .u64 0, .int .i64 0, .int .u32 0] := ((k6.set 0 _).set 1 _).set 2 _
      have z0 := kE.cell (j := 0) rfl
      have z1 := kE.cell (j := 1) rfl
      have z2 := kE.cell (j := 2) rfl
      refine bodyPost_ret (v := .tuple #[decV b, .int .i64 (decE b)]) ?_ rfl ⟨rfl, ?_⟩
      · unfold decV decE
        rw [HD.out]
        simp [results, Try.results20, go_sem, z0, z1, z2, RootD.cells, RootD.zero]
      · exact (((HFIN.out w6 hall6).setCell (p := ⟨w.heap.size, 0, none⟩) (.inl rfl) _).setCell (p := ⟨w.heap.size, 1, none⟩) (.inl rfl) _).setCell (p := ⟨w.heap.size, 2, none⟩) (.inl rfl) _ |>.fresh
  · have hdec : decRoot b = none := dec_none (by rw [hXd]; exact HX.out) (.inl hok)
    have HD := Lib.hid hdec
    clear hdec
    go_wp2_with fail
    have fb : Fr No w5 (w5.alloc (.cells #[.int .u64 x3, .int .i64 x4, .int .u32 x5] 25)) := (Fr.refl No w5).alloc _
    refine (encode_bad ⟨x3, (x4 : Int), x5⟩ (by rw [← hXd]; exact hok) _).mono ?_
    rintro e w6 ⟨rfl, f6⟩
    have k6 := (k5.fr fb (No.no _)).fr f6 (No.no _)
    have hall6 : From w0.heap.size w0 w6 := hall.t ((fb.thn f6).no_any)
    have rl := k6.lt
    have rf := k6.free
    have r0 := k6.cell (j := 0) rfl
    have r1 := k6.cell (j := 1) rfl
    have r2 := k6.cell (j := 2) rfl
    clear hXd
    go_wp2
    have kE : Blk (((w6.setCell ⟨w.heap.size, 0, none⟩ (.int .u64 0)).setCell ⟨w.heap.size, 1, none⟩ (.int .i64 0)).setCell ⟨w.heap.size, 2, none⟩ (.int .u32 0)) w.heap.size 25 [.int .u64 0, .int .i64 0, .int .u32 0] := ((k6.set 0 _).set 1 _).set 2 _
    have z0 := kE.cell (j := 0) rfl
    have z1 := kE.cell (j := 1) rfl
    have z2 := kE.cell (j := 2) rfl
    refine bodyPost_ret (v := .tuple #[decV b, .int .i64 (decE b)]) ?_ rfl ⟨rfl, ?_⟩
    · unfold decV decE
      rw [HD.out]
      simp [results, Try.results20, go_sem, z0, z1, z2, RootD.cells, RootD.zero]
    · exact (((HFIN.out w6 hall6).setCell (p := ⟨w.heap.size, 0, none⟩) (.inl rfl) _).setCell (p := ⟨w.heap.size, 1, none⟩) (.inl rfl) _).setCell (p := ⟨w.heap.size, 2, none⟩) (.inl rfl) _ |>.fresh

end Go.Proofs.Ytnkjhicokcmmpaa

/-
  A sector's root: what the document's Decode comes to.
-/
namespace Go.Proofs.Ytnkjhicokcmmpaa
open Go.RowKit Go.Shelf

end Go.Proofs.Ytnkjhicokcmmpaa

/-
  The walk through RootForms.
-/
namespace Go.Proofs.Ytnkjhicokcmmpaa
open Go.RowKit Go.Shelf

end Go.Proofs.Ytnkjhicokcmmpaa

/-
  A root is read from its sector as it was (plain).
-/
namespace Go.Proofs.Ytnkjhicokcmmpaa
open Go.RowKit

theorem wh_foldl (l : List UInt8) : ∀ x : Nat, l.foldl (fun n c => n * 256 + c.toNat) x = x * 256 ^ l.length + wh l := by
  induction l with
  | nil => intro x; simp [wh]
  | cons c l ih =>
    intro x
    have h0 : wh (c :: l) = c.toNat * 256 ^ l.length + wh l := by
      show l.foldl _ (0 * 256 + c.toNat) = _
      rw [ih]; simp
    rw [h0, List.foldl_cons, ih, List.length_cons, Nat.pow_succ]
    rw [Nat.add_mul, Nat.mul_assoc, Nat.mul_comm 256, Nat.add_assoc]
theorem wh_cons (c : UInt8) (l : List UInt8) : wh (c :: l) = c.toNat * 256 ^ l.length + wh l := by
  show l.foldl _ (0 * 256 + c.toNat) = _
  rw [wh_foldl]; simp
theorem wh_num : ∀ (s n : Nat), wh (num s n) = n % 256 ^ s
  | 0, n => by simp [num, numTo, wh, Nat.mod_one]
  | s + 1, n => by
    rw [num_succ, wh_cons, num_len, wh_num s n, Nat.pow_succ, Nat.mod_mul, Nat.mul_comm, Nat.add_comm]
    congr 2
    have e : (2 : Nat) ^ (8 * s) = 256 ^ s := by rw [Nat.pow_mul]
    rw [e]
    simp
theorem wh_num' {s n : Nat} (h : n < 256 ^ s) : wh (num s n) = n := by rw [wh_num, Nat.mod_eq_of_lt h]
theorem take_at (A B C : List UInt8) (k m : Nat) (hk : A.length = k) (hm : B.length = m) : ((A ++ (B ++ C)).drop k).take m = B := by
  subst hk hm
  simp
theorem wh_lt8 (l : List UInt8) (h : l.length ≤ 8) : wh l < 2 ^ 64 := by
  have h1 := wh_lt l
  have h2 : 256 ^ l.length ≤ 256 ^ 8 := Nat.pow_le_pow_right (by decide) h
  have h3 : (256 : Nat) ^ 8 = 2 ^ 64 := by decide
  omega
theorem wh_lt4 (l : List UInt8) (h : l.length ≤ 4) : wh l < 2 ^ 32 := by
  have h1 := wh_lt l
  have h2 : 256 ^ l.length ≤ 256 ^ 4 := Nat.pow_le_pow_right (by decide) h
  have h3 : (256 : Nat) ^ 4 = 2 ^ 32 := by decide
  omega
theorem rootOk_iff {r : RootD} : r.ok = true ↔ r.n ≠ 0 ∧ 0 ≤ r.len ∧ r.len ≤ 3072 := by
  simp only [RootD.ok, Bool.and_eq_true, Bool.not_eq_true', beq_eq_false_iff_ne, decide_eq_false_iff_not]
  omega
/-- A root's sector with another number at its tail. -/
def rootTail (r : RootD) (t : Nat) : List UInt8 := rootFront r ++ num 4 (sumOf (rootFront r)) ++ num 8 t
theorem rootTail_at {r : RootD} (hf : r.Fits) (hr : r.ok = true) (t : Nat) : rootAt (rootTail r t) = r := by
  obtain ⟨n, len, sum⟩ := r
  obtain ⟨h0, h1, h2⟩ := rootOk_iff.1 hr
  have hn : n < 256 ^ 8 := hf.n
  have hs : sum < 256 ^ 4 := hf.sum
  simp only at h1 h2
  have hl : len.toNat < 256 ^ 4 := by omega
  have e1 : rootTail ⟨n, len, sum⟩ t = [81, 82, 1, 0] ++ (num 8 n ++ (num 4 len.toNat ++ (num 4 sum ++ (List.replicate 96 0 ++ (num 4 (sumOf (rootFront ⟨n, len, sum⟩)) ++ num 8 t))))) := by
    unfold rootTail
    rw [show rootFront ⟨n, len, sum⟩ = [81, 82, 1, 0] ++ num 8 n ++ num 4 len.toNat ++ num 4 sum ++ List.replicate 96 0 from rfl]
    simp only [List.append_assoc]
  unfold rootAt
  rw [e1]
  have f1 : (([81, 82, 1, 0] ++ (num 8 n ++ (num 4 len.toNat ++ (num 4 sum ++ (List.replicate 96 0 ++ (num 4 (sumOf (rootFront ⟨n, len, sum⟩)) ++ num 8 t))))) : List UInt8).drop 4).take 8 = num 8 n := take_at _ _ _ 4 8 rfl (num_len _ _)
  have f2 : (([81, 82, 1, 0] ++ (num 8 n ++ (num 4 len.toNat ++ (num 4 sum ++ (List.replicate 96 0 ++ (num 4 (sumOf (rootFront ⟨n, len, sum⟩)) ++ num 8 t))))) : List UInt8).drop 12).take 4 = num 4 len.toNat := by
    rw [← List.append_assoc]; exact take_at _ _ _ 12 4 (by simp [num_len]) (num_len _ _)
  have f3 : (([81, 82, 1, 0] ++ (num 8 n ++ (num 4 len.toNat ++ (num 4 sum ++ (List.replicate 96 0 ++ (num 4 (sumOf (rootFront ⟨n, len, sum⟩)) ++ num 8 t))))) : List UInt8).drop 16).take 4 = num 4 sum := by
    rw [← List.append_assoc, ← List.append_assoc]; exact take_at _ _ _ 16 4 (by simp [num_len]) (num_len _ _)
  rw [f1, f2, f3, wh_num' hn, wh_num' hl, wh_num' hs]
  congr 1
  omega
theorem dec_of_root {r : RootD} (hf : r.Fits) (hr : r.ok = true) : decRoot (rootBytes r) = some r :=
  dec_some (fun _ => (rootTail_at hf hr r.n).symm) hr rfl
/-- What a sector of a root is. -/
theorem dec_root_inv {b : List UInt8} {r : RootD} (h : decRoot b = some r) : rootBytes r = b ∧ r.ok = true ∧ r.Fits ∧ b.length = 128 := by
  unfold decRoot at h
  split at h
  · rename_i hc
    obtain ⟨h1, h2, h3⟩ := hc
    simp only [Option.some.injEq] at h
    subst h
    refine ⟨h3, h2, ⟨?_, ?_⟩, h1⟩
    · exact wh_lt8 _ (by rw [List.length_take]; omega)
    · exact wh_lt4 _ (by rw [List.length_take]; omega)
  · cases h
end Go.Proofs.Ytnkjhicokcmmpaa

/-
  The contracts of the root's forms, for the symbolic machine.
-/
namespace Go.Proofs.Ytnkjhicokcmmpaa.Sm
open Go Go.RowKit

/-- A root's fields. -/
def rootP (x : AV) : Option (RootD × Prop) := match aggP x with
  | some [a, b, c] => match intA a, intA b, intA c with
    | some (.u64, n), some (.i64, L), some (.u32, s) => some (⟨n.toNat, L, s.toNat⟩, (0 ≤ n ∧ n < 18446744073709551616) ∧ 0 ≤ s ∧ s < 4294967296)
    | _, _, _ => none
  | _ => none
theorem rootP_sound {ρ : Env} {x : AV} {u : Value} {r : RootD × Prop} (h : rootP x = some r) (hC : r.2) (hx : VR ρ x u) : u = .agg r.1.cells.toArray ∧ r.1.Fits := by
  unfold rootP at h
  split at h
  · rename_i a b c hl
    split at h
    · rename_i n L s ha hb hc
      cases h
      obtain ⟨⟨h1, h2⟩, h3, h4⟩ := hC
      obtain ⟨vs, rfl, k⟩ := aggP_sound hl hx
      cases k with
      | cons e1 k =>
      cases k with
      | cons e2 k =>
      cases k with
      | cons e3 k =>
      cases k
      obtain rfl := intA_sound ha e1
      obtain rfl := intA_sound hb e2
      obtain rfl := intA_sound hc e3
      refine ⟨?_, ⟨?_, ?_⟩⟩
      · simp only [RootD.cells]
        rw [Int.toNat_of_nonneg h1, Int.toNat_of_nonneg h3]
      · show n.toNat < 2 ^ 64
        omega
      · show s.toNat < 2 ^ 32
        omega
    · cases h
  · cases h
def rootAV (r : RootD) : List AV := [.sy (.int .u64 (r.n : Int)), .sy (.int .i64 r.len), .sy (.int .u32 (r.sum : Int))]
theorem rootAV_VR (ρ : Env) (r : RootD) : VR ρ (.agg (rootAV r)) (.agg r.cells.toArray) := .agg (.cons (.sy _) (.cons (.sy _) (.cons (.sy _) .nil)))
def rencB (r : RootD) : List UInt8 := if r.ok = true then rootBytes r else []
def rencE (r : RootD) : Int := if r.ok = true then 0 else 60
def rencF : CF := oneF 18 fun args H n => match args with
  | [x] => match rootP x with
    | some r => some ((.tup [.ow n (rencB r.1).length, .sy (.int .i64 (rencE r.1))], tput H n (.bb 5 (rencB r.1)), n + 1), r.2)
    | none => none
  | _ => none
theorem rencF_ok : FOk Try.prog rencF := by
  refine oneF_ok tab Try.func18 (by kernel_rfl) ?_
  intro args H n r h hc w0 ρ w vs hr hvs
  split at h
  · rename_i ax
    split at h
    · rename_i r hra
      cases h
      cases hvs with
      | cons e1 t1 =>
      cases t1
      obtain ⟨rfl, hfit⟩ := rootP_sound hra hc e1
      simp only [rencB, rencE]
      by_cases hq : r.1.ok = true
      · simp only [if_pos hq]
        have hl := rootBytes_len r.1
        rw [hl]
        refine (encode_ok r.1 hfit hq w).mono ?_
        rintro o w' ⟨g, cg, rfl, hown, hg, hfr⟩
        obtain ⟨sp, hB, h1, h2, h3, h4⟩ := hown.blk
        obtain ⟨q1, q2⟩ := hr.newB (c := cg) (B := .bb 5 (rootBytes r.1)) hfr hB hg rfl ⟨sp, rfl, by simpa using h2, h4⟩
        exact ⟨_, _, rfl, .tup (.cons (.ow 128 (Env.set_same _ _ _) h3 h4) (.cons (.sy _) .nil)), q1, q2⟩
      · simp only [if_neg hq]
        refine (encode_bad r.1 (by simpa using hq) w).mono ?_
        rintro o w' ⟨rfl, hfr⟩
        exact ⟨ρ, _, rfl, .tup (.cons (.ow0 _) (.cons (.sy _) .nil)), (hr.old hfr).put _, Ext.put (hr.old hfr) _⟩
    · cases h
  · cases h
def decR (b : List UInt8) : RootD := (decRoot b).getD .zero
def rdecF : CF := oneF 20 fun args H n => match args with
  | [p] => match bsrc p H with
    | some b => some ((.tup [.agg (rootAV (decR b.1)), .sy (.int .i64 (decE b.1))], H, n), b.2 ∧ b.1.length ≤ 1000)
    | none => none
  | _ => none
theorem rdecF_ok : FOk Try.prog rdecF := by
  refine oneF_ok tab Try.func20 (by kernel_rfl) ?_
  intro args H n r h hc w0 ρ w vs hr hvs
  split at h
  · rename_i ap
    split at h
    · rename_i b hp
      cases h
      cases hvs with
      | cons e1 t1 =>
      cases t1
      obtain ⟨a, c, rfl, hw⟩ := bsrc_sound hr hp hc.1 e1
      refine (decode_any a b.1.length c b.1 w hw hc.2).mono ?_
      rintro o w' ⟨rfl, hfr⟩
      exact ⟨ρ, _, rfl, .tup (.cons (rootAV_VR ρ _) (.cons (.sy _) .nil)), hr.old hfr, Ext.refl _ _ _⟩
    · cases h
  · cases h
end Go.Proofs.Ytnkjhicokcmmpaa.Sm

/-
  Save and Load as contracts.
-/
namespace Go.Proofs.Ytnkjhicokcmmpaa.Sm
open Go Go.RowKit
noncomputable abbrev S8 : Sy := sym Try.prog (orF diskF0 (orF rencF rdecF)) diskG0
theorem s8_ok : S8.Ok Try.prog := sym_ok (orF_ok diskF0_ok (orF_ok rencF_ok rdecF_ok)) diskG0_ok tab mix
/-- A root is saved. -/
def saveD (d : DiskD) (r : RootD) : DiskD × Int :=
  if r.ok = false then (d, 60) else if (writeD d ((r.n : Int) % 2) (rootBytes r)).2 ≠ 0 then writeD d ((r.n : Int) % 2) (rootBytes r) else flushD (writeD d ((r.n : Int) % 2) (rootBytes r)).1
def evenR (b : List UInt8) : Option RootD := if decE b = 0 ∧ ((decR b).n : Int) % 2 = 0 then some (decR b) else none
def oddR (b : List UInt8) : Option RootD := if decE b = 0 ∧ ((decR b).n : Int) % 2 = 1 then some (decR b) else none
theorem evenR_no {b : List UInt8} (h : ¬ decE b = 0) : evenR b = none := if_neg (fun q => h q.1)
theorem evenR_no2 {b : List UInt8} (h : ¬ ((decR b).n : Int) % 2 = 0) : evenR b = none := if_neg (fun q => h q.2)
theorem evenR_yes {b : List UInt8} (h : decE b = 0) (h2 : ((decR b).n : Int) % 2 = 0) : evenR b = some (decR b) := if_pos ⟨h, h2⟩
theorem oddR_no {b : List UInt8} (h : ¬ decE b = 0) : oddR b = none := if_neg (fun q => h q.1)
theorem oddR_no2 {b : List UInt8} (h : ¬ ((decR b).n : Int) % 2 = 1) : oddR b = none := if_neg (fun q => h q.2)
theorem oddR_yes {b : List UInt8} (h : decE b = 0) (h2 : ((decR b).n : Int) % 2 = 1) : oddR b = some (decR b) := if_pos ⟨h, h2⟩
theorem par_lt {a b : Nat} (h : ¬ a < b) (h1 : (a : Int) % 2 = 0) (h2 : (b : Int) % 2 = 1) : b < a := by omega
def bothL : Option RootD → Option RootD → List RootD
  | some a, some b => if b.n < a.n then [a, b] else [b, a]
  | some a, none => [a]
  | none, some b => [b]
  | none, none => []
/-- A disk's roots that count. -/
def bothD (d : DiskD) : List RootD × Int := match (readD d 0).1 with
  | none => ([], (readD d 0).2)
  | some a => match (readD d 1).1 with
    | none => ([], (readD d 1).2)
    | some b => (bothL (evenR a) (oddR b), 0)
def loadD (d : DiskD) : RootD × Int := ((bothD d).1.headD .zero, (bothD d).2)
theorem load_none0 {d : DiskD} (h : (readD d 0).1 = none) : loadD d = (.zero, (readD d 0).2) := by
  have : bothD d = ([], (readD d 0).2) := by unfold bothD; rw [h]
  unfold loadD; rw [this]; rfl
theorem load_none1 {d : DiskD} {a : List UInt8} (ha : readD d 0 = (some a, 0)) (h : (readD d 1).1 = none) : loadD d = (.zero, (readD d 1).2) := by
  have : bothD d = ([], (readD d 1).2) := by unfold bothD; rw [ha, h]
  unfold loadD; rw [this]; rfl
theorem load_both {d : DiskD} {a b : List UInt8} (ha : readD d 0 = (some a, 0)) (hb : readD d 1 = (some b, 0)) : loadD d = ((bothL (evenR a) (oddR b)).headD .zero, 0) := by
  have : bothD d = (bothL (evenR a) (oddR b), 0) := by unfold bothD; rw [ha, hb]
  unfold loadD; rw [this]
theorem load_end {d : DiskD} {x : AV} {H : Tr AB} {X : RootD} {E : Int} (hw : loadD d = (X, E)) (hx : leA x (.tup [.agg (rootAV X), .sy (.int .i64 E)])) (hH : H.get 0 = some (.obj (.disk d))) :
    leA x (.tup [.agg (rootAV (loadD d).1), .sy (.int .i64 (loadD d).2)]) ∧ endL [.obj (.disk d)] 0 H ∧ endE [] H := by
  rw [hw]
  exact ⟨hx, ⟨⟨_, hH, leB_refl _⟩, trivial⟩, trivial⟩
theorem readD_none {d : DiskD} {z : Int} (h : (readD d z).1.isSome = false) : (readD d z).1 = none ∧ ¬ (readD d z).2 = 0 := by
  unfold readD at *
  split at h
  · rename_i h1; rw [if_pos h1]; exact ⟨rfl, by decide⟩
  · rename_i h1
    rw [if_neg h1]
    split at h
    · rename_i h2; rw [if_pos h2]; exact ⟨rfl, by decide⟩
    · rename_i h2
      rw [if_neg h2]
      split at h
      · rename_i h3; rw [if_pos h3]; exact ⟨rfl, by decide⟩
      · cases h
theorem rencE_zero {r : RootD} (h : rencE r = 0) : r.ok = true ∧ rencB r = rootBytes r := by
  unfold rencE at h
  by_cases hq : r.ok = true
  · exact ⟨hq, if_pos hq⟩
  · rw [if_neg hq] at h; cases h
set_option maxHeartbeats 4000000 in
set_option maxRecDepth 100000 in
theorem save_to (hS : S8.Ok Try.prog) (d : DiskD) (r : RootD) (n : Nat) (hf : r.Fits) (hd : d.In n) (hn : n < 1000000000) : To S8 Try.prog 26 (startOf Try.prog 26 [.ptr 0 0, .agg (rootAV r)] (memF [.obj (.disk d)] 0 .e) 1) (fun x H' _ => leA x (.sy (.int .i64 (saveD d r).2)) ∧ endL [.obj (.disk (saveD d r).1)] 0 H' ∧ endE [] H') := by
  have f1 := hf.n
  have f2 := hf.sum
  have hF := hd.fine
  have hT : List.take (rencB r).length (rencB r) = rencB r := List.take_length
  refine To.run hS 5000 (C := ((0 : Int) ≤ (↑(RootD.n r) : Int) ∧ (↑(RootD.n r) : Int) < (18446744073709551616 : Int)) ∧ (0 : Int) ≤ (↑(RootD.sum r) : Int) ∧ (↑(RootD.sum r) : Int) < (4294967296 : Int)) (by kernel_rfl) (by (and_intros <;> try first | exact True.intro | with_reducible rfl | omega | with_reducible assumption | (refine fits_i64 ?_ ?_ <;> omega) | (refine fits_u64 ?_ ?_ <;> omega))) ?_
  refine To.brn hS (rencE r = (0 : Int)) (C := True) (by kernel_rfl) (by kernel_rfl) (by (and_intros <;> try first | exact True.intro | with_reducible rfl | omega | with_reducible assumption | (refine fits_i64 ?_ ?_ <;> omega) | (refine fits_u64 ?_ ?_ <;> omega))) ?_ ?_
  · intro h1
    have hq : r.ok = false := by
      cases hc : r.ok with
      | false => rfl
      | true => exact absurd (if_pos hc) h1
    have e0 : rencE r = 60 := by unfold rencE; rw [hq]; rfl
    have hw : saveD d r = (d, 60) := by unfold saveD; rw [if_pos hq]
    refine To.run hS 5000 (C := True) (by kernel_rfl) (by (and_intros <;> try first | exact True.intro | with_reducible rfl | omega | with_reducible assumption | (refine fits_i64 ?_ ?_ <;> omega) | (refine fits_u64 ?_ ?_ <;> omega))) ?_
    refine To.end (AV.sy (Value.int IntKind.i64 (rencE r))) (by kernel_rfl) ?_
    exact ⟨⟨rfl, by rw [hw]; exact e0⟩, ⟨⟨.obj (.disk d), by kernel_rfl, congrArg Ob.disk (by rw [hw])⟩, trivial⟩, trivial⟩
  · intro h1
    obtain ⟨hok, hB⟩ := rencE_zero h1
    have hX : List.take (rencB r).length (rencB r) = rootBytes r := by rw [List.take_length, hB]
    refine To.run hS 5000 (C := ((0 : Int) ≤ (↑(RootD.n r) : Int) ∧ (0 : Int) < (2 : Int)) ∧ fits IntKind.i64 ((↑(RootD.n r) : Int) % (2 : Int)) ∧ List.length (rencB r) ≤ List.length (rencB r) ∧ DiskD.Fine d) (by kernel_rfl) (by (and_intros <;> try first | exact True.intro | with_reducible rfl | omega | with_reducible assumption | (refine fits_i64 ?_ ?_ <;> omega) | (refine fits_u64 ?_ ?_ <;> omega))) ?_
    refine To.brn hS (Prod.snd (writeD d ((↑(RootD.n r) : Int) % (2 : Int)) (List.take (List.length (rencB r)) (rencB r))) = (0 : Int)) (C := True) (by kernel_rfl) (by kernel_rfl) (by (and_intros <;> try first | exact True.intro | with_reducible rfl | omega | with_reducible assumption | (refine fits_i64 ?_ ?_ <;> omega) | (refine fits_u64 ?_ ?_ <;> omega))) ?_ ?_
    · intro h2
      rw [hX] at h2
      have hw : saveD d r = writeD d ((r.n : Int) % 2) (rootBytes r) := by unfold saveD; rw [if_neg (by simp [hok]), if_pos h2]
      refine To.run hS 5000 (C := True) (by kernel_rfl) (by (and_intros <;> try first | exact True.intro | with_reducible rfl | omega | with_reducible assumption | (refine fits_i64 ?_ ?_ <;> omega) | (refine fits_u64 ?_ ?_ <;> omega))) ?_
      refine To.end (AV.sy (Value.int IntKind.i64 (Prod.snd (writeD d ((↑(RootD.n r) : Int) % (2 : Int)) (List.take (List.length (rencB r)) (rencB r)))))) (by kernel_rfl) ?_
      exact ⟨⟨rfl, by rw [hw, hX]⟩, ⟨⟨.obj (.disk (writeD d ((r.n : Int) % 2) (List.take (rencB r).length (rencB r))).1), by kernel_rfl, congrArg Ob.disk (by rw [hw, hX])⟩, trivial⟩, trivial⟩
    · intro h2
      rw [hX] at h2
      have hw : saveD d r = flushD (writeD d ((r.n : Int) % 2) (rootBytes r)).1 := by unfold saveD; rw [if_neg (by simp [hok]), if_neg (by simp [h2])]
      refine To.run hS 5000 (C := DiskD.Fine (Prod.fst (writeD d ((↑(RootD.n r) : Int) % (2 : Int)) (List.take (List.length (rencB r)) (rencB r))))) (by kernel_rfl) ?_ ?_; (and_intros <;> try first | exact True.intro | with_reducible rfl | omega | with_reducible assumption | (refine fits_i64 ?_ ?_ <;> omega) | (refine fits_u64 ?_ ?_ <;> omega))
      · exact (hd.write hn _ _).fine
      refine To.end (AV.sy (Value.int IntKind.i64 ((fun d ↦ Prod.snd (flushD d)) (Prod.fst (writeD d ((↑(RootD.n r) : Int) % (2 : Int)) (List.take (List.length (rencB r)) (rencB r))))))) (by kernel_rfl) ?_
      exact ⟨⟨rfl, by rw [hw, hX]⟩, ⟨⟨.obj (.disk (flushD (writeD d ((r.n : Int) % 2) (List.take (rencB r).length (rencB r))).1).1), by kernel_rfl, congrArg Ob.disk (by rw [hw, hX])⟩, trivial⟩, trivial⟩
/-- A root's fields, as they lie. -/
def rootQ : AV → Option (RootD × Prop)
  | .agg [a, b, c] => match intA a, intA b, intA c with
    | some (.u64, n), some (.i64, L), some (.u32, s) => some (⟨n.toNat, L, s.toNat⟩, (0 ≤ n ∧ n < 18446744073709551616) ∧ 0 ≤ s ∧ s < 4294967296)
    | _, _, _ => none
  | _ => none
theorem intA_le {x : AV} {k : IntKind} {z y : Int} (h : intA x = some (k, z)) (e : z = y) (σ : Nat → Option Nat) : leA (renA σ x) (.sy (.int k y)) := by
  subst e
  unfold intA at h
  split at h
  · cases h; exact ⟨rfl, rfl⟩
  · cases h; exact ⟨rfl, rfl⟩
  · cases h
theorem rootQ_le {x : AV} {r : RootD × Prop} (h : rootQ x = some r) (hC : r.2) (σ : Nat → Option Nat) : leA (renA σ x) (.agg (rootAV r.1)) ∧ r.1.Fits := by
  unfold rootQ at h
  split at h
  · rename_i a b c
    split at h
    · rename_i n L s ha hb hc
      cases h
      obtain ⟨⟨h1, h2⟩, h3, h4⟩ := hC
      refine ⟨⟨intA_le ha (Int.toNat_of_nonneg h1).symm σ, intA_le hb rfl σ, intA_le hc (Int.toNat_of_nonneg h3).symm σ, trivial⟩, ⟨?_, ?_⟩⟩
      · show n.toNat < 2 ^ 64
        omega
      · show s.toNat < 2 ^ 32
        omega
    · cases h
  · cases h
/-- Roots are saved. -/
def saveF : CF := oneX 26 fun args H => match args with
  | [.ptr i 0, x] => match H.get i, rootQ x with
    | some (.obj (.disk d)), some r => some { μ := [i], args := [.ptr 0 0, .agg (rootAV r.1)], L := [.obj (.disk d)], res := .sy (.int .i64 (saveD d r.1).2), L' := [.obj (.disk (saveD d r.1).1)], E := [], C := r.2 ∧ d.In d.writes.toNat ∧ d.writes.toNat < 1000000000 }
    | _, _ => none
  | _ => none
theorem readD_some {d : DiskD} {z : Int} (h : (readD d z).1.isSome = true) : ∃ a, readD d z = (some a, 0) := by
  unfold readD at *
  split at h
  · cases h
  · split at h
    · cases h
    · split at h
      · cases h
      · rename_i h1 h2 h3
        rw [if_neg h1, if_neg h2, if_neg h3]
        exact ⟨_, rfl⟩
set_option maxHeartbeats 4000000 in
set_option maxRecDepth 100000 in
theorem load_to (hS : S8.Ok Try.prog) (d : DiskD) (hd : d.Fine) : To S8 Try.prog 28 (startOf Try.prog 28 [.ptr 0 0] (memF [.obj (.disk d)] 0 .e) 1) (fun x H' _ => leA x (.tup [.agg (rootAV (loadD d).1), .sy (.int .i64 (loadD d).2)]) ∧ endL [.obj (.disk d)] 0 H' ∧ endE [] H') := by
  refine To.run hS 5000 (C := True) (by kernel_rfl) (by (and_intros <;> try first | exact True.intro | with_reducible rfl | omega | with_reducible assumption | (refine fits_i64 ?_ ?_ <;> omega) | (refine fits_u64 ?_ ?_ <;> omega))) ?_
  refine To.br hS (Option.isSome (Prod.fst (readD d (0 : Int)))) (C := DiskD.Fine d) (by kernel_rfl) (by kernel_rfl) (by (and_intros <;> try first | exact True.intro | with_reducible rfl | omega | with_reducible assumption | (refine fits_i64 ?_ ?_ <;> omega) | (refine fits_u64 ?_ ?_ <;> omega))) ?_ ?_
  · intro h1
    obtain ⟨a, ha⟩ := readD_some h1
    have hla := readD_len hd ha
    have hA : List.take ((readD d 0).1.getD []).length ((readD d 0).1.getD []) = a := by rw [ha, Option.getD_some, List.take_length]
    refine To.run hS 5000 (C := List.length (Option.getD (Prod.fst (readD d (0 : Int))) []) ≤ List.length (Option.getD (Prod.fst (readD d (0 : Int))) []) ∧ List.length (List.take (List.length (Option.getD (Prod.fst (readD d (0 : Int))) [])) (Option.getD (Prod.fst (readD d (0 : Int))) [])) ≤ (1000 : Nat)) (by kernel_rfl) ?_ ?_; (and_intros <;> try first | exact True.intro | with_reducible rfl | omega | with_reducible assumption | (refine fits_i64 ?_ ?_ <;> omega) | (refine fits_u64 ?_ ?_ <;> omega))
    · rw [hA]; omega
    refine To.brn hS (decE (List.take (List.length (Option.getD (Prod.fst (readD d (0 : Int))) [])) (Option.getD (Prod.fst (readD d (0 : Int))) [])) = (0 : Int)) (C := True) (by kernel_rfl) (by kernel_rfl) (by (and_intros <;> try first | exact True.intro | with_reducible rfl | omega | with_reducible assumption | (refine fits_i64 ?_ ?_ <;> omega) | (refine fits_u64 ?_ ?_ <;> omega))) ?_ ?_
    · intro h2
      rw [hA] at h2
      refine To.run hS 5000 (C := True) (by kernel_rfl) (by (and_intros <;> try first | exact True.intro | with_reducible rfl | omega | with_reducible assumption | (refine fits_i64 ?_ ?_ <;> omega) | (refine fits_u64 ?_ ?_ <;> omega))) ?_
      refine To.br hS (Option.isSome (Prod.fst (readD d (1 : Int)))) (C := DiskD.Fine d) (by kernel_rfl) (by kernel_rfl) (by (and_intros <;> try first | exact True.intro | with_reducible rfl | omega | with_reducible assumption | (refine fits_i64 ?_ ?_ <;> omega) | (refine fits_u64 ?_ ?_ <;> omega))) ?_ ?_
      · intro g1
        obtain ⟨b, hb⟩ := readD_some g1
        have hlb := readD_len hd hb
        have hB : List.take ((readD d 1).1.getD []).length ((readD d 1).1.getD []) = b := by rw [hb, Option.getD_some, List.take_length]
        have hlw := load_both ha hb
        refine To.run hS 5000 (C := List.length (Option.getD (Prod.fst (readD d (1 : Int))) []) ≤ List.length (Option.getD (Prod.fst (readD d (1 : Int))) []) ∧ List.length (List.take (List.length (Option.getD (Prod.fst (readD d (1 : Int))) [])) (Option.getD (Prod.fst (readD d (1 : Int))) [])) ≤ (1000 : Nat)) (by kernel_rfl) ?_ ?_; (and_intros <;> try first | exact True.intro | with_reducible rfl | omega | with_reducible assumption | (refine fits_i64 ?_ ?_ <;> omega) | (refine fits_u64 ?_ ?_ <;> omega))
        · rw [hB]; omega
        refine To.brn hS (decE (List.take (List.length (Option.getD (Prod.fst (readD d (1 : Int))) [])) (Option.getD (Prod.fst (readD d (1 : Int))) [])) = (0 : Int)) (C := True) (by kernel_rfl) (by kernel_rfl) (by (and_intros <;> try first | exact True.intro | with_reducible rfl | omega | with_reducible assumption | (refine fits_i64 ?_ ?_ <;> omega) | (refine fits_u64 ?_ ?_ <;> omega))) ?_ ?_
        · intro g2
          rw [hB] at g2
          have hw : loadD d = (.zero, 0) := by rw [hlw, evenR_no h2, oddR_no g2]; rfl
          refine To.run hS 5000 (C := True) (by kernel_rfl) (by (and_intros <;> try first | exact True.intro | with_reducible rfl | omega | with_reducible assumption | (refine fits_i64 ?_ ?_ <;> omega) | (refine fits_u64 ?_ ?_ <;> omega))) ?_
          refine To.end (AV.tup [AV.agg [AV.v (Value.int IntKind.u64 (0 : Int)), AV.v (Value.int IntKind.i64 (0 : Int)), AV.v (Value.int IntKind.u32 (0 : Int))], AV.v (Value.int IntKind.i64 (0 : Int))]) (by kernel_rfl) ?_
          exact load_end hw ⟨⟨⟨rfl, rfl⟩, ⟨rfl, rfl⟩, ⟨rfl, rfl⟩, trivial⟩, ⟨rfl, rfl⟩, trivial⟩ (by kernel_rfl)
        · intro g2
          rw [hB] at g2
          refine To.run hS 5000 (C := ((0 : Int) ≤ (↑(RootD.n (decR (List.take (List.length (Option.getD (Prod.fst (readD d (1 : Int))) [])) (Option.getD (Prod.fst (readD d (1 : Int))) [])))) : Int) ∧ (0 : Int) < (2 : Int)) ∧ fits IntKind.i64 ((↑(RootD.n (decR (List.take (List.length (Option.getD (Prod.fst (readD d (1 : Int))) [])) (Option.getD (Prod.fst (readD d (1 : Int))) [])))) : Int) % (2 : Int)) ∧ AV.v (Value.int IntKind.i64 (1 : Int)) = AV.v (Value.int IntKind.i64 (1 : Int))) (by kernel_rfl) (by (and_intros <;> try first | exact True.intro | with_reducible rfl | omega | with_reducible assumption | (refine fits_i64 ?_ ?_ <;> omega) | (refine fits_u64 ?_ ?_ <;> omega))) ?_
          refine To.brn hS ((↑(RootD.n (decR (List.take (List.length (Option.getD (Prod.fst (readD d (1 : Int))) [])) (Option.getD (Prod.fst (readD d (1 : Int))) [])))) : Int) % (2 : Int) = (1 : Int)) (C := True) (by kernel_rfl) (by kernel_rfl) (by (and_intros <;> try first | exact True.intro | with_reducible rfl | omega | with_reducible assumption | (refine fits_i64 ?_ ?_ <;> omega) | (refine fits_u64 ?_ ?_ <;> omega))) ?_ ?_
          · intro g3
            rw [hB] at g3
            have hw : loadD d = (.zero, 0) := by rw [hlw, evenR_no h2, oddR_no2 g3]; rfl
            refine To.run hS 5000 (C := True) (by kernel_rfl) (by (and_intros <;> try first | exact True.intro | with_reducible rfl | omega | with_reducible assumption | (refine fits_i64 ?_ ?_ <;> omega) | (refine fits_u64 ?_ ?_ <;> omega))) ?_
            refine To.end (AV.tup [AV.agg [AV.v (Value.int IntKind.u64 (0 : Int)), AV.v (Value.int IntKind.i64 (0 : Int)), AV.v (Value.int IntKind.u32 (0 : Int))], AV.v (Value.int IntKind.i64 (0 : Int))]) (by kernel_rfl) ?_
            exact load_end hw ⟨⟨⟨rfl, rfl⟩, ⟨rfl, rfl⟩, ⟨rfl, rfl⟩, trivial⟩, ⟨rfl, rfl⟩, trivial⟩ (by kernel_rfl)
          · intro g3
            rw [hB] at g3
            have hw : loadD d = (decR b, 0) := by rw [hlw, evenR_no h2, oddR_yes g2 g3]; rfl
            refine To.run hS 5000 (C := True) (by kernel_rfl) (by (and_intros <;> try first | exact True.intro | with_reducible rfl | omega | with_reducible assumption | (refine fits_i64 ?_ ?_ <;> omega) | (refine fits_u64 ?_ ?_ <;> omega))) ?_
            refine To.end (AV.tup [AV.agg [AV.sy (Value.int IntKind.u64 (↑(RootD.n (decR (List.take (List.length (Option.getD (Prod.fst (readD d (1 : Int))) [])) (Option.getD (Prod.fst (readD d (1 : Int))) [])))) : Int)), AV.sy (Value.int IntKind.i64 (RootD.len (decR (List.take (List.length (Option.getD (Prod.fst (readD d (1 : Int))) [])) (Option.getD (Prod.fst (readD d (1 : Int))) []))))), AV.sy (Value.int IntKind.u32 (↑(RootD.sum (decR (List.take (List.length (Option.getD (Prod.fst (readD d (1 : Int))) [])) (Option.getD (Prod.fst (readD d (1 : Int))) [])))) : Int))], AV.v (Value.int IntKind.i64 (0 : Int))]) (by kernel_rfl) ?_
            exact load_end hw ⟨⟨⟨rfl, by rw [hB]⟩, ⟨rfl, by rw [hB]⟩, ⟨rfl, by rw [hB]⟩, trivial⟩, ⟨rfl, rfl⟩, trivial⟩ (by kernel_rfl)
      · intro g1
        obtain ⟨hb, hbe⟩ := readD_none g1
        refine To.run hS 5000 (C := True ∧ (0 : Nat) ≤ (1000 : Nat)) (by kernel_rfl) (by (and_intros <;> try first | exact True.intro | with_reducible rfl | omega | with_reducible assumption | (refine fits_i64 ?_ ?_ <;> omega) | (refine fits_u64 ?_ ?_ <;> omega))) ?_
        refine To.yesn hS (decE [] = (0 : Int)) (of_decide_eq_true (by kernel_rfl)) (C := True) (by kernel_rfl) (by (and_intros <;> try first | exact True.intro | with_reducible rfl | omega | with_reducible assumption | (refine fits_i64 ?_ ?_ <;> omega) | (refine fits_u64 ?_ ?_ <;> omega))) ?_
        refine To.run hS 5000 (C := True) (by kernel_rfl) (by (and_intros <;> try first | exact True.intro | with_reducible rfl | omega | with_reducible assumption | (refine fits_i64 ?_ ?_ <;> omega) | (refine fits_u64 ?_ ?_ <;> omega))) ?_
        refine To.yesn hS (Prod.snd (readD d (1 : Int)) = (0 : Int)) (by (and_intros <;> try first | exact True.intro | with_reducible rfl | omega | with_reducible assumption | (refine fits_i64 ?_ ?_ <;> omega) | (refine fits_u64 ?_ ?_ <;> omega))) (C := True) (by kernel_rfl) (by (and_intros <;> try first | exact True.intro | with_reducible rfl | omega | with_reducible assumption | (refine fits_i64 ?_ ?_ <;> omega) | (refine fits_u64 ?_ ?_ <;> omega))) ?_
        refine To.run hS 5000 (C := True) (by kernel_rfl) (by (and_intros <;> try first | exact True.intro | with_reducible rfl | omega | with_reducible assumption | (refine fits_i64 ?_ ?_ <;> omega) | (refine fits_u64 ?_ ?_ <;> omega))) ?_
        refine To.yesn hS (Prod.snd (readD d (1 : Int)) = (0 : Int)) (by (and_intros <;> try first | exact True.intro | with_reducible rfl | omega | with_reducible assumption | (refine fits_i64 ?_ ?_ <;> omega) | (refine fits_u64 ?_ ?_ <;> omega))) (C := True) (by kernel_rfl) (by (and_intros <;> try first | exact True.intro | with_reducible rfl | omega | with_reducible assumption | (refine fits_i64 ?_ ?_ <;> omega) | (refine fits_u64 ?_ ?_ <;> omega))) ?_
        have hw : loadD d = (.zero, (readD d 1).2) := load_none1 ha hb
        refine To.run hS 5000 (C := True) (by kernel_rfl) (by (and_intros <;> try first | exact True.intro | with_reducible rfl | omega | with_reducible assumption | (refine fits_i64 ?_ ?_ <;> omega) | (refine fits_u64 ?_ ?_ <;> omega))) ?_
        refine To.end (AV.tup [AV.agg [AV.v (Value.int IntKind.u64 (0 : Int)), AV.v (Value.int IntKind.i64 (0 : Int)), AV.v (Value.int IntKind.u32 (0 : Int))], AV.sy (Value.int IntKind.i64 (Prod.snd (readD d (1 : Int))))]) (by kernel_rfl) ?_
        exact load_end hw ⟨⟨⟨rfl, rfl⟩, ⟨rfl, rfl⟩, ⟨rfl, rfl⟩, trivial⟩, ⟨rfl, rfl⟩, trivial⟩ (by kernel_rfl)
    · intro h2
      rw [hA] at h2
      refine To.run hS 5000 (C := ((0 : Int) ≤ (↑(RootD.n (decR (List.take (List.length (Option.getD (Prod.fst (readD d (0 : Int))) [])) (Option.getD (Prod.fst (readD d (0 : Int))) [])))) : Int) ∧ (0 : Int) < (2 : Int)) ∧ fits IntKind.i64 ((↑(RootD.n (decR (List.take (List.length (Option.getD (Prod.fst (readD d (0 : Int))) [])) (Option.getD (Prod.fst (readD d (0 : Int))) [])))) : Int) % (2 : Int)) ∧ AV.v (Value.int IntKind.i64 (0 : Int)) = AV.v (Value.int IntKind.i64 (0 : Int))) (by kernel_rfl) (by (and_intros <;> try first | exact True.intro | with_reducible rfl | omega | with_reducible assumption | (refine fits_i64 ?_ ?_ <;> omega) | (refine fits_u64 ?_ ?_ <;> omega))) ?_
      refine To.brn hS ((↑(RootD.n (decR (List.take (List.length (Option.getD (Prod.fst (readD d (0 : Int))) [])) (Option.getD (Prod.fst (readD d (0 : Int))) [])))) : Int) % (2 : Int) = (0 : Int)) (C := True) (by kernel_rfl) (by kernel_rfl) (by (and_intros <;> try first | exact True.intro | with_reducible rfl | omega | with_reducible assumption | (refine fits_i64 ?_ ?_ <;> omega) | (refine fits_u64 ?_ ?_ <;> omega))) ?_ ?_
      · intro h3
        rw [hA] at h3
        refine To.run hS 5000 (C := True) (by kernel_rfl) (by (and_intros <;> try first | exact True.intro | with_reducible rfl | omega | with_reducible assumption | (refine fits_i64 ?_ ?_ <;> omega) | (refine fits_u64 ?_ ?_ <;> omega))) ?_
        refine To.br hS (Option.isSome (Prod.fst (readD d (1 : Int)))) (C := DiskD.Fine d) (by kernel_rfl) (by kernel_rfl) (by (and_intros <;> try first | exact True.intro | with_reducible rfl | omega | with_reducible assumption | (refine fits_i64 ?_ ?_ <;> omega) | (refine fits_u64 ?_ ?_ <;> omega))) ?_ ?_
        · intro g1
          obtain ⟨b, hb⟩ := readD_some g1
          have hlb := readD_len hd hb
          have hB : List.take ((readD d 1).1.getD []).length ((readD d 1).1.getD []) = b := by rw [hb, Option.getD_some, List.take_length]
          have hlw := load_both ha hb
          refine To.run hS 5000 (C := List.length (Option.getD (Prod.fst (readD d (1 : Int))) []) ≤ List.length (Option.getD (Prod.fst (readD d (1 : Int))) []) ∧ List.length (List.take (List.length (Option.getD (Prod.fst (readD d (1 : Int))) [])) (Option.getD (Prod.fst (readD d (1 : Int))) [])) ≤ (1000 : Nat)) (by kernel_rfl) ?_ ?_; (and_intros <;> try first | exact True.intro | with_reducible rfl | omega | with_reducible assumption | (refine fits_i64 ?_ ?_ <;> omega) | (refine fits_u64 ?_ ?_ <;> omega))
          · rw [hB]; omega
          refine To.brn hS (decE (List.take (List.length (Option.getD (Prod.fst (readD d (1 : Int))) [])) (Option.getD (Prod.fst (readD d (1 : Int))) [])) = (0 : Int)) (C := True) (by kernel_rfl) (by kernel_rfl) (by (and_intros <;> try first | exact True.intro | with_reducible rfl | omega | with_reducible assumption | (refine fits_i64 ?_ ?_ <;> omega) | (refine fits_u64 ?_ ?_ <;> omega))) ?_ ?_
          · intro g2
            rw [hB] at g2
            have hw : loadD d = (.zero, 0) := by rw [hlw, evenR_no2 h3, oddR_no g2]; rfl
            refine To.run hS 5000 (C := True) (by kernel_rfl) (by (and_intros <;> try first | exact True.intro | with_reducible rfl | omega | with_reducible assumption | (refine fits_i64 ?_ ?_ <;> omega) | (refine fits_u64 ?_ ?_ <;> omega))) ?_
            refine To.end (AV.tup [AV.agg [AV.v (Value.int IntKind.u64 (0 : Int)), AV.v (Value.int IntKind.i64 (0 : Int)), AV.v (Value.int IntKind.u32 (0 : Int))], AV.v (Value.int IntKind.i64 (0 : Int))]) (by kernel_rfl) ?_
            exact load_end hw ⟨⟨⟨rfl, rfl⟩, ⟨rfl, rfl⟩, ⟨rfl, rfl⟩, trivial⟩, ⟨rfl, rfl⟩, trivial⟩ (by kernel_rfl)
          · intro g2
            rw [hB] at g2
            refine To.run hS 5000 (C := ((0 : Int) ≤ (↑(RootD.n (decR (List.take (List.length (Option.getD (Prod.fst (readD d (1 : Int))) [])) (Option.getD (Prod.fst (readD d (1 : Int))) [])))) : Int) ∧ (0 : Int) < (2 : Int)) ∧ fits IntKind.i64 ((↑(RootD.n (decR (List.take (List.length (Option.getD (Prod.fst (readD d (1 : Int))) [])) (Option.getD (Prod.fst (readD d (1 : Int))) [])))) : Int) % (2 : Int)) ∧ AV.v (Value.int IntKind.i64 (1 : Int)) = AV.v (Value.int IntKind.i64 (1 : Int))) (by kernel_rfl) (by (and_intros <;> try first | exact True.intro | with_reducible rfl | omega | with_reducible assumption | (refine fits_i64 ?_ ?_ <;> omega) | (refine fits_u64 ?_ ?_ <;> omega))) ?_
            refine To.brn hS ((↑(RootD.n (decR (List.take (List.length (Option.getD (Prod.fst (readD d (1 : Int))) [])) (Option.getD (Prod.fst (readD d (1 : Int))) [])))) : Int) % (2 : Int) = (1 : Int)) (C := True) (by kernel_rfl) (by kernel_rfl) (by (and_intros <;> try first | exact True.intro | with_reducible rfl | omega | with_reducible assumption | (refine fits_i64 ?_ ?_ <;> omega) | (refine fits_u64 ?_ ?_ <;> omega))) ?_ ?_
            · intro g3
              rw [hB] at g3
              have hw : loadD d = (.zero, 0) := by rw [hlw, evenR_no2 h3, oddR_no2 g3]; rfl
              refine To.run hS 5000 (C := True) (by kernel_rfl) (by (and_intros <;> try first | exact True.intro | with_reducible rfl | omega | with_reducible assumption | (refine fits_i64 ?_ ?_ <;> omega) | (refine fits_u64 ?_ ?_ <;> omega))) ?_
              refine To.end (AV.tup [AV.agg [AV.v (Value.int IntKind.u64 (0 : Int)), AV.v (Value.int IntKind.i64 (0 : Int)), AV.v (Value.int IntKind.u32 (0 : Int))], AV.v (Value.int IntKind.i64 (0 : Int))]) (by kernel_rfl) ?_
              exact load_end hw ⟨⟨⟨rfl, rfl⟩, ⟨rfl, rfl⟩, ⟨rfl, rfl⟩, trivial⟩, ⟨rfl, rfl⟩, trivial⟩ (by kernel_rfl)
            · intro g3
              rw [hB] at g3
              have hw : loadD d = (decR b, 0) := by rw [hlw, evenR_no2 h3, oddR_yes g2 g3]; rfl
              refine To.run hS 5000 (C := True) (by kernel_rfl) (by (and_intros <;> try first | exact True.intro | with_reducible rfl | omega | with_reducible assumption | (refine fits_i64 ?_ ?_ <;> omega) | (refine fits_u64 ?_ ?_ <;> omega))) ?_
              refine To.end (AV.tup [AV.agg [AV.sy (Value.int IntKind.u64 (↑(RootD.n (decR (List.take (List.length (Option.getD (Prod.fst (readD d (1 : Int))) [])) (Option.getD (Prod.fst (readD d (1 : Int))) [])))) : Int)), AV.sy (Value.int IntKind.i64 (RootD.len (decR (List.take (List.length (Option.getD (Prod.fst (readD d (1 : Int))) [])) (Option.getD (Prod.fst (readD d (1 : Int))) []))))), AV.sy (Value.int IntKind.u32 (↑(RootD.sum (decR (List.take (List.length (Option.getD (Prod.fst (readD d (1 : Int))) [])) (Option.getD (Prod.fst (readD d (1 : Int))) [])))) : Int))], AV.v (Value.int IntKind.i64 (0 : Int))]) (by kernel_rfl) ?_
              exact load_end hw ⟨⟨⟨rfl, by rw [hB]⟩, ⟨rfl, by rw [hB]⟩, ⟨rfl, by rw [hB]⟩, trivial⟩, ⟨rfl, rfl⟩, trivial⟩ (by kernel_rfl)
        · intro g1
          obtain ⟨hb, hbe⟩ := readD_none g1
          refine To.run hS 5000 (C := True ∧ (0 : Nat) ≤ (1000 : Nat)) (by kernel_rfl) (by (and_intros <;> try first | exact True.intro | with_reducible rfl | omega | with_reducible assumption | (refine fits_i64 ?_ ?_ <;> omega) | (refine fits_u64 ?_ ?_ <;> omega))) ?_
          refine To.yesn hS (decE [] = (0 : Int)) (of_decide_eq_true (by kernel_rfl)) (C := True) (by kernel_rfl) (by (and_intros <;> try first | exact True.intro | with_reducible rfl | omega | with_reducible assumption | (refine fits_i64 ?_ ?_ <;> omega) | (refine fits_u64 ?_ ?_ <;> omega))) ?_
          refine To.run hS 5000 (C := True) (by kernel_rfl) (by (and_intros <;> try first | exact True.intro | with_reducible rfl | omega | with_reducible assumption | (refine fits_i64 ?_ ?_ <;> omega) | (refine fits_u64 ?_ ?_ <;> omega))) ?_
          refine To.yesn hS (Prod.snd (readD d (1 : Int)) = (0 : Int)) (by (and_intros <;> try first | exact True.intro | with_reducible rfl | omega | with_reducible assumption | (refine fits_i64 ?_ ?_ <;> omega) | (refine fits_u64 ?_ ?_ <;> omega))) (C := True) (by kernel_rfl) (by (and_intros <;> try first | exact True.intro | with_reducible rfl | omega | with_reducible assumption | (refine fits_i64 ?_ ?_ <;> omega) | (refine fits_u64 ?_ ?_ <;> omega))) ?_
          refine To.run hS 5000 (C := True) (by kernel_rfl) (by (and_intros <;> try first | exact True.intro | with_reducible rfl | omega | with_reducible assumption | (refine fits_i64 ?_ ?_ <;> omega) | (refine fits_u64 ?_ ?_ <;> omega))) ?_
          refine To.yesn hS (Prod.snd (readD d (1 : Int)) = (0 : Int)) (by (and_intros <;> try first | exact True.intro | with_reducible rfl | omega | with_reducible assumption | (refine fits_i64 ?_ ?_ <;> omega) | (refine fits_u64 ?_ ?_ <;> omega))) (C := True) (by kernel_rfl) (by (and_intros <;> try first | exact True.intro | with_reducible rfl | omega | with_reducible assumption | (refine fits_i64 ?_ ?_ <;> omega) | (refine fits_u64 ?_ ?_ <;> omega))) ?_
          have hw : loadD d = (.zero, (readD d 1).2) := load_none1 ha hb
          refine To.run hS 5000 (C := True) (by kernel_rfl) (by (and_intros <;> try first | exact True.intro | with_reducible rfl | omega | with_reducible assumption | (refine fits_i64 ?_ ?_ <;> omega) | (refine fits_u64 ?_ ?_ <;> omega))) ?_
          refine To.end (AV.tup [AV.agg [AV.v (Value.int IntKind.u64 (0 : Int)), AV.v (Value.int IntKind.i64 (0 : Int)), AV.v (Value.int IntKind.u32 (0 : Int))], AV.sy (Value.int IntKind.i64 (Prod.snd (readD d (1 : Int))))]) (by kernel_rfl) ?_
          exact load_end hw ⟨⟨⟨rfl, rfl⟩, ⟨rfl, rfl⟩, ⟨rfl, rfl⟩, trivial⟩, ⟨rfl, rfl⟩, trivial⟩ (by kernel_rfl)
      · intro h3
        rw [hA] at h3
        refine To.run hS 5000 (C := True) (by kernel_rfl) (by (and_intros <;> try first | exact True.intro | with_reducible rfl | omega | with_reducible assumption | (refine fits_i64 ?_ ?_ <;> omega) | (refine fits_u64 ?_ ?_ <;> omega))) ?_
        refine To.br hS (Option.isSome (Prod.fst (readD d (1 : Int)))) (C := DiskD.Fine d) (by kernel_rfl) (by kernel_rfl) (by (and_intros <;> try first | exact True.intro | with_reducible rfl | omega | with_reducible assumption | (refine fits_i64 ?_ ?_ <;> omega) | (refine fits_u64 ?_ ?_ <;> omega))) ?_ ?_
        · intro g1
          obtain ⟨b, hb⟩ := readD_some g1
          have hlb := readD_len hd hb
          have hB : List.take ((readD d 1).1.getD []).length ((readD d 1).1.getD []) = b := by rw [hb, Option.getD_some, List.take_length]
          have hlw := load_both ha hb
          refine To.run hS 5000 (C := List.length (Option.getD (Prod.fst (readD d (1 : Int))) []) ≤ List.length (Option.getD (Prod.fst (readD d (1 : Int))) []) ∧ List.length (List.take (List.length (Option.getD (Prod.fst (readD d (1 : Int))) [])) (Option.getD (Prod.fst (readD d (1 : Int))) [])) ≤ (1000 : Nat)) (by kernel_rfl) ?_ ?_; (and_intros <;> try first | exact True.intro | with_reducible rfl | omega | with_reducible assumption | (refine fits_i64 ?_ ?_ <;> omega) | (refine fits_u64 ?_ ?_ <;> omega))
          · rw [hB]; omega
          refine To.brn hS (decE (List.take (List.length (Option.getD (Prod.fst (readD d (1 : Int))) [])) (Option.getD (Prod.fst (readD d (1 : Int))) [])) = (0 : Int)) (C := True) (by kernel_rfl) (by kernel_rfl) (by (and_intros <;> try first | exact True.intro | with_reducible rfl | omega | with_reducible assumption | (refine fits_i64 ?_ ?_ <;> omega) | (refine fits_u64 ?_ ?_ <;> omega))) ?_ ?_
          · intro g2
            rw [hB] at g2
            have hw : loadD d = (decR a, 0) := by rw [hlw, evenR_yes h2 h3, oddR_no g2]; rfl
            refine To.run hS 5000 (C := True) (by kernel_rfl) (by (and_intros <;> try first | exact True.intro | with_reducible rfl | omega | with_reducible assumption | (refine fits_i64 ?_ ?_ <;> omega) | (refine fits_u64 ?_ ?_ <;> omega))) ?_
            refine To.end (AV.tup [AV.agg [AV.sy (Value.int IntKind.u64 (↑(RootD.n (decR (List.take (List.length (Option.getD (Prod.fst (readD d (0 : Int))) [])) (Option.getD (Prod.fst (readD d (0 : Int))) [])))) : Int)), AV.sy (Value.int IntKind.i64 (RootD.len (decR (List.take (List.length (Option.getD (Prod.fst (readD d (0 : Int))) [])) (Option.getD (Prod.fst (readD d (0 : Int))) []))))), AV.sy (Value.int IntKind.u32 (↑(RootD.sum (decR (List.take (List.length (Option.getD (Prod.fst (readD d (0 : Int))) [])) (Option.getD (Prod.fst (readD d (0 : Int))) [])))) : Int))], AV.v (Value.int IntKind.i64 (0 : Int))]) (by kernel_rfl) ?_
            exact load_end hw ⟨⟨⟨rfl, by rw [hA]⟩, ⟨rfl, by rw [hA]⟩, ⟨rfl, by rw [hA]⟩, trivial⟩, ⟨rfl, rfl⟩, trivial⟩ (by kernel_rfl)
          · intro g2
            rw [hB] at g2
            refine To.run hS 5000 (C := ((0 : Int) ≤ (↑(RootD.n (decR (List.take (List.length (Option.getD (Prod.fst (readD d (1 : Int))) [])) (Option.getD (Prod.fst (readD d (1 : Int))) [])))) : Int) ∧ (0 : Int) < (2 : Int)) ∧ fits IntKind.i64 ((↑(RootD.n (decR (List.take (List.length (Option.getD (Prod.fst (readD d (1 : Int))) [])) (Option.getD (Prod.fst (readD d (1 : Int))) [])))) : Int) % (2 : Int)) ∧ AV.v (Value.int IntKind.i64 (1 : Int)) = AV.v (Value.int IntKind.i64 (1 : Int))) (by kernel_rfl) (by (and_intros <;> try first | exact True.intro | with_reducible rfl | omega | with_reducible assumption | (refine fits_i64 ?_ ?_ <;> omega) | (refine fits_u64 ?_ ?_ <;> omega))) ?_
            refine To.brn hS ((↑(RootD.n (decR (List.take (List.length (Option.getD (Prod.fst (readD d (1 : Int))) [])) (Option.getD (Prod.fst (readD d (1 : Int))) [])))) : Int) % (2 : Int) = (1 : Int)) (C := True) (by kernel_rfl) (by kernel_rfl) (by (and_intros <;> try first | exact True.intro | with_reducible rfl | omega | with_reducible assumption | (refine fits_i64 ?_ ?_ <;> omega) | (refine fits_u64 ?_ ?_ <;> omega))) ?_ ?_
            · intro g3
              rw [hB] at g3
              have hw : loadD d = (decR a, 0) := by rw [hlw, evenR_yes h2 h3, oddR_no2 g3]; rfl
              refine To.run hS 5000 (C := True) (by kernel_rfl) (by (and_intros <;> try first | exact True.intro | with_reducible rfl | omega | with_reducible assumption | (refine fits_i64 ?_ ?_ <;> omega) | (refine fits_u64 ?_ ?_ <;> omega))) ?_
              refine To.end (AV.tup [AV.agg [AV.sy (Value.int IntKind.u64 (↑(RootD.n (decR (List.take (List.length (Option.getD (Prod.fst (readD d (0 : Int))) [])) (Option.getD (Prod.fst (readD d (0 : Int))) [])))) : Int)), AV.sy (Value.int IntKind.i64 (RootD.len (decR (List.take (List.length (Option.getD (Prod.fst (readD d (0 : Int))) [])) (Option.getD (Prod.fst (readD d (0 : Int))) []))))), AV.sy (Value.int IntKind.u32 (↑(RootD.sum (decR (List.take (List.length (Option.getD (Prod.fst (readD d (0 : Int))) [])) (Option.getD (Prod.fst (readD d (0 : Int))) [])))) : Int))], AV.v (Value.int IntKind.i64 (0 : Int))]) (by kernel_rfl) ?_
              exact load_end hw ⟨⟨⟨rfl, by rw [hA]⟩, ⟨rfl, by rw [hA]⟩, ⟨rfl, by rw [hA]⟩, trivial⟩, ⟨rfl, rfl⟩, trivial⟩ (by kernel_rfl)
            · intro g3
              rw [hB] at g3
              refine To.run hS 5000 (C := True) (by kernel_rfl) (by (and_intros <;> try first | exact True.intro | with_reducible rfl | omega | with_reducible assumption | (refine fits_i64 ?_ ?_ <;> omega) | (refine fits_u64 ?_ ?_ <;> omega))) ?_
              refine To.brd hS ((↑(RootD.n (decR (List.take (List.length (Option.getD (Prod.fst (readD d (0 : Int))) [])) (Option.getD (Prod.fst (readD d (0 : Int))) [])))) : Int) < (↑(RootD.n (decR (List.take (List.length (Option.getD (Prod.fst (readD d (1 : Int))) [])) (Option.getD (Prod.fst (readD d (1 : Int))) [])))) : Int)) (C := True) (by kernel_rfl) (by kernel_rfl) (by (and_intros <;> try first | exact True.intro | with_reducible rfl | omega | with_reducible assumption | (refine fits_i64 ?_ ?_ <;> omega) | (refine fits_u64 ?_ ?_ <;> omega))) ?_ ?_
              · intro g4
                rw [hA, hB] at g4
                have hw : loadD d = (decR b, 0) := by rw [hlw, evenR_yes h2 h3, oddR_yes g2 g3]; exact congrArg (fun l => (List.headD l RootD.zero, (0 : Int))) (if_neg (by omega))
                refine To.run hS 5000 (C := True) (by kernel_rfl) (by (and_intros <;> try first | exact True.intro | with_reducible rfl | omega | with_reducible assumption | (refine fits_i64 ?_ ?_ <;> omega) | (refine fits_u64 ?_ ?_ <;> omega))) ?_
                refine To.end (AV.tup [AV.agg [AV.sy (Value.int IntKind.u64 (↑(RootD.n (decR (List.take (List.length (Option.getD (Prod.fst (readD d (1 : Int))) [])) (Option.getD (Prod.fst (readD d (1 : Int))) [])))) : Int)), AV.sy (Value.int IntKind.i64 (RootD.len (decR (List.take (List.length (Option.getD (Prod.fst (readD d (1 : Int))) [])) (Option.getD (Prod.fst (readD d (1 : Int))) []))))), AV.sy (Value.int IntKind.u32 (↑(RootD.sum (decR (List.take (List.length (Option.getD (Prod.fst (readD d (1 : Int))) [])) (Option.getD (Prod.fst (readD d (1 : Int))) [])))) : Int))], AV.v (Value.int IntKind.i64 (0 : Int))]) (by kernel_rfl) ?_
                exact load_end hw ⟨⟨⟨rfl, by rw [hB]⟩, ⟨rfl, by rw [hB]⟩, ⟨rfl, by rw [hB]⟩, trivial⟩, ⟨rfl, rfl⟩, trivial⟩ (by kernel_rfl)
              · intro g4
                rw [hA, hB] at g4
                have hw : loadD d = (decR a, 0) := by rw [hlw, evenR_yes h2 h3, oddR_yes g2 g3]; exact congrArg (fun l => (List.headD l RootD.zero, (0 : Int))) (if_pos (par_lt (by omega) h3 g3))
                refine To.run hS 5000 (C := True) (by kernel_rfl) (by (and_intros <;> try first | exact True.intro | with_reducible rfl | omega | with_reducible assumption | (refine fits_i64 ?_ ?_ <;> omega) | (refine fits_u64 ?_ ?_ <;> omega))) ?_
                refine To.end (AV.tup [AV.agg [AV.sy (Value.int IntKind.u64 (↑(RootD.n (decR (List.take (List.length (Option.getD (Prod.fst (readD d (0 : Int))) [])) (Option.getD (Prod.fst (readD d (0 : Int))) [])))) : Int)), AV.sy (Value.int IntKind.i64 (RootD.len (decR (List.take (List.length (Option.getD (Prod.fst (readD d (0 : Int))) [])) (Option.getD (Prod.fst (readD d (0 : Int))) []))))), AV.sy (Value.int IntKind.u32 (↑(RootD.sum (decR (List.take (List.length (Option.getD (Prod.fst (readD d (0 : Int))) [])) (Option.getD (Prod.fst (readD d (0 : Int))) [])))) : Int))], AV.v (Value.int IntKind.i64 (0 : Int))]) (by kernel_rfl) ?_
                exact load_end hw ⟨⟨⟨rfl, by rw [hA]⟩, ⟨rfl, by rw [hA]⟩, ⟨rfl, by rw [hA]⟩, trivial⟩, ⟨rfl, rfl⟩, trivial⟩ (by kernel_rfl)
        · intro g1
          obtain ⟨hb, hbe⟩ := readD_none g1
          refine To.run hS 5000 (C := True ∧ (0 : Nat) ≤ (1000 : Nat)) (by kernel_rfl) (by (and_intros <;> try first | exact True.intro | with_reducible rfl | omega | with_reducible assumption | (refine fits_i64 ?_ ?_ <;> omega) | (refine fits_u64 ?_ ?_ <;> omega))) ?_
          refine To.yesn hS (decE [] = (0 : Int)) (of_decide_eq_true (by kernel_rfl)) (C := True) (by kernel_rfl) (by (and_intros <;> try first | exact True.intro | with_reducible rfl | omega | with_reducible assumption | (refine fits_i64 ?_ ?_ <;> omega) | (refine fits_u64 ?_ ?_ <;> omega))) ?_
          refine To.run hS 5000 (C := True) (by kernel_rfl) (by (and_intros <;> try first | exact True.intro | with_reducible rfl | omega | with_reducible assumption | (refine fits_i64 ?_ ?_ <;> omega) | (refine fits_u64 ?_ ?_ <;> omega))) ?_
          refine To.yesn hS (Prod.snd (readD d (1 : Int)) = (0 : Int)) (by (and_intros <;> try first | exact True.intro | with_reducible rfl | omega | with_reducible assumption | (refine fits_i64 ?_ ?_ <;> omega) | (refine fits_u64 ?_ ?_ <;> omega))) (C := True) (by kernel_rfl) (by (and_intros <;> try first | exact True.intro | with_reducible rfl | omega | with_reducible assumption | (refine fits_i64 ?_ ?_ <;> omega) | (refine fits_u64 ?_ ?_ <;> omega))) ?_
          refine To.run hS 5000 (C := True) (by kernel_rfl) (by (and_intros <;> try first | exact True.intro | with_reducible rfl | omega | with_reducible assumption | (refine fits_i64 ?_ ?_ <;> omega) | (refine fits_u64 ?_ ?_ <;> omega))) ?_
          refine To.yesn hS (Prod.snd (readD d (1 : Int)) = (0 : Int)) (by (and_intros <;> try first | exact True.intro | with_reducible rfl | omega | with_reducible assumption | (refine fits_i64 ?_ ?_ <;> omega) | (refine fits_u64 ?_ ?_ <;> omega))) (C := True) (by kernel_rfl) (by (and_intros <;> try first | exact True.intro | with_reducible rfl | omega | with_reducible assumption | (refine fits_i64 ?_ ?_ <;> omega) | (refine fits_u64 ?_ ?_ <;> omega))) ?_
          have hw : loadD d = (.zero, (readD d 1).2) := load_none1 ha hb
          refine To.run hS 5000 (C := True) (by kernel_rfl) (by (and_intros <;> try first | exact True.intro | with_reducible rfl | omega | with_reducible assumption | (refine fits_i64 ?_ ?_ <;> omega) | (refine fits_u64 ?_ ?_ <;> omega))) ?_
          refine To.end (AV.tup [AV.agg [AV.v (Value.int IntKind.u64 (0 : Int)), AV.v (Value.int IntKind.i64 (0 : Int)), AV.v (Value.int IntKind.u32 (0 : Int))], AV.sy (Value.int IntKind.i64 (Prod.snd (readD d (1 : Int))))]) (by kernel_rfl) ?_
          exact load_end hw ⟨⟨⟨rfl, rfl⟩, ⟨rfl, rfl⟩, ⟨rfl, rfl⟩, trivial⟩, ⟨rfl, rfl⟩, trivial⟩ (by kernel_rfl)
  · intro h1
    obtain ⟨ha, hae⟩ := readD_none h1
    refine To.run hS 5000 (C := True ∧ (0 : Nat) ≤ (1000 : Nat)) (by kernel_rfl) (by (and_intros <;> try first | exact True.intro | with_reducible rfl | omega | with_reducible assumption | (refine fits_i64 ?_ ?_ <;> omega) | (refine fits_u64 ?_ ?_ <;> omega))) ?_
    refine To.yesn hS (decE [] = (0 : Int)) (of_decide_eq_true (by kernel_rfl)) (C := True) (by kernel_rfl) (by (and_intros <;> try first | exact True.intro | with_reducible rfl | omega | with_reducible assumption | (refine fits_i64 ?_ ?_ <;> omega) | (refine fits_u64 ?_ ?_ <;> omega))) ?_
    refine To.run hS 5000 (C := True) (by kernel_rfl) (by (and_intros <;> try first | exact True.intro | with_reducible rfl | omega | with_reducible assumption | (refine fits_i64 ?_ ?_ <;> omega) | (refine fits_u64 ?_ ?_ <;> omega))) ?_
    refine To.yesn hS (Prod.snd (readD d (0 : Int)) = (0 : Int)) (by (and_intros <;> try first | exact True.intro | with_reducible rfl | omega | with_reducible assumption | (refine fits_i64 ?_ ?_ <;> omega) | (refine fits_u64 ?_ ?_ <;> omega))) (C := True) (by kernel_rfl) (by (and_intros <;> try first | exact True.intro | with_reducible rfl | omega | with_reducible assumption | (refine fits_i64 ?_ ?_ <;> omega) | (refine fits_u64 ?_ ?_ <;> omega))) ?_
    refine To.run hS 5000 (C := True) (by kernel_rfl) (by (and_intros <;> try first | exact True.intro | with_reducible rfl | omega | with_reducible assumption | (refine fits_i64 ?_ ?_ <;> omega) | (refine fits_u64 ?_ ?_ <;> omega))) ?_
    refine To.yesn hS (Prod.snd (readD d (0 : Int)) = (0 : Int)) (by (and_intros <;> try first | exact True.intro | with_reducible rfl | omega | with_reducible assumption | (refine fits_i64 ?_ ?_ <;> omega) | (refine fits_u64 ?_ ?_ <;> omega))) (C := True) (by kernel_rfl) (by (and_intros <;> try first | exact True.intro | with_reducible rfl | omega | with_reducible assumption | (refine fits_i64 ?_ ?_ <;> omega) | (refine fits_u64 ?_ ?_ <;> omega))) ?_
    have hw : loadD d = (.zero, (readD d 0).2) := load_none0 ha
    refine To.run hS 5000 (C := True) (by kernel_rfl) (by (and_intros <;> try first | exact True.intro | with_reducible rfl | omega | with_reducible assumption | (refine fits_i64 ?_ ?_ <;> omega) | (refine fits_u64 ?_ ?_ <;> omega))) ?_
    refine To.end (AV.tup [AV.agg [AV.v (Value.int IntKind.u64 (0 : Int)), AV.v (Value.int IntKind.i64 (0 : Int)), AV.v (Value.int IntKind.u32 (0 : Int))], AV.sy (Value.int IntKind.i64 (Prod.snd (readD d (0 : Int))))]) (by kernel_rfl) ?_
    exact load_end hw ⟨⟨⟨rfl, rfl⟩, ⟨rfl, rfl⟩, ⟨rfl, rfl⟩, trivial⟩, ⟨rfl, rfl⟩, trivial⟩ (by kernel_rfl)
/-- A disk's root is loaded. -/
def loadF : CF := oneX 28 fun args H => match args with
  | [.ptr i 0] => match H.get i with
    | some (.obj (.disk d)) => some { μ := [i], args := [.ptr 0 0], L := [.obj (.disk d)], res := .tup [.agg (rootAV (loadD d).1), .sy (.int .i64 (loadD d).2)], L' := [.obj (.disk d)], E := [], C := d.Fine }
    | _ => none
  | _ => none
theorem inS1 (i : Nat) : inS [i] i = some 0 := by simp [inS, posL]
theorem saveF_ok : FOk Try.prog saveF := oneX_ok s8_ok tab Try.func26 (by kernel_rfl) fun {args H n e} h hC => by
  split at h
  · rename_i i x
    split at h
    · rename_i d r hB hr
      cases h
      obtain ⟨h1, h2, h3⟩ := hC
      refine ⟨by simp, ⟨⟨_, hB, rfl, leB_refl _⟩, trivial⟩, rfl, ?_, ⟨by simp, by simp⟩, ?_, by kernel_rfl, ?_⟩
      · simp only [renL, renA, inS1]
        exact ⟨leA_refl _, (rootQ_le hr h1 _).1, trivial⟩
      · intro w0 ρ w vs hr' hv j hj
        simp at hj
        subst hj
        exact VRs.bind hv (j, True) (by simp [bindL, bindA]) trivial
      · exact save_to s8_ok d r.1 _ (rootQ_le hr h1 (fun _ => none)).2 h2 h3
    · cases h
  · cases h
theorem loadF_ok : FOk Try.prog loadF := oneX_ok s8_ok tab Try.func28 (by kernel_rfl) fun {args H n e} h hC => by
  split at h
  · rename_i i
    split at h
    · rename_i d hB
      cases h
      refine ⟨by simp, ⟨⟨_, hB, rfl, leB_refl _⟩, trivial⟩, rfl, ?_, ⟨by simp, by simp⟩, ?_, by kernel_rfl, load_to s8_ok d hC⟩
      · simp only [renL, renA, inS1]
        exact leL_refl _
      · intro w0 ρ w vs hr hv j hj
        simp at hj
        subst hj
        exact VRs.bind hv (j, True) (by simp [bindL, bindA]) trivial
    · cases h
  · cases h
end Go.Proofs.Ytnkjhicokcmmpaa.Sm

/-
  Roots on a disk of two sectors, plainly.
-/
namespace Go.Proofs.Ytnkjhicokcmmpaa.Sm
open Go Go.RowKit

/-- A disk of two sectors, up, not armed, with nothing waiting. -/
structure Two (d : DiskD) (n : Nat) (s0 s1 : List UInt8) : Prop where
  in_ : d.In n
  st : d.stays = [s0, s1]
  wt : d.waits = []
  cr : d.crash = CrashD.none
  up : d.down = false
def loadS (s0 s1 : List UInt8) : RootD := (bothL (evenR s0) (oddR s1)).headD .zero
theorem Two.load {d : DiskD} {n : Nat} {s0 s1 : List UInt8} (h : Two d n s0 s1) : loadD d = (loadS s0 s1, 0) := by
  have r : ∀ z : Int, 0 ≤ z → z < 2 → readD d z = (some ([s0, s1].getD z.toNat []), 0) := fun z h0 h2 => by
    unfold readD
    rw [if_neg (by simp [h.up]), if_neg (by omega), if_neg (by rw [h.st]; show ¬ ¬ z < 2; omega), h.wt, h.st]
    rfl
  exact load_both (r 0 (by decide) (by decide)) (r 1 (by decide) (by decide))
theorem keysD_one (z : Int) (b : List UInt8) : keysD [(z, b)] = [z] := List.mergeSort_of_pairwise (by simp)
/-- One sector of two, turned. -/
def put2 (s0 s1 : List UInt8) (k : Int) (b : List UInt8) : List (List UInt8) := if k = 0 then [b, s1] else [s0, b]
theorem set2 (s0 s1 b : List UInt8) {k : Int} (h : k = 0 ∨ k = 1) : [s0, s1].set k.toNat b = put2 s0 s1 k b := by
  rcases h with rfl | rfl <;> rfl
theorem Two.save {d : DiskD} {n : Nat} {s0 s1 : List UInt8} (h : Two d n s0 s1) (hn : n < 1000000000) {r : RootD} (hr : r.ok = true) :
    (saveD d r).2 = 0 ∧ Two (saveD d r).1 (n + 1) (if (r.n : Int) % 2 = 0 then rootBytes r else s0) (if (r.n : Int) % 2 = 0 then s1 else rootBytes r) := by
  have hk : (r.n : Int) % 2 = 0 ∨ (r.n : Int) % 2 = 1 := by omega
  have hw : writeD d ((r.n : Int) % 2) (rootBytes r) = (d.put ((r.n : Int) % 2) (rootBytes r), 0) := by
    unfold writeD
    rw [if_neg (by simp [h.up]), if_neg (by omega), if_neg (by rw [h.st]; show ¬ ¬ _ < (2 : Int); omega), if_neg (by rw [rootBytes_len]; simp), if_pos (by rw [h.cr]; rfl)]
  have hs : saveD d r = flushD (d.put ((r.n : Int) % 2) (rootBytes r)) := by
    unfold saveD
    rw [if_neg (by simp [hr]), hw, if_neg (by simp)]
  have hf : flushD (d.put ((r.n : Int) % 2) (rootBytes r)) = ({ (d.put ((r.n : Int) % 2) (rootBytes r)) with stays := put2 s0 s1 ((r.n : Int) % 2) (rootBytes r), waits := [] }, 0) := by
    unfold flushD
    rw [if_neg (by show ¬ d.down = true; simp [h.up])]
    have e1 : (d.put ((r.n : Int) % 2) (rootBytes r)).waits = [((r.n : Int) % 2, rootBytes r)] := by
      show putM d.waits _ _ = _
      rw [h.wt, List.take_of_length_le (by rw [rootBytes_len]; omega)]; rfl
    have e2 : (d.put ((r.n : Int) % 2) (rootBytes r)).stays = [s0, s1] := h.st
    rw [e1, keysD_one, e2]
    have e3 : flushL [((r.n : Int) % 2, rootBytes r)] [(r.n : Int) % 2] [s0, s1] = put2 s0 s1 ((r.n : Int) % 2) (rootBytes r) := by
      show [s0, s1].set _ _ = _
      rw [set2 _ _ _ hk]
      simp [getM]
    rw [e3]
  have hin : (saveD d r).1.In (n + 1) := by
    have := (h.in_.write hn ((r.n : Int) % 2) (rootBytes r)).flush
    rw [hw] at this
    rw [hs]; exact this
  rw [hs, hf] at hin ⊢
  refine ⟨rfl, hin, ?_, rfl, h.cr, h.up⟩
  show put2 _ _ _ _ = _
  unfold put2
  split <;> rfl
/-- A save amid which the disk goes down. -/
theorem Two.torn {d : DiskD} {n : Nat} {s0 s1 : List UInt8} (h : Two d n s0 s1) (hn : n < 1000000000) {r : RootD} (hr : r.ok = true) {c : CrashD} (hc : c.Wf) (hkl : c.keep.length ≤ 1000000) (h1 : c.w = 1) :
    (armD d c).2 = 0 ∧ (saveD (armD d c).1 r).2 = 31 ∧ Two (bootD (saveD (armD d c).1 r).1) (n + 1) (if (r.n : Int) % 2 = 0 then (rootBytes r).take (keptN c ((r.n : Int) % 2)) ++ s0.drop (keptN c ((r.n : Int) % 2)) else s0) (if (r.n : Int) % 2 = 0 then s1 else (rootBytes r).take (keptN c ((r.n : Int) % 2)) ++ s1.drop (keptN c ((r.n : Int) % 2))) := by
  have hk : (r.n : Int) % 2 = 0 ∨ (r.n : Int) % 2 = 1 := by omega
  have ha : armD d c = ({ d with crash := c }, 0) := by unfold armD; rw [if_neg (by omega)]
  have hia := h.in_.arm hc hkl
  rw [ha] at hia ⊢
  obtain ⟨D, hD⟩ : ∃ D, D = ({ d with crash := c } : DiskD) := ⟨_, rfl⟩
  have d1 : D.stays = [s0, s1] := by rw [hD]; exact h.st
  have d2 : D.waits = [] := by rw [hD]; exact h.wt
  have d3 : D.crash = c := by rw [hD]
  have d4 : D.down = false := by rw [hD]; exact h.up
  simp only at hia ⊢
  rw [← hD] at hia ⊢
  have hw : writeD D ((r.n : Int) % 2) (rootBytes r) = (fallD (D.put ((r.n : Int) % 2) (rootBytes r)).tick (D.put ((r.n : Int) % 2) (rootBytes r)).tick.crash, 31) := by
    unfold writeD
    rw [if_neg (by simp [d4]), if_neg (by omega), if_neg (by rw [d1]; show ¬ ¬ _ < (2 : Int); omega), if_neg (by rw [rootBytes_len]; simp), if_neg (by rw [d3, h1]; decide), if_neg (by rw [d3, h1]; decide)]
  have hs : saveD D r = writeD D ((r.n : Int) % 2) (rootBytes r) := by
    unfold saveD
    rw [if_neg (by simp [hr]), if_pos (by rw [hw]; simp)]
  have hin := (hia.write hn ((r.n : Int) % 2) (rootBytes r)).boot
  rw [hs]
  refine ⟨trivial, by rw [hw], ?_⟩
  refine ⟨hin, ?_, ?_, ?_, rfl⟩
  · rw [hw]
    have e1 : (D.put ((r.n : Int) % 2) (rootBytes r)).tick.waits = [((r.n : Int) % 2, rootBytes r)] := by
      show putM D.waits _ _ = _
      rw [d2, List.take_of_length_le (by rw [rootBytes_len]; omega)]; rfl
    have e2 : (D.put ((r.n : Int) % 2) (rootBytes r)).tick.stays = [s0, s1] := d1
    have e4 : ∀ z, keptN (D.put ((r.n : Int) % 2) (rootBytes r)).tick.crash z = keptN c z := fun z => by
      show keptN { D.crash with w := _ } z = _
      rw [d3]; rfl
    show fallL (D.put ((r.n : Int) % 2) (rootBytes r)).tick.waits _ (keysD (D.put ((r.n : Int) % 2) (rootBytes r)).tick.waits) (D.put ((r.n : Int) % 2) (rootBytes r)).tick.stays = _
    rw [e1, keysD_one, e2]
    show [s0, s1].set _ _ = _
    rw [set2 _ _ _ hk, e4]
    unfold put2
    rcases hk with e | e <;> rw [e] <;> simp [getM]
  · rw [hw]; rfl
  · rw [hw]; rfl

def zeros : List UInt8 := List.replicate 128 0
theorem dec_zeros : decRoot zeros = none := by
  unfold decRoot
  refine if_neg fun ⟨_, h, _⟩ => ?_
  have e : rootAt zeros = ⟨0, 0, 0⟩ := by kernel_rfl
  rw [e] at h
  cases h
theorem evenR_none {b : List UInt8} (h : decRoot b = none) : evenR b = none := evenR_no (by unfold decE; rw [h]; decide)
theorem oddR_none {b : List UInt8} (h : decRoot b = none) : oddR b = none := oddR_no (by unfold decE; rw [h]; decide)
theorem evenR_root {r : RootD} (hf : r.Fits) (hr : r.ok = true) : evenR (rootBytes r) = if (r.n : Int) % 2 = 0 then some r else none := by
  have e1 : decE (rootBytes r) = 0 := by unfold decE; rw [dec_of_root hf hr]; rfl
  have e2 : decR (rootBytes r) = r := by unfold decR; rw [dec_of_root hf hr]; rfl
  unfold evenR
  rw [e1, e2]
  simp
theorem oddR_root {r : RootD} (hf : r.Fits) (hr : r.ok = true) : oddR (rootBytes r) = if (r.n : Int) % 2 = 1 then some r else none := by
  have e1 : decE (rootBytes r) = 0 := by unfold decE; rw [dec_of_root hf hr]; rfl
  have e2 : decR (rootBytes r) = r := by unfold decR; rw [dec_of_root hf hr]; rfl
  unfold oddR
  rw [e1, e2]
  simp
/-- What stands in the slot that does not count: nothing, or an elder root. -/
def Elder (s : List UInt8) (n : Nat) : Prop := decRoot s = none ∨ ∃ p : RootD, p.Fits ∧ p.ok = true ∧ s = rootBytes p ∧ p.n < n
/-- Two sectors whose root is r. -/
def Has (s0 s1 : List UInt8) (r : RootD) : Prop :=
  (r = .zero ∧ decRoot s0 = none ∧ decRoot s1 = none) ∨ (r.Fits ∧ r.ok = true ∧ ((r.n : Int) % 2 = 0 ∧ s0 = rootBytes r ∧ Elder s1 r.n ∨ (r.n : Int) % 2 = 1 ∧ s1 = rootBytes r ∧ Elder s0 r.n))
theorem Has.load {s0 s1 : List UInt8} {r : RootD} (h : Has s0 s1 r) : loadS s0 s1 = r := by
  unfold loadS
  rcases h with ⟨rfl, h0, h1⟩ | ⟨hf, hr, ⟨hp, rfl, he⟩ | ⟨hp, rfl, he⟩⟩
  · rw [evenR_none h0, oddR_none h1]; rfl
  · rw [evenR_root hf hr, if_pos hp]
    rcases he with he | ⟨p, pf, po, rfl, hlt⟩
    · rw [oddR_none he]; rfl
    · rw [oddR_root pf po]
      split
      · show (if p.n < r.n then [r, p] else [p, r]).headD .zero = r
        rw [if_pos hlt]; rfl
      · rfl
  · rw [oddR_root hf hr, if_pos hp]
    rcases he with he | ⟨p, pf, po, rfl, hlt⟩
    · rw [evenR_none he]; rfl
    · rw [evenR_root pf po]
      split
      · show (if r.n < p.n then [p, r] else [r, p]).headD .zero = r
        rw [if_neg (by omega)]; rfl
      · rfl
/-- Saving the next one. -/
theorem Has.next {s0 s1 : List UInt8} {r q : RootD} (h : Has s0 s1 r) (hf : q.Fits) (hq : q.ok = true) (hn : q.n = r.n + 1) :
    Has (if (q.n : Int) % 2 = 0 then rootBytes q else s0) (if (q.n : Int) % 2 = 0 then s1 else rootBytes q) q := by
  refine .inr ⟨hf, hq, ?_⟩
  by_cases hp : (q.n : Int) % 2 = 0
  · rw [if_pos hp, if_pos hp]
    refine .inl ⟨hp, rfl, ?_⟩
    rcases h with ⟨rfl, h0, h1⟩ | ⟨rf, ro, ⟨rp, rfl, he⟩ | ⟨rp, rfl, he⟩⟩
    · exact .inl h1
    · omega
    · exact .inr ⟨r, rf, ro, rfl, by omega⟩
  · rw [if_neg hp, if_neg hp]
    refine .inr ⟨by omega, rfl, ?_⟩
    rcases h with ⟨rfl, h0, h1⟩ | ⟨rf, ro, ⟨rp, rfl, he⟩ | ⟨rp, rfl, he⟩⟩
    · exact .inl h0
    · exact .inr ⟨r, rf, ro, rfl, by omega⟩
    · omega
end Go.Proofs.Ytnkjhicokcmmpaa.Sm

/-
  A root's sector of which a part alone was written, plainly.
-/
namespace Go.Proofs.Ytnkjhicokcmmpaa.Sm
open Go Go.RowKit

theorem num_inj {s a b : Nat} (ha : a < 256 ^ s) (hb : b < 256 ^ s) (h : num s a = num s b) : a = b := by
  have := congrArg wh h
  rwa [wh_num' ha, wh_num' hb] at this
theorem root_take12 (r : RootD) : (rootBytes r).take 12 = [81, 82, 1, 0] ++ num 8 r.n := by
  have e : rootBytes r = ([81, 82, 1, 0] ++ num 8 r.n) ++ (num 4 r.len.toNat ++ num 4 r.sum ++ List.replicate 96 0 ++ num 4 (sumOf (rootFront r)) ++ num 8 r.n) := by
    unfold rootBytes
    rw [show rootFront r = [81, 82, 1, 0] ++ num 8 r.n ++ num 4 r.len.toNat ++ num 4 r.sum ++ List.replicate 96 0 from rfl]
    simp only [List.append_assoc]
  rw [e]
  exact List.take_left' (by simp [num_len])
theorem root_drop120 (r : RootD) : (rootBytes r).drop 120 = num 8 r.n := by
  unfold rootBytes
  exact List.drop_left' (by simp [rootFront_len, num_len])
theorem num8_last (n : Nat) : (num 8 n).getD 7 0 = UInt8.ofNat n := by
  rw [num_succ, num_succ, num_succ, num_succ, num_succ, num_succ, num_succ, num_succ]
  show UInt8.ofNat (n / 2 ^ 0) = _
  simp
theorem getD_drop (l : List UInt8) (a k : Nat) : (l.drop a).getD k 0 = l.getD (a + k) 0 := by
  simp [List.getD_eq_getElem?_getD, List.getElem?_drop]
theorem root_last (r : RootD) : (rootBytes r).getD 127 0 = UInt8.ofNat r.n := by
  rw [show (127 : Nat) = 120 + 7 from rfl, ← getD_drop, root_drop120, num8_last]
theorem part_take {new old : List UInt8} {k m : Nat} (hm : m ≤ k) (hl : k ≤ new.length) : (new.take k ++ old.drop k).take m = new.take m := by
  rw [List.take_append_of_le_length (by rw [List.length_take]; omega), List.take_take, Nat.min_eq_left hm]
theorem part_drop {new old : List UInt8} {k m : Nat} (hm : k ≤ m) (hl : k ≤ new.length) : (new.take k ++ old.drop k).drop m = old.drop m := by
  rw [List.drop_append, List.length_take, Nat.min_eq_left hl, List.drop_of_length_le (by rw [List.length_take]; omega), List.nil_append, List.drop_drop]
  congr 1
  omega
theorem u8_ne {a b : Nat} (h : UInt8.ofNat a = UInt8.ofNat b) : a % 256 = b % 256 := by
  have := congrArg UInt8.toNat h
  rwa [UInt8.toNat_ofNat', UInt8.toNat_ofNat'] at this
/-- A sector that was written in part is none's, or as it was. -/
theorem torn_root {old : List UInt8} {q : RootD} (hf : q.Fits) (hq : q.ok = true) {k : Nat} (hk : k < 128) (ho : (old = zeros ∧ q.n ≤ 2) ∨ ∃ p : RootD, p.Fits ∧ p.ok = true ∧ old = rootBytes p ∧ p.n + 2 = q.n) :
    decRoot ((rootBytes q).take k ++ old.drop k) = none ∨ (rootBytes q).take k ++ old.drop k = old := by
  cases hd : decRoot ((rootBytes q).take k ++ old.drop k) with
  | none => exact .inl rfl
  | some r =>
    right
    obtain ⟨h1, h2, h3, h4⟩ := dec_root_inv hd
    have hl : (rootBytes q).length = 128 := rootBytes_len q
    have hq0 : q.n ≠ 0 := (rootOk_iff.1 hq).1
    have hr0 : r.n ≠ 0 := (rootOk_iff.1 h2).1
    by_cases c : 12 ≤ k
    · exfalso
      have e1 : (rootBytes r).take 12 = (rootBytes q).take 12 := by rw [h1]; exact part_take c (by omega)
      rw [root_take12, root_take12] at e1
      have e2 : r.n = q.n := num_inj (s := 8) h3.n hf.n (List.append_cancel_left e1)
      have e3 : (rootBytes r).drop 127 = old.drop 127 := by rw [h1]; exact part_drop (by omega) (by omega)
      have e4 : (rootBytes r).getD 127 0 = old.getD 127 0 := by
        have := congrArg (fun l => List.getD l 0 0) e3
        simp only [getD_drop] at this
        exact this
      rw [root_last, e2] at e4
      rcases ho with ⟨rfl, hle⟩ | ⟨p, pf, po, rfl, hp⟩
      · have e5 : zeros.getD 127 0 = UInt8.ofNat 0 := by decide +kernel
        rw [e5] at e4
        have := u8_ne e4
        omega
      · rw [root_last] at e4
        have := u8_ne e4
        omega
    · have e3 : (rootBytes r).drop 120 = old.drop 120 := by rw [h1]; exact part_drop (by omega) (by omega)
      rw [root_drop120] at e3
      rcases ho with ⟨rfl, hle⟩ | ⟨p, pf, po, rfl, hp⟩
      · exfalso
        have e5 : zeros.drop 120 = num 8 0 := by decide +kernel
        rw [e5] at e3
        exact hr0 (num_inj (s := 8) h3.n (by decide) e3)
      · rw [root_drop120] at e3
        have e2 : r.n = p.n := num_inj (s := 8) h3.n pf.n e3
        have e4 : (rootBytes r).drop 12 = (rootBytes p).drop 12 := by rw [h1]; exact part_drop (by omega) (by omega)
        have e5 : (rootBytes r).take 12 = (rootBytes p).take 12 := by rw [root_take12, root_take12, e2]
        rw [← h1, ← List.take_append_drop 12 (rootBytes r), e4, e5, List.take_append_drop]
/-- Two sectors behind saves by numbers that rise by one: the root, and what is in the other slot. -/
def Saved (s0 s1 : List UInt8) (r : RootD) : Prop :=
  (r = .zero ∧ s0 = zeros ∧ s1 = zeros) ∨ (r.Fits ∧ r.ok = true ∧ ∃ o : List UInt8, ((r.n : Int) % 2 = 0 ∧ s0 = rootBytes r ∧ s1 = o ∨ (r.n : Int) % 2 = 1 ∧ s1 = rootBytes r ∧ s0 = o) ∧ ((o = zeros ∧ r.n ≤ 1) ∨ ∃ p : RootD, p.Fits ∧ p.ok = true ∧ o = rootBytes p ∧ p.n + 1 = r.n))
theorem Saved.has {s0 s1 : List UInt8} {r : RootD} (h : Saved s0 s1 r) : Has s0 s1 r := by
  rcases h with ⟨rfl, rfl, rfl⟩ | ⟨hf, hr, o, hs, ho⟩
  · exact .inl ⟨rfl, dec_zeros, dec_zeros⟩
  · have he : Elder o r.n := by
      rcases ho with ⟨rfl, _⟩ | ⟨p, pf, po, rfl, hp⟩
      · exact .inl dec_zeros
      · exact .inr ⟨p, pf, po, rfl, by omega⟩
    refine .inr ⟨hf, hr, ?_⟩
    rcases hs with ⟨hp, rfl, rfl⟩ | ⟨hp, rfl, rfl⟩
    · exact .inl ⟨hp, rfl, he⟩
    · exact .inr ⟨hp, rfl, he⟩
theorem Saved.next {s0 s1 : List UInt8} {r q : RootD} (h : Saved s0 s1 r) (hf : q.Fits) (hq : q.ok = true) (hn : q.n = r.n + 1) :
    Saved (if (q.n : Int) % 2 = 0 then rootBytes q else s0) (if (q.n : Int) % 2 = 0 then s1 else rootBytes q) q := by
  rcases h with ⟨rfl, rfl, rfl⟩ | ⟨rf, ro, o, hs, ho⟩
  · have hn1 : q.n = 1 := hn
    rw [if_neg (by omega), if_neg (by omega)]
    exact .inr ⟨hf, hq, zeros, .inr ⟨by omega, rfl, rfl⟩, .inl ⟨rfl, by omega⟩⟩
  · rcases hs with ⟨hp, rfl, rfl⟩ | ⟨hp, rfl, rfl⟩
    · rw [if_neg (by omega), if_neg (by omega)]
      exact .inr ⟨hf, hq, _, .inr ⟨by omega, rfl, rfl⟩, .inr ⟨r, rf, ro, rfl, by omega⟩⟩
    · rw [if_pos (by omega), if_pos (by omega)]
      exact .inr ⟨hf, hq, _, .inl ⟨by omega, rfl, rfl⟩, .inr ⟨r, rf, ro, rfl, by omega⟩⟩
/-- Behind a save amid which the disk went down. -/
theorem Saved.torn {s0 s1 : List UInt8} {r q : RootD} (h : Saved s0 s1 r) (hf : q.Fits) (hq : q.ok = true) (hn : q.n = r.n + 1) {k : Nat} (hl0 : s0.length = 128) (hl1 : s1.length = 128) :
    Has (if (q.n : Int) % 2 = 0 then (rootBytes q).take k ++ s0.drop k else s0) (if (q.n : Int) % 2 = 0 then s1 else (rootBytes q).take k ++ s1.drop k) (if 128 ≤ k then q else r) := by
  by_cases hk : 128 ≤ k
  · have e : ∀ s : List UInt8, s.length = 128 → (rootBytes q).take k ++ s.drop k = rootBytes q := fun s hs => by
      rw [List.take_of_length_le (by rw [rootBytes_len]; exact hk), List.drop_of_length_le (by omega), List.append_nil]
    rw [if_pos hk, e s0 hl0, e s1 hl1]
    exact h.has.next hf hq hn
  · rw [if_neg hk]
    have hb := h.has
    by_cases hp : (q.n : Int) % 2 = 0
    · rw [if_pos hp, if_pos hp]
      have ho : (s0 = zeros ∧ q.n ≤ 2) ∨ ∃ p : RootD, p.Fits ∧ p.ok = true ∧ s0 = rootBytes p ∧ p.n + 2 = q.n := by
        rcases h with ⟨rfl, rfl, rfl⟩ | ⟨rf, ro, o, hs, ho⟩
        · have hn1 : q.n = 1 := hn
          exact .inl ⟨rfl, by omega⟩
        · rcases hs with ⟨hp', rfl, rfl⟩ | ⟨hp', rfl, rfl⟩
          · omega
          · rcases ho with ⟨rfl, h1⟩ | ⟨p, pf, po, rfl, hpn⟩
            · exact .inl ⟨rfl, by omega⟩
            · exact .inr ⟨p, pf, po, rfl, by omega⟩
      rcases torn_root hf hq (k := k) (by omega) ho with e | e
      · rcases hb with ⟨rfl, h0, h1⟩ | ⟨rf, ro, ⟨rp, rfl, he⟩ | ⟨rp, rfl, he⟩⟩
        · exact .inl ⟨rfl, e, h1⟩
        · omega
        · exact .inr ⟨rf, ro, .inr ⟨rp, rfl, .inl e⟩⟩
      · rw [e]; exact hb
    · rw [if_neg hp, if_neg hp]
      have ho : (s1 = zeros ∧ q.n ≤ 2) ∨ ∃ p : RootD, p.Fits ∧ p.ok = true ∧ s1 = rootBytes p ∧ p.n + 2 = q.n := by
        rcases h with ⟨rfl, rfl, rfl⟩ | ⟨rf, ro, o, hs, ho⟩
        · have hn1 : q.n = 1 := hn
          exact .inl ⟨rfl, by omega⟩
        · rcases hs with ⟨hp', rfl, rfl⟩ | ⟨hp', rfl, rfl⟩
          · rcases ho with ⟨rfl, h1⟩ | ⟨p, pf, po, rfl, hpn⟩
            · exact .inl ⟨rfl, by omega⟩
            · exact .inr ⟨p, pf, po, rfl, by omega⟩
          · omega
      rcases torn_root hf hq (k := k) (by omega) ho with e | e
      · rcases hb with ⟨rfl, h0, h1⟩ | ⟨rf, ro, ⟨rp, rfl, he⟩ | ⟨rp, rfl, he⟩⟩
        · exact .inl ⟨rfl, h0, e⟩
        · exact .inr ⟨rf, ro, .inl ⟨rp, rfl, .inl e⟩⟩
        · omega
      · rw [e]; exact hb
theorem DiskD.In.self {d : DiskD} {n : Nat} (h : d.In n) : d.In d.writes.toNat ∧ d.writes.toNat ≤ n := by
  have h1 := h.wr
  have h2 := h.fine.wr
  have h3 := h.size
  exact ⟨⟨h.fine, by omega, by omega⟩, by omega⟩
theorem two_len {d : DiskD} {n : Nat} {s0 s1 : List UInt8} (h : Two d n s0 s1) : s0.length = 128 ∧ s1.length = 128 :=
  ⟨h.in_.fine.ok.rows _ (by rw [h.st]; simp), h.in_.fine.ok.rows _ (by rw [h.st]; simp)⟩
theorem two_new : Two (newD 2) 0 zeros zeros := ⟨newD_in (by decide) (by decide), rfl, rfl, rfl, rfl⟩
end Go.Proofs.Ytnkjhicokcmmpaa.Sm

/-
  The chapter's first examples (root), walked.
-/
namespace Go.Proofs.Ytnkjhicokcmmpaa.Sm
open Go Go.RowKit
noncomputable abbrev S10 : Sy := sym Try.prog (orF (orF saveF loadF) diskF0) diskG0
theorem s10_ok : S10.Ok Try.prog := sym_ok (orF_ok (orF_ok saveF_ok loadF_ok) diskF0_ok) diskG0_ok tab mix
set_option maxHeartbeats 4000000 in
set_option maxRecDepth 100000 in
theorem alive6_to (hS : S10.Ok Try.prog) : To S10 Try.prog 24 (startOf Try.prog 24 [] .e 0) (fun x _ _ => x = .v (.bool true)) := by
  have hz : Has zeros zeros RootD.zero := .inl ⟨rfl, dec_zeros, dec_zeros⟩
  have hl0 := two_new.load
  rw [hz.load] at hl0
  obtain ⟨q, hq⟩ : ∃ q : RootD, q = ⟨1, 7, 9⟩ := ⟨_, rfl⟩
  obtain ⟨r, hr⟩ : ∃ r : RootD, r = ⟨2, 8, 0⟩ := ⟨_, rfl⟩
  have qf : q.Fits := by rw [hq]; exact ⟨by decide, by decide⟩
  have qo : q.ok = true := by rw [hq]; rfl
  have rf : r.Fits := by rw [hr]; exact ⟨by decide, by decide⟩
  have ro : r.ok = true := by rw [hr]; rfl
  obtain ⟨a1, a2⟩ := two_new.save (by decide) qo
  have h1 := hz.next qf qo (by rw [hq]; rfl)
  obtain ⟨b1, b2⟩ := a2.save (by decide) ro
  have h2 := h1.next rf ro (by rw [hr, hq])
  have hl2 := b2.load
  rw [h2.load] at hl2
  have g1 : (newD 2).In 0 := two_new.in_
  have g3 : (saveD (newD 2) q).1.In 1 := a2.in_
  have g5 := b2.in_.fine
  have g0 := two_new.in_.fine
  subst hq
  subst hr
  refine To.run hS 5000 (C := True) (by kernel_rfl) (by (and_intros <;> try first | exact True.intro | with_reducible rfl | omega | with_reducible assumption | (refine fits_i64 ?_ ?_ <;> omega) | (refine fits_u64 ?_ ?_ <;> omega))) ?_
  refine To.yesd hS ((1 : Int) ≤ (2 : Int) ∧ (2 : Int) ≤ (4096 : Int)) (by (and_intros <;> try first | exact True.intro | with_reducible rfl | omega | with_reducible assumption | (refine fits_i64 ?_ ?_ <;> omega) | (refine fits_u64 ?_ ?_ <;> omega))) (C := True) (by kernel_rfl) (by (and_intros <;> try first | exact True.intro | with_reducible rfl | omega | with_reducible assumption | (refine fits_i64 ?_ ?_ <;> omega) | (refine fits_u64 ?_ ?_ <;> omega))) ?_
  refine To.run hS 5000 (C := Ex.C { μ := [(0 : Nat)], args := [AV.ptr (0 : Nat) (0 : Nat)], L := [AB.obj (Ob.disk (newD (2 : Nat)))], res := AV.tup [AV.agg (rootAV (Prod.fst (loadD (newD (2 : Nat))))), AV.sy (Value.int IntKind.i64 (Prod.snd (loadD (newD (2 : Nat)))))], L' := [AB.obj (Ob.disk (newD (2 : Nat)))], E := [], C := DiskD.Fine (newD (2 : Nat)) }) (by kernel_rfl) (by (and_intros <;> try first | exact True.intro | with_reducible rfl | omega | with_reducible assumption | (refine fits_i64 ?_ ?_ <;> omega) | (refine fits_u64 ?_ ?_ <;> omega))) ?_
  refine To.yesd hS (Prod.snd (loadD (newD (2 : Nat))) = (0 : Int)) (of_decide_eq_true (by kernel_rfl)) (C := True) (by kernel_rfl) (by (and_intros <;> try first | exact True.intro | with_reducible rfl | omega | with_reducible assumption | (refine fits_i64 ?_ ?_ <;> omega) | (refine fits_u64 ?_ ?_ <;> omega))) ?_
  refine To.run hS 5000 (C := True) (by kernel_rfl) (by (and_intros <;> try first | exact True.intro | with_reducible rfl | omega | with_reducible assumption | (refine fits_i64 ?_ ?_ <;> omega) | (refine fits_u64 ?_ ?_ <;> omega))) ?_
  refine To.yesd hS ([(↑(0 : Nat) : Int), RootD.len (Prod.fst (loadD (newD (2 : Nat)))), (↑(0 : Nat) : Int)] = [(0 : Int), (0 : Int), (0 : Int)]) (of_decide_eq_true (by kernel_rfl)) (C := True) (by kernel_rfl) (by (and_intros <;> try first | exact True.intro | with_reducible rfl | omega | with_reducible assumption | (refine fits_i64 ?_ ?_ <;> omega) | (refine fits_u64 ?_ ?_ <;> omega))) ?_
  refine To.run hS 5000 (C := Ex.C { μ := [(0 : Nat)], args := [AV.ptr (0 : Nat) (0 : Nat), AV.agg (rootAV { n := (1 : Nat), len := (7 : Int), sum := (9 : Nat) })], L := [AB.obj (Ob.disk (newD (2 : Nat)))], res := AV.sy (Value.int IntKind.i64 (Prod.snd (saveD (newD (2 : Nat)) { n := (1 : Nat), len := (7 : Int), sum := (9 : Nat) }))), L' := [AB.obj (Ob.disk (Prod.fst (saveD (newD (2 : Nat)) { n := (1 : Nat), len := (7 : Int), sum := (9 : Nat) })))], E := [], C := (((0 : Int) ≤ (1 : Int) ∧ (1 : Int) < (18446744073709551616 : Int)) ∧ (0 : Int) ≤ (9 : Int) ∧ (9 : Int) < (4294967296 : Int)) ∧ DiskD.In (newD (2 : Nat)) (0 : Nat) ∧ (0 : Nat) < (1000000000 : Nat) } ∧ Ex.C { μ := [(0 : Nat)], args := [AV.ptr (0 : Nat) (0 : Nat), AV.agg (rootAV { n := (2 : Nat), len := (8 : Int), sum := (0 : Nat) })], L := [AB.obj (Ob.disk (Prod.fst (saveD (newD (2 : Nat)) { n := (1 : Nat), len := (7 : Int), sum := (9 : Nat) })))], res := AV.sy (Value.int IntKind.i64 (Prod.snd (saveD (Prod.fst (saveD (newD (2 : Nat)) { n := (1 : Nat), len := (7 : Int), sum := (9 : Nat) })) { n := (2 : Nat), len := (8 : Int), sum := (0 : Nat) }))), L' := [AB.obj (Ob.disk (Prod.fst (saveD (Prod.fst (saveD (newD (2 : Nat)) { n := (1 : Nat), len := (7 : Int), sum := (9 : Nat) })) { n := (2 : Nat), len := (8 : Int), sum := (0 : Nat) })))], E := [], C := (((0 : Int) ≤ (2 : Int) ∧ (2 : Int) < (18446744073709551616 : Int)) ∧ (0 : Int) ≤ (0 : Int) ∧ (0 : Int) < (4294967296 : Int)) ∧ DiskD.In (Prod.fst (saveD (newD (2 : Nat)) { n := (1 : Nat), len := (7 : Int), sum := (9 : Nat) })) (1 : Nat) ∧ (1 : Nat) < (1000000000 : Nat) }) (by kernel_rfl) (by (and_intros <;> try first | exact True.intro | with_reducible rfl | omega | with_reducible assumption | (refine fits_i64 ?_ ?_ <;> omega) | (refine fits_u64 ?_ ?_ <;> omega))) ?_
  refine To.yesd hS (Prod.snd (saveD (newD (2 : Nat)) { n := (1 : Nat), len := (7 : Int), sum := (9 : Nat) }) = (0 : Int)) (by (and_intros <;> try first | exact True.intro | with_reducible rfl | omega | with_reducible assumption | (refine fits_i64 ?_ ?_ <;> omega) | (refine fits_u64 ?_ ?_ <;> omega))) (C := True) (by kernel_rfl) (by (and_intros <;> try first | exact True.intro | with_reducible rfl | omega | with_reducible assumption | (refine fits_i64 ?_ ?_ <;> omega) | (refine fits_u64 ?_ ?_ <;> omega))) ?_
  refine To.run hS 5000 (C := True) (by kernel_rfl) (by (and_intros <;> try first | exact True.intro | with_reducible rfl | omega | with_reducible assumption | (refine fits_i64 ?_ ?_ <;> omega) | (refine fits_u64 ?_ ?_ <;> omega))) ?_
  refine To.yesd hS (Prod.snd (saveD (Prod.fst (saveD (newD (2 : Nat)) { n := (1 : Nat), len := (7 : Int), sum := (9 : Nat) })) { n := (2 : Nat), len := (8 : Int), sum := (0 : Nat) }) = (0 : Int)) (by (and_intros <;> try first | exact True.intro | with_reducible rfl | omega | with_reducible assumption | (refine fits_i64 ?_ ?_ <;> omega) | (refine fits_u64 ?_ ?_ <;> omega))) (C := True) (by kernel_rfl) (by (and_intros <;> try first | exact True.intro | with_reducible rfl | omega | with_reducible assumption | (refine fits_i64 ?_ ?_ <;> omega) | (refine fits_u64 ?_ ?_ <;> omega))) ?_
  refine To.run hS 5000 (C := Ex.C { μ := [(0 : Nat)], args := [AV.ptr (0 : Nat) (0 : Nat)], L := [AB.obj (Ob.disk (Prod.fst (saveD (Prod.fst (saveD (newD (2 : Nat)) { n := (1 : Nat), len := (7 : Int), sum := (9 : Nat) })) { n := (2 : Nat), len := (8 : Int), sum := (0 : Nat) })))], res := AV.tup [AV.agg (rootAV (Prod.fst (loadD (Prod.fst (saveD (Prod.fst (saveD (newD (2 : Nat)) { n := (1 : Nat), len := (7 : Int), sum := (9 : Nat) })) { n := (2 : Nat), len := (8 : Int), sum := (0 : Nat) }))))), AV.sy (Value.int IntKind.i64 (Prod.snd (loadD (Prod.fst (saveD (Prod.fst (saveD (newD (2 : Nat)) { n := (1 : Nat), len := (7 : Int), sum := (9 : Nat) })) { n := (2 : Nat), len := (8 : Int), sum := (0 : Nat) })))))], L' := [AB.obj (Ob.disk (Prod.fst (saveD (Prod.fst (saveD (newD (2 : Nat)) { n := (1 : Nat), len := (7 : Int), sum := (9 : Nat) })) { n := (2 : Nat), len := (8 : Int), sum := (0 : Nat) })))], E := [], C := DiskD.Fine (Prod.fst (saveD (Prod.fst (saveD (newD (2 : Nat)) { n := (1 : Nat), len := (7 : Int), sum := (9 : Nat) })) { n := (2 : Nat), len := (8 : Int), sum := (0 : Nat) })) }) (by kernel_rfl) (by (and_intros <;> try first | exact True.intro | with_reducible rfl | omega | with_reducible assumption | (refine fits_i64 ?_ ?_ <;> omega) | (refine fits_u64 ?_ ?_ <;> omega))) ?_
  refine To.yesd hS (Prod.snd (loadD (Prod.fst (saveD (Prod.fst (saveD (newD (2 : Nat)) { n := (1 : Nat), len := (7 : Int), sum := (9 : Nat) })) { n := (2 : Nat), len := (8 : Int), sum := (0 : Nat) }))) = (0 : Int)) (of_decide_eq_true (by kernel_rfl)) (C := True) (by kernel_rfl) (by (and_intros <;> try first | exact True.intro | with_reducible rfl | omega | with_reducible assumption | (refine fits_i64 ?_ ?_ <;> omega) | (refine fits_u64 ?_ ?_ <;> omega))) ?_
  refine To.run hS 5000 (C := True) (by kernel_rfl) (by (and_intros <;> try first | exact True.intro | with_reducible rfl | omega | with_reducible assumption | (refine fits_i64 ?_ ?_ <;> omega) | (refine fits_u64 ?_ ?_ <;> omega))) ?_
  refine To.yesd hS ([(↑(2 : Nat) : Int), RootD.len (Prod.fst (loadD (Prod.fst (saveD (Prod.fst (saveD (newD (2 : Nat)) { n := (1 : Nat), len := (7 : Int), sum := (9 : Nat) })) { n := (2 : Nat), len := (8 : Int), sum := (0 : Nat) })))), (↑(0 : Nat) : Int)] = [(2 : Int), (8 : Int), (0 : Int)]) (of_decide_eq_true (by kernel_rfl)) (C := True) (by kernel_rfl) (by (and_intros <;> try first | exact True.intro | with_reducible rfl | omega | with_reducible assumption | (refine fits_i64 ?_ ?_ <;> omega) | (refine fits_u64 ?_ ?_ <;> omega))) ?_
  refine To.run hS 5000 (C := True) (by kernel_rfl) (by (and_intros <;> try first | exact True.intro | with_reducible rfl | omega | with_reducible assumption | (refine fits_i64 ?_ ?_ <;> omega) | (refine fits_u64 ?_ ?_ <;> omega))) ?_
  refine To.end (AV.v (Value.bool ((26 : Int) == (26 : Int)))) (by kernel_rfl) ?_
  kernel_rfl
theorem alive6_ok : FOk Try.prog (trueF 24) := trueF_ok tab Try.func24 (by kernel_rfl) fun w => law_calls (args := []) s10_ok (by kernel_rfl) (alive6_to s10_ok) .nil
end Go.Proofs.Ytnkjhicokcmmpaa.Sm
