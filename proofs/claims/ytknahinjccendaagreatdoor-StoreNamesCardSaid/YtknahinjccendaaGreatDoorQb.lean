/-
  Texts of this claim, laid together: El, Em, En, Eo, Ep, Eq, Er, Es, Ev, Ey, Open, Ew, Ex, Sas0, Sas1, Sap0, Sas2, Sap1, Sas3, Sap2, Sas4, Sap3, Sas5, Sap4, Sas6, Sap5, Sas7, Sap6, Sas8, Sap7.
-/
import Derived.Test.YtknahinjccendaaGreatDoorQa
import Derived.RangeFuncRecord
import Derived.Deep.SlicePairs
import Derived.ProofKit
import Derived.OpenShut
import Derived.Carry
import Derived.Lib.SmallJoins
import Derived.Test.YtknahinjccendaaGreatDoorProg

namespace Go.Proofs.YtknahinjccendaaGreatDoor.Ev
open Go Go.RowKit
theorem vsame_eq : ∀ {x y : Value}, vsame x y = true → x = y := by
 intro x y h
 unfold vsame at h
 split at h
 · rename_i a b; cases a <;> cases b <;> simp at h <;> rfl
 · simp only [Bool.and_eq_true, decide_eq_true_eq] at h; rw [h.1, h.2]
 · rename_i a b
   simp only [decide_eq_true_eq] at h
   congr 1
   obtain ⟨a⟩ := a; obtain ⟨b⟩ := b
   congr 1
   exact Array.toList_inj.1 h
 · rfl
 · simp only [Bool.and_eq_true, Nat.beq_eq] at h; rw [h.1, h.2]
 · rfl
 · rfl
 · rfl
 · cases h
mutual
theorem sameA_eq : ∀ {x y : AV}, sameA x y = true → x = y
 | .v x, y, h => by cases y <;> simp [sameA] at h; rw [vsame_eq h]
 | .ptr i o, y, h => by cases y <;> simp [sameA] at h; simp [h]
 | .sl i o n c, y, h => by cases y <;> simp [sameA] at h; simp [h]
 | .su i o n c q, y, h => by cases y <;> simp [sameA] at h; simp [h]
 | .se, y, h => by cases y <;> simp [sameA] at h; rfl
 | .s0, y, h => by cases y <;> simp [sameA] at h; rfl
 | .mp i, y, h => by cases y <;> simp [sameA] at h; simp [h]
 | .agg l, y, h => by cases y <;> simp [sameA] at h; rw [sameAs_eq h]
 | .tup l, y, h => by cases y <;> simp [sameA] at h; rw [sameAs_eq h]
 | .fn f l m, y, h => by
   cases y <;> simp [sameA] at h
   obtain ⟨⟨h1, h2⟩, h3⟩ := h
   rw [h1, sameAs_eq h2, sameAs_eq h3]
 | .yl i, y, h => by cases y <;> simp [sameA] at h; simp [h]
 | .ifc t x, y, h => by
   cases y <;> simp [sameA] at h
   rw [h.1, sameA_eq h.2]
theorem sameAs_eq : ∀ {l m : List AV}, sameAs l m = true → l = m
 | [], m, h => by cases m <;> simp [sameAs] at h; rfl
 | x :: l, m, h => by
   cases m <;> simp [sameAs] at h
   rw [sameA_eq h.1, sameAs_eq h.2]
end
def envS (l : List Oper) (W : Tr Nat) (nt : Nat) (X T0 : Tr AV) (y s : Nat) : AV :=
 match W.get s with
 | some i => cond (Nat.blt s nt && ancB l y i) (At X i) (At T0 s)
 | none => At T0 s
def valS (W : Tr Nat) (nt : Nat) (X T0 : Tr AV) (C : Nat → Prop) [DecidablePred C] (s : Nat) : AV :=
 match W.get s with
 | some i => if s < nt ∧ C i then At X i else At T0 s
 | none => At T0 s
def Sees (l : List Oper) (o : Oper) (s : Nat) : Prop := s ∈ slotsOf o ∨ s ∈ guardSlot (dstIn l) o
section
variable {l : List Oper} {W : Tr Nat} (sc : Sc l W) {nt : Nat} {X T0 : Tr AV}
include sc
theorem envS_val {C : Nat → Prop} [DecidablePred C] (hC : ∀ y p, C y → Pred l y p → C p) {y s : Nat} {o : Oper} (ho : l[y]? = some o) (hs : Sees l o s) (hy : ¬ C y) (hp : ∀ p, Pred l y p → C p) :
   envS l W nt X T0 y s = valS W nt X T0 C s := by
 unfold envS valS
 cases hw : W.get s with
 | none => rfl
 | some i =>
   simp only
   have hlt : ∀ a b, ancB l a b = true → b < a := fun a b h => ancB_lt sc.below a b h
   by_cases hn : s < nt
   · have hb : Nat.blt s nt = true := by rw [Nat.blt_eq]; exact hn
     simp only [hb, Bool.true_and, hn, true_and]
     rcases sc.slot ho hs hw with rfl | h | h
     · have : ancB l i i = false := by
         cases h : ancB l i i with
         | false => rfl
         | true => exact absurd (hlt _ _ h) (Nat.lt_irrefl _)
       rw [this, if_neg hy]; rfl
     · have := anc_closed sc.below hC y i hp h
       rw [h, if_pos this]; rfl
     · have hni : ¬ C i := fun hi => hy (anc_closed sc.below hC i y (fun p hpp => hC i p hi hpp) h)
       have : ancB l y i = false := by
         cases h' : ancB l y i with
         | false => rfl
         | true => exact absurd (hlt _ _ h') (Nat.lt_asymm (hlt _ _ h))
       rw [this, if_neg hni]; rfl
   · have hb : Nat.blt s nt = false := by
       cases h : Nat.blt s nt with
       | false => rfl
       | true => rw [Nat.blt_eq] at h; exact absurd h hn
     simp [hb, hn]
end
def Pend (P : Program) (ρ : Env) (H : Tr AB) (lo hi : Nat) (live : Bool) (l : List Oper) (W : Tr Nat) (nt : Nat) (X T0 : Tr AV) (lds : List (Nat × TypeId × AV × AV)) (G : Nat → Option Nat) (y : Nat) : Prop :=
 ∃ o Ty, l[y]? = some o ∧ (∀ s, Sees l o s → At Ty s = envS l W nt X T0 y s) ∧
   ((wantedA Ty (dstIn l) o = false ∧ At X y = .v undef) ∨
    (wantedA Ty (dstIn l) o = true ∧ aopP P Ty o = some (At X y)) ∨
    (wantedA Ty (dstIn l) o = true ∧ ∃ t p, rdOf Ty o = some (t, p) ∧ (live = true → readA P t p H = some (At X y)) ∧ (y, t, p, At X y) ∈ lds) ∨
    (wantedA Ty (dstIn l) o = true ∧ ∃ e c k g, aopN P Ty o = some (e, c, k) ∧ At X y = k.av g ∧ G y = some g ∧ H.get g = some (.mem e none c) ∧ ρ g = none ∧ lo ≤ g ∧ g < hi))
structure DrR (P : Program) (ρ : Env) (H : Tr AB) (lo hi : Nat) (live : Bool) (nt : Nat) (T : Tr AV) (l : List Oper) (D : Nat) (X T0 : Tr AV) (lds : List (Nat × TypeId × AV × AV)) (W : Tr Nat) (C : Nat → Prop) (G : Nat → Option Nat) (rest : List Nat) (ts : Array Value) : Prop where
 sc : Sc l W
 lin : Lin l C rest
 closC : ∀ y p, C y → Pred l y p → C p
 closD : ∀ y p, Nat.testBit D y = true → Pred l y p → Nat.testBit D p = true
 sub : ∀ y, C y → Nat.testBit D y = true
 dlt : ∀ y, Nat.testBit D y = true → y < l.length
 size : ts.size = nt
 T : ∀ s, At T s = valS W nt X T0 (fun i => Nat.testBit D i = true) s
 ts : ∀ [DecidablePred C] s, VR ρ (valS W nt X T0 C s) (ts.getD s undef)
 pend : ∀ y, Nat.testBit D y = true → ¬ C y → Pend P ρ H lo hi live l W nt X T0 lds G y
 ginj : ∀ {y z g}, G y = some g → G z = some g → y = z
 gb : ∀ {y g}, G y = some g → g < hi ∧ Nat.testBit D y = true
theorem Pend.mono {P : Program} {ρ ρ' : Env} {H H' : Tr AB} {lo hi : Nat} {live : Bool} {l : List Oper} {W : Tr Nat} {nt : Nat} {X T0 : Tr AV} {lds lds' : List (Nat × TypeId × AV × AV)} {G : Nat → Option Nat} {y : Nat}
   (h : Pend P ρ H lo hi live l W nt X T0 lds G y) {hi' : Nat} {live' : Bool} (hhi : hi ≤ hi') (hg : ∀ g, G y = some g → lo ≤ g → g < hi → ρ g = none → ρ' g = none ∧ H'.get g = H.get g)
   (hl : ∀ t p x, (y, t, p, x) ∈ lds → (y, t, p, x) ∈ lds' ∧ (live' = true → (live = true → readA P t p H = some x) → readA P t p H' = some x)) : Pend P ρ' H' lo hi' live' l W nt X T0 lds' G y := by
 obtain ⟨o, Ty, ho, hs, h⟩ := h
 refine ⟨o, Ty, ho, hs, ?_⟩
 rcases h with h | h | ⟨h1, t, a, h2, h3, h4⟩ | ⟨h1, e, c, k, g, h2, h3, h4, h5, h6, h7, h8⟩
 · exact .inl h
 · exact .inr (.inl h)
 · exact .inr (.inr (.inl ⟨h1, t, a, h2, fun hlv => (hl _ _ _ h4).2 hlv h3, (hl _ _ _ h4).1⟩))
 · have := hg g h4 h7 h8 h6
   exact .inr (.inr (.inr ⟨h1, e, c, k, g, h2, h3, h4, by rw [this.2]; exact h5, this.1, h7, by omega⟩))
theorem DrR.mono {P : Program} {ρ ρ' : Env} {H H' : Tr AB} {lo hi hi' nt D : Nat} {live : Bool} {T X T0 : Tr AV} {l : List Oper} {lds : List (Nat × TypeId × AV × AV)} {W : Tr Nat} {C : Nat → Prop} {G : Nat → Option Nat} {rest : List Nat} {ts : Array Value}
   (h : DrR P ρ H lo hi live nt T l D X T0 lds W C G rest ts) (hle : ρ.le ρ') (hhi : hi ≤ hi') (hg : ∀ g, g < hi → ρ g = none → ρ' g = none ∧ H'.get g = H.get g) : DrR P ρ' H' lo hi' false nt T l D X T0 lds W C G rest ts :=
 { h with
   ts := fun s => (h.ts s).mono hle
   pend := fun y h1 h2 => (h.pend y h1 h2).mono hhi (fun g _ _ hb hn => hg g hb hn) (fun t p x hm => ⟨hm, fun h => by cases h⟩)
   gb := fun hgy => ⟨Nat.lt_of_lt_of_le (h.gb hgy).1 hhi, (h.gb hgy).2⟩ }
theorem DrR.live {P : Program} {ρ : Env} {H : Tr AB} {lo hi nt D : Nat} {T X T0 : Tr AV} {l : List Oper} {lds : List (Nat × TypeId × AV × AV)} {W : Tr Nat} {C : Nat → Prop} {G : Nat → Option Nat} {rest : List Nat} {ts : Array Value}
   (h : DrR P ρ H lo hi false nt T l D X T0 lds W C G rest ts) (hl : ldsOk P H lds = true) : DrR P ρ H lo hi true nt T l D X T0 lds W C G rest ts :=
 { h with
   pend := fun y h1 h2 => (h.pend y h1 h2).mono (Nat.le_refl _) (fun g _ _ _ hn => ⟨hn, rfl⟩) (fun t p x hm => ⟨hm, fun _ _ => by
     unfold ldsOk at hl
     rw [List.all_eq_true] at hl
     have := hl _ hm
     simp only at this
     split at this
     · rename_i x' hx; rw [hx, sameA_eq this]
     · cases this⟩) }
theorem DrR.forOp {P : Program} {ρ : Env} {H : Tr AB} {lo hi nt D : Nat} {live : Bool} {T X T0 : Tr AV} {l : List Oper} {lds : List (Nat × TypeId × AV × AV)} {W : Tr Nat} {C : Nat → Prop} {G : Nat → Option Nat} {rest : List Nat} {ts : Array Value}
   (h : DrR P ρ H lo hi live nt T l D X T0 lds W C G rest ts) {x : Nat} (hp : ∀ p, Pred l x p → C p) : DrR P ρ H lo hi live nt T l D X T0 (ldsFor l x lds) W C G rest ts :=
 { h with
   pend := fun y h1 h2 => (h.pend y h1 h2).mono (Nat.le_refl _) (fun g _ _ _ hn => ⟨hn, rfl⟩) (fun t p v hm => ⟨by
     unfold ldsFor
     rw [List.mem_filter]
     refine ⟨hm, ?_⟩
     have : ancB l x y = false := by
       cases hb : ancB l x y with
       | false => rfl
       | true => exact absurd (anc_closed h.sc.below h.closC x y hp hb) h2
     unfold ancB at this
     simp only [this, Bool.not_false], fun hlv hv => hv hlv⟩) }
theorem testBit_put (D y z : Nat) : Nat.testBit (D ||| 2 ^ y) z = (Nat.testBit D z || decide (y = z)) := by
 rw [Nat.testBit_or, Nat.testBit_two_pow]
theorem valS_congr {W : Tr Nat} {nt : Nat} {X X' T0 : Tr AV} {C C' : Nat → Prop} [DecidablePred C] [DecidablePred C'] {s : Nat} (h : ∀ i, W.get s = some i → (C i ↔ C' i) ∧ (C i → At X i = At X' i)) : valS W nt X T0 C s = valS W nt X' T0 C' s := by
 unfold valS
 cases hw : W.get s with
 | none => rfl
 | some i =>
   obtain ⟨h1, h2⟩ := h i hw
   simp only
   by_cases hc : s < nt ∧ C i
   · rw [if_pos hc, if_pos ⟨hc.1, h1.1 hc.2⟩, h2 hc.2]
   · rw [if_neg hc, if_neg (fun h => hc ⟨h.1, h1.2 h.2⟩)]
theorem envS_congr {l : List Oper} {W : Tr Nat} {nt : Nat} {X X' T0 : Tr AV} {y s : Nat} (h : ∀ i, ancB l y i = true → At X i = At X' i) : envS l W nt X T0 y s = envS l W nt X' T0 y s := by
 unfold envS
 cases hw : W.get s with
 | none => rfl
 | some i =>
   simp only
   cases hb : (Nat.blt s nt && ancB l y i) with
   | false => rfl
   | true =>
     simp only [Bool.and_eq_true] at hb
     simp only [cond_true]; exact h i hb.2
section
variable {P : Program} {ρ : Env} {H : Tr AB} {lo hi nt D : Nat} {live : Bool} {T X T0 : Tr AV} {l : List Oper} {lds : List (Nat × TypeId × AV × AV)} {W : Tr Nat} {C : Nat → Prop} {G : Nat → Option Nat} {rest : List Nat} {ts : Array Value}
theorem DrR.sees (h : DrR P ρ H lo hi live nt T l D X T0 lds W C G rest ts) {y s : Nat} {o : Oper} (ho : l[y]? = some o) (hs : Sees l o s) (hy : Nat.testBit D y = false) (hp : ∀ p, Pred l y p → Nat.testBit D p = true) : At T s = envS l W nt X T0 y s := by
 rw [h.T s]
 exact (envS_val h.sc (C := fun i => Nat.testBit D i = true) h.closD ho hs (by rw [hy]; simp) hp).symm
theorem DrR.seesC (h : DrR P ρ H lo hi live nt T l D X T0 lds W C G rest ts) {y s : Nat} {o : Oper} (ho : l[y]? = some o) (hs : Sees l o s) (hy : ¬ C y) (hp : ∀ p, Pred l y p → C p) : VR ρ (envS l W nt X T0 y s) (ts.getD s undef) := by
 classical
 rw [envS_val h.sc (C := C) h.closC ho hs hy hp]
 exact h.ts s
theorem DrR.putT (h : DrR P ρ H lo hi live nt T l D X T0 lds W C G rest ts) {y : Nat} {o : Oper} (ho : l[y]? = some o) (hy : Nat.testBit D y = false) (x : AV) (s : Nat) :
   At (putT nt T o.dst x) s = valS W nt (tput X y x) T0 (fun i => Nat.testBit (D ||| 2 ^ y) i = true) s := by
 have hX : ∀ i, i ≠ y → At (tput X y x) i = At X i := fun i hi => by rw [At_tput, if_neg hi]
 have hXy : At (tput X y x) y = x := by rw [At_tput, if_pos rfl]
 have hrest : ∀ s, (∀ i, W.get s = some i → i ≠ y) → At T s = valS W nt (tput X y x) T0 (fun i => Nat.testBit (D ||| 2 ^ y) i = true) s := fun s hs => by
   rw [h.T s]
   refine valS_congr fun i hi => ⟨?_, fun _ => (hX i (hs i hi)).symm⟩
   rw [testBit_put]
   have : y ≠ i := fun e => hs i hi e.symm
   simp [this]
 have hno : ∀ s, o.dst ≠ some s → ∀ i, W.get s = some i → i ≠ y := fun s hd i hi e => by
   subst e
   obtain ⟨o', h1, h2⟩ := (h.sc.wr s i).1 hi
   rw [ho] at h1; cases h1
   exact hd h2
 cases hd : o.dst with
 | none => exact hrest s (hno s (by rw [hd]; simp))
 | some d =>
   simp only [Ev.putT]
   cases hb : Nat.blt d nt with
   | true =>
     have hlt : d < nt := by simpa [Nat.blt_eq] using hb
     simp only [cond_true]
     rw [At_tput]
     by_cases e : s = d
     · subst e
       rw [if_pos rfl]
       unfold valS
       rw [(h.sc.wr s y).2 ⟨o, ho, hd⟩]
       simp only
       rw [if_pos ⟨hlt, by rw [testBit_put]; simp⟩, hXy]
     · rw [if_neg e]
       exact hrest s (hno s (by rw [hd]; simpa using fun h => e h.symm))
   | false =>
     have hlt : ¬ d < nt := fun hlt => by
       have : Nat.blt d nt = true := by rw [Nat.blt_eq]; exact hlt
       rw [hb] at this; cases this
     simp only [cond_false]
     by_cases e : s = d
     · subst e
       rw [h.T s]
       unfold valS
       rw [(h.sc.wr s y).2 ⟨o, ho, hd⟩]
       simp only
       rw [if_neg (fun h => hlt h.1), if_neg (fun h => hlt h.1)]
     · exact hrest s (hno s (by rw [hd]; simpa using fun h => e h.symm))
theorem DrR.putTs (h : DrR P ρ H lo hi live nt T l D X T0 lds W C G rest ts) {ρ' : Env} (hle : ρ.le ρ') {y : Nat} {o : Oper} (ho : l[y]? = some o) (hy : ¬ C y) {X' : Tr AV} {v : Value} (hX : ∀ i, C i → At X' i = At X i) (hv : VR ρ' (At X' y) v) [DecidablePred (fun z => C z ∨ z = y)] (s : Nat) :
   VR ρ' (valS W nt X' T0 (fun z => C z ∨ z = y) s) ((match o.dst with | some d => ts.setIfInBounds d v | none => ts).getD s undef) := by
 classical
 have hrest : ∀ s, (∀ i, W.get s = some i → i ≠ y) → VR ρ' (valS W nt X' T0 (fun z => C z ∨ z = y) s) (ts.getD s undef) := fun s hs => by
   have := (h.ts s).mono hle
   rwa [valS_congr (C := C) (C' := fun z => C z ∨ z = y) (X' := X') (fun i hi => ⟨by simp [hs i hi], fun hc => (hX i hc).symm⟩)] at this
 have hno : ∀ s, o.dst ≠ some s → ∀ i, W.get s = some i → i ≠ y := fun s hd i hi e => by
   subst e
   obtain ⟨o', h1, h2⟩ := (h.sc.wr s i).1 hi
   rw [ho] at h1; cases h1
   exact hd h2
 cases hd : o.dst with
 | none => exact hrest s (hno s (by rw [hd]; simp))
 | some d =>
   simp only
   by_cases hlt : d < nt
   · rw [getD_set _ _ _ _ (by rw [h.size]; exact hlt)]
     by_cases e : s = d
     · subst e
       rw [if_pos rfl]
       unfold valS
       rw [(h.sc.wr s y).2 ⟨o, ho, hd⟩]
       simp only
       rw [if_pos ⟨hlt, by simp⟩]
       exact hv
     · rw [if_neg e]
       exact hrest s (hno s (by rw [hd]; simpa using fun h => e h.symm))
   · have hs : ts.setIfInBounds d v = ts := by simp [Array.setIfInBounds, h.size, hlt]
     rw [hs]
     by_cases e : s = d
     · subst e
       have := (h.ts s).mono hle
       unfold valS at this ⊢
       rw [(h.sc.wr s y).2 ⟨o, ho, hd⟩] at this ⊢
       simp only at this ⊢
       rw [if_neg (fun h => hlt h.1)] at this ⊢
       exact this
     · exact hrest s (hno s (by rw [hd]; simpa using fun h => e h.symm))
end
theorem mem_slots {o : Oper} {s : Tmp} (h : Operand.tmp s ∈ o.op.operands) : s ∈ slotsOf o := by
 unfold slotsOf
 rw [List.mem_filterMap]
 exact ⟨.tmp s, by simpa using h, rfl⟩
theorem ev_of_slots {ρ : Env} {Ty : Tr AV} {fr : Frame} {o : Oper} (h : ∀ s, s ∈ slotsOf o → VR ρ (At Ty s) (fr.tmps.getD s undef)) : ∀ y ∈ o.op.operands, VR ρ (aev Ty y) (fr.eval y) := by
 intro y hy
 cases y with
 | tmp t => exact h t (mem_slots hy)
 | const x => exact ofV_VR x
 | global g => exact .v _
 | func f => simpa [aev, Frame.eval] using VR.fn (.func f) (VRs.nil (ρ := ρ)) VRs.nil
theorem finish_region {fr : Frame} {ops : Array Oper} {i : Nat} {r : List Nat} {k : List Item} {o : Oper} (ht : fr.todo = .inRegion ops (i :: r) :: k) (ho : ops[i]? = some o) (v : Value) :
   fr.finish v = { fr with tmps := (match o.dst with | some d => fr.tmps.setIfInBounds d v | none => fr.tmps), todo := .inRegion ops r :: k } := by
 unfold Frame.finish
 rw [ht]
 simp only [ho, Option.bind_some]
 cases o.dst <;> rfl
theorem DrR.caught {P : Program} {ρ ρ' : Env} {H : Tr AB} {lo hi nt D : Nat} {T X T0 : Tr AV} {l : List Oper} {lds : List (Nat × TypeId × AV × AV)} {W : Tr Nat} {C : Nat → Prop} {G : Nat → Option Nat} {y : Nat} {r : List Nat} {ts : Array Value}
   (h : DrR P ρ H lo hi true nt T l D X T0 lds W C G (y :: r) ts) (hD : Nat.testBit D y = true) {o : Oper} (ho : l[y]? = some o) {v : Value} (hle : ρ.le ρ') (hg : ∀ g z, G z = some g → z ≠ y → ρ g = none → ρ' g = none) (hv : VR ρ' (At X y) v) :
   DrR P ρ' H lo hi true nt T l D X T0 lds W (fun z => C z ∨ z = y) G r (match o.dst with | some d => ts.setIfInBounds d v | none => ts) := by
 cases h.lin with
 | cons hy hn hp t =>
   exact { h with
     lin := t
     closC := fun z p hz hzp => by
       rcases hz with hz | rfl
       · exact .inl (h.closC z p hz hzp)
       · exact .inl (hp p hzp)
     sub := fun z hz => by
       rcases hz with hz | rfl
       · exact h.sub z hz
       · exact hD
     size := by cases o.dst <;> simp [h.size]
     ts := fun s => h.putTs hle ho hn (fun _ _ => rfl) hv s
     pend := fun z h1 h2 => (h.pend z h1 (fun hc => h2 (.inl hc))).mono (Nat.le_refl _) (fun g hG _ _ hn => ⟨hg g z hG (fun e => h2 (.inr e)) hn, rfl⟩) (fun t p x hm => ⟨hm, fun _ hl => hl rfl⟩) }
theorem catchup {P : Program} {w0 : Bs} {H : Tr AB} {lo n nt D : Nat} {T X T0 : Tr AV} {ops : Array Oper} {lds : List (Nat × TypeId × AV × AV)} {W : Tr Nat} {G : Nat → Option Nat} {k : List Item} {cs : List Frame} :
   ∀ (rest : List Nat) (ρ : Env) (w : World) (fr : Frame) (C : Nat → Prop), HR w0 ρ H n w → fr.todo = .inRegion ops rest :: k → fr.mode = .run → DrR P ρ H lo n true nt T ops.toList D X T0 lds W C G rest fr.tmps →
   ∃ (rest' : List Nat) (ρ' : Env) (w' : World) (fr' : Frame) (C' : Nat → Prop), Steps P (lone fr cs w) (lone fr' cs w') ∧ HR w0 ρ' H n w' ∧ ρ.le ρ' ∧ (∀ g, g < lo → ρ' g = ρ g) ∧
     fr' = { fr with tmps := fr'.tmps, todo := .inRegion ops rest' :: k } ∧ DrR P ρ' H lo n true nt T ops.toList D X T0 lds W C' G rest' fr'.tmps ∧ (∀ y r, rest' = y :: r → Nat.testBit D y = false) := by
 intro rest
 induction rest with
 | nil =>
   intro ρ w fr C hr ht hm hd
   exact ⟨[], ρ, w, fr, C, Steps.refl _ _, hr, ρ.le_refl, fun _ _ => rfl, by rw [← ht], hd, fun y r e => by cases e⟩
 | cons y r ih =>
   intro ρ w fr C hr ht hm hd
   cases hD : Nat.testBit D y with
   | false => exact ⟨y :: r, ρ, w, fr, C, Steps.refl _ _, hr, ρ.le_refl, fun _ _ => rfl, by rw [← ht], hd, fun y' r' e => by cases e; exact hD⟩
   | true =>
     obtain ⟨hy, hn, hp⟩ : y < ops.toList.length ∧ ¬ C y ∧ ∀ p, Pred ops.toList y p → C p := by
       cases hd.lin with | cons hy hn hp t => exact ⟨hy, hn, hp⟩
     obtain ⟨o, Ty, ho, hs, hcase⟩ := hd.pend y hD hn
     have ho' : ops[y]? = some o := by simpa using ho
     have hsee : ∀ s, Sees ops.toList o s → VR ρ (At Ty s) (fr.tmps.getD s undef) := fun s h => by
       rw [hs s h]; exact hd.seesC ho h hn hp
     have hev := ev_of_slots (fr := fr) (fun s h => hsee s (.inl h))
     have hw := wantedA_sound (n := 0) (ops := ops) (fun d h => hsee d (.inr h))
     have hplain := hd.sc.plain ho
     -- what is left, behind one step
     have go : ∀ (ρ' : Env) (w' : World) (v : Value), step P (lone fr cs w) = .next (lone (fr.finish v) cs w') → HR w0 ρ' H n w' → ρ.le ρ' → (∀ g, g < lo → ρ' g = ρ g) → (∀ g z, G z = some g → z ≠ y → ρ g = none → ρ' g = none) → VR ρ' (At X y) v →
         ∃ (rest' : List Nat) (ρ' : Env) (w' : World) (fr' : Frame) (C' : Nat → Prop), Steps P (lone fr cs w) (lone fr' cs w') ∧ HR w0 ρ' H n w' ∧ ρ.le ρ' ∧ (∀ g, g < lo → ρ' g = ρ g) ∧
           fr' = { fr with tmps := fr'.tmps, todo := .inRegion ops rest' :: k } ∧ DrR P ρ' H lo n true nt T ops.toList D X T0 lds W C' G rest' fr'.tmps ∧ (∀ y r, rest' = y :: r → Nat.testBit D y = false) := by
       intro ρ' w' v hst hr' hle hlo hg hv
       have hf := finish_region ht ho' v
       have hd' := hd.caught hD ho hle hg hv
       obtain ⟨rest', ρ2, w2, fr2, C2, h1, h2, h3, h4, h5, h6, h7⟩ := ih ρ' w' (fr.finish v) _ hr' (by rw [hf]) (by rw [hf]; exact hm) (by rw [hf]; exact hd')
       refine ⟨rest', ρ2, w2, fr2, C2, .head hst h1, h2, Env.le_trans hle h3, fun g hgl => (h4 g hgl).trans (hlo g hgl), ?_, h6, h7⟩
       rw [h5, hf]
     rcases hcase with ⟨h1, h2⟩ | ⟨h1, h2⟩ | ⟨h1, t, a, h2, h3, _⟩ | ⟨h1, e, c, kk, g, h2, h3, h4, h5, h6, h7, h8⟩
     · refine go ρ w undef (step_unwanted ht hm ?_) hr ρ.le_refl (fun _ _ => rfl) (fun _ _ _ _ h => h) (by rw [h2]; exact .v _)
       rw [ho']; simp only [Option.map_some, Option.getD_some]; rw [hw]; exact h1
     · obtain ⟨v, hv, hrun⟩ := aopP_sound h2 hev
       exact go ρ w v (step_value (stepG_oper ht hm ho' (by rw [hw]; exact h1) hplain) (hrun w)) hr ρ.le_refl (fun _ _ => rfl) (fun _ _ _ _ h => h) hv
     · obtain ⟨v, hv, hrun⟩ := readA_sound hr h2 (h3 rfl) hev
       exact go ρ w v (step_value (stepG_oper ht hm ho' (by rw [hw]; exact h1) hplain) hrun) hr ρ.le_refl (fun _ _ => rfl) (fun _ _ _ _ h => h) hv
     · obtain ⟨vs, hvs, hrun⟩ := aopN_sound h2 hev
       have hbr : BR (ρ.set g (w.heap.size, 0)) 0 (.mem e none c) (.cells vs.toArray e) := ⟨vs, [], (0, 0), hvs.mono (Env.le_set h6 _), by simp, unfrozen_zero _, rfl⟩
       refine go (ρ.set g (w.heap.size, 0)) _ _ (step_value (stepG_oper ht hm ho' (by rw [hw]; exact h1) hplain) (hrun w)) (hr.name h8 h6 h5 hbr) (Env.le_set h6 _) (fun g' hl => ?_) (fun g' z hz hne hn' => ?_) ?_
       · unfold Env.set; rw [if_neg (by omega)]
       · unfold Env.set
         rw [if_neg (fun e => by subst e; exact hne (hd.ginj hz h4))]
         exact hn'
       · rw [h3]; exact NewV.VR (Env.set_same _ _ _) kk
theorem DrR.ahead {P : Program} {ρ : Env} {H H' : Tr AB} {lo n n' nt D : Nat} {T X T0 : Tr AV} {l : List Oper} {lds : List (Nat × TypeId × AV × AV)} {W : Tr Nat} {C : Nat → Prop} {G : Nat → Option Nat} {rest : List Nat} {ts : Array Value} {w0 : Bs} {w : World}
   (h : DrR P ρ H lo n true nt T l D X T0 lds W C G rest ts) (hr : HR w0 ρ H n w) (hlo : lo ≤ n) {y : Nat} {o : Oper} {x : AV} {q : Option (TypeId × AV × AV)} (hy : (y, o) ∈ readyL D l 0) (he : eagerA P T l o H n = some (x, H', n', q)) :
   ∃ G', HR w0 ρ H' n' w ∧ Ext ρ ρ H H' n n' ∧ DrR P ρ H' lo n' true nt (Ev.putT nt T o.dst x) l (D ||| 2 ^ y) (tput X y x) T0 (addLd y q lds) W C G' rest ts := by
 obtain ⟨ho, hyD, hp⟩ := mem_ready'.1 hy
 have hnC : ¬ C y := fun hc => by have := h.sub y hc; rw [hyD] at this; cases this
 have hX : ∀ i, i ≠ y → At (tput X y x) i = At X i := fun i hi => by rw [At_tput, if_neg hi]
 have hXy : At (tput X y x) y = x := by rw [At_tput, if_pos rfl]
 have hanc : ∀ z i, Nat.testBit D z = true → ancB l z i = true → i ≠ y := fun z i hz hi e => by
   have := anc_closed h.sc.below (C := fun i => Nat.testBit D i = true) h.closD z i (fun p hpp => h.closD z p hz hpp) hi
   rw [e, hyD] at this; cases this
 have hancy : ∀ i, ancB l y i = true → i ≠ y := fun i hi e => by subst e; exact absurd (ancB_lt h.sc.below _ _ hi) (Nat.lt_irrefl _)
 have hsee : ∀ s, Sees l o s → At T s = envS l W nt (tput X y x) T0 y s := fun s hs => by
   rw [h.sees ho hs hyD hp]
   exact envS_congr fun i hi => (hX i (hancy i hi)).symm
 have finish : ∀ (G' : Nat → Option Nat) (lds' : List (Nat × TypeId × AV × AV)), n ≤ n' → (∀ z, z ≠ y → G' z = G z) → (∀ g, G' y = some g → n ≤ g ∧ g < n') → (∀ g, g < n → ρ g = none → H'.get g = H.get g) → (∀ t p v, readA P t p H = some v → readA P t p H' = some v) → (∀ e, e ∈ lds → e ∈ lds') →
     Pend P ρ H' lo n' true l W nt (tput X y x) T0 lds' G' y → DrR P ρ H' lo n' true nt (Ev.putT nt T o.dst x) l (D ||| 2 ^ y) (tput X y x) T0 lds' W C G' rest ts := by
   intro G' lds' hnn hGo hGy hH hL hlds hpy
   refine { h with closD := fun z p hz hzp => ?_, sub := fun z hz => ?_, dlt := fun z hz => ?_, T := h.putT ho hyD x, ts := fun s => ?_, pend := fun z hz hzC => ?_, ginj := fun {a b g} ha hb => ?_, gb := fun {a g} ha => ?_ }
   · rw [testBit_put] at hz ⊢
     by_cases e : y = z
     · subst e; rw [hp p hzp]; rfl
     · simp [e] at hz; rw [h.closD z p hz hzp]; rfl
   · rw [testBit_put, h.sub z hz]; rfl
   · rw [testBit_put] at hz
     by_cases e : y = z
     · subst e; exact (List.getElem?_eq_some_iff.1 ho).1
     · simp [e] at hz; exact h.dlt z hz
   · have := h.ts s
     rwa [valS_congr (X' := tput X y x) (C' := C) (fun i hi => ⟨Iff.rfl, fun hc => (hX i (fun e => hnC (e ▸ hc))).symm⟩)] at this
   · by_cases e : z = y
     · subst e; exact hpy
     · have hzD : Nat.testBit D z = true := by
         rw [testBit_put] at hz
         have : y ≠ z := fun h => e h.symm
         simpa [this] using hz
       obtain ⟨o', Ty, h1, h2, h3⟩ := h.pend z hzD hzC
       refine ⟨o', Ty, h1, fun s hs => (h2 s hs).trans (envS_congr fun i hi => (hX i (hanc z i hzD hi)).symm), ?_⟩
       rw [hX z e]
       rcases h3 with h3 | h3 | ⟨h3, t, a, h4, h5, h6⟩ | ⟨h3, e', c, k, g, h4, h5, h6, h7, h8, h9, h10⟩
       · exact .inl h3
       · exact .inr (.inl h3)
       · exact .inr (.inr (.inl ⟨h3, t, a, h4, fun _ => hL _ _ _ (h5 rfl), hlds _ h6⟩))
       · exact .inr (.inr (.inr ⟨h3, e', c, k, g, h4, h5, (hGo z e).trans h6, (hH g h10 h8).trans h7, h8, h9, by omega⟩))
   · by_cases ea : a = y <;> by_cases eb : b = y
     · rw [ea, eb]
     · subst ea
       rw [hGo b eb] at hb
       have := hGy g ha; have := (h.gb hb).1; omega
     · subst eb
       rw [hGo a ea] at ha
       have := hGy g hb; have := (h.gb ha).1; omega
     · rw [hGo a ea] at ha; rw [hGo b eb] at hb; exact h.ginj ha hb
   · by_cases ea : a = y
     · subst ea; exact ⟨(hGy g ha).2, by rw [testBit_put]; simp⟩
     · rw [hGo a ea] at ha
       exact ⟨Nat.lt_of_lt_of_le (h.gb ha).1 hnn, by rw [testBit_put, (h.gb ha).2]; rfl⟩
 have hGn : G y = none := by
   cases hg : G y with
   | none => rfl
   | some g => have := (h.gb hg).2; rw [hyD] at this; cases this
 unfold eagerA at he
 cases hw : wantedA T (dstIn l) o with
 | false =>
   simp only [hw, cond_false, Option.some.injEq, Prod.mk.injEq] at he
   obtain ⟨rfl, rfl, rfl, rfl⟩ := he
   refine ⟨G, hr, Ext.refl _ _ _, finish G lds (Nat.le_refl _) (fun _ _ => rfl) (fun g hg => by rw [hGn] at hg; cases hg) (fun _ _ _ => rfl) (fun _ _ _ h => h) (fun _ h => h) ?_⟩
   exact ⟨o, T, ho, hsee, .inl ⟨hw, hXy⟩⟩
 | true =>
   simp only [hw, cond_true] at he
   cases hP : aopP P T o with
   | some x' =>
     simp only [hP, Option.some.injEq, Prod.mk.injEq] at he
     obtain ⟨rfl, rfl, rfl, rfl⟩ := he
     refine ⟨G, hr, Ext.refl _ _ _, finish G lds (Nat.le_refl _) (fun _ _ => rfl) (fun g hg => by rw [hGn] at hg; cases hg) (fun _ _ _ => rfl) (fun _ _ _ h => h) (fun _ h => h) ?_⟩
     exact ⟨o, T, ho, hsee, .inr (.inl ⟨hw, by rw [hXy]; exact hP⟩)⟩
   | none =>
     simp only [hP] at he
     have alloc : (match aopN P T o with | some (e, l, k) => some (k.av n, tput H n (.mem e none l), n + 1, none) | none => none) = some (x, H', n', q) →
         ∃ G', HR w0 ρ H' n' w ∧ Ext ρ ρ H H' n n' ∧ DrR P ρ H' lo n' true nt (Ev.putT nt T o.dst x) l (D ||| 2 ^ y) (tput X y x) T0 (addLd y q lds) W C G' rest ts := by
       intro he
       cases hN : aopN P T o with
       | none => simp [hN] at he
       | some r =>
         obtain ⟨e, c, k⟩ := r
         simp only [hN, Option.some.injEq, Prod.mk.injEq] at he
         obtain ⟨rfl, rfl, rfl, rfl⟩ := he
         have htop := hr.top (Nat.le_refl n)
         refine ⟨fun z => if z = y then some n else G z, hr.put _, Ext.put hr _, finish _ lds (Nat.le_succ _) (fun z hz => by simp [hz]) (fun g hg => by simp at hg; omega) (fun g hg _ => by rw [get_tput, if_neg (by omega)]) (fun t p v hl => ?_) (fun _ h => h) ?_⟩
         · have hne : ∀ {i B}, H.get i = some B → (tput H n (.mem e none c)).get i = some B := fun {i B} hB => by
             have : i ≠ n := fun e => by subst e; rw [htop.2] at hB; cases hB
             rw [get_tput, if_neg this]; exact hB
           exact readA_of (fun _ _ _ _ hB => hne hB) (fun _ _ _ hB => hne hB) hl
         · refine ⟨o, T, ho, hsee, .inr (.inr (.inr ⟨hw, e, c, k, n, hN, hXy, by simp, by rw [get_tput, if_pos rfl], htop.1, hlo, Nat.lt_succ_self _⟩))⟩
     split at he
     · rename_i t a hop
       cases hl : readA P t a H with
       | none => simp [hl] at he
       | some x' =>
         simp only [hl, Option.some.injEq, Prod.mk.injEq] at he
         obtain ⟨rfl, rfl, rfl, rfl⟩ := he
         refine ⟨G, hr, Ext.refl _ _ _, finish G _ (Nat.le_refl _) (fun _ _ => rfl) (fun g hg => by rw [hGn] at hg; cases hg) (fun _ _ _ => rfl) (fun _ _ _ h => h) (fun _ h => by simp [addLd, h]) ?_⟩
         exact ⟨o, T, ho, hsee, .inr (.inr (.inl ⟨hw, t, a, hop, fun _ => by rw [hXy]; exact hl, by rw [hXy]; simp [addLd]⟩))⟩
     · exact alloc he
def RgR (P : Program) (ρ : Env) (H : Tr AB) (lo hi : Nat) (live : Bool) (nt : Nat) (T : Tr AV) : ARg → List Item → Array Value → Prop
 | .no, front, ts => front = [] ∧ TR ρ nt T ts
 | .pl ops l, front, ts => (∃ rest, front = [.inRegion ops rest] ∧ PlR ops l rest) ∧ TR ρ nt T ts
 | .dr ops D X T0 lds cur, front, ts => ∃ W C G rest, front = [.inRegion ops rest] ∧ DrR P ρ H lo hi live nt T ops.toList D X T0 lds W C G rest ts ∧ (∀ y, cur = some y → ∃ r, rest = y :: r ∧ Nat.testBit D y = false)
structure FRel (P : Program) (ρ : Env) (H : Tr AB) (hi : Nat) (live : Bool) (af : AFr) (fr : Frame) : Prop where
 fn : fr.fn = af.fn
 kind : fr.kind = .normal
 mode : fr.mode = cond af.ret .returning .run
 ds : DsR ρ af.ds fr.defers
 ro : RoR ρ af.round fr.roundOf
 todo : ∃ front rest, fr.todo = front ++ rest ∧ IRs ρ af.todo rest ∧ RgR P ρ H af.lo hi live af.nt af.T af.rg front fr.tmps
theorem RgR.mono {P : Program} {ρ ρ' : Env} {H H' : Tr AB} {lo hi hi' nt : Nat} {live : Bool} {T : Tr AV} {rg : ARg} {front : List Item} {ts : Array Value} (h : RgR P ρ H lo hi live nt T rg front ts) (hle : ρ.le ρ') (hhi : hi ≤ hi')
   (hg : ∀ g, g < hi → ρ g = none → ρ' g = none ∧ H'.get g = H.get g) : RgR P ρ' H' lo hi' false nt T rg front ts := by
 cases rg with
 | no => exact ⟨h.1, h.2.mono hle⟩
 | pl ops l => exact ⟨h.1, h.2.mono hle⟩
 | dr ops D X T0 lds cur =>
   obtain ⟨W, C, G, rest, h1, h2, h3⟩ := h
   exact ⟨W, C, G, rest, h1, h2.mono hle hhi hg, h3⟩
theorem FRel.mono {P : Program} {ρ ρ' : Env} {H H' : Tr AB} {hi hi' : Nat} {live : Bool} {af : AFr} {fr : Frame} (h : FRel P ρ H hi live af fr) (hle : ρ.le ρ') (hhi : hi ≤ hi')
   (hg : ∀ g, g < hi → ρ g = none → ρ' g = none ∧ H'.get g = H.get g) : FRel P ρ' H' hi' false af fr := by
 obtain ⟨front, rest, h1, h2, h3⟩ := h.todo
 exact ⟨h.fn, h.kind, h.mode, h.ds.mono hle, h.ro.mono hle, front, rest, h1, h2.mono hle, h3.mono hle hhi hg⟩
inductive StackR (P : Program) (ρ : Env) (H : Tr AB) : Nat → List AFr → List Frame → Prop
 | nil (hi : Nat) : StackR P ρ H hi [] []
 | cons {hi : Nat} {af : AFr} {fr : Frame} {l : List AFr} {m : List Frame} (h : FRel P ρ H hi false af fr) (hlo : af.lo ≤ hi) (t : StackR P ρ H af.lo l m) : StackR P ρ H hi (af :: l) (fr :: m)
theorem StackR.mono {P : Program} {ρ ρ' : Env} {H H' : Tr AB} {hi : Nat} {l : List AFr} {m : List Frame} (h : StackR P ρ H hi l m) (hle : ρ.le ρ') (hg : ∀ g, g < hi → ρ g = none → ρ' g = none ∧ H'.get g = H.get g) : StackR P ρ' H' hi l m := by
 induction h with
 | nil => exact .nil _
 | cons h hlo t ih => exact .cons (h.mono hle (Nat.le_refl _) hg) hlo (ih (fun g hl hn => hg g (Nat.lt_of_lt_of_le hl hlo) hn))
def SR (P : Program) (w0 : Bs) (s : ASt) (fr : Frame) (cs : List Frame) (w : World) : Prop :=
 ∃ ρ, HR w0 ρ s.H s.n w ∧ FRel P ρ s.H s.n true s.fr fr ∧ s.fr.lo ≤ s.n ∧ StackR P ρ s.H s.fr.lo s.cs cs
theorem Ext.low {ρ ρ' : Env} {H H' : Tr AB} {n n' m : Nat} (h : Ext ρ ρ' H H' n n') (hm : m ≤ n) : ∀ g, g < m → ρ g = none → ρ' g = none ∧ H'.get g = H.get g := fun g hg hn =>
 ⟨(h.old (Nat.lt_of_lt_of_le hg hm)).trans hn, h.keep (Nat.lt_of_lt_of_le hg hm) hn⟩
structure FTok (P : Program) (FT : FuncId → Option Func) : Prop where
 fn : ∀ {f fn}, FT f = some fn → P.funcs[f]? = some fn
 call : ∀ {f fn}, FT f = some fn → fn.body.isSome = true → ∀ args w, (callFunc f args).run P w = .ok (.enter f args) w
def HKok (P : Program) (HK : Hook) : Prop := ∀ {f args H n x H' n'}, HK f args H n = some (x, H', n') → (∀ xs w, (callFunc f xs).run P w = .ok (.enter f xs) w) ∧
 ∀ {w0 ρ w vs}, HR w0 ρ H n w → VRs ρ args vs → Calls P f vs.toArray w (fun e w' => ∃ ρ' v, e = .returned v ∧ VR ρ' x v ∧ HR w0 ρ' H' n' w' ∧ Ext ρ ρ' H H' n n')
def toCallee (fv : Value) (args : Array Value) : Sem Next := do let d ← Deferred.ofValue fv args; invoke d.target d.args
theorem calleeOf_sound {P : Program} {ρ : Env} {f : AV} {args : List AV} {fv : Value} {vs : List Value} {c : Callee'} (h : calleeOf P f args = some c) (hf : VR ρ f fv) (ha : VRs ρ args vs) :
   (∃ g xs us, c = .fn g xs ∧ VRs ρ xs us ∧ ∀ w, (toCallee fv vs.toArray).run P w = (callFunc g us.toArray).run P w) ∨
   (∃ i b cc, c = .yl i args ∧ ρ i = some (b, cc) ∧ ∀ w, (toCallee fv vs.toArray).run P w = (Instr.yield b vs.toArray).run P w) := by
 unfold calleeOf at h
 split at h
 · rename_i g first cap
   simp only [Option.some.injEq] at h; subst h
   cases hf with
   | fn _ e e' =>
     refine .inl ⟨g, _, _, rfl, (e.append ha).append e', fun w => ?_⟩
     unfold toCallee
     simp [Deferred.ofValue, invoke]
 · rename_i i
   simp at h; subst h
   cases hf with
   | yl e =>
     refine .inr ⟨i, _, _, rfl, e, fun w => ?_⟩
     unfold toCallee
     simp [Deferred.ofValue, invoke]
 · cases h
theorem methodA_sound {P : Program} {t : TypeId} {name : String} {f : FuncId} (h : methodA P t name = some f) : ∀ v w, (method (P.types.size + Made.depth) t v name).run P w = .ok (f, v) w := by
 unfold methodA at h
 split at h
 · rename_i inf hinf
   split at h
   · rename_i m hm
     intro v w
     obtain ⟨d, hd⟩ : ∃ d, P.types.size + Made.depth = d + 1 := ⟨P.types.size + Made.depth - 1, by unfold Made.depth; omega⟩
     rw [hd]
     unfold method
     have hpath : ∀ {l : List FieldStep}, m.path.toList = l → l = [] → m.path.isEmpty = true := fun h1 h2 => by
       rw [h2] at h1
       simpa using h1
     split at h
     · rename_i g e hp hfn hu
       simp at h; subst h
       have hpe := hpath hp rfl
       simp [run_typeInfo hinf, hm, hp, follow, hfn, receiverAt, run_underlying hu, Place.get, hpe]
     · cases h
     · rename_i g d' hne hp hfn hu
       simp at h; subst h
       have hpe := hpath hp rfl
       simp only [Sem.run_bind, run_typeInfo hinf, Result.andThen_ok, hm, hp, follow, Sem.run_pure, hfn, receiverAt, run_underlying hu]
       cases d' <;> first | (exact absurd rfl (hne _)) | simp [Place.get]
     · cases h
   · cases h
 · cases h
theorem callOf_sound {P : Program} {ρ : Env} {T : Tr AV} {o : Oper} {c : Callee'} {ev : Operand → Value} (h : callOf P T o = some c) (hev : ∀ y ∈ o.op.operands, VR ρ (aev T y) (ev y)) :
   (∃ g xs us, c = .fn g xs ∧ VRs ρ xs us ∧ ∀ w, (execOp ev o).run P w = (callFunc g us.toArray).run P w) ∨
   (∃ i xs vs b cc, c = .yl i xs ∧ VRs ρ xs vs ∧ ρ i = some (b, cc) ∧ ∀ w, (execOp ev o).run P w = (Instr.yield b vs.toArray).run P w) := by
 obtain ⟨dst, op, type, pos, after, guard⟩ := o
 unfold callOf at h
 split at h
 · rename_i f args ats hop
   simp only at hop
   subst hop
   have hargs : VRs ρ (args.toList.map (aev T)) (args.toList.map ev) := VRs.map_ev fun y hy => hev y (by simp [Op.operands, Call.operands]; exact .inr (by simpa using hy))
   have hf := hev f (by simp [Op.operands, Call.operands])
   have hex : ∀ w, (execOp ev ⟨dst, .call ⟨.value f, args, ats⟩, type, pos, after, guard⟩).run P w = (toCallee (ev f) (args.toList.map ev).toArray).run P w := fun w => by
     unfold execOp toCallee resolve
     rw [arrmap]
   rcases calleeOf_sound h hf hargs with ⟨g, xs, us, h1, h2, h3⟩ | ⟨i, b, cc, h1, h2, h3⟩
   · exact .inl ⟨g, xs, us, h1, h2, fun w => (hex w).trans (h3 w)⟩
   · exact .inr ⟨i, _, _, b, cc, h1, hargs, h2, fun w => (hex w).trans (h3 w)⟩
 · rename_i r name args ats hop
   simp only at hop
   subst hop
   have hargs : VRs ρ (args.toList.map (aev T)) (args.toList.map ev) := VRs.map_ev fun y hy => hev y (by simp [Op.operands, Call.operands]; exact .inr (by simpa using hy))
   have hr := hev r (by simp [Op.operands, Call.operands])
   split at h
   · rename_i t x hrx
     rw [hrx] at hr
     generalize hrv : ev r = rv at hr
     cases hr with
     | ifc _ hx =>
       rename_i u
       cases hm : methodA P t name with
       | none => simp [hm] at h
       | some g =>
         simp [hm] at h; subst h
         refine .inl ⟨g, _, _, rfl, .cons hx hargs, fun w => ?_⟩
         have e0 : ∀ (a : Value) (ys : Array Value), (#[a] ++ ys)[0]? = some a := fun a ys => by rw [← Array.getElem?_toList]; simp
         have e1 : ∀ (a : Value) (ys : Array Value), (#[a] ++ ys).extract 1 (#[a] ++ ys).size = ys := fun a ys => Array.toList_inj.1 (by simp [List.extract_eq_take_drop])
         have e2 : (u :: args.toList.map ev).toArray = #[u] ++ args.map ev := Array.toList_inj.1 (by simp)
         unfold execOp resolve
         simp only [Sem.run_bind, Sem.run_pure, Result.andThen_ok, invoke, hrv, e0, e1, callMethod, run_program, methodA_sound hm, e2]
   · cases h
 · cases h
section
variable {P : Program} {FT : FuncId → Option Func} {HK : Hook} {w0 : Bs} {w : World} {ρ : Env} {H H' : Tr AB} {n n' : Nat}
theorem At_argsT : ∀ (l : List AV) (k : Nat) (T : Tr AV) (s : Nat), At (argsT l k T) s = if k ≤ s ∧ s < k + l.length then (l[s - k]?).getD (.v undef) else At T s
 | [], k, T, s => by simp [argsT]; omega
 | x :: l, k, T, s => by
   unfold argsT
   rw [At_argsT l (k + 1), At_tput]
   by_cases h1 : s = k
   · subst h1; rw [if_neg (by omega), if_pos rfl, if_pos ⟨by omega, by simp⟩]; simp
   · by_cases h2 : k + 1 ≤ s ∧ s < k + 1 + l.length
     · rw [if_pos h2, if_pos ⟨by omega, by simp; omega⟩]
       rw [show s - k = (s - (k + 1)) + 1 by omega]
       simp
     · rw [if_neg h2, if_neg h1, if_neg (by simp; omega)]
theorem argsT_TR {l : List AV} {vs : List Value} (h : VRs ρ l vs) (m : Nat) : TR ρ (cond (Nat.ble m l.length) l.length m) (argsT l 0 .e) (vs.toArray ++ Array.replicate (m - vs.toArray.size) undef) := by
 have hl := h.length
 constructor
 · simp
   cases hb : Nat.ble m l.length with
   | true => have := Nat.le_of_ble_eq_true hb; simp; omega
   | false =>
     have : l.length < m := by
       rcases Nat.lt_or_ge l.length m with h' | h'
       · exact h'
       · rw [Nat.ble_eq_true_of_le h'] at hb; cases hb
     simp; omega
 · intro s
   rw [At_argsT]
   by_cases hs : s < l.length
   · rw [if_pos ⟨Nat.zero_le _, by omega⟩]
     obtain ⟨u, hu, hx⟩ := h.get (k := s) (x := l[s]) (List.getElem?_eq_getElem hs)
     have : (vs.toArray ++ Array.replicate (m - vs.toArray.size) undef).getD s undef = u := by
       rw [Array.getD_eq_getD_getElem?, ← Array.getElem?_toList]
       simp only [Array.toList_append]
       rw [List.getElem?_append_left (by rw [← hl]; exact hs), hu]
       rfl
     rw [this]
     simp [hs]
     exact hx
   · rw [if_neg (by omega)]
     have : (vs.toArray ++ Array.replicate (m - vs.toArray.size) undef).getD s undef = undef := by
       rw [Array.getD_eq_getD_getElem?, ← Array.getElem?_toList]
       simp only [Array.toList_append]
       rw [List.getElem?_append_right (by rw [← hl]; omega)]
       simp only [Array.toList_replicate, List.getElem?_replicate]
       split <;> rfl
     rw [this]
     exact .v _
theorem putParams_TR : ∀ {ps : List Tmp} {xs : List AV} {vs : List Value} {nt : Nat} {T : Tr AV} {ts : Array Value}, TR ρ nt T ts → VRs ρ xs vs → TR ρ nt (putParams nt ps xs T) ((ps.zip vs).foldl (fun t p => t.setIfInBounds p.1 p.2) ts)
 | [], xs, vs, nt, T, ts, h, _ => by cases xs <;> simpa [putParams] using h
 | p :: ps, [], vs, nt, T, ts, h, hx => by cases hx; simpa [putParams] using h
 | p :: ps, x :: xs, vs, nt, T, ts, h, hx => by
   cases hx with
   | cons e t =>
     simp only [putParams, List.zip_cons_cons, List.foldl_cons]
     exact putParams_TR (h.put (d := some p) e) t
theorem apply_enter {fr : Frame} {cs : List Frame} {w' : World} {S : Sem Next} {f : FuncId} {args : Array Value} (hc : ∀ d x y z r, fr.todo ≠ .call d x y z :: r) (hr : S.run P w = .ok (.enter f args) w') :
   (stepG.apply P true fr cs none S w).bare = .go { frame := Frame.enter P f args .normal, callers := fr :: cs, status := .running, dying := none } w' := by
 have : (match fr.todo with | .call _ true _ _ :: _ => CallKind.wrapped | _ => .normal) = .normal := by
   split
   · rename_i e; exact absurd e (hc _ _ _ _ _)
   · rfl
 simp [stepG.apply, hr]
 exact congrArg (Frame.enter P f args) this
theorem apply_round {fr : Frame} {cs : List Frame} {w' : World} {S : Sem Next} {l : Nat} {f : FuncId} {tmps : Array Value} {a b : Code} (hr : S.run P w = .ok (.round l f tmps a b) w') :
   (stepG.apply P true fr cs none S w).bare = .go { frame := Frame.round l f tmps a b .normal, callers := fr :: cs, status := .running, dying := none } w' := by
 simp [stepG.apply, hr]
theorem enter_sound (hft : FTok P FT) {s s' : ASt} {af : AFr} {fr : Frame} {cs base : List Frame} {c : Callee'} (h : enterA FT af s c = some s') (hr : HR w0 ρ s.H s.n w) (hfr : FRel P ρ s.H s.n false af fr) (hlo : af.lo ≤ s.n)
   (hst : StackR P ρ s.H af.lo s.cs cs) {S : Sem Next} {fr0 : Frame} {w1 : World} (hg : (stepG P true { frame := fr0, callers := cs ++ base, status := .running, dying := none } w1).bare = (stepG.apply P true fr (cs ++ base) none S w).bare) (hc : ∀ d x y z r, fr.todo ≠ .call d x y z :: r)
   (hS : (∃ g xs us, c = .fn g xs ∧ VRs ρ xs us ∧ S.run P w = (callFunc g us.toArray).run P w) ∨ (∃ i xs vs b cc, c = .yl i xs ∧ VRs ρ xs vs ∧ ρ i = some (b, cc) ∧ S.run P w = (Instr.yield b vs.toArray).run P w)) :
   ∃ fr', step P (lone fr0 (cs ++ base) w1) = .next (lone fr' (fr :: cs ++ base) w) ∧ SR P w0 s' fr' (fr :: cs) w := by
 rcases hS with ⟨g, xs, us, rfl, hx, hrun⟩ | ⟨i, xs, vs, b, cc, rfl, hx, hi, hrun⟩
 · simp only [enterA] at h
   cases hfn : FT g with
   | none => simp [hfn] at h
   | some fn =>
     cases hb : fn.body with
     | none => simp [hfn, hb] at h
     | some body =>
       simp only [hfn, hb, Option.some.injEq] at h
       subst h
       refine ⟨_, step_lone_go (hg.trans (apply_enter hc (hrun.trans (hft.call hfn (by rw [hb]; rfl) _ _)))), ρ, hr, ?_, Nat.le_refl _, .cons hfr hlo hst⟩
       have hP := hft.fn hfn
       refine ⟨rfl, rfl, rfl, .nil, .inl ⟨rfl, rfl⟩, [], _, rfl, ?_, rfl, ?_⟩
       · simp only [Frame.enter, hP, Option.bind_some, hb, Option.getD_some]
         exact .cons (.code _) .nil
       · have := argsT_TR hx fn.ntmps
         simpa [Frame.enter, hP] using this
 · simp only [enterA] at h
   split at h
   · rename_i st pd fn nt T ps asg bd d hB
     rw [beq_dec] at h
     by_cases hl : xs.length = ps.length
     · simp only [hl, decide_true, cond_true, Option.some.injEq] at h
       subst h
       obtain ⟨o, ho, ts, db, dc, hts, hd, rfl⟩ := hr.blk hi hB
       have hvl := hx.length
       have hy : (Instr.yield b vs.toArray).run P w = .ok (.round b fn ((ps.toArray.zip vs.toArray).foldl (fun tmps (x : Tmp × Value) => tmps.setIfInBounds x.1 x.2) ts) asg bd) w := by
         unfold Instr.yield
         have hne : ¬ (vs.toArray.size ≠ ps.toArray.size) := by simp; omega
         simp only [Sem.run_bind, run_getLoop ho, Result.andThen_ok, if_neg hne, Sem.run_pure]
       refine ⟨_, step_lone_go (hg.trans (apply_round (hrun.trans hy))), ρ, hr, ?_, Nat.le_refl _, .cons hfr hlo hst⟩
       refine ⟨rfl, rfl, rfl, .nil, .inr ⟨i, b, cc, rfl, rfl, hi⟩, [], _, rfl, .cons (.code _) (.cons .beginRound (.cons (.code _) .nil)), rfl, ?_⟩
       have := putParams_TR (ps := ps) hts hx
       have he : (ps.toArray.zip vs.toArray).foldl (fun tmps (x : Tmp × Value) => tmps.setIfInBounds x.1 x.2) ts = (ps.zip vs).foldl (fun t p => t.setIfInBounds p.1 p.2) ts := by
         rw [← Array.foldl_toList]; simp
       simp only [Frame.round, he]
       exact this
     · simp [hl] at h
   · cases h
theorem now_sound (hk : HKok P HK) {T : Tr AV} {o : Oper} {x : AV} (hr : HR w0 ρ H n w) (h : nowA HK P T o H n = some (x, H', n')) {fr : Frame} {cs : List Frame} (hev : ∀ y ∈ o.op.operands, VR ρ (aev T y) (fr.eval y))
   (hg : stepG P true { frame := fr, callers := cs, status := .running, dying := none } w = stepG.apply P true fr cs none (execOp fr.eval o) w) (hc : ∀ d x y z r, fr.todo ≠ .call d x y z :: r) :
   ∃ ρ' v w', Steps P (lone fr cs w) (lone (fr.finish v) cs w') ∧ VR ρ' x v ∧ HR w0 ρ' H' n' w' ∧ Ext ρ ρ' H H' n n' := by
 unfold nowA at h
 cases hW : aopW P T o H n with
 | some r =>
   rw [hW] at h
   simp at h; subst h
   obtain ⟨ρ', v, w', h1, h2, h3, h4⟩ := aopW_sound hr hW hev
   refine ⟨ρ', v, w', ?_, h2, h3, h4⟩
   rcases h1 with h1 | ⟨rfl, h1⟩
   · exact .one (step_value hg h1)
   · exact .one (step_skip' hg h1)
 | none =>
   rw [hW] at h
   simp only [hooked] at h
   split at h
   · rename_i f args hco
     obtain ⟨hen, hcalls⟩ := hk h
     rcases callOf_sound hco hev with ⟨g, xs, us, h1, h2, h3⟩ | ⟨i, xs, vs, b, cc, h1, _⟩
     · cases h1
       have hst := step_enter hc hg ((h3 w).trans (hen _ _))
       obtain ⟨e, w', fr'', hR, hcomes, _, hleave⟩ := hcalls hr h2 (fr :: cs)
       obtain ⟨ρ', v, rfl, hv, hr', hx⟩ := hR
       exact ⟨ρ', v, w', .head hst (Steps.trans hcomes (.one (step_leave_returned hleave))), hv, hr', hx⟩
     · cases h1
   · cases h
theorem FRel.pl_done {af : AFr} {fr : Frame} {hi hi' : Nat} {live : Bool} {ρ' : Env} {ops : Array Oper} {o : Oper} {r : List Oper} (h : FRel P ρ H hi live af fr) (hrg : af.rg = .pl ops (o :: r)) (hle : ρ.le ρ') {x : AV} {v : Value} (hv : VR ρ' x v) (live' : Bool) :
   FRel P ρ' H' hi' live' { af with T := putT af.nt af.T o.dst x, rg := .pl ops r } (fr.finish v) := by
 obtain ⟨front, rest, h1, h2, h3⟩ := h.todo
 rw [hrg] at h3
 obtain ⟨⟨rest', rfl, hp⟩, hT⟩ := h3
 obtain ⟨i, r', rfl, hi, hp'⟩ := hp.head
 have ht : fr.todo = .inRegion ops (i :: r') :: rest := h1
 rw [finish_region ht hi v]
 exact ⟨h.fn, h.kind, h.mode, h.ds.mono hle, h.ro.mono hle, [.inRegion ops r'], rest, rfl, h2.mono hle, ⟨r', rfl, hp'⟩, (hT.mono hle).put hv⟩
theorem DrR.opdone {ρ' : Env} {lo nt D : Nat} {live : Bool} {T X T0 : Tr AV} {l : List Oper} {lds : List (Nat × TypeId × AV × AV)} {W : Tr Nat} {C : Nat → Prop} {G : Nat → Option Nat} {y : Nat} {r : List Nat} {ts : Array Value} {hi hi' : Nat}
   (h : DrR P ρ H lo hi live nt T l D X T0 lds W C G (y :: r) ts) (hy : Nat.testBit D y = false) {o : Oper} (ho : l[y]? = some o) {x : AV} {v : Value} (hle : ρ.le ρ') (hg : ∀ g, g < hi → ρ g = none → ρ' g = none ∧ H'.get g = H.get g) (hnn : hi ≤ hi')
   (hl : ldsOk P H' lds = true) (hv : VR ρ' x v) :
   DrR P ρ' H' lo hi' true nt (Ev.putT nt T o.dst x) l (D ||| 2 ^ y) (tput X y x) T0 lds W (fun z => C z ∨ z = y) G r (match o.dst with | some d => ts.setIfInBounds d v | none => ts) := by
 cases h.lin with
 | cons hylt hn hp t =>
   have hX : ∀ i, i ≠ y → At (tput X y x) i = At X i := fun i hi => by rw [At_tput, if_neg hi]
   have hXy : At (tput X y x) y = x := by rw [At_tput, if_pos rfl]
   have hpD : ∀ p, Pred l y p → Nat.testBit D p = true := fun p hpp => h.sub p (hp p hpp)
   have hanc : ∀ z i, Nat.testBit D z = true → ancB l z i = true → i ≠ y := fun z i hz hi e => by
     have := anc_closed h.sc.below (C := fun i => Nat.testBit D i = true) h.closD z i (fun p hpp => h.closD z p hz hpp) hi
     rw [e, hy] at this; cases this
   have h2 := (h.mono hle hnn hg).live hl
   refine { h with lin := t, closC := fun z p hz hzp => ?_, closD := fun z p hz hzp => ?_, sub := fun z hz => ?_, dlt := fun z hz => ?_, size := ?_, T := h.putT ho hy x, ts := fun s => ?_, pend := fun z hz hzC => ?_, gb := fun {a g} ha => ?_ }
   · rcases hz with hz | rfl
     · exact .inl (h.closC z p hz hzp)
     · exact .inl (hp p hzp)
   · rw [testBit_put] at hz ⊢
     by_cases e : y = z
     · subst e; rw [hpD p hzp]; rfl
     · simp [e] at hz; rw [h.closD z p hz hzp]; rfl
   · rw [testBit_put]
     rcases hz with hz | rfl
     · rw [h.sub z hz]; rfl
     · simp
   · rw [testBit_put] at hz
     by_cases e : y = z
     · subst e; exact hylt
     · simp [e] at hz; exact h.dlt z hz
   · cases o.dst <;> simp [h.size]
   · exact h.putTs hle ho hn (fun i hi => hX i (fun e => hn (e ▸ hi))) (by rw [hXy]; exact hv) s
   · have hne : z ≠ y := fun e => hzC (.inr e)
     have hzD : Nat.testBit D z = true := by
       rw [testBit_put] at hz
       have : y ≠ z := fun h => hne h.symm
       simpa [this] using hz
     obtain ⟨o', Ty, q1, q2, q3⟩ := h2.pend z hzD (fun hc => hzC (.inl hc))
     refine ⟨o', Ty, q1, fun s hs => (q2 s hs).trans (envS_congr fun i hi => (hX i (hanc z i hzD hi)).symm), ?_⟩
     rw [hX z hne]
     exact q3
   · have := h.gb ha
     exact ⟨Nat.lt_of_lt_of_le this.1 hnn, by rw [testBit_put, this.2]; rfl⟩
theorem finishA_sound {c c' : AFr} {cfr : Frame} {hi hi' : Nat} {x : AV} {v : Value} (h : finishA P H c x = some c') (hf : FRel P ρ H hi false c cfr) (hhi : hi ≤ hi') (hv : VR ρ x v) : FRel P ρ H hi' true c' (cfr.finish v) ∧ c'.lo = c.lo := by
 unfold finishA at h
 split at h
 · rename_i ops o r hrg
   simp only [Option.some.injEq] at h
   subst h
   exact ⟨hf.pl_done hrg ρ.le_refl hv true, rfl⟩
 · rename_i ops D X T0 lds y hrg
   split at h
   · rename_i o ho
     cases hl : ldsOk P H lds with
     | false => simp [hl] at h
     | true =>
       simp only [hl, cond_true, Option.some.injEq] at h
       subst h
       obtain ⟨front, rest, h1, h2, h3⟩ := hf.todo
       rw [hrg] at h3
       obtain ⟨W, C, G, rest', rfl, hd, hcur⟩ := h3
       obtain ⟨r, rfl, hyD⟩ := hcur y rfl
       have ht : cfr.todo = .inRegion ops (y :: r) :: rest := h1
       have ho' : ops[y]? = some o := by simpa using ho
       rw [finish_region ht ho' v]
       refine ⟨⟨hf.fn, hf.kind, hf.mode, hf.ds, hf.ro, [.inRegion ops r], rest, rfl, h2, W, _, G, r, rfl, hd.opdone hyD ho ρ.le_refl (fun g _ hn => ⟨hn, rfl⟩) hhi hl hv, fun y hy => by cases hy⟩, rfl⟩
   · cases h
 · rename_i hrg
   split at h
   · rename_i i k htd
     simp only [Option.some.injEq] at h
     subst h
     obtain ⟨front, rest, h1, h2, h3⟩ := hf.todo
     rw [hrg] at h3
     obtain ⟨rfl, hT⟩ := h3
     rw [htd] at h2
     cases h2 with
     | cons a t =>
       cases a with
       | inRF hb =>
         rename_i m b cc
         have ht : cfr.todo = .inRangeFunc b :: m := h1
         have hfin : cfr.finish v = { cfr with todo := .endRangeFunc b :: m } := by unfold Frame.finish; rw [ht]
         rw [hfin]
         refine ⟨⟨hf.fn, hf.kind, hf.mode, hf.ds, hf.ro, [], _, rfl, .cons (.endRF hb) t, ?_⟩, rfl⟩
         simp only [hrg]
         exact ⟨rfl, hT⟩
   · cases h
 · cases h
end
section
variable {P : Program} {FT : FuncId → Option Func} {HK : Hook} {w0 : Bs}
def Goes (P : Program) (w0 : Bs) (base : List Frame) (s' : ASt) (fr : Frame) (cs : List Frame) (w : World) : Prop :=
 ∃ fr' cs' w', Steps P (lone fr (cs ++ base) w) (lone fr' (cs' ++ base) w') ∧ SR P w0 s' fr' cs' w'
theorem Goes.head {base : List Frame} {s' : ASt} {fr fr1 : Frame} {cs cs1 : List Frame} {w w1 : World} (h : Steps P (lone fr (cs ++ base) w) (lone fr1 (cs1 ++ base) w1)) (k : Goes P w0 base s' fr1 cs1 w1) : Goes P w0 base s' fr cs w := by
 obtain ⟨fr', cs', w', h1, h2⟩ := k
 exact ⟨fr', cs', w', h.trans h1, h2⟩
theorem back_sound {base : List Frame} {s s' : ASt} {fr : Frame} {cs : List Frame} {w w' : World} {ρ : Env} {x : AV} {v : Value} (h : backA P s x = some s') (hr : HR w0 ρ s.H s.n w') (hst : StackR P ρ s.H s.fr.lo s.cs cs) (hlo : s.fr.lo ≤ s.n) (hv : VR ρ x v)
   (hk : ∀ c cs', cs = c :: cs' → step P (lone fr (cs ++ base) w) = .next (lone (c.finish v) (cs' ++ base) w')) : Goes P w0 base s' fr cs w := by
 unfold backA at h
 generalize hscs : s.cs = scs at hst h
 cases hst with
 | nil => cases h
 | cons hf hl t =>
   rename_i c cfr l m
   simp only at h
   cases hc : finishA P s.H c x with
   | none => simp [hc] at h
   | some c' =>
     simp only [hc, Option.some.injEq] at h
     subst h
     obtain ⟨h1, h2⟩ := finishA_sound hc hf hlo hv
     refine ⟨_, m, w', .one (hk cfr m rfl), ρ, hr, h1, ?_, ?_⟩
     · show c'.lo ≤ s.n
       rw [h2]; omega
     · show StackR P ρ s.H c'.lo l m
       rw [h2]; exact t
theorem todo_sound {base : List Frame} {s : ASt} {fr : Frame} {cs : List Frame} {w : World} (h : SR P w0 s fr cs w) (hrg : s.fr.rg = .no) (hret : s.fr.ret = false) {l : List AItem} {m : List Item} (hl : ∀ ρ, IRs ρ s.fr.todo fr.todo → IRs ρ l m)
   (hs : stepG.exec P true true fr (cs ++ base) none w = .go { frame := { fr with todo := m }, callers := cs ++ base, status := .running, dying := none } w) : Goes P w0 base { s with fr := { s.fr with todo := l } } fr cs w := by
 obtain ⟨ρ, hr, hf, hlo, hst⟩ := h
 obtain ⟨front, rest, h1, h2, h3⟩ := hf.todo
 rw [hrg] at h3
 obtain ⟨rfl, hT⟩ := h3
 have ht : fr.todo = rest := h1
 have hm := hf.mode
 rw [hret] at hm
 refine ⟨_, cs, w, .one (step_todo hm hs), ρ, hr, ⟨hf.fn, hf.kind, hf.mode, hf.ds, hf.ro, [], m, rfl, hl ρ (ht ▸ h2), ?_⟩, hlo, hst⟩
 simp only [hrg]
 exact ⟨rfl, hT⟩
theorem Fr.put (w : World) (b : Nat) (o : Obj) : Fr (fun k => k = b) w (w.putObj b o) := ⟨rfl, rfl, rfl, by simp [World.putObj], fun k _ hn => World.putObj_heap_other hn⟩
theorem leave_sound {base : List Frame} {s s' : ASt} {fr : Frame} {cs : List Frame} {w : World} (h : SR P w0 s fr cs w) (hrg : s.fr.rg = .no) (hret : s.fr.ret = false) {jump : Option Code} (hl : leaveA P s jump = some s')
   (hs0 : fr.roundOf = none → (jump = none ∨ jump = some .ret) → stepG.exec P true true fr (cs ++ base) none w = .go { frame := { fr with mode := .returning }, callers := cs ++ base, status := .running, dying := none } w)
   (hs1 : ∀ l, fr.roundOf = some l → stepG.exec P true true fr (cs ++ base) none w = GStep.after (seen P fr.fn ((Instr.endRound l jump).runT P w #[]).2) (match ((Instr.endRound l jump).runT P w #[]).1 with
       | .ok v w => doReturn P true fr (cs ++ base) none v w
       | .halt _ w => .ended (.stuck "range over a function: no such loop" (fr.pos P)) w)) : Goes P w0 base s' fr cs w := by
 obtain ⟨ρ, hr, hf, hlo, hst⟩ := h
 have hm := hf.mode
 rw [hret] at hm
 unfold leaveA at hl
 rcases hf.ro with ⟨hro, hro'⟩ | ⟨i, b, c, hro, hro', hi⟩
 · rw [hro] at hl
   simp only at hl
   have key : ∀ s'', some { s with fr := { s.fr with ret := true } } = some s'' → (jump = none ∨ jump = some .ret) → Goes P w0 base s'' fr cs w := by
     intro s'' he hj
     simp only [Option.some.injEq] at he
     subst he
     obtain ⟨front, rest, h1, h2, h3⟩ := hf.todo
     exact ⟨_, cs, w, .one (step_todo hm (hs0 hro' hj)), ρ, hr, ⟨hf.fn, hf.kind, rfl, hf.ds, hf.ro, front, rest, h1, h2, h3⟩, hlo, hst⟩
   split at hl
   · exact key _ hl (.inl rfl)
   · exact key _ hl (.inr rfl)
   · cases hl
 · rw [hro] at hl
   have hs := hs1 b hro'
   simp only at hl
   split at hl
   · rename_i st pd fn nt T ps asg bd d hB
     obtain ⟨o, ho, ts, db, dc, hts, hd, rfl⟩ := hr.blk hi hB
     have hrun : (Instr.endRound b jump).run P w = .ok (.bool (goesOn jump)) (w.putObj b (.loop { state := (stOf jump), pending := jump, fn := fn, tmps := ts, params := ps.toArray, assign := asg, body := bd, defers := db })) := by
       unfold Instr.endRound
       simp only [Sem.run_bind, run_getLoop ho, Result.andThen_ok, Sem.run_pure]
       simp only [setObj, Sem.run, ho, Result.andThen_ok, World.putObj]
       cases jump <;> rfl
     have hw' : HR w0 ρ (tput s.H i (.loop (stOf jump) jump fn nt T ps asg bd d)) s.n (w.putObj b (.loop { state := (stOf jump), pending := jump, fn := fn, tmps := ts, params := ps.toArray, assign := asg, body := bd, defers := db })) :=
       hr.write hi hB rfl (World.putObj_heap_same (hr.base hi).2) ⟨ts, db, dc, hts, hd, rfl⟩ (Fr.put w b _)
     refine back_sound hl hw' ?_ hlo (VR.v _) (fun c cs' hcs => ?_)
     · exact hst.mono ρ.le_refl (fun g _ hn => ⟨hn, by rw [get_tput, if_neg (fun e => by subst e; rw [hi] at hn; cases hn)]⟩)
     · refine step_lone_go ?_
       have hstep : stepG P true { frame := fr, callers := cs ++ base, status := .running, dying := none } w = stepG.exec P true true fr (cs ++ base) none w := by
         obtain ⟨fn, tmps, todo, defers, mode, kind, ro⟩ := fr
         simp only at hm; subst hm
         rfl
       rw [hstep, hs]
       simp only [Sem.runT_eq, hrun, GStep.bare_after]
       rw [hcs]
       simp only [List.cons_append, doReturn, hf.kind]
       rfl
   · cases hl
end
section
variable {P : Program} {FT : FuncId → Option Func} {HK : Hook} {w0 : Bs}
theorem inRegion_not_call {ops : Array Oper} {l : List Nat} {k : List Item} : ∀ d x y z r, (Item.inRegion ops l :: k) ≠ .call d x y z :: r := fun _ _ _ _ _ e => by cases e
theorem stepPl_sound (hft : FTok P FT) (hk : HKok P HK) {base : List Frame} {s s' : ASt} {fr : Frame} {cs : List Frame} {w : World} {ops : Array Oper} {o : Oper} {r : List Oper} (h : SR P w0 s fr cs w) (hrg : s.fr.rg = .pl ops (o :: r)) (hret : s.fr.ret = false)
   (hs : stepPl HK P FT s ops o r = some s') : Goes P w0 base s' fr cs w := by
 obtain ⟨ρ, hr, hf, hlo, hst⟩ := h
 have hm := hf.mode
 rw [hret] at hm
 obtain ⟨front, rest, h1, h2, h3⟩ := hf.todo
 rw [hrg] at h3
 obtain ⟨⟨rest', rfl, hp⟩, hT⟩ := h3
 obtain ⟨i, r', rfl, hoi, hp'⟩ := hp.head
 have ht : fr.todo = .inRegion ops (i :: r') :: rest := h1
 have hev : ∀ y ∈ o.op.operands, VR ρ (aev s.fr.T y) (fr.eval y) := fun y _ => hT.ev y
 have hw := wantedA_sound (n := 0) (ops := ops) (o := o) (T := s.fr.T) (fun d _ => hT.2 d)
 have fin : ∀ {ρ' : Env} {x : AV} {v : Value} {H' : Tr AB} {n' : Nat} {w' : World}, Steps P (lone fr (cs ++ base) w) (lone (fr.finish v) (cs ++ base) w') → VR ρ' x v → HR w0 ρ' H' n' w' → Ext ρ ρ' s.H H' s.n n' →
     Goes P w0 base { s with fr := { s.fr with T := putT s.fr.nt s.fr.T o.dst x, rg := .pl ops r }, H := H', n := n' } fr cs w := by
   intro ρ' x v H' n' w' hsteps hv hr' hx
   exact ⟨_, cs, w', hsteps, ρ', hr', hf.pl_done hrg hx.le hv true, Nat.le_trans hlo hx.nn, hst.mono hx.le (hx.low hlo)⟩
 unfold stepPl at hs
 cases hpl : plainOp o with
 | false => simp [hpl] at hs
 | true =>
   simp only [hpl, cond_true] at hs
   cases hwa : wantedA s.fr.T (dstIn ops.toList) o with
   | false =>
     simp only [hwa, cond_false, Option.some.injEq] at hs
     subst hs
     refine fin (.one (step_unwanted ht hm ?_)) (.v undef) hr (Ext.refl _ _ _)
     rw [hoi]; simp only [Option.map_some, Option.getD_some]; rw [hw, hwa]
   | true =>
     simp only [hwa, cond_true] at hs
     have hg := stepG_oper (P := P) (cs := cs ++ base) (w := w) ht hm hoi (by rw [hw, hwa]) hpl
     have hc : ∀ d x y z r, fr.todo ≠ .call d x y z :: r := by rw [ht]; exact inRegion_not_call
     cases hP : aopP P s.fr.T o with
     | some x =>
       simp only [hP, Option.some.injEq] at hs
       subst hs
       obtain ⟨v, hv, hrun⟩ := aopP_sound hP hev
       exact fin (.one (step_value hg (hrun w))) hv hr (Ext.refl _ _ _)
     | none =>
       simp only [hP] at hs
       split at hs
       · rename_i t a hop
         cases hl : loadA P t (aev s.fr.T a) s.H with
         | none => simp [hl] at hs
         | some x =>
           simp only [hl, Option.some.injEq] at hs
           subst hs
           obtain ⟨v, hv, hrun⟩ := loadA_sound hr hl (hev a (by rw [hop]; simp [Op.operands]))
           refine fin (.one (step_value hg ?_)) hv hr (Ext.refl _ _ _)
           unfold execOp
           simp only [hop, Sem.run_bind, hrun, Result.andThen_ok, Sem.run_pure]
       · cases hN : aopN P s.fr.T o with
         | some q =>
           obtain ⟨e, l, k⟩ := q
           simp only [hN, Option.some.injEq] at hs
           subst hs
           obtain ⟨vs, hvs, hrun⟩ := aopN_sound hN hev
           have hbr : BR (ρ.set s.n (w.heap.size, 0)) 0 (.mem e none l) (.cells vs.toArray e) := ⟨vs, [], (0, 0), hvs.mono (Env.le_set (hr.top (Nat.le_refl _)).1 _), by simp, unfrozen_zero _, rfl⟩
           exact fin (.one (step_value hg (hrun w))) (NewV.VR (Env.set_same _ _ _) k) (hr.alloc hbr) (Ext.alloc hr _ _)
         | none =>
           simp only [hN] at hs
           cases hnow : nowA HK P s.fr.T o s.H s.n with
           | some q =>
             obtain ⟨x, H', n'⟩ := q
             simp only [hnow, Option.some.injEq] at hs
             subst hs
             obtain ⟨ρ', v, w', g1, g2, g3, g4⟩ := now_sound hk hr hnow hev hg hc
             exact fin g1 g2 g3 g4
           | none =>
             simp only [hnow] at hs
             cases hco : callOf P s.fr.T o with
             | none => simp [hco] at hs
             | some c =>
               simp only [hco] at hs
               have hS := callOf_sound (P := P) hco hev
               obtain ⟨fr', g1, g2⟩ := enter_sound (base := base) hft hs hr (hf.mono ρ.le_refl (Nat.le_refl _) (fun g _ hn => ⟨hn, rfl⟩)) hlo hst (congrArg GStep.bare hg) hc (by
                 rcases hS with ⟨g, xs, us, q1, q2, q3⟩ | ⟨j, xs, vs, b, cc, q1, q2, q3, q4⟩
                 · exact .inl ⟨g, xs, us, q1, q2, q3 w⟩
                 · exact .inr ⟨j, xs, vs, b, cc, q1, q2, q3, q4 w⟩)
               exact ⟨fr', fr :: cs, w, .one g1, g2⟩
theorem firstEager_spec {T : Tr AV} {all : List Oper} {H : Tr AB} {n : Nat} : ∀ {l : List (Nat × Oper)} {r}, firstEager P T all H n l = some r → (r.1, r.2.1) ∈ l ∧ eagerA P T all r.2.1 H n = some r.2.2
 | [], r, h => by simp [firstEager] at h
 | (y, o) :: l, r, h => by
   unfold firstEager at h
   cases he : eagerA P T all o H n with
   | some q =>
     obtain ⟨x, H', n', q⟩ := q
     simp only [he, Option.some.injEq] at h
     subst h
     exact ⟨by simp, he⟩
   | none =>
     simp only [he] at h
     obtain ⟨h1, h2⟩ := firstEager_spec h
     exact ⟨by simp [h1], h2⟩
theorem stepDr_sound (hft : FTok P FT) (hk : HKok P HK) {base : List Frame} {s s' : ASt} {fr : Frame} {cs : List Frame} {w : World} {ops : Array Oper} {D : Nat} {X T0 : Tr AV} {lds : List (Nat × TypeId × AV × AV)} (h : SR P w0 s fr cs w) (hrg : s.fr.rg = .dr ops D X T0 lds none) (hret : s.fr.ret = false)
   (hs : stepDr HK P FT s ops D X T0 lds = some s') : Goes P w0 base s' fr cs w := by
 obtain ⟨ρ, hr, hf, hlo, hst⟩ := h
 have hm := hf.mode
 rw [hret] at hm
 obtain ⟨front, rest, h1, h2, h3⟩ := hf.todo
 rw [hrg] at h3
 obtain ⟨W, C, G, rest', rfl, hd, _⟩ := h3
 have ht : fr.todo = .inRegion ops rest' :: rest := h1
 unfold stepDr at hs
 simp only at hs
 split at hs
 · -- all is done
   rename_i hnone
   simp only [Option.some.injEq] at hs
   subst hs
   obtain ⟨rest2, ρ2, w2, fr2, C2, g1, g2, g3, g4, g5, g6, g7⟩ := catchup (cs := cs ++ base) rest' ρ w fr C hr ht hm hd
   have hnil : rest2 = [] := by
     cases rest2 with
     | nil => rfl
     | cons y r =>
       have hy := g7 y r rfl
       cases g6.lin with
       | cons hylt hn hp t =>
         have ho : ops.toList[y]? = some (ops.toList[y]) := List.getElem?_eq_getElem hylt
         have : (y, ops.toList[y]) ∈ readyL D ops.toList 0 := mem_ready'.2 ⟨ho, hy, fun p hpp => g6.sub p (hp p hpp)⟩
         rw [hnone] at this; cases this
   subst hnil
   have ht2 : fr2.todo = .inRegion ops [] :: rest := by rw [g5]
   have hm2 : fr2.mode = .run := by rw [g5]; exact hm
   have hstep : step P (lone fr2 (cs ++ base) w2) = .next (lone { fr2 with todo := rest } (cs ++ base) w2) := step_todo hm2 (by simp only [stepG.exec, ht2])
   have hall : ∀ i, i < ops.toList.length → C2 i := by
     cases g6.lin with | nil h => exact h
   refine ⟨_, cs, w2, g1.trans (.one hstep), ρ2, g2, ⟨by rw [g5]; exact hf.fn, by rw [g5]; exact hf.kind, by rw [g5]; exact hf.mode, by rw [g5]; exact hf.ds.mono g3, by rw [g5]; exact hf.ro.mono g3, [], rest, rfl, h2.mono g3, rfl, g6.size, fun q => ?_⟩, hlo, hst.mono g3 (fun g hg hn => ⟨(g4 g hg).trans hn, rfl⟩)⟩
   classical
   have h4 := g6.ts q
   show VR ρ2 (At s.fr.T q) _
   rw [g6.T q]
   rwa [valS_congr (C' := fun i => Nat.testBit D i = true) (X' := X) (fun i hi => ⟨⟨g6.sub i, fun hb => hall i (g6.dlt i hb)⟩, fun _ => rfl⟩)] at h4
 · rename_i hne
   split at hs
   · -- ahead
     rename_i y o x H n l he
     simp only [Option.some.injEq] at hs
     subst hs
     obtain ⟨hmem, he'⟩ := firstEager_spec he
     obtain ⟨G', g1, g2, g3⟩ := hd.ahead hr hlo hmem he'
     exact ⟨fr, cs, w, Steps.refl _ _, ρ, g1, ⟨hf.fn, hf.kind, hf.mode, hf.ds, hf.ro, _, rest, h1, h2, W, C, G', rest', rfl, g3, fun y hy => by cases hy⟩, Nat.le_trans hlo g2.nn, hst.mono g2.le (g2.low hlo)⟩
   · split at hs
     · rename_i y o hrs
       obtain ⟨rest2, ρ2, w2, fr2, C2, g1, g2, g3, g4, g5, g6, g7⟩ := catchup (cs := cs ++ base) rest' ρ w fr C hr ht hm hd
       have hmem : (y, o) ∈ readyL D ops.toList 0 := by rw [hrs]; simp
       obtain ⟨ho, hyD, hpD⟩ := mem_ready'.1 hmem
       obtain ⟨r, rfl⟩ : ∃ r, rest2 = y :: r := by
         cases hrest : rest2 with
         | nil =>
           subst hrest
           cases g6.lin with
           | nil h =>
             have := g6.sub y (h y (List.getElem?_eq_some_iff.1 ho).1)
             rw [hyD] at this; cases this
         | cons z r =>
           subst hrest
           have hz := g7 z r rfl
           cases g6.lin with
           | cons hzlt hn hp t =>
             have hoz : ops.toList[z]? = some (ops.toList[z]) := List.getElem?_eq_getElem hzlt
             have : (z, ops.toList[z]) ∈ readyL D ops.toList 0 := mem_ready'.2 ⟨hoz, hz, fun p hpp => g6.sub p (hp p hpp)⟩
             rw [hrs] at this
             simp at this
             exact ⟨r, by rw [this.1]⟩
       have hlin : ¬ C2 y ∧ ∀ p, Pred ops.toList y p → C2 p := by
         cases g6.lin with | cons _ hn hp _ => exact ⟨hn, hp⟩
       have ht2 : fr2.todo = .inRegion ops (y :: r) :: rest := by rw [g5]
       have hm2 : fr2.mode = .run := by rw [g5]; exact hm
       have ho' : ops[y]? = some o := by simpa using ho
       have hsee : ∀ q, Sees ops.toList o q → VR ρ2 (At s.fr.T q) (fr2.tmps.getD q undef) := fun q hq => by
         rw [g6.sees ho hq hyD hpD]; exact g6.seesC ho hq hlin.1 hlin.2
       have hev := ev_of_slots (fr := fr2) (fun q hq => hsee q (.inl hq))
       have hw := wantedA_sound (n := 0) (ops := ops) (fun d hd => hsee d (.inr hd))
       have hst2 : StackR P ρ2 s.H s.fr.lo s.cs cs := hst.mono g3 (fun g hg hn => ⟨(g4 g hg).trans hn, rfl⟩)
       have hwa : wantedA s.fr.T (dstIn ops.toList) o = true := by
         cases hwa : wantedA s.fr.T (dstIn ops.toList) o with
         | true => rfl
         | false =>
           rename_i hnoE _
           have : firstEager P s.fr.T ops.toList s.H s.n (readyL D ops.toList 0) ≠ none := by
             rw [hrs]
             simp [firstEager, eagerA, hwa]
           exact absurd hnoE this
       have hpl := g6.sc.plain ho
       have hg := stepG_oper (P := P) (cs := cs ++ base) (w := w2) ht2 hm2 ho' (by rw [hw, hwa]) hpl
       have hc : ∀ d x y z r, fr2.todo ≠ .call d x y z :: r := by rw [ht2]; exact inRegion_not_call
       have g6' := g6.forOp hlin.2
       split at hs
       · -- at once
         rename_i x H' n' hnow
         cases hl : ldsOk P H' (ldsFor ops.toList y lds) with
         | false => simp [hl] at hs
         | true =>
           simp only [hl, cond_true, Option.some.injEq] at hs
           subst hs
           obtain ⟨ρ', v, w', q1, q2, q3, q4⟩ := now_sound hk g2 hnow hev hg hc
           rw [finish_region ht2 ho' v] at q1
           have hdone := g6'.opdone (hi' := n') hyD ho q4.le (fun g hgl hn => ⟨(q4.old hgl).trans hn, q4.keep hgl hn⟩) q4.nn hl q2
           refine ⟨_, cs, w', g1.trans q1, ρ', q3, ⟨by rw [g5]; exact hf.fn, by rw [g5]; exact hf.kind, by rw [g5]; exact hf.mode, by rw [g5]; exact (hf.ds.mono g3).mono q4.le, by rw [g5]; exact (hf.ro.mono g3).mono q4.le, [.inRegion ops r], rest, rfl, (h2.mono g3).mono q4.le, W, _, G, r, rfl, hdone, fun y hy => by cases hy⟩, Nat.le_trans hlo q4.nn, hst2.mono q4.le (q4.low hlo)⟩
       · split at hs
         · -- a call
           rename_i c hco
           have hS := callOf_sound (P := P) hco hev
           have hfr2 : FRel P ρ2 s.H s.n false { s.fr with rg := .dr ops D X T0 (ldsFor ops.toList y lds) (some y) } fr2 :=
             ⟨by rw [g5]; exact hf.fn, by rw [g5]; exact hf.kind, by rw [g5]; exact hf.mode, by rw [g5]; exact hf.ds.mono g3, by rw [g5]; exact hf.ro.mono g3, [.inRegion ops (y :: r)], rest, ht2, h2.mono g3, W, C2, G, y :: r, rfl,
               g6'.mono ρ2.le_refl (Nat.le_refl _) (fun g _ hn => ⟨hn, rfl⟩), fun y' hy' => by cases hy'; exact ⟨r, rfl, hyD⟩⟩
           obtain ⟨fr', q1, q2⟩ := enter_sound (base := base) hft hs g2 hfr2 hlo hst2 (congrArg GStep.bare hg) hc (by
             rcases hS with ⟨g, xs, us, e1, e2, e3⟩ | ⟨j, xs, vs, b, cc, e1, e2, e3, e4⟩
             · exact .inl ⟨g, xs, us, e1, e2, e3 w2⟩
             · exact .inr ⟨j, xs, vs, b, cc, e1, e2, e3, e4 w2⟩)
           exact ⟨fr', fr2 :: cs, w2, g1.trans (.one q1), q2⟩
         · cases hs
     · cases hs
end
section
variable {P : Program} {FT : FuncId → Option Func} {HK : Hook} {w0 : Bs}
theorem IRs.tail {ρ : Env} {x : AItem} {y : Item} {l : List AItem} {m : List Item} (h : IRs ρ (x :: l) (y :: m)) : IRs ρ l m := by cases h with | cons _ t => exact t
theorem stepCode_sound (hft : FTok P FT) (hmix : P.follows .mixedOrders = true) {base : List Frame} {s s' : ASt} {fr : Frame} {cs : List Frame} {w : World} {c : Code} {k : List AItem} (h : SR P w0 s fr cs w) (hrg : s.fr.rg = .no) (hret : s.fr.ret = false) (htd : s.fr.todo = .code c :: k)
   (hs : stepCode P FT s c k = some s') : Goes P w0 base s' fr cs w := by
 have h0 := h
 obtain ⟨ρ, hr, hf, hlo, hst⟩ := h
 have hm := hf.mode
 rw [hret] at hm
 obtain ⟨front, rest, h1, h2, h3⟩ := hf.todo
 rw [hrg] at h3
 obtain ⟨rfl, hT⟩ := h3
 rw [htd] at h2
 obtain ⟨k', rfl, hk'⟩ : ∃ k', rest = .code c :: k' ∧ IRs ρ k k' := by
   cases h2 with | cons a t => cases a; exact ⟨_, rfl, t⟩
 have ht : fr.todo = .code c :: k' := h1
 have tl : ∀ ρ', IRs ρ' s.fr.todo fr.todo → IRs ρ' k k' := fun ρ' hh => by rw [htd, ht] at hh; exact hh.tail
 have tto : ∀ {l : List AItem} {m : List Item}, (∀ ρ', IRs ρ' k k' → IRs ρ' l m) → stepG.exec P true true fr (cs ++ base) none w = .go { frame := { fr with todo := m }, callers := cs ++ base, status := .running, dying := none } w →
     some { s with fr := { s.fr with todo := l } } = some s' → Goes P w0 base s' fr cs w := by
   intro l m hl hx he
   simp only [Option.some.injEq] at he
   subst he
   exact todo_sound h0 hrg hret (fun ρ' hh => hl ρ' (tl ρ' hh)) hx
 cases c with
 | ret =>
   refine leave_sound h0 hrg hret (show leaveA P s (some .ret) = some s' from hs) (fun hro _ => ?_) (fun l hro => ?_)
   · simp only [stepG.exec, ht, hro]; rfl
   · simp only [stepG.exec, ht, hro]; rfl
 | skip => exact tto (fun _ h => h) (by simp only [stepG.exec, ht]) hs
 | label l => exact tto (fun _ h => h) (by simp only [stepG.exec, ht]) hs
 | seq a b => exact tto (m := .code a :: .code b :: k') (fun _ h => .cons (.code _) (.cons (.code _) h)) (by simp only [stepG.exec, ht]) hs
 | block id b => exact tto (m := .code b :: .inBlock id :: k') (fun _ h => .cons (.code _) (.cons (.inBlock _) h)) (by simp only [stepG.exec, ht]) hs
 | loop b => exact tto (m := .code b :: .inLoop b :: k') (fun _ h => .cons (.code _) (.cons (.inLoop _) h)) (by simp only [stepG.exec, ht]) hs
 | scope b => exact tto (m := .code b :: .inScope b :: k') (fun _ h => .cons (.code _) (.cons (.inScope _) h)) (by simp only [stepG.exec, ht]) hs
 | cond x a b =>
   simp only [stepCode] at hs
   have hx := hT.ev x
   split at hs
   · rename_i t hxt
     rw [hxt] at hx
     generalize hv : fr.eval x = v at hx
     cases hx
     refine tto (m := .code (cond t a b) :: k') (fun _ h => .cons (.code _) h) ?_ hs
     simp only [stepG.exec, ht, hv]
     cases t <;> rfl
   · cases hs
 | exit id =>
   simp only [stepCode] at hs
   cases hx : aexit id k with
   | some l =>
     simp only [hx] at hs
     obtain ⟨m, hm', _⟩ := (aexit_sound hk').1 hx
     refine tto (m := m) (fun ρ' hh => ?_) ?_ hs
     · obtain ⟨m2, e, hi⟩ := (aexit_sound hh).1 hx
       rw [hm'] at e; cases e; exact hi
     · simp only [stepG.exec, ht, hm', Option.elim_some]
   | none =>
     simp only [hx] at hs
     have hn := (aexit_sound (id := id) (l' := []) hk').2 hx
     refine leave_sound h0 hrg hret hs (fun hro hj => by rcases hj with h | h <;> cases h) (fun l hro => ?_)
     simp only [stepG.exec, ht, hn, Option.elim_none, hro]
     rfl
 | goto l => cases hs
 | refuse l => cases hs
 | region id ops draw =>
   simp only [stepCode] at hs
   cases draw with
   | false =>
     simp only [cond_false, Option.some.injEq] at hs
     subst hs
     refine ⟨_, cs, w, .one (step_todo (fr' := { fr with todo := .inRegion ops (List.range ops.size) :: k' }) hm (by simp [stepG.exec, ht])), ρ, hr, ⟨hf.fn, hf.kind, hf.mode, hf.ds, hf.ro, [.inRegion ops (List.range ops.size)], k', rfl, hk', ⟨_, rfl, PlR.start ops⟩, hT⟩, hlo, hst⟩
   | true =>
     simp only [cond_true] at hs
     cases hsc : scOk ops.toList with
     | false => simp [hsc] at hs
     | true =>
       simp only [hsc, cond_true, Option.some.injEq] at hs
       subst hs
       obtain ⟨W, sc⟩ := scOk_spec hsc
       obtain ⟨t, ht'⟩ : ∃ t, (choose (.order fr.fn id)).run P w = .ok t w.drew := ⟨_, by simp [choose, Sem.run, Question.forced, Question.cut]; rfl⟩
       have hstep : step P (lone fr (cs ++ base) w) = .next (lone { fr with todo := .inRegion ops (Region.schedule true ops t) :: k' } (cs ++ base) w.drew) :=
         step_todo hm (by simp only [stepG.exec, ht, ht', hmix]; rfl)
       have hfr : Fr No w w.drew := (Fr.refl No w).drew
       refine ⟨_, cs, w.drew, .one hstep, ρ, hr.same rfl hfr, ⟨hf.fn, hf.kind, hf.mode, hf.ds, hf.ro, [.inRegion ops (Region.schedule true ops t)], k', rfl, hk', W, fun _ => False, fun _ => none, _, rfl, ?_, fun y hy => by cases hy⟩, hlo, hst⟩
       have hv : ∀ (C : Nat → Prop) [DecidablePred C] (q : Nat), (∀ i, ¬ C i) → valS W s.fr.nt .e s.fr.T C q = At s.fr.T q := fun C _ q hC => by
         unfold valS
         cases W.get q with
         | none => rfl
         | some i => simp only; rw [if_neg (fun h => hC i h.2)]
       exact { sc := sc, lin := lin_schedule sc.below t, closC := fun _ _ h _ => h.elim, closD := fun y p h _ => by simp at h, sub := fun _ h => h.elim, dlt := fun y h => by simp at h, size := hT.1,
               T := fun q => (hv _ q (fun i => by simp)).symm, ts := by
                 intro inst q
                 have h := @hv _ inst q (fun _ h => h)
                 have h' := hT.2 q
                 rw [← h] at h'
                 exact h',
               pend := (fun y h => by simp at h), ginj := (fun h => by cases h), gb := (fun h => by cases h) }
 | rangeFunc f ps asg bd =>
   simp only [stepCode] at hs
   -- what is entered, from behind the two blocks
   have go : ∀ {d db dc : Nat} {H : Tr AB} {n : Nat} {ds : List Nat} {mark : List Deferred} {w1 : World} {ρ1 : Env}, HR w0 ρ1 H n w1 → Ext ρ ρ1 s.H H s.n n → ρ1 d = some (db, dc) → DsR ρ1 ds (mark ++ fr.defers) →
       (Instr.enterLoop fr.fn fr.tmps ps asg bd fr.roundOf).run P w = .ok (w1.heap.size, mark) (w1.alloc (.loop { state := .ready, pending := none, fn := fr.fn, tmps := fr.tmps, params := ps, assign := asg, body := bd, defers := db })) →
       (match calleeOf P (aev s.fr.T f) [.yl n] with
         | some c => enterA FT { s.fr with todo := .inRF n :: k, ds := ds } { s with H := tput H n (.loop .ready none s.fr.fn s.fr.nt s.fr.T ps.toList asg bd d), n := n + 1 } c
         | none => none) = some s' → Goes P w0 base s' fr cs w := by
     intro d db dc H n ds mark w1 ρ1 hr1 hx1 hd hds hrun he
     obtain ⟨ρ2, hρ2⟩ : ∃ ρ2, ρ2 = ρ1.set n (w1.heap.size, 0) := ⟨_, rfl⟩
     have htop := hr1.top (Nat.le_refl n)
     have hle2 : ρ1.le ρ2 := by rw [hρ2]; exact Env.le_set htop.1 _
     have hle : ρ.le ρ2 := Env.le_trans hx1.le hle2
     have hfn : fr.fn = s.fr.fn := hf.fn
     have hr2 : HR w0 ρ2 (tput H n (.loop .ready none s.fr.fn s.fr.nt s.fr.T ps.toList asg bd d)) (n + 1) (w1.alloc (.loop { state := .ready, pending := none, fn := fr.fn, tmps := fr.tmps, params := ps, assign := asg, body := bd, defers := db })) := by
       rw [hρ2]
       refine hr1.alloc ⟨fr.tmps, db, dc, (hT.mono hx1.le).mono (Env.le_set htop.1 _), Env.le_set htop.1 _ _ _ hd, ?_⟩
       rw [hfn]
     have hx2 : Ext ρ ρ2 s.H (tput H n (.loop .ready none s.fr.fn s.fr.nt s.fr.T ps.toList asg bd d)) s.n (n + 1) := by
       rw [hρ2]; exact hx1.trans (Ext.alloc hr1 _ _)
     have hn2 : ρ2 n = some (w1.heap.size, 0) := by rw [hρ2]; exact Env.set_same _ _ _
     cases hco : calleeOf P (aev s.fr.T f) [.yl n] with
     | none => simp [hco] at he
     | some cc =>
       simp only [hco] at he
       have hS := calleeOf_sound (P := P) hco ((hT.ev f).mono hle) (VRs.cons (VR.yl hn2) .nil)
       obtain ⟨fr2, hfr2⟩ : ∃ fr2 : Frame, fr2 = { fr with todo := .inRangeFunc w1.heap.size :: k', defers := mark ++ fr.defers } := ⟨_, rfl⟩
       have hev : fr2.eval f = fr.eval f := by rw [hfr2]; cases f <;> rfl
       have hcaller : FRel P ρ2 (tput H n (.loop .ready none s.fr.fn s.fr.nt s.fr.T ps.toList asg bd d)) (n + 1) false { s.fr with todo := .inRF n :: k, ds := ds } fr2 := by
         rw [hfr2]
         refine ⟨hf.fn, hf.kind, hf.mode, hds.mono hle2, hf.ro.mono hle, [], _, rfl, .cons (.inRF hn2) (hk'.mono hle), ?_⟩
         simp only [hrg]
         exact ⟨rfl, hT.mono hle⟩
       have hg : (stepG P true { frame := fr, callers := cs ++ base, status := .running, dying := none } w).bare = (stepG.apply P true fr2 (cs ++ base) none (toCallee (fr.eval f) [Value.func (.yield w1.heap.size) #[] #[]].toArray) (w1.alloc (.loop { state := .ready, pending := none, fn := fr.fn, tmps := fr.tmps, params := ps, assign := asg, body := bd, defers := db }))).bare := by
         have hstep : stepG P true { frame := fr, callers := cs ++ base, status := .running, dying := none } w = stepG.exec P true true fr (cs ++ base) none w := by
           obtain ⟨fn, tmps, todo, defers, mode, kind, ro⟩ := fr
           simp only at hm; subst hm
           rfl
         rw [hstep]
         simp only [stepG.exec, ht, Sem.runT_eq, hrun, GStep.bare_after]
         rw [← hfr2]
         rw [← hev]
         have hq : (do let d ← resolve fr2.eval { callee := .value f, args := #[.const (Value.func (.yield w1.heap.size) #[] #[])], argTypes := #[] } 0; invoke d.target d.args : Sem Next) = toCallee (fr2.eval f) [Value.func (.yield w1.heap.size) #[] #[]].toArray := by
           have e1 : (#[Operand.const (Value.func (.yield w1.heap.size) #[] #[])] : Array Operand).map fr2.eval = [Value.func (.yield w1.heap.size) #[] #[]].toArray := by
             simp only [List.map_toArray, List.map_cons, List.map_nil]
             rfl
           unfold toCallee resolve
           simp only [e1]
         rw [hq]
       have hc : ∀ d x y z r, fr2.todo ≠ .call d x y z :: r := by rw [hfr2]; exact fun _ _ _ _ _ e => by cases e
       have hst2 := hst.mono hle (hx2.low hlo)
       obtain ⟨fr', q1, q2⟩ := enter_sound (base := base) hft he hr2 hcaller (Nat.le_trans hlo hx2.nn) hst2 hg hc (by
         rcases hS with ⟨g, xs, us, e1, e2, e3⟩ | ⟨j, b, c2, e1, e2, e3⟩
         · exact .inl ⟨g, xs, us, e1, e2, e3 _⟩
         · exact .inr ⟨j, _, _, b, c2, e1, .cons (VR.yl hn2) .nil, e2, e3 _⟩)
       exact ⟨fr', fr2 :: cs, _, .one q1, q2⟩
   cases hh : loopHome s with
   | none => rw [hh] at hs; cases hs
   | some q =>
     obtain ⟨d, H, n, ds⟩ := q
     rw [hh] at hs
     unfold loopHome at hh
     rcases hf.ro with ⟨hro, hro'⟩ | ⟨i, b, c, hro, hro', hi⟩
     · rw [hro] at hh
       simp only [Option.some.injEq, Prod.mk.injEq] at hh
       obtain ⟨rfl, rfl, rfl, rfl⟩ := hh
       have htop := hr.top (Nat.le_refl s.n)
       have hr1 : HR w0 (ρ.set s.n (w.heap.size, 0)) (tput s.H s.n (.dfd true)) (s.n + 1) (w.alloc (.deferred (some []))) := hr.alloc (c := 0) (B := .dfd true) rfl
       refine go hr1 (Ext.alloc hr _ _) (Env.set_same _ _ _) (mark := [{ target := .collected w.heap.size, args := #[] }]) (.cons (Env.set_same _ _ _) (hf.ds.mono (Env.le_set htop.1 _))) ?_ hs
       rw [hro', run_enterLoop_outer]
       simp
     · rw [hro] at hh
       simp only at hh
       cases hB : s.H.get i with
       | none => simp [hB] at hh
       | some B =>
         cases B <;> simp only [hB] at hh <;> try (cases hh; done)
         rename_i st pd fn nt T ps' asg' bd' d'
         simp only [Option.some.injEq, Prod.mk.injEq] at hh
         obtain ⟨rfl, rfl, rfl, rfl⟩ := hh
         obtain ⟨o, ho, ts, db, dc, hts, hd, rfl⟩ := hr.blk hi hB
         refine go hr (Ext.refl _ _ _) hd (mark := []) (by simpa using hf.ds) ?_ hs
         rw [hro']
         unfold Instr.enterLoop
         simp only [Sem.run_bind, run_getLoop ho, Result.andThen_ok, Sem.run_pure, run_newObj]
         rfl
theorem resA_sound {ρ : Env} {H : Tr AB} {n nt : Nat} {T : Tr AV} {ts : Array Value} {w : World} (hr : HR w0 ρ H n w) (hT : TR ρ nt T ts) : ∀ {l : List ResultVar} {xs : List AV}, resA P T H l = some xs →
   ∃ us, VRs ρ xs us ∧ (l.mapM (fun | ResultVar.tmp t => (pure (ts.getD t undef) : Sem Value) | .cell a t => do loadVar t (← asAddr (ts.getD a undef)))).run P w = .ok us w
 | [], xs, h => by simp [resA] at h; subst h; exact ⟨[], .nil, by simp⟩
 | .tmp t :: l, xs, h => by
   unfold resA at h
   cases hl : resA P T H l with
   | none => simp [hl] at h
   | some r =>
     simp only [hl, Option.some.injEq] at h
     subst h
     obtain ⟨us, h1, h2⟩ := resA_sound hr hT hl
     exact ⟨_, .cons (hT.2 t) h1, by simp only [List.mapM_cons, Sem.run_bind, Sem.run_pure, Result.andThen_ok, h2]⟩
 | .cell a t :: l, xs, h => by
   unfold resA at h
   split at h
   · rename_i i o ha
     cases hx : loadA P t (.ptr i o) H with
     | none => simp [hx] at h
     | some x =>
       cases hl : resA P T H l with
       | none => simp [hx, hl] at h
       | some r =>
         simp only [hx, hl, Option.some.injEq] at h
         subst h
         obtain ⟨us, h1, h2⟩ := resA_sound hr hT hl
         have hp := hT.2 a
         rw [ha] at hp
         generalize hv : ts.getD a undef = v at hp
         obtain ⟨u, hu, hrun⟩ := loadA_sound (P := P) hr hx hp
         cases hp with
         | @ptr _ b c _ e =>
           have : (loadVar t ⟨b, o, none⟩).run P w = .ok u w := by
             unfold Instr.loadAt at hrun
             simpa [Instr.sureAddr] using hrun
           refine ⟨_, .cons hu h1, ?_⟩
           have ha' : (asAddr (ts.getD a undef)).run P w = .ok ⟨b, o, none⟩ w := by rw [hv]; rfl
           simp only [List.mapM_cons, Sem.run_bind, ha', Sem.run_pure, Result.andThen_ok, this, h2]
   · cases h
theorem results_sound {ρ : Env} {H : Tr AB} {n nt : Nat} {T : Tr AV} {ts : Array Value} {w : World} (hr : HR w0 ρ H n w) (hT : TR ρ nt T ts) {fn : Func} {xs : List AV} (h : resA P T H fn.results.toList = some xs) :
   ∃ v, VR ρ (tupA xs) v ∧ (results fn ts).run P w = .ok v w := by
 obtain ⟨us, h1, h2⟩ := resA_sound (P := P) hr hT h
 have hmap : (fn.results.mapM (fun | ResultVar.tmp t => (pure (ts.getD t undef) : Sem Value) | .cell a t => do loadVar t (← asAddr (ts.getD a undef)))).run P w = .ok us.toArray w := by
   rw [Array.mapM_eq_mapM_toList, Sem.run_map, h2]
   rfl
 refine ⟨if h : us.toArray.size = 1 then us.toArray[0] else .tuple us.toArray, ?_, ?_⟩
 · cases h1 with
   | nil => exact .tup .nil
   | cons a t =>
     cases t with
     | nil => exact a
     | cons b t => exact .tup (.cons a (.cons b t))
 · unfold results
   rw [Sem.run_bind]
   have hm2 := hmap
   erw [hm2]
   rfl
theorem stepE_sound (hft : FTok P FT) (hk : HKok P HK) (hmix : P.follows .mixedOrders = true) {base : List Frame} {s s' : ASt} {fr : Frame} {cs : List Frame} {w : World} (h : SR P w0 s fr cs w) (hs : stepE HK P FT s = some s') : Goes P w0 base s' fr cs w := by
 unfold stepE at hs
 cases hret : s.fr.ret with
 | true =>
   simp only [hret, cond_true] at hs
   unfold stepRet at hs
   obtain ⟨ρ, hr, hf, hlo, hst⟩ := h
   have hm := hf.mode
   rw [hret] at hm
   have hstepG : stepG P true { frame := fr, callers := cs ++ base, status := .running, dying := none } w = unwind P true fr (cs ++ base) none w := by
     obtain ⟨fn, tmps, todo, defers, mode, kind, ro⟩ := fr
     simp only at hm; subst hm
     rfl
   split at hs
   · rename_i d ds hds
     cases hB : s.H.get d with
     | none => simp [hB] at hs
     | some B =>
       cases B <;> simp only [hB] at hs <;> try (cases hs; done)
       rename_i bb
       cases bb <;> simp only at hs <;> try (cases hs; done)
       simp only [Option.some.injEq] at hs
       subst hs
       have hdsr := hf.ds
       rw [hds] at hdsr
       generalize hdf : fr.defers = dfs at hdsr
       cases hdsr with
       | cons hd t =>
         rename_i b cc m
         obtain ⟨o, ho, hob⟩ := hr.blk hd hB
         have ho' : w.heap[b]? = some (.deferred (some [])) := by rw [ho]; rw [show o = .deferred (some []) from hob]
         have hstep : step P (lone fr (cs ++ base) w) = .next (lone { fr with defers := m } (cs ++ base) (w.putObj b (.deferred none))) := by
           refine step_lone_go ?_
           rw [hstepG]
           unfold unwind
           simp [hdf, run_takeDeferred ho']
         have hw' : HR w0 ρ (tput s.H d (.dfd false)) s.n (w.putObj b (.deferred none)) := hr.write hd hB rfl (World.putObj_heap_same (hr.base hd).2) rfl (Fr.put w b _)
         obtain ⟨front, rest, h1, h2, h3⟩ := hf.todo
         refine ⟨_, cs, _, .one hstep, ρ, hw', ⟨hf.fn, hf.kind, hf.mode, t, hf.ro, front, rest, h1, h2, ?_⟩, hlo, hst.mono ρ.le_refl (fun g _ hn => ⟨hn, by rw [get_tput, if_neg (fun e => by subst e; rw [hd] at hn; cases hn)]⟩)⟩
         -- what stands of the region is not asked any more
         have := h3
         cases hrg : s.fr.rg with
         | no => rw [hrg] at h3; exact ⟨h3.1, h3.2⟩
         | pl ops l => rw [hrg] at h3; exact ⟨h3.1, h3.2⟩
         | dr ops D X T0 lds cur =>
           rw [hrg] at h3
           obtain ⟨W, C, G, rest', q1, q2, q3⟩ := h3
           refine ⟨W, C, G, rest', q1, ?_, q3⟩
           exact { q2 with pend := fun y y1 y2 => (q2.pend y y1 y2).mono (Nat.le_refl _) (fun g _ _ _ hn => ⟨hn, by show (tput s.H d (.dfd false)).get g = _; rw [get_tput, if_neg (fun e => by subst e; rw [hd] at hn; cases hn)]⟩) (fun t p x hm' => ⟨hm', fun _ hl => by
             have keep : ∀ i B', s.H.get i = some B' → (∀ b, B' ≠ .dfd b) → (tput s.H d (.dfd false)).get i = some B' := fun i B' hB' hne => by
               rw [get_tput, if_neg (fun e => by subst e; rw [hB] at hB'; cases hB'; exact hne _ rfl)]; exact hB'
             exact readA_of (fun i T z l hB' => keep i _ hB' (fun b e => by cases e)) (fun i l c hB' => keep i _ hB' (fun b e => by cases e)) (hl rfl)⟩) }
   · rename_i hds
     split at hs
     · cases hs
     rename_i hrgs
     cases hfn : FT s.fr.fn with
     | none => simp [hfn] at hs
     | some fn =>
       simp only [hfn] at hs
       cases hres : resA P s.fr.T s.H fn.results.toList with
       | none => simp [hres] at hs
       | some l =>
         simp only [hres] at hs
         have hdsr := hf.ds
         rw [hds] at hdsr
         generalize hdf : fr.defers = dfs at hdsr
         cases hdsr
         obtain ⟨front, rest, h1, h2, h3⟩ := hf.todo
         have hTR : TR ρ s.fr.nt s.fr.T fr.tmps := by
           cases hrg : s.fr.rg with
           | no => rw [hrg] at h3; exact h3.2
           | pl ops l => rw [hrg] at h3; exact h3.2
           | dr ops D X T0 lds cur => exact absurd hrg (hrgs _ _ _ _ _ _)
         obtain ⟨v, hv, hrun⟩ := results_sound hr hTR hres
         have hP := hft.fn hfn
         refine back_sound hs hr hst hlo hv (fun c cs' hcs => ?_)
         refine step_lone_go ?_
         rw [hstepG]
         have hfnn : P.funcs[fr.fn]? = some fn := by rw [hf.fn]; exact hP
         unfold unwind
         rw [hcs]
         simp [hdf, hm, hfnn, hrun, doReturn, hf.kind]
 | false =>
   simp only [hret, cond_false] at hs
   cases hrg : s.fr.rg with
   | pl ops l =>
     cases l with
     | cons o r => simp only [hrg] at hs; exact stepPl_sound hft hk h hrg hret hs
     | nil =>
       simp only [hrg] at hs
       simp only [stepPlEnd, Option.some.injEq] at hs
       subst hs
       obtain ⟨ρ, hr, hf, hlo, hst⟩ := h
       have hm := hf.mode
       rw [hret] at hm
       obtain ⟨front, rest, h1, h2, h3⟩ := hf.todo
       rw [hrg] at h3
       obtain ⟨⟨rest', rfl, hp⟩, hT⟩ := h3
       have := hp.nil
       subst this
       have ht : fr.todo = .inRegion ops [] :: rest := h1
       exact ⟨_, cs, w, .one (step_todo (fr' := { fr with todo := rest }) hm (by simp only [stepG.exec, ht])), ρ, hr, ⟨hf.fn, hf.kind, hf.mode, hf.ds, hf.ro, [], rest, rfl, h2, rfl, hT⟩, hlo, hst⟩
   | dr ops D X T0 lds cur =>
     cases cur with
     | none => simp only [hrg] at hs; exact stepDr_sound hft hk h hrg hret hs
     | some y => simp only [hrg] at hs; cases hs
   | no =>
     simp only [hrg] at hs
     unfold stepItem at hs
     have h0 := h
     obtain ⟨ρ, hr, hf, hlo, hst⟩ := h
     have hm := hf.mode
     rw [hret] at hm
     obtain ⟨front, rest, h1, h2, h3⟩ := hf.todo
     rw [hrg] at h3
     obtain ⟨rfl, hT⟩ := h3
     have ht : fr.todo = rest := h1
     cases htd : s.fr.todo with
     | nil =>
       simp only [htd] at hs
       rw [htd] at h2
       cases h2
       refine leave_sound h0 hrg hret hs (fun hro _ => ?_) (fun l hro => ?_)
       · simp only [stepG.exec, ht, hro]; rfl
       · simp only [stepG.exec, ht, hro]; rfl
     | cons x k =>
       rw [htd] at h2
       cases x with
       | code c => simp only [htd] at hs; exact stepCode_sound hft hmix h0 hrg hret htd hs
       | inBlock id =>
         simp only [htd, Option.some.injEq] at hs; subst hs
         cases h2 with
         | cons a t =>
           cases a
           exact todo_sound h0 hrg hret (fun ρ' hh => by rw [htd, ht] at hh; exact hh.tail) (by simp only [stepG.exec, ht])
       | inScope b =>
         simp only [htd, Option.some.injEq] at hs; subst hs
         cases h2 with
         | cons a t =>
           cases a
           exact todo_sound h0 hrg hret (fun ρ' hh => by rw [htd, ht] at hh; exact hh.tail) (by simp only [stepG.exec, ht])
       | inLoop b =>
         simp only [htd, Option.some.injEq] at hs; subst hs
         cases h2 with
         | cons a t =>
           rename_i m
           cases a
           exact todo_sound h0 hrg hret (m := .code b :: .inLoop b :: m) (fun ρ' hh => by rw [htd, ht] at hh; exact .cons (.code _) (.cons (.inLoop _) hh.tail)) (by simp only [stepG.exec, ht])
       | inRF i => simp only [htd] at hs; cases hs
       | endRF i =>
         simp only [htd] at hs
         unfold endA at hs
         cases h2 with
         | cons a t =>
           cases a with
           | endRF hi =>
             rename_i m b cc
             cases hB : s.H.get i with
             | none => simp [hB] at hs
             | some B =>
               cases B <;> simp only [hB] at hs <;> try (cases hs; done)
               rename_i st pd fn nt T ps asg bd d
               obtain ⟨o, ho, ts, db, dc, hts, hd, rfl⟩ := hr.blk hi hB
               have fin : st ≠ .busy → some { s with fr := { s.fr with todo := pendItems pd ++ k }, H := tput s.H i (.loop .exhausted pd fn nt T ps asg bd d) } = some s' → Goes P w0 base s' fr cs w := by
                 intro hnb he
                 simp only [Option.some.injEq] at he
                 subst he
                 have hrun := run_endLoop (P := P) ho hnb
                 have hw' : HR w0 ρ (tput s.H i (.loop .exhausted pd fn nt T ps asg bd d)) s.n (w.putObj b (.loop { state := .exhausted, pending := pd, fn := fn, tmps := ts, params := ps.toArray, assign := asg, body := bd, defers := db })) :=
                   hr.write hi hB rfl (World.putObj_heap_same (hr.base hi).2) ⟨ts, db, dc, hts, hd, rfl⟩ (Fr.put w b _)
                 have hstep : step P (lone fr (cs ++ base) w) = .next (lone { fr with todo := (pd.map Item.code).toList ++ m } (cs ++ base) (w.putObj b (.loop { state := .exhausted, pending := pd, fn := fn, tmps := ts, params := ps.toArray, assign := asg, body := bd, defers := db }))) := by
                   refine step_lone_go ?_
                   have hstep : stepG P true { frame := fr, callers := cs ++ base, status := .running, dying := none } w = stepG.exec P true true fr (cs ++ base) none w := by
                     obtain ⟨fn, tmps, todo, defers, mode, kind, ro⟩ := fr
                     simp only at hm; subst hm
                     rfl
                   rw [hstep]
                   simp only [stepG.exec, ht, Sem.runT_eq, hrun, GStep.bare_after]
                   rfl
                 refine ⟨_, cs, _, .one hstep, ρ, hw', ⟨hf.fn, hf.kind, hf.mode, hf.ds, hf.ro, [], _, rfl, ?_, by simp only [hrg]; exact ⟨rfl, hT⟩⟩, hlo, hst.mono ρ.le_refl (fun g _ hn => ⟨hn, by rw [get_tput, if_neg (fun e => by subst e; rw [hi] at hn; cases hn)]⟩)⟩
                 cases pd with
                 | none => exact t
                 | some c => exact .cons (.code _) t
               cases st with
               | busy => simp only at hs; cases hs
               | ready => exact fin (fun e => by cases e) hs
               | done => exact fin (fun e => by cases e) hs
               | exhausted => exact fin (fun e => by cases e) hs
       | beginRound =>
         simp only [htd] at hs
         cases h2 with
         | cons a t =>
           rename_i m
           cases a
           rcases hf.ro with ⟨hro, hro'⟩ | ⟨i, b, c, hro, hro', hi⟩
           · simp only [hro] at hs; cases hs
           · simp only [hro] at hs
             unfold beginA at hs
             cases hB : s.H.get i with
             | none => simp [hB] at hs
             | some B =>
               cases B <;> simp only [hB] at hs <;> try (cases hs; done)
               rename_i st pd fn nt T ps asg bd d
               cases st <;> simp only at hs <;> try (cases hs; done)
               simp only [Option.some.injEq] at hs
               subst hs
               obtain ⟨o, ho, ts, db, dc, hts, hd, rfl⟩ := hr.blk hi hB
               have hrun := run_beginRound (P := P) ho rfl
               have hw' : HR w0 ρ (tput s.H i (.loop .busy pd fn nt T ps asg bd d)) s.n (w.putObj b (.loop { state := .busy, pending := pd, fn := fn, tmps := ts, params := ps.toArray, assign := asg, body := bd, defers := db })) :=
                 hr.write hi hB rfl (World.putObj_heap_same (hr.base hi).2) ⟨ts, db, dc, hts, hd, rfl⟩ (Fr.put w b _)
               have hstep : step P (lone fr (cs ++ base) w) = .next (lone { fr with todo := m } (cs ++ base) (w.putObj b (.loop { state := .busy, pending := pd, fn := fn, tmps := ts, params := ps.toArray, assign := asg, body := bd, defers := db }))) := by
                 refine step_lone_go ?_
                 have hstep : stepG P true { frame := fr, callers := cs ++ base, status := .running, dying := none } w = stepG.exec P true true fr (cs ++ base) none w := by
                   obtain ⟨fn, tmps, todo, defers, mode, kind, ro⟩ := fr
                   simp only at hm; subst hm
                   rfl
                 rw [hstep]
                 simp only [stepG.exec, ht, hro', Option.elim_some]
                 simp [stepG.apply, hrun, Frame.finish, ht, hro']
               exact ⟨_, cs, _, .one hstep, ρ, hw', ⟨hf.fn, hf.kind, hf.mode, hf.ds, hf.ro, [], m, rfl, t, by simp only [hrg]; exact ⟨rfl, hT⟩⟩, hlo, hst.mono ρ.le_refl (fun g _ hn => ⟨hn, by rw [get_tput, if_neg (fun e => by subst e; rw [hi] at hn; cases hn)]⟩)⟩
end
section
variable {P : Program} {FT : FuncId → Option Func} {HK : Hook} {w0 : Bs}
theorem runE_sound (hft : FTok P FT) (hk : HKok P HK) (hmix : P.follows .mixedOrders = true) {base : List Frame} : ∀ (k : Nat) {s : ASt} {fr : Frame} {cs : List Frame} {w : World}, SR P w0 s fr cs w → Goes P w0 base (runE HK P FT k s) fr cs w
 | 0, s, fr, cs, w, h => ⟨fr, cs, w, Steps.refl _ _, h⟩
 | k + 1, s, fr, cs, w, h => by
   unfold runE
   cases hs : stepE HK P FT s with
   | none => exact ⟨fr, cs, w, Steps.refl _ _, h⟩
   | some s' =>
     obtain ⟨fr1, cs1, w1, h1, h2⟩ := stepE_sound (base := base) hft hk hmix h hs
     exact Goes.head h1 (runE_sound hft hk hmix k h2)
end
def tabOf (P : Program) : FuncId → Option Func := fun f => P.funcs[f]?
theorem tab_ok {P : Program} (h : (P.funcs.toList.all fun fn => !(fn.name == "runtime.NumGoroutine")) = true) : FTok P (tabOf P) :=
 ⟨fun h => h, fun {f fn} hf hb args w => by
   have hf' : P.funcs[f]? = some fn := hf
   rw [List.all_eq_true] at h
   have hm : fn ∈ P.funcs.toList := by
     have : P.funcs.toList[f]? = some fn := by rw [Array.getElem?_toList]; exact hf'
     exact List.mem_of_getElem? this
   have hn := h fn hm
   have hn' : (fn.name == "runtime.NumGoroutine") = false := by simpa using hn
   have hbn : fn.body.isNone = false := by
     cases hbb : fn.body with
     | none => rw [hbb] at hb; cases hb
     | some b => rfl
   unfold callFunc
   simp only [Sem.run_bind, run_program, Result.andThen_ok, hf', hn', hbn, Bool.false_eq_true, if_false, Sem.run_pure]⟩
def isTrue : Option AV → Bool
 | some (.v (.bool b)) => b
 | _ => false
theorem isTrue_eq {x : Option AV} (h : isTrue x = true) : x = some (.v (.bool true)) := by
 unfold isTrue at h
 split at h
 · subst h; rfl
 · cases h
def u8A : List AV → Option (List UInt8)
 | [] => some []
 | .v (.int .u8 k) :: l => match u8A l with
   | some r => cond (decide (k = ((UInt8.ofNat k.toNat).toNat : Int))) (some (UInt8.ofNat k.toNat :: r)) none
   | none => none
 | _ => none
theorem u8A_sound {ρ : Env} : ∀ {l : List AV} {bs : List UInt8} {us : List Value}, u8A l = some bs → VRs ρ l us → us = bs.map byt
 | [], bs, us, h, hu => by simp [u8A] at h; subst h; cases hu; rfl
 | x :: l, bs, us, h, hu => by
   cases hu with
   | cons e t =>
     unfold u8A at h
     split at h
     · rename_i heq; cases heq
     · rename_i k l' heq
       cases heq
       cases e
       split at h
       · rename_i r hr
         cases hc : decide (k = ((UInt8.ofNat k.toNat).toNat : Int)) with
         | false => rw [hc] at h; cases h
         | true =>
           rw [hc] at h
           simp only [cond_true, Option.some.injEq] at h
           subst h
           have hk := of_decide_eq_true hc
           rw [u8A_sound hr t]
           simp only [List.map_cons, byt]
           rw [← hk]
       · cases h
     · cases h
def winA (x : AV) (H : Tr AB) : Option (List UInt8) :=
 match x with
 | .v (.slice none 0 0) => some []
 | .sl i o n c => match H.get i with
   | some (.mem _ _ l) => cond (Nat.ble (o + n) l.length && Nat.ble n c && Nat.ble c 1073741824) (u8A ((l.drop o).take n)) none
   | _ => none
 | .su i o n _ _ => match H.get i with
   | some (.mem _ (some _) l) => cond (Nat.ble (o + n) l.length) (u8A ((l.drop o).take n)) none
   | _ => none
 | _ => none
theorem winA_sound {w0 : Bs} {w : World} {ρ : Env} {H : Tr AB} {n : Nat} (hr : HR w0 ρ H n w) {x : AV} {bs : List UInt8} {u : Value} (h : winA x H = some bs) (hx : VR ρ x u) : ∃ a m c, u = .slice a m c ∧ m = bs.length ∧ Win w a m c (bs.map byt) := by
 have part : ∀ {i o m c b cc : Nat} {T : TypeId} {z : Option Nat} {l : List AV}, ρ i = some (b, cc) → H.get i = some (.mem T z l) → o + m ≤ l.length → m ≤ c → c ≤ maxLen → u8A ((l.drop o).take m) = some bs →
     m = bs.length ∧ Win w (some ⟨b, o, none⟩) m c (bs.map byt) := by
   intro i o m c b cc T z l hi hB hle hmc hcm hu
   obtain ⟨ob, ho, vs, sp, fz, hv, rfl, hz, _⟩ := hr.blk hi hB
   have hlen := hv.length
   have hus := u8A_sound hu ((hv.drop o).take m)
   have hml : m = bs.length := by
     have := congrArg List.length hus
     simp at this
     omega
   refine ⟨hml, by simp [hml], hmc, hcm, (fun e => by cases e), fun ad had j v hj => ?_⟩
   cases had
   rw [← hus] at hj
   rw [Addr.add_mid]
   have hcs : w.rangeAt b o ((vs.drop o).take m) := by
     have := cells_range ho (o := o) (k := m) (by simp; omega)
     rwa [List.drop_append_of_le_length (by omega), List.take_append_of_le_length (by simp; omega)] at this
   exact hcs j v hj
 unfold winA at h
 split at h
 · cases h; cases hx
   exact ⟨none, 0, 0, rfl, rfl, Win.nilw w⟩
 · rename_i i o m c
   cases hx with
   | sl _ _ _ hi =>
     split at h
     · rename_i T z l hB
       cases hc : (Nat.ble (o + m) l.length && Nat.ble m c && Nat.ble c 1073741824) with
       | false => simp [hc] at h
       | true =>
         simp only [hc, cond_true] at h
         simp only [Bool.and_eq_true, Nat.ble_eq] at hc
         obtain ⟨h1, h2⟩ := part hi hB hc.1.1 hc.1.2 (by have := hc.2; unfold maxLen; omega) h
         exact ⟨_, _, _, rfl, h1, h2⟩
     · cases h
 · rename_i i o m k q
   cases hx with
   | @su _ b d _ _ _ _ hi hn =>
     split at h
     · rename_i T z l hB
       cases hc : Nat.ble (o + m) l.length with
       | false => simp [hc] at h
       | true =>
         simp only [hc, cond_true] at h
         obtain ⟨ob, ho, vs, sp, fz, hv, _, hz, hq⟩ := hr.blk hi hB
         have hq2 : d ≤ maxLen := hq.2
         obtain ⟨h1, h2⟩ := part (c := d - k) hi hB (Nat.le_of_ble_eq_true hc) (by omega) (by omega) h
         exact ⟨_, _, _, rfl, h1, h2⟩
     · cases h
 · cases h
theorem hook_call {P : Program} (ht : (P.funcs.toList.all fun fn => !(fn.name == "runtime.NumGoroutine")) = true) {f : FuncId} {fn : Func} (hf : P.funcs[f]? = some fn) (hb : fn.body.isSome = true) (xs : Array Value) (w : World) :
   (callFunc f xs).run P w = .ok (.enter f xs) w := (tab_ok ht).call (show tabOf P f = some fn from hf) hb xs w
end Go.Proofs.YtknahinjccendaaGreatDoor.Ev
namespace Go.Proofs.YtknahinjccendaaGreatDoor
open Go Go.RowKit
namespace Ev
theorem ctab : (Tryz.prog.funcs.toList.all fun fn => !(fn.name == "runtime.NumGoroutine")) = true := by kernel_rfl
theorem hook_if {P : Program} {F : FuncId} {fn : Func} (ht : (P.funcs.toList.all fun fn => !(fn.name == "runtime.NumGoroutine")) = true) (hF : P.funcs[F]? = some fn) (hb : fn.body.isSome = true) {K : List AV → Tr AB → Nat → Option (AV × Tr AB × Nat)}
   (h : ∀ {args H n x H' n'}, K args H n = some (x, H', n') → ∀ {w0 ρ w vs}, HR w0 ρ H n w → VRs ρ args vs → Calls P F vs.toArray w (fun e w' => ∃ ρ' v, e = .returned v ∧ VR ρ' x v ∧ HR w0 ρ' H' n' w' ∧ Ext ρ ρ' H H' n n')) :
   HKok P (fun f args H n => cond (Nat.beq f F) (K args H n) none) := by
 intro f args H n x H' n' hk
 simp only at hk
 cases hf : Nat.beq f F with
 | false => rw [hf] at hk; cases hk
 | true =>
   rw [hf, cond_true] at hk
   have hf' : f = F := by simpa using hf
   subst hf'
   exact ⟨fun xs w => hook_call ht hF hb xs w, fun hr hvs => h hk hr hvs⟩
def crcK (args : List AV) (H : Tr AB) (n : Nat) : Option (AV × Tr AB × Nat) :=
 match args with
 | [p] => match winA p H with
   | some bs => cond (Nat.ble bs.length 1000000) (some (.v (.int .u32 (sumOf bs : Nat)), H, n)) none
   | none => none
 | _ => none
def crcHook : Hook := fun f args H n => cond (Nat.beq f 149) (crcK args H n) none
theorem crcHook_ok : HKok Tryz.prog crcHook := by
 refine hook_if (K := crcK) ctab Tryz.func149 (by kernel_rfl) ?_
 intro args H n x H' n' h w0 ρ w vs hr hvs
 unfold crcK at h
 split at h
 · split at h
   · rename_i bs hp
     cases hvs with
     | cons e1 t1 =>
     cases t1
     obtain ⟨a, m, c, rfl, rfl, hw⟩ := winA_sound hr hp e1
     cases hc : Nat.ble bs.length 1000000 with
     | false => rw [hc] at h; cases h
     | true =>
       rw [hc, cond_true] at h
       simp only [Option.some.injEq, Prod.mk.injEq] at h
       obtain ⟨rfl, rfl, rfl⟩ := h
       refine (crcOf_any a bs.length c bs w hw (Nat.le_of_ble_eq_true hc)).mono ?_
       rintro o w' ⟨rfl, hfr⟩
       exact ⟨ρ, _, rfl, .v _, hr.old hfr, Ext.refl _ _ _⟩
   · cases h
 · cases h
end Ev
end Go.Proofs.YtknahinjccendaaGreatDoor
/-
 What is handed in, opened: a type's reading as a predicate; a slice, a struct taken apart. No program in sight.
-/
namespace Go.Proofs.YtknahinjccendaaGreatDoor
open Go.RowKit
section
variable {P : Program} {w : World} {t : TypeId} {cs : List Value}
end
/-! Arguments by their types. -/
section
open Go.ChangeShapes Go.WideShapes Go.ChangeAt
variable {P : Program} {w : World} {t : TypeId} {r : Reach} {b0 : Nat} {v : Value}
end
end Go.Proofs.YtknahinjccendaaGreatDoor
namespace Go.Proofs.YtknahinjccendaaGreatDoor.Ev
open Go Go.RowKit
section
variable {P : Program} {FT : FuncId → Option Func} {HK : Hook} {w0 : Bs}
theorem calls_of_goes {f : FuncId} {s0 : ASt} (hft : FTok P FT) {w : World} (h : ∀ base, ∃ s, isTrue (finalE P FT f s) = true ∧ Goes P ⟨w, No, fun _ => none⟩ base s (Frame.enter P f #[] .normal) [] w) : Calls P f #[] w (fun e w' => e = .returned (.bool true) ∧ Fr No w w') := by
 intro cs
 obtain ⟨s, hfin, fr', cs', w', h1, ρ, hr, hf, hlo, hst⟩ := h cs
 have hfin := isTrue_eq hfin
 unfold finalE at hfin
 split at hfin
 · rename_i g1 hcs hret hds hrg hfnE
   rw [hcs] at hst
   cases hst
   cases hq : Nat.beq s.fr.fn f with
   | false => simp [hq] at hfin
   | true =>
     simp only [hq, cond_true] at hfin
     have hq' : s.fr.fn = f := by simpa using hq
     cases hres : resA P s.fr.T s.H g1.results.toList with
     | none => simp [hres] at hfin
     | some l =>
       simp only [hres, Option.some.injEq] at hfin
       obtain ⟨front, rest, g2, g3, g4⟩ := hf.todo
       rw [hrg] at g4
       obtain ⟨v, hv, hrun⟩ := results_sound hr g4.2 hres
       rw [hfin] at hv
       cases hv
       have hdsr := hf.ds
       rw [hds] at hdsr
       generalize hdf : fr'.defers = dfs at hdsr
       cases hdsr
       refine ⟨.returned _, w', fr', ⟨rfl, hr.fr⟩, h1, hf.fn.trans hq', ?_, hdf, hf.kind, g1, ?_, hrun⟩
       · rw [hf.mode, hret]; rfl
       · rw [hf.fn]; exact hft.fn hfnE
 · cases hfin
theorem start_SR (hft : FTok P FT) {f : FuncId} {s0 : ASt} (h0 : startE FT f = some s0) (w : World) : SR P ⟨w, No, fun _ => none⟩ s0 (Frame.enter P f #[] .normal) [] w := by
 unfold startE at h0
 cases hfn : FT f with
 | none => simp [hfn] at h0
 | some fn =>
   cases hb : fn.body with
   | none => simp [hfn, hb] at h0
   | some body =>
     simp only [hfn, hb, Option.some.injEq] at h0
     have hP := hft.fn hfn
     subst h0
     refine ⟨fun _ => none, ⟨fun h => (by cases h), fun h => (by cases h), fun _ => ⟨rfl, rfl⟩, fun h => (by cases h), Fr.refl _ _, Env.le_refl _⟩, ⟨rfl, rfl, rfl, .nil, .inl ⟨rfl, rfl⟩, [], _, rfl, ?_, rfl, ?_⟩, Nat.le_refl _, .nil _⟩
     · simp only [Frame.enter, hP, Option.bind_some, hb, Option.getD_some]
       exact .cons (.code _) .nil
     · have := argsT_TR (ρ := fun _ => none) VRs.nil fn.ntmps
       have hz : cond (Nat.ble fn.ntmps ([] : List AV).length) ([] : List AV).length fn.ntmps = fn.ntmps := by
         cases h : Nat.ble fn.ntmps ([] : List AV).length with
         | true => have := Nat.le_of_ble_eq_true h; simp at this ⊢; omega
         | false => rfl
       rw [hz] at this
       simpa [Frame.enter, hP, argsT] using this
theorem Goes.trans {base : List Frame} {s s' : ASt} {fr : Frame} {cs : List Frame} {w : World} (h : Goes P w0 base s fr cs w) (k : ∀ {fr' cs' w'}, SR P w0 s fr' cs' w' → Goes P w0 base s' fr' cs' w') : Goes P w0 base s' fr cs w := by
 obtain ⟨fr', cs', w', h1, h2⟩ := h
 obtain ⟨fr2, cs2, w2, h3, h4⟩ := k h2
 exact ⟨fr2, cs2, w2, Steps.trans h1 h3, h4⟩
end
section
universe u
variable {β : Type u}
def fNat (n : Nat) (k : Nat → β) : β := match n with
 | 0 => k 0
 | m + 1 => k (m + 1)
def fInt (z : Int) (k : Int → β) : β := match z with
 | .ofNat n => fNat n fun m => k (.ofNat m)
 | .negSucc n => fNat n fun m => k (.negSucc m)
def fV (x : Value) (k : Value → β) : β := match x with
 | .int a z => fInt z fun y => k (.int a y)
 | .bool b => (match b with | true => k (.bool true) | false => k (.bool false))
 | x => k x
theorem fNat_eq (n : Nat) (k : Nat → β) : fNat n k = k n := by cases n <;> rfl
theorem fInt_eq (z : Int) (k : Int → β) : fInt z k = k z := by
 cases z with
 | ofNat n => simp only [fInt, fNat_eq]
 | negSucc n => simp only [fInt, fNat_eq]
theorem fV_eq (x : Value) (k : Value → β) : fV x k = k x := by
 cases x with
 | int a z => simp only [fV, fInt_eq]
 | bool b => cases b <;> rfl
 | _ => rfl
mutual
def fA : AV → (AV → β) → β
 | .v x, k => fV x fun y => k (.v y)
 | .ptr i o, k => fNat i fun j => fNat o fun p => k (.ptr j p)
 | .sl i o n c, k => fNat i fun j => fNat o fun p => fNat n fun m => fNat c fun d => k (.sl j p m d)
 | .su i o n q r, k => fNat i fun j => fNat o fun p => fNat n fun m => fNat q fun q' => fNat r fun r' => k (.su j p m q' r')
 | .se, k => k .se
 | .s0, k => k .s0
 | .mp i, k => fNat i fun j => k (.mp j)
 | .agg l, k => fL l fun m => k (.agg m)
 | .tup l, k => fL l fun m => k (.tup m)
 | .fn f l m, k => fL l fun l' => fL m fun m' => k (.fn f l' m')
 | .yl i, k => fNat i fun j => k (.yl j)
 | .ifc t x, k => fA x fun y => k (.ifc t y)
def fL : List AV → (List AV → β) → β
 | [], k => k []
 | x :: l, k => fA x fun y => fL l fun m => k (y :: m)
end
mutual
theorem fA_eq : ∀ (x : AV) (k : AV → β), fA x k = k x
 | .v x, k => by simp only [fA, fV_eq]
 | .ptr i o, k => by simp only [fA, fNat_eq]
 | .sl i o n c, k => by simp only [fA, fNat_eq]
 | .su i o n q r, k => by simp only [fA, fNat_eq]
 | .se, _ => rfl
 | .s0, _ => rfl
 | .mp i, k => by simp only [fA, fNat_eq]
 | .agg l, k => by rw [fA, fL_eq]
 | .tup l, k => by rw [fA, fL_eq]
 | .fn f l m, k => by rw [fA, fL_eq, fL_eq]
 | .yl i, k => by simp only [fA, fNat_eq]
 | .ifc t x, k => by rw [fA, fA_eq]
theorem fL_eq : ∀ (l : List AV) (k : List AV → β), fL l k = k l
 | [], _ => rfl
 | x :: l, k => by rw [fL, fA_eq, fL_eq]
end
def fT : Tr AV → (Tr AV → β) → β
 | .e, k => k .e
 | .n l x r, k => fT l fun l' => match x with
   | none => fT r fun r' => k (.n l' none r')
   | some x => fA x fun y => fT r fun r' => k (.n l' (some y) r')
theorem fT_eq : ∀ (t : Tr AV) (k : Tr AV → β), fT t k = k t
 | .e, _ => rfl
 | .n l none r, k => by simp only [fT, fT_eq l, fT_eq r]
 | .n l (some x) r, k => by simp only [fT, fT_eq l, fT_eq r, fA_eq]
def fE : List (Value × AV × Nat) → (List (Value × AV × Nat) → β) → β
 | [], k => k []
 | (a, x, n) :: l, k => fV a fun a' => fA x fun y => fNat n fun m => fE l fun l' => k ((a', y, m) :: l')
theorem fE_eq : ∀ (l : List (Value × AV × Nat)) (k : List (Value × AV × Nat) → β), fE l k = k l
 | [], _ => rfl
 | (a, x, n) :: l, k => by simp only [fE, fV_eq, fA_eq, fNat_eq, fE_eq l]
def fB : AB → (AB → β) → β
 | .mem T z l, k => fL l fun m => k (.mem T z m)
 | .loop st pd fn nt T ps asg bd d, k => fT T fun T' => fNat fn fun fn' => fNat nt fun nt' => fNat d fun d' => k (.loop st pd fn' nt' T' ps asg bd d')
 | .dfd b, k => k (.dfd b)
 | .map l c, k => fE l fun m => fNat c fun d => k (.map m d)
 | .sit s p, k => fNat p fun q => k (.sit s q)
 | .dead, k => k .dead
theorem fB_eq : ∀ (b : AB) (k : AB → β), fB b k = k b
 | .mem T z l, k => by rw [fB, fL_eq]
 | .loop st pd fn nt T ps asg bd d, k => by simp only [fB, fT_eq, fNat_eq]
 | .dfd b, _ => rfl
 | .map l c, k => by simp only [fB, fE_eq, fNat_eq]
 | .sit s p, k => by simp only [fB, fNat_eq]
 | .dead, _ => rfl
def fH : Tr AB → (Tr AB → β) → β
 | .e, k => k .e
 | .n l x r, k => fH l fun l' => match x with
   | none => fH r fun r' => k (.n l' none r')
   | some x => fB x fun y => fH r fun r' => k (.n l' (some y) r')
theorem fH_eq : ∀ (t : Tr AB) (k : Tr AB → β), fH t k = k t
 | .e, _ => rfl
 | .n l none r, k => by simp only [fH, fH_eq l, fH_eq r]
 | .n l (some x) r, k => by simp only [fH, fH_eq l, fH_eq r, fB_eq]
end
section
universe u
variable {β : Type u}
def fF (f : AFr) (k : AFr → β) : β := match f with
 | ⟨fn, nt, T, rg, todo, ds, ret, round, lo⟩ => fNat nt fun nt' => fT T fun T' => fNat lo fun lo' => k ⟨fn, nt', T', rg, todo, ds, ret, round, lo'⟩
theorem fF_eq (f : AFr) (k : AFr → β) : fF f k = k f := by
 obtain ⟨fn, nt, T, rg, todo, ds, ret, round, lo⟩ := f
 simp only [fF, fNat_eq, fT_eq]
def fFs : List AFr → (List AFr → β) → β
 | [], k => k []
 | f :: l, k => fF f fun f' => fFs l fun l' => k (f' :: l')
theorem fFs_eq : ∀ (l : List AFr) (k : List AFr → β), fFs l k = k l
 | [], _ => rfl
 | f :: l, k => by simp only [fFs, fF_eq, fFs_eq l]
end
def nfS (s : ASt) : ASt := match s with
 | ⟨fr, cs, H, n⟩ => fF fr fun fr' => fFs cs fun cs' => fH H fun H' => fNat n fun n' => ⟨fr', cs', H', n'⟩
theorem nfS_eq (s : ASt) : nfS s = s := by
 obtain ⟨fr, cs, H, n⟩ := s
 show (fF fr fun fr' => fFs cs fun cs' => fH H fun H' => fNat n fun n' => ASt.mk fr' cs' H' n') = _
 rw [fF_eq, fFs_eq, fH_eq, fNat_eq]
/-! Words for a state's text. -/
def uN (k : IntKind) : Nat → Nat → List AV
 | 0, _ => []
 | c + 1, n => .v (.int k (.ofNat (n % 256))) :: uN k c (n / 256)
def zN (x : AV) : Nat → List AV
 | 0 => []
 | c + 1 => x :: zN x c
def iN (k : IntKind) : List Nat → List AV
 | [] => []
 | n :: l => .v (.int k (.ofNat n)) :: iN k l
def deadL : Nat → List AB
 | 0 => []
 | n + 1 => .dead :: deadL n
def evL {α : Type} : List α → List α
 | [] => []
 | [x] => [x]
 | x :: _ :: l => x :: evL l
def odL {α : Type} : List α → List α
 | [] => []
 | _ :: l => evL l
def ofL : Nat → List AB → Tr AB
 | 0, _ => .e
 | _ + 1, [] => .e
 | f + 1, x :: l => .n (ofL f (evL l)) (some x) (ofL f (odL l))
def ofO : Nat → List (Option AV) → Tr AV
 | 0, _ => .e
 | _ + 1, [] => .e
 | f + 1, x :: l => match ofO f (evL l), x, ofO f (odL l) with
   | .e, none, .e => .e
   | a, y, b => .n a y b
def kidsC : Code → List Code
 | .seq a b => [a, b]
 | .cond _ a b => [a, b]
 | .block _ b => [b]
 | .loop b => [b]
 | .rangeFunc _ _ a b => [a, b]
 | .scope b => [b]
 | _ => []
def subC (c : Code) : List Nat → Code
 | [] => c
 | i :: p => match (kidsC c)[i]? with
   | some d => subC d p
   | none => c
def opsC (c : Code) : Array Oper := match c with
 | .region _ ops _ => ops
 | _ => #[]
def plC (c : Code) (k : Nat) : ARg := .pl (opsC c) ((opsC c).toList.drop k)
def bodyC (P : Program) (f : FuncId) : Code := match tabOf P f with
 | some fn => (match fn.body with | some b => b | none => .skip)
 | none => .skip
def gcT (bits : Nat) : Nat → Nat → Tr AB → Tr AB
 | _, _, .e => .e
 | a, b, .n l x r => .n (gcT bits (2 * a) (a + b) l) (cond (Nat.testBit bits b) x (match x with | some _ => some .dead | none => none)) (gcT bits (2 * a) (2 * a + b) r)
theorem gcT_get (bits : Nat) : ∀ (t : Tr AB) (a b k : Nat), (gcT bits a b t).get k = cond (Nat.testBit bits (a * k + b)) (t.get k) ((t.get k).map fun _ => .dead)
 | .e, a, b, k => by simp [gcT, Tr.get]
 | .n l x r, a, b, k => by
   have hb : ∀ p q : Nat, Nat.beq p q = decide (p = q) := fun p q => by
     rw [Bool.eq_iff_iff]; simp [Nat.beq_eq]
   simp only [gcT, Tr.get, hb]
   by_cases h0 : k = 0
   · subst h0
     simp only [decide_true, cond_true, Nat.mul_zero, Nat.zero_add]
     cases x <;> rfl
   · simp only [h0, decide_false, cond_false]
     by_cases h1 : k % 2 = 1
     · simp only [h1, decide_true, cond_true]
       rw [gcT_get bits l]
       have e : 2 * a * (k / 2) + (a + b) = a * k + b := by
         have : k = 2 * (k / 2) + 1 := by omega
         generalize k / 2 = j at this
         subst this
         rw [Nat.mul_add, Nat.mul_one, Nat.mul_comm 2 a, Nat.mul_assoc]; omega
       rw [e]
     · simp only [h1, decide_false, cond_false]
       rw [gcT_get bits r]
       have e : 2 * a * (k / 2 - 1) + (2 * a + b) = a * k + b := by
         have : k = 2 * (k / 2 - 1) + 2 := by omega
         generalize k / 2 - 1 = j at this
         subst this
         rw [Nat.mul_add, Nat.mul_comm 2 a, Nat.mul_assoc]; omega
       rw [e]
def gcS (bits : Nat) (s : ASt) : ASt := { s with H := gcT bits 1 0 s.H }
theorem gc_get (bits : Nat) (t : Tr AB) (k : Nat) : (gcT bits 1 0 t).get k = cond (Nat.testBit bits k) (t.get k) ((t.get k).map fun _ => .dead) := by
 rw [gcT_get, Nat.one_mul, Nat.add_zero]
section
variable {P : Program} {FT : FuncId → Option Func} {HK : Hook} {w0 : Bs}
def plainG : ARg → Bool
 | .dr .. => false
 | _ => true
theorem FRel.any {ρ : Env} {H H' : Tr AB} {hi : Nat} {live : Bool} {af : AFr} {fr : Frame} (h : FRel P ρ H hi live af fr) (hp : plainG af.rg = true) : FRel P ρ H' hi live af fr := by
 obtain ⟨front, rest, h1, h2, h3⟩ := h.todo
 refine ⟨h.fn, h.kind, h.mode, h.ds, h.ro, front, rest, h1, h2, ?_⟩
 cases hr : af.rg with
 | no => rw [hr] at h3; exact h3
 | pl ops l => rw [hr] at h3; exact h3
 | dr => rw [hr] at hp; cases hp
theorem StackR.any {ρ : Env} {H H' : Tr AB} {hi : Nat} {l : List AFr} {m : List Frame} (h : StackR P ρ H hi l m) (hp : (l.all fun f => plainG f.rg) = true) : StackR P ρ H' hi l m := by
 induction h with
 | nil => exact .nil _
 | cons h hlo t ih =>
   simp only [List.all_cons, Bool.and_eq_true] at hp
   exact .cons (FRel.any h hp.1) hlo (ih hp.2)
theorem SR_gc {s : ASt} {fr : Frame} {cs : List Frame} {w : World} (bits : Nat) (h : SR P w0 s fr cs w) (hc : ((s.fr :: s.cs).all fun f => plainG f.rg) = true) : SR P w0 (gcS bits s) fr cs w := by
 obtain ⟨ρ, hr, hf, hlo, hst⟩ := h
 simp only [List.all_cons, Bool.and_eq_true] at hc
 have old : ∀ {i : Nat} {B : AB}, (gcT bits 1 0 s.H).get i = some B → ∃ C, s.H.get i = some C ∧ (B = C ∨ B = .dead) := by
   intro i B hB
   rw [gc_get] at hB
   cases ht : Nat.testBit bits i with
   | true => rw [ht] at hB; exact ⟨B, hB, .inl rfl⟩
   | false =>
     rw [ht] at hB
     cases hg : s.H.get i with
     | none => rw [hg] at hB; cases hB
     | some C => rw [hg] at hB; cases hB; exact ⟨C, rfl, .inr rfl⟩
 have live : ∀ {i : Nat} {B : AB}, (gcT bits 1 0 s.H).get i = some B → B.live = true → s.H.get i = some B := by
   intro i B hB hl
   obtain ⟨C, h1, rfl | rfl⟩ := old hB
   · exact h1
   · cases hl
 refine ⟨ρ, ⟨fun {i b c B} h1 h2 => ?_, fun h1 h2 h3 h4 h5 h6 => hr.inj h1 h2 (live h3 h5) (live h4 h6) h5 h6, fun {i} hi => ⟨(hr.top hi).1, ?_⟩, hr.base, hr.fr, hr.le⟩, FRel.any hf hc.1, hlo, StackR.any hst hc.2⟩
 · obtain ⟨C, h3, rfl | rfl⟩ := old h2
   · exact hr.blk h1 h3
   · obtain ⟨o, ho, _⟩ := hr.blk h1 h3
     exact ⟨o, ho, trivial⟩
 · show (gcT bits 1 0 s.H).get i = none
   rw [gc_get, (hr.top hi).2]
   cases Nat.testBit bits i <;> rfl
def Reach (P : Program) (s t : ASt) : Prop := ∀ {w0 : Bs} {base : List Frame} {fr : Frame} {cs : List Frame} {w : World}, SR P w0 s fr cs w → Goes P w0 base t fr cs w
theorem Reach.trans {s t u : ASt} (h : Reach P s t) (k : Reach P t u) : Reach P s u := fun q => Goes.trans (h q) fun q' => k q'
theorem Reach.seg (hft : FTok P FT) (hk : HKok P HK) (hmix : P.follows .mixedOrders = true) {k bits : Nat} {s t : ASt} (h : nfS (gcS bits (runE HK P FT k s)) = t) (h1 : ((t.fr :: t.cs).all fun f => plainG f.rg) = true := by rfl) : Reach P s t := fun q => by
 have e : gcS bits (runE HK P FT k s) = t := (nfS_eq _).symm.trans h
 refine Goes.trans (runE_sound hft hk hmix k q) fun {fr' cs' w'} q' => ?_
 have c1 : (((runE HK P FT k s).fr :: (runE HK P FT k s).cs).all fun f => plainG f.rg) = true := by rw [← e] at h1; exact h1
 have := SR_gc bits q' c1
 rw [e] at this
 exact ⟨fr', cs', w', Steps.refl _ _, this⟩
theorem calls_of_reach (hft : FTok P FT) (hk : HKok P HK) (hmix : P.follows .mixedOrders = true) {f : FuncId} {s0 t : ASt} {k : Nat} (h0 : startE FT f = some s0) (h : Reach P s0 t) (hf : isTrue (finalE P FT f (runE HK P FT k t)) = true) (w : World) :
   Calls P f #[] w (fun e w' => e = .returned (.bool true) ∧ Fr No w w') :=
 calls_of_goes hft (s0 := s0) fun base => ⟨_, hf, Goes.trans (h (start_SR hft h0 w)) fun q => runE_sound hft hk hmix k q⟩
end
end Go.Proofs.YtknahinjccendaaGreatDoor.Ev
/-
 StoreNames: a state of its run (0).
-/
namespace Go.Proofs.YtknahinjccendaaGreatDoor.RStoreNames
open Go Go.RowKit Ev
set_option maxRecDepth 100000
noncomputable def st0 : ASt := ⟨⟨3, 365, .e, .no, [.code (bodyC Tryz.prog 3)], [], false, none, 0⟩, [], .e, 0⟩
end Go.Proofs.YtknahinjccendaaGreatDoor.RStoreNames
/-
 StoreNames: a state of its run (1).
-/
namespace Go.Proofs.YtknahinjccendaaGreatDoor.RStoreNames
open Go Go.RowKit Ev
set_option maxRecDepth 100000
noncomputable def st1 : ASt := ⟨⟨9, 98, (ofO 99 [some (.ptr 12 0), some (.v (.int .i64 2)), some (.v (.int .i64 0)), some (.sl 174 0 6 6), some (.v (.int .i64 0)), none, none, none, none, none, some (.v (.int .i64 0)), some (.ptr 192 0), some (.v (.int .i64 6)), some (.ptr 193 0), none, none, none, none, some (.ptr 12 0), some (.v (.bool false)), some (.tup ([.agg ([.v (.string ⟨#[]⟩), .v (.int .i64 2), .v (.int .i64 2), .su 184 0 2 0 2, .v (.int .i64 60), .v (.int .i64 1)]), .v (.int .i64 6)])), some (.ptr 12 0), some (.v (.int .i64 2)), some (.v (.int .i64 0)), some (.tup ([.agg ([.v (.string ⟨#[]⟩), .v (.int .i64 2), .v (.int .i64 2), .su 184 0 2 0 2, .v (.int .i64 60), .v (.int .i64 1)]), .v (.int .i64 6)])), some (.agg ([.v (.string ⟨#[]⟩), .v (.int .i64 2), .v (.int .i64 2), .su 184 0 2 0 2, .v (.int .i64 60), .v (.int .i64 1)])), some (.v (.int .i64 6)), some (.v (.int .i64 6)), some (.v (.bool false)), some (.v (.bool false)), some (.v (.int .i64 6)), some (.sl 174 0 6 6), some (.v (.int .i64 6)), some (.v (.bool false)), some (.v (.bool false)), some (.v (.int .i64 2)), some (.v (.int .i64 0)), some (.ptr 192 2), some (.v (.int .i64 2)), some (.sl 174 0 6 6), some (.agg ([.v (.int .i64 2), .v (.int .i64 0), .v (.int .i64 2), .sl 174 0 6 6])), none, none, none, none, none, none, none, none, none, none, none, none, none, none, none, none, none, none, none, none, none, none, none, none, none, none, none, none, none, none, none, none, none, none, none, none, none, none, none, none, none, none, none, none, none, none, none, none, none, none, none, none, none, none, none, none, none]), .no, [.code (subC (bodyC Tryz.prog 9) [1, 1, 1, 1, 1, 0, 0]), .code (subC (bodyC Tryz.prog 9) [1, 1, 1, 1, 1, 0, 1]), .code (subC (bodyC Tryz.prog 9) [1, 1, 1, 1, 1, 1])], [], false, none, 175⟩, [⟨3, 365, (ofO 366 [some (.v (.bool false)), some (.ptr 12 0), some (.ptr 4 0), some (.ptr 80 0), some (.v (.int .i64 0)), some (.v (.int .i64 0)), some (.v (.int .i64 200)), some (.v (.int .i64 1)), some (.v (.int .i64 0)), some (.v (.int .i64 201)), some (.v (.int .i64 0)), some (.v (.int .i64 201)), some (.ptr 148 0), some (.v (.int .i64 201)), some (.ptr 151 0), some (.v (.int .i64 201)), some (.ptr 173 0), some (.v (.int .i64 41)), none, none, none, none, none, none, none, none, none, none, none, none, none, none, none, none, none, none, none, none, none, none, none, none, none, none, none, none, none, none, none, none, none, none, some (.tup ([.ptr 12 0, .ptr 4 0])), some (.agg ([.v (.int .i64 8), .v (.int .i64 1), .v (.int .i64 2), .v (.bool false), .v (.int .i64 8), .v (.int .i64 100)])), some (.tup ([.ptr 12 0, .ptr 4 0])), some (.ptr 12 0), some (.ptr 4 0), some (.ptr 12 0), some (.sl 17 0 1 1), some (.tup ([.agg ([.v (.string ⟨#[]⟩), .v (.int .i64 1), .v (.int .i64 1), .su 44 0 1 0 1, .v (.int .i64 58), .v (.int .i64 2)]), .v (.int .i64 0)])), some (.tup ([.agg ([.v (.string ⟨#[]⟩), .v (.int .i64 2), .v (.int .i64 2), .su 79 0 2 0 2, .v (.int .i64 60), .v (.int .i64 1)]), .v (.int .i64 0)])), some (.ptr 12 0), some (.sl 45 0 2 2), some (.tup ([.agg ([.v (.string ⟨#[]⟩), .v (.int .i64 2), .v (.int .i64 2), .su 79 0 2 0 2, .v (.int .i64 60), .v (.int .i64 1)]), .v (.int .i64 0)])), some (.agg ([.v (.string ⟨#[]⟩), .v (.int .i64 2), .v (.int .i64 2), .su 79 0 2 0 2, .v (.int .i64 60), .v (.int .i64 1)])), some (.v (.int .i64 0)), some (.tup ([.v (.int .i64 0), .v (.int .i64 200)])), some (.ptr 12 0), some (.tup ([.v (.int .i64 0), .v (.int .i64 200)])), some (.v (.int .i64 0)), some (.v (.int .i64 200)), some (.ptr 12 0), some (.v (.int .i64 1)), some (.tup ([.v (.int .i64 0), .v (.int .i64 201)])), some (.ptr 12 0), some (.tup ([.v (.int .i64 0), .v (.int .i64 201)])), some (.v (.int .i64 0)), some (.v (.int .i64 201)), some (.tup ([.v (.int .i64 0), .v (.int .i64 201)])), some (.ptr 12 0), some (.tup ([.v (.int .i64 0), .v (.int .i64 201)])), some (.v (.int .i64 0)), some (.v (.int .i64 201)), some (.tup ([.agg ([.v (.string ⟨#[]⟩), .v (.int .i64 0), .v (.int .i64 0), .v (.slice none 0 0), .v (.int .i64 0), .v (.int .i64 0)]), .v (.int .i64 201)])), some (.ptr 12 0), some (.tup ([.agg ([.v (.string ⟨#[]⟩), .v (.int .i64 0), .v (.int .i64 0), .v (.slice none 0 0), .v (.int .i64 0), .v (.int .i64 0)]), .v (.int .i64 201)])), some (.agg ([.v (.string ⟨#[]⟩), .v (.int .i64 0), .v (.int .i64 0), .v (.slice none 0 0), .v (.int .i64 0), .v (.int .i64 0)])), some (.v (.int .i64 201)), some (.tup ([.agg ([.v (.string ⟨#[]⟩), .v (.int .i64 0), .v (.int .i64 0), .v (.slice none 0 0), .v (.int .i64 0), .v (.int .i64 0)]), .v (.int .i64 201)])), some (.ptr 12 0), some (.sl 149 0 1 1), some (.tup ([.agg ([.v (.string ⟨#[]⟩), .v (.int .i64 0), .v (.int .i64 0), .v (.slice none 0 0), .v (.int .i64 0), .v (.int .i64 0)]), .v (.int .i64 201)])), some (.agg ([.v (.string ⟨#[]⟩), .v (.int .i64 0), .v (.int .i64 0), .v (.slice none 0 0), .v (.int .i64 0), .v (.int .i64 0)])), some (.v (.int .i64 201)), some (.tup ([.agg ([.v (.string ⟨#[]⟩), .v (.int .i64 0), .v (.int .i64 0), .v (.slice none 0 0), .v (.int .i64 0), .v (.int .i64 0)]), .v (.int .i64 41)])), some (.ptr 12 0), some (.sl 152 0 1 1), some (.tup ([.agg ([.v (.string ⟨#[]⟩), .v (.int .i64 0), .v (.int .i64 0), .v (.slice none 0 0), .v (.int .i64 0), .v (.int .i64 0)]), .v (.int .i64 41)])), some (.agg ([.v (.string ⟨#[]⟩), .v (.int .i64 0), .v (.int .i64 0), .v (.slice none 0 0), .v (.int .i64 0), .v (.int .i64 0)])), some (.v (.int .i64 41)), some (.ptr 12 0), some (.ptr 80 1), some (.v (.int .i64 2)), some (.sl 174 0 6 6), none, none, none, none, none, none, none, none, none, none, none, none, none, none, none, none, none, none, none, none, none, none, none, none, none, none, none, none, none, none, none, none, none, none, none, none, none, none, none, none, none, none, none, none, none, none, none, none, none, none, none, none, none, none, none, none, none, none, none, none, none, none, none, none, none, none, none, none, none, none, none, none, none, none, none, none, none, none, none, none, none, none, none, none, none, none, none, none, none, none, none, none, none, none, none, none, none, none, none, none, none, none, none, none, none, none, none, none, none, none, none, none, none, none, none, none, none, none, none, none, none, none, none, none, none, none, none, none, none, none, none, none, none, none, none, none, none, none, none, none, none, none, none, none, none, none, none, none, none, none, none, none, none, none, none, none, none, none, none, none, none, none, none, none, none, none, none, none, none, none, none, none, none, none, none, none, none, none, none, none, none, none, none, none, none, none, none, none, none, none, none, none, none, none, none, none, none, none, none, none, none, none, none, none, none, none, none, none, none, none, none, none, none, none, none, none, none, none, none, none, none, none, none, none, none, none, none, none, none, none, none, none, none, none, none, none, none, none, none, none, none, none, none, none, none, none, none, none, none, none, none, none, none, none, none, none, none, none, none, none, none]), (plC (subC (bodyC Tryz.prog 3) [1, 1, 1, 1, 1, 1, 1, 1, 1, 1, 1, 0]) 4), [.code (subC (bodyC Tryz.prog 3) [1, 1, 1, 1, 1, 1, 1, 1, 1, 1, 1, 1])], [], false, none, 0⟩],
 ofL 195 ([] ++ [.dead,
 .dead,
 .mem 94 none (zN (.v (.int .u8 0)) 12800),
 .map [] 0,
 .mem 101 none ([.sl 2 0 100 100, .mp 3, .v (.int .i64 0), .v (.slice none 0 0), .v (.int .i64 0), .v (.int .i64 0), .v (.int .i64 0), .v (.bool false)])] ++ deadL 7 ++ [.mem 66 none ([.ptr 4 0, .v (.int .i64 8), .v (.int .i64 1), .v (.int .i64 2), .v (.bool false), .v (.int .i64 8), .v (.int .i64 100), .ptr 15 0, .su 75 0 2 0 2, .v (.int .i64 3), .ptr 13 0, .v (.int .i64 1), .fn (.func 54) ([]) ([])]),
 .mem 131 none ([.v (.int .i64 8), .ifc 114 (.agg ([.ptr 12 0])), .v (.slice none 0 0)]),
 .dead,
 .mem 160 none ([.v (.bool true), .v (.int .i64 58), .v (.int .i64 100), .su 71 0 1 0 1])] ++ deadL 5 ++ [.mem 3 (some 1) ([.v (.int .i64 14)])] ++ deadL 27 ++ [.mem 3 (some 1) ([.v (.int .i64 2), .v (.int .i64 3)])] ++ deadL 21 ++ [.mem 76 (some 2) ([.v (.int .i64 58), .v (.int .i64 3)]),
 .dead,
 .dead,
 .dead,
 .mem 31 (some 6) ([.v (.string ⟨#[]⟩), .v (.int .i64 1), .v (.int .i64 1), .su 21 0 1 0 1, .v (.int .i64 58), .v (.int .i64 2), .v (.string ⟨#[]⟩), .v (.int .i64 2), .v (.int .i64 2), .su 49 0 2 0 2, .v (.int .i64 60), .v (.int .i64 1)]),
 .dead,
 .dead,
 .dead,
 .mem 3 (some 1) ([.v (.int .i64 2), .v (.int .i64 3)]),
 .mem 31 none ([.v (.string ⟨#[]⟩), .v (.int .i64 2), .v (.int .i64 2), .su 79 0 2 0 2, .v (.int .i64 60), .v (.int .i64 1)])] ++ deadL 93 ++ [.mem 2 none (uN .i64 5 21542142465 ++ [.v (.int .i64 (-1))])] ++ deadL 18 ++ [.mem 88 none ([.v (.int .i64 2), .v (.int .i64 0), .v (.int .i64 2), .sl 174 0 6 6])]), 194⟩
end Go.Proofs.YtknahinjccendaaGreatDoor.RStoreNames
namespace Go.Proofs.YtknahinjccendaaGreatDoor.RStoreNames
open Go Go.RowKit Ev
theorem start : startE (tabOf Tryz.prog) 3 = some st0 := by kernel_rfl
set_option maxRecDepth 1000000 in
theorem part0 : Ev.Reach Tryz.prog st0 st1 :=
 Ev.Reach.seg (Ev.tab_ok Ev.ctab) Ev.crcHook_ok Tryz.checked.mixed (HK := Ev.crcHook) (FT := tabOf Tryz.prog) (k := 11929) (bits := 12554227416016187557184990695587633909314550021012555083804) (by kernel_rfl)
end Go.Proofs.YtknahinjccendaaGreatDoor.RStoreNames
/-
 StoreNames: a state of its run (2).
-/
namespace Go.Proofs.YtknahinjccendaaGreatDoor.RStoreNames
open Go Go.RowKit Ev
set_option maxRecDepth 100000
noncomputable def st2 : ASt := ⟨⟨7, 71, (ofO 72 [some (.ptr 12 0), some (.v (.int .i64 1)), some (.v (.int .i64 0)), none, none, none, some (.v (.int .i64 0)), some (.v (.int .i64 0)), some (.ptr 447 0), some (.v (.bool true)), some (.ptr 448 0), none, none, none, some (.ptr 12 0), some (.v (.bool false)), some (.tup ([.agg ([.v (.string ⟨#[]⟩), .v (.int .i64 1), .v (.int .i64 1), .su 446 0 1 0 1, .v (.int .i64 58), .v (.int .i64 2)]), .v (.bool true)])), some (.ptr 12 0), some (.v (.int .i64 1)), some (.tup ([.agg ([.v (.string ⟨#[]⟩), .v (.int .i64 1), .v (.int .i64 1), .su 446 0 1 0 1, .v (.int .i64 58), .v (.int .i64 2)]), .v (.bool true)])), some (.agg ([.v (.string ⟨#[]⟩), .v (.int .i64 1), .v (.int .i64 1), .su 446 0 1 0 1, .v (.int .i64 58), .v (.int .i64 2)])), some (.v (.bool true)), some (.v (.bool true)), some (.v (.bool false)), some (.v (.bool false)), some (.v (.int .i64 0)), some (.v (.bool false)), some (.v (.bool false)), some (.v (.bool false)), some (.v (.int .i64 0)), some (.ptr 447 3), some (.su 446 0 1 0 1), some (.v (.int .i64 14)), some (.v (.bool false)), some (.v (.bool false)), some (.v (.int .i64 1)), some (.v (.int .i64 0)), some (.ptr 12 0), some (.v (.int .i64 13)), some (.v (.int .i64 0)), some (.agg ([.v (.int .i64 1), .v (.int .i64 0)])), none, none, none, none, none, none, none, none, none, none, none, none, none, none, none, none, none, none, none, none, none, none, none, none, none, none, none, none, none, none]), .no, [.code (subC (bodyC Tryz.prog 7) [1, 1, 1, 1, 1, 0, 0]), .code (subC (bodyC Tryz.prog 7) [1, 1, 1, 1, 1, 0, 1]), .code (subC (bodyC Tryz.prog 7) [1, 1, 1, 1, 1, 1])], [], false, none, 440⟩, [⟨3, 365, (ofO 366 [some (.v (.bool false)), some (.ptr 12 0), some (.ptr 4 0), some (.ptr 80 0), some (.v (.int .i64 0)), some (.v (.int .i64 0)), some (.v (.int .i64 200)), some (.v (.int .i64 1)), some (.v (.int .i64 0)), some (.v (.int .i64 201)), some (.v (.int .i64 0)), some (.v (.int .i64 201)), some (.ptr 148 0), some (.v (.int .i64 201)), some (.ptr 151 0), some (.v (.int .i64 201)), some (.ptr 173 0), some (.v (.int .i64 41)), some (.v (.int .i64 50)), some (.v (.int .i64 0)), some (.v (.int .i64 201)), some (.v (.bool true)), some (.su 439 0 128 0 128), some (.v (.int .i64 0)), none, none, none, none, none, none, none, none, none, none, none, none, none, none, none, none, none, none, none, none, none, none, none, none, none, none, none, none, some (.tup ([.ptr 12 0, .ptr 4 0])), some (.agg ([.v (.int .i64 8), .v (.int .i64 1), .v (.int .i64 2), .v (.bool false), .v (.int .i64 8), .v (.int .i64 100)])), some (.tup ([.ptr 12 0, .ptr 4 0])), some (.ptr 12 0), some (.ptr 4 0), some (.ptr 12 0), some (.sl 17 0 1 1), some (.tup ([.agg ([.v (.string ⟨#[]⟩), .v (.int .i64 1), .v (.int .i64 1), .su 44 0 1 0 1, .v (.int .i64 58), .v (.int .i64 2)]), .v (.int .i64 0)])), some (.tup ([.agg ([.v (.string ⟨#[]⟩), .v (.int .i64 2), .v (.int .i64 2), .su 79 0 2 0 2, .v (.int .i64 60), .v (.int .i64 1)]), .v (.int .i64 0)])), some (.ptr 12 0), some (.sl 45 0 2 2), some (.tup ([.agg ([.v (.string ⟨#[]⟩), .v (.int .i64 2), .v (.int .i64 2), .su 79 0 2 0 2, .v (.int .i64 60), .v (.int .i64 1)]), .v (.int .i64 0)])), some (.agg ([.v (.string ⟨#[]⟩), .v (.int .i64 2), .v (.int .i64 2), .su 79 0 2 0 2, .v (.int .i64 60), .v (.int .i64 1)])), some (.v (.int .i64 0)), some (.tup ([.v (.int .i64 0), .v (.int .i64 200)])), some (.ptr 12 0), some (.tup ([.v (.int .i64 0), .v (.int .i64 200)])), some (.v (.int .i64 0)), some (.v (.int .i64 200)), some (.ptr 12 0), some (.v (.int .i64 1)), some (.tup ([.v (.int .i64 0), .v (.int .i64 201)])), some (.ptr 12 0), some (.tup ([.v (.int .i64 0), .v (.int .i64 201)])), some (.v (.int .i64 0)), some (.v (.int .i64 201)), some (.tup ([.v (.int .i64 0), .v (.int .i64 201)])), some (.ptr 12 0), some (.tup ([.v (.int .i64 0), .v (.int .i64 201)])), some (.v (.int .i64 0)), some (.v (.int .i64 201)), some (.tup ([.agg ([.v (.string ⟨#[]⟩), .v (.int .i64 0), .v (.int .i64 0), .v (.slice none 0 0), .v (.int .i64 0), .v (.int .i64 0)]), .v (.int .i64 201)])), some (.ptr 12 0), some (.tup ([.agg ([.v (.string ⟨#[]⟩), .v (.int .i64 0), .v (.int .i64 0), .v (.slice none 0 0), .v (.int .i64 0), .v (.int .i64 0)]), .v (.int .i64 201)])), some (.agg ([.v (.string ⟨#[]⟩), .v (.int .i64 0), .v (.int .i64 0), .v (.slice none 0 0), .v (.int .i64 0), .v (.int .i64 0)])), some (.v (.int .i64 201)), some (.tup ([.agg ([.v (.string ⟨#[]⟩), .v (.int .i64 0), .v (.int .i64 0), .v (.slice none 0 0), .v (.int .i64 0), .v (.int .i64 0)]), .v (.int .i64 201)])), some (.ptr 12 0), some (.sl 149 0 1 1), some (.tup ([.agg ([.v (.string ⟨#[]⟩), .v (.int .i64 0), .v (.int .i64 0), .v (.slice none 0 0), .v (.int .i64 0), .v (.int .i64 0)]), .v (.int .i64 201)])), some (.agg ([.v (.string ⟨#[]⟩), .v (.int .i64 0), .v (.int .i64 0), .v (.slice none 0 0), .v (.int .i64 0), .v (.int .i64 0)])), some (.v (.int .i64 201)), some (.tup ([.agg ([.v (.string ⟨#[]⟩), .v (.int .i64 0), .v (.int .i64 0), .v (.slice none 0 0), .v (.int .i64 0), .v (.int .i64 0)]), .v (.int .i64 41)])), some (.ptr 12 0), some (.sl 152 0 1 1), some (.tup ([.agg ([.v (.string ⟨#[]⟩), .v (.int .i64 0), .v (.int .i64 0), .v (.slice none 0 0), .v (.int .i64 0), .v (.int .i64 0)]), .v (.int .i64 41)])), some (.agg ([.v (.string ⟨#[]⟩), .v (.int .i64 0), .v (.int .i64 0), .v (.slice none 0 0), .v (.int .i64 0), .v (.int .i64 0)])), some (.v (.int .i64 41)), some (.ptr 12 0), some (.ptr 80 1), some (.v (.int .i64 2)), some (.sl 174 0 6 6), some (.v (.int .i64 50)), some (.ptr 12 0), some (.ptr 80 1), some (.v (.int .i64 2)), some (.sl 195 0 6 6), some (.v (.int .i64 0)), some (.ptr 12 0), some (.ptr 80 1), some (.v (.int .i64 2)), some (.v (.int .i64 201)), some (.v (.int .i64 0)), some (.v (.bool true)), some (.v (.bool true)), some (.ptr 80 4), some (.v (.int .i64 60)), some (.v (.bool true)), some (.v (.bool true)), some (.v (.bool true)), some (.v (.int .i64 200)), some (.v (.bool true)), some (.v (.bool true)), some (.v (.bool true)), some (.v (.int .i64 1)), some (.v (.bool true)), some (.v (.bool true)), some (.v (.bool true)), some (.v (.int .i64 201)), some (.v (.bool true)), some (.v (.bool true)), some (.v (.bool true)), some (.v (.int .i64 201)), some (.v (.bool true)), some (.v (.bool true)), some (.v (.bool true)), some (.v (.int .i64 201)), some (.v (.bool true)), some (.v (.bool true)), some (.v (.bool true)), some (.v (.int .i64 201)), some (.v (.bool true)), some (.v (.bool true)), some (.v (.bool true)), some (.v (.int .i64 41)), some (.v (.bool true)), some (.v (.bool true)), some (.v (.bool true)), some (.v (.int .i64 50)), some (.v (.bool true)), some (.v (.bool true)), some (.v (.bool true)), some (.v (.int .i64 0)), some (.v (.bool true)), some (.v (.bool true)), some (.v (.bool true)), some (.v (.int .i64 201)), some (.v (.bool true)), some (.v (.bool true)), some (.v (.bool true)), some (.ptr 12 0), some (.v (.int .i64 3)), some (.v (.bool true)), some (.v (.bool true)), some (.tup ([.su 439 0 128 0 128, .v (.int .i64 0)])), some (.ptr 4 0), some (.tup ([.su 439 0 128 0 128, .v (.int .i64 0)])), some (.su 439 0 128 0 128), some (.v (.int .i64 0)), some (.ptr 4 0), some (.su 439 0 128 0 128), some (.v (.int .i64 0)), none, some (.ptr 12 0), none, none, none, none, none, none, none, none, none, none, none, none, none, none, none, none, none, none, none, none, none, none, none, none, none, none, none, none, none, none, none, none, none, none, none, none, none, none, none, none, none, none, none, none, none, none, none, none, none, none, none, none, none, none, none, none, none, none, none, none, none, none, none, none, none, none, none, none, none, none, none, none, none, none, none, none, none, none, none, none, none, none, none, none, none, none, none, none, none, none, none, none, none, none, none, none, none, none, none, none, none, none, none, none, none, none, none, none, none, none, none, none, none, none, none, none, none, none, none, none, none, none, none, none, none, none, none, none, none, none, none, none, none, none, none, none, none, none, none, none, none, none, none, none, none, none, none, none, none, none, none, none, none, none, none, none, none, none, none, none, none, none, none, none, none, none, none, none, none, none, none, none, none, none, none, none, none, none, none, none, none, none, none, none, none, none, none, none, none]), (plC (subC (bodyC Tryz.prog 3) [1, 1, 1, 1, 1, 1, 1, 1, 1, 1, 1, 1, 1, 1, 1, 1, 1, 0]) 1), [.code (subC (bodyC Tryz.prog 3) [1, 1, 1, 1, 1, 1, 1, 1, 1, 1, 1, 1, 1, 1, 1, 1, 1, 1])], [], false, none, 0⟩],
 ofL 450 ([] ++ [.dead,
 .dead,
 .mem 94 none (zN (.v (.int .u8 0)) 12800),
 .map [(.int .i64 60, .agg (uN .u8 128 79080062157896012368112015137830137845133233154059295355132316465698810570728560867861968261581878603287302131648830497615561625509972000634451124597877625052117318601965315747939948894771394984623786265962230648903491008341370262001318351796175408903887364500344460656633895595305382183956549165966134694993), 0), (.int .i64 58, .agg (uN .u8 128 79080062157896012368112015137830137845133233154059295355132316465698810570728560867861968261581878603287302131648830497615561625509972000634451124597877625052117318601965315747939948894771394984623786265962230648903491008341370262001318351796175408903887364500344460656633895595305382183956549165966134694993), 1)] 2,
 .mem 101 none ([.sl 2 0 100 100, .mp 3, .v (.int .i64 0), .v (.slice none 0 0), .v (.int .i64 0), .v (.int .i64 0), .v (.int .i64 2), .v (.bool false)])] ++ deadL 7 ++ [.mem 66 none ([.ptr 4 0, .v (.int .i64 8), .v (.int .i64 1), .v (.int .i64 2), .v (.bool false), .v (.int .i64 8), .v (.int .i64 100), .ptr 15 0, .su 75 0 2 0 2, .v (.int .i64 3), .ptr 13 0, .v (.int .i64 1), .fn (.func 54) ([]) ([])]),
 .mem 131 none ([.v (.int .i64 8), .ifc 114 (.agg ([.ptr 12 0])), .su 228 0 0 0 1]),
 .dead,
 .mem 160 none ([.v (.bool true), .v (.int .i64 58), .v (.int .i64 100), .su 71 0 1 0 1])] ++ deadL 5 ++ [.mem 3 (some 1) ([.v (.int .i64 14)])] ++ deadL 27 ++ [.mem 3 (some 1) ([.v (.int .i64 2), .v (.int .i64 3)])] ++ deadL 21 ++ [.mem 76 (some 2) ([.v (.int .i64 58), .v (.int .i64 3)]),
 .dead,
 .dead,
 .dead,
 .mem 31 (some 6) ([.v (.string ⟨#[]⟩), .v (.int .i64 1), .v (.int .i64 1), .su 21 0 1 0 1, .v (.int .i64 58), .v (.int .i64 2), .v (.string ⟨#[]⟩), .v (.int .i64 2), .v (.int .i64 2), .su 49 0 2 0 2, .v (.int .i64 60), .v (.int .i64 1)])] ++ deadL 152 ++ [.mem 125 (some 1) ([.v (.pointer none)])] ++ deadL 219 ++ [.mem 82 none ([.v (.int .i64 1), .v (.int .i64 0)])]), 449⟩
end Go.Proofs.YtknahinjccendaaGreatDoor.RStoreNames
namespace Go.Proofs.YtknahinjccendaaGreatDoor.RStoreNames
open Go Go.RowKit Ev
set_option maxRecDepth 1000000 in
theorem part1 : Ev.Reach Tryz.prog st1 st2 :=
 Ev.Reach.seg (Ev.tab_ok Ev.ctab) Ev.crcHook_ok Tryz.checked.mixed (HK := Ev.crcHook) (FT := tabOf Tryz.prog) (k := 9794) (bits := 726838724295606890549323807888004534353641360687318060281490199181070647260072333562905722955155879651540715917066967208899601332482076) (by kernel_rfl)
end Go.Proofs.YtknahinjccendaaGreatDoor.RStoreNames
/-
 StoreNames: a state of its run (3).
-/
namespace Go.Proofs.YtknahinjccendaaGreatDoor.RStoreNames
open Go Go.RowKit Ev
set_option maxRecDepth 100000
noncomputable def st3 : ASt := ⟨⟨7, 71, (ofO 72 [some (.ptr 12 0), some (.v (.int .i64 1)), some (.v (.int .i64 0)), none, none, none, some (.v (.int .i64 0)), some (.v (.int .i64 0)), some (.ptr 447 0), some (.v (.bool true)), some (.ptr 448 0), some (.v (.int .i64 200)), none, none, some (.ptr 12 0), some (.v (.bool false)), some (.tup ([.agg ([.v (.string ⟨#[]⟩), .v (.int .i64 1), .v (.int .i64 1), .su 446 0 1 0 1, .v (.int .i64 58), .v (.int .i64 2)]), .v (.bool true)])), some (.ptr 12 0), some (.v (.int .i64 1)), some (.tup ([.agg ([.v (.string ⟨#[]⟩), .v (.int .i64 1), .v (.int .i64 1), .su 446 0 1 0 1, .v (.int .i64 58), .v (.int .i64 2)]), .v (.bool true)])), some (.agg ([.v (.string ⟨#[]⟩), .v (.int .i64 1), .v (.int .i64 1), .su 446 0 1 0 1, .v (.int .i64 58), .v (.int .i64 2)])), some (.v (.bool true)), some (.v (.bool true)), some (.v (.bool false)), some (.v (.bool false)), some (.v (.int .i64 0)), some (.v (.bool false)), some (.v (.bool false)), some (.v (.bool false)), some (.v (.int .i64 0)), some (.ptr 447 3), some (.su 446 0 1 0 1), some (.v (.int .i64 14)), some (.v (.bool false)), some (.v (.bool false)), some (.v (.int .i64 1)), some (.v (.int .i64 0)), some (.ptr 12 0), some (.v (.int .i64 13)), some (.v (.int .i64 0)), some (.agg ([.v (.int .i64 1), .v (.int .i64 0)])), some (.ptr 12 0), some (.ptr 12 0), some (.ptr 12 10), some (.ptr 13 0), some (.agg ([.v (.int .i64 1), .v (.int .i64 0)])), some (.v (.int .i64 200)), none, none, none, none, none, none, none, none, none, none, none, none, none, none, none, none, none, none, none, none, none, none, none, none]), .no, [.code (subC (bodyC Tryz.prog 7) [1, 1, 1, 1, 1, 0, 1]), .code (subC (bodyC Tryz.prog 7) [1, 1, 1, 1, 1, 1])], [], false, none, 440⟩, [⟨3, 365, (ofO 366 [some (.v (.bool false)), some (.ptr 12 0), some (.ptr 4 0), some (.ptr 80 0), some (.v (.int .i64 0)), some (.v (.int .i64 0)), some (.v (.int .i64 200)), some (.v (.int .i64 1)), some (.v (.int .i64 0)), some (.v (.int .i64 201)), some (.v (.int .i64 0)), some (.v (.int .i64 201)), some (.ptr 148 0), some (.v (.int .i64 201)), some (.ptr 151 0), some (.v (.int .i64 201)), some (.ptr 173 0), some (.v (.int .i64 41)), some (.v (.int .i64 50)), some (.v (.int .i64 0)), some (.v (.int .i64 201)), some (.v (.bool true)), some (.su 439 0 128 0 128), some (.v (.int .i64 0)), none, none, none, none, none, none, none, none, none, none, none, none, none, none, none, none, none, none, none, none, none, none, none, none, none, none, none, none, some (.tup ([.ptr 12 0, .ptr 4 0])), some (.agg ([.v (.int .i64 8), .v (.int .i64 1), .v (.int .i64 2), .v (.bool false), .v (.int .i64 8), .v (.int .i64 100)])), some (.tup ([.ptr 12 0, .ptr 4 0])), some (.ptr 12 0), some (.ptr 4 0), some (.ptr 12 0), some (.sl 17 0 1 1), some (.tup ([.agg ([.v (.string ⟨#[]⟩), .v (.int .i64 1), .v (.int .i64 1), .su 44 0 1 0 1, .v (.int .i64 58), .v (.int .i64 2)]), .v (.int .i64 0)])), some (.tup ([.agg ([.v (.string ⟨#[]⟩), .v (.int .i64 2), .v (.int .i64 2), .su 79 0 2 0 2, .v (.int .i64 60), .v (.int .i64 1)]), .v (.int .i64 0)])), some (.ptr 12 0), some (.sl 45 0 2 2), some (.tup ([.agg ([.v (.string ⟨#[]⟩), .v (.int .i64 2), .v (.int .i64 2), .su 79 0 2 0 2, .v (.int .i64 60), .v (.int .i64 1)]), .v (.int .i64 0)])), some (.agg ([.v (.string ⟨#[]⟩), .v (.int .i64 2), .v (.int .i64 2), .su 79 0 2 0 2, .v (.int .i64 60), .v (.int .i64 1)])), some (.v (.int .i64 0)), some (.tup ([.v (.int .i64 0), .v (.int .i64 200)])), some (.ptr 12 0), some (.tup ([.v (.int .i64 0), .v (.int .i64 200)])), some (.v (.int .i64 0)), some (.v (.int .i64 200)), some (.ptr 12 0), some (.v (.int .i64 1)), some (.tup ([.v (.int .i64 0), .v (.int .i64 201)])), some (.ptr 12 0), some (.tup ([.v (.int .i64 0), .v (.int .i64 201)])), some (.v (.int .i64 0)), some (.v (.int .i64 201)), some (.tup ([.v (.int .i64 0), .v (.int .i64 201)])), some (.ptr 12 0), some (.tup ([.v (.int .i64 0), .v (.int .i64 201)])), some (.v (.int .i64 0)), some (.v (.int .i64 201)), some (.tup ([.agg ([.v (.string ⟨#[]⟩), .v (.int .i64 0), .v (.int .i64 0), .v (.slice none 0 0), .v (.int .i64 0), .v (.int .i64 0)]), .v (.int .i64 201)])), some (.ptr 12 0), some (.tup ([.agg ([.v (.string ⟨#[]⟩), .v (.int .i64 0), .v (.int .i64 0), .v (.slice none 0 0), .v (.int .i64 0), .v (.int .i64 0)]), .v (.int .i64 201)])), some (.agg ([.v (.string ⟨#[]⟩), .v (.int .i64 0), .v (.int .i64 0), .v (.slice none 0 0), .v (.int .i64 0), .v (.int .i64 0)])), some (.v (.int .i64 201)), some (.tup ([.agg ([.v (.string ⟨#[]⟩), .v (.int .i64 0), .v (.int .i64 0), .v (.slice none 0 0), .v (.int .i64 0), .v (.int .i64 0)]), .v (.int .i64 201)])), some (.ptr 12 0), some (.sl 149 0 1 1), some (.tup ([.agg ([.v (.string ⟨#[]⟩), .v (.int .i64 0), .v (.int .i64 0), .v (.slice none 0 0), .v (.int .i64 0), .v (.int .i64 0)]), .v (.int .i64 201)])), some (.agg ([.v (.string ⟨#[]⟩), .v (.int .i64 0), .v (.int .i64 0), .v (.slice none 0 0), .v (.int .i64 0), .v (.int .i64 0)])), some (.v (.int .i64 201)), some (.tup ([.agg ([.v (.string ⟨#[]⟩), .v (.int .i64 0), .v (.int .i64 0), .v (.slice none 0 0), .v (.int .i64 0), .v (.int .i64 0)]), .v (.int .i64 41)])), some (.ptr 12 0), some (.sl 152 0 1 1), some (.tup ([.agg ([.v (.string ⟨#[]⟩), .v (.int .i64 0), .v (.int .i64 0), .v (.slice none 0 0), .v (.int .i64 0), .v (.int .i64 0)]), .v (.int .i64 41)])), some (.agg ([.v (.string ⟨#[]⟩), .v (.int .i64 0), .v (.int .i64 0), .v (.slice none 0 0), .v (.int .i64 0), .v (.int .i64 0)])), some (.v (.int .i64 41)), some (.ptr 12 0), some (.ptr 80 1), some (.v (.int .i64 2)), some (.sl 174 0 6 6), some (.v (.int .i64 50)), some (.ptr 12 0), some (.ptr 80 1), some (.v (.int .i64 2)), some (.sl 195 0 6 6), some (.v (.int .i64 0)), some (.ptr 12 0), some (.ptr 80 1), some (.v (.int .i64 2)), some (.v (.int .i64 201)), some (.v (.int .i64 0)), some (.v (.bool true)), some (.v (.bool true)), some (.ptr 80 4), some (.v (.int .i64 60)), some (.v (.bool true)), some (.v (.bool true)), some (.v (.bool true)), some (.v (.int .i64 200)), some (.v (.bool true)), some (.v (.bool true)), some (.v (.bool true)), some (.v (.int .i64 1)), some (.v (.bool true)), some (.v (.bool true)), some (.v (.bool true)), some (.v (.int .i64 201)), some (.v (.bool true)), some (.v (.bool true)), some (.v (.bool true)), some (.v (.int .i64 201)), some (.v (.bool true)), some (.v (.bool true)), some (.v (.bool true)), some (.v (.int .i64 201)), some (.v (.bool true)), some (.v (.bool true)), some (.v (.bool true)), some (.v (.int .i64 201)), some (.v (.bool true)), some (.v (.bool true)), some (.v (.bool true)), some (.v (.int .i64 41)), some (.v (.bool true)), some (.v (.bool true)), some (.v (.bool true)), some (.v (.int .i64 50)), some (.v (.bool true)), some (.v (.bool true)), some (.v (.bool true)), some (.v (.int .i64 0)), some (.v (.bool true)), some (.v (.bool true)), some (.v (.bool true)), some (.v (.int .i64 201)), some (.v (.bool true)), some (.v (.bool true)), some (.v (.bool true)), some (.ptr 12 0), some (.v (.int .i64 3)), some (.v (.bool true)), some (.v (.bool true)), some (.tup ([.su 439 0 128 0 128, .v (.int .i64 0)])), some (.ptr 4 0), some (.tup ([.su 439 0 128 0 128, .v (.int .i64 0)])), some (.su 439 0 128 0 128), some (.v (.int .i64 0)), some (.ptr 4 0), some (.su 439 0 128 0 128), some (.v (.int .i64 0)), none, some (.ptr 12 0), none, none, none, none, none, none, none, none, none, none, none, none, none, none, none, none, none, none, none, none, none, none, none, none, none, none, none, none, none, none, none, none, none, none, none, none, none, none, none, none, none, none, none, none, none, none, none, none, none, none, none, none, none, none, none, none, none, none, none, none, none, none, none, none, none, none, none, none, none, none, none, none, none, none, none, none, none, none, none, none, none, none, none, none, none, none, none, none, none, none, none, none, none, none, none, none, none, none, none, none, none, none, none, none, none, none, none, none, none, none, none, none, none, none, none, none, none, none, none, none, none, none, none, none, none, none, none, none, none, none, none, none, none, none, none, none, none, none, none, none, none, none, none, none, none, none, none, none, none, none, none, none, none, none, none, none, none, none, none, none, none, none, none, none, none, none, none, none, none, none, none, none, none, none, none, none, none, none, none, none, none, none, none, none, none, none, none, none, none]), (plC (subC (bodyC Tryz.prog 3) [1, 1, 1, 1, 1, 1, 1, 1, 1, 1, 1, 1, 1, 1, 1, 1, 1, 0]) 1), [.code (subC (bodyC Tryz.prog 3) [1, 1, 1, 1, 1, 1, 1, 1, 1, 1, 1, 1, 1, 1, 1, 1, 1, 1])], [], false, none, 0⟩],
 ofL 729 ([] ++ [.dead,
 .dead,
 .mem 94 none (zN (.v (.int .u8 0)) 12800),
 .map [(.int .i64 60, .agg (uN .u8 128 79080062157896012368112015137830137845133233154059295355132316465698810570728560867861968261581878603287302131648830497615561625509972000634451124597877625052117318601965315747939948894771394984623786265962230648903491008341370262001318351796175408903887364500344460656633895595305382183956549165966134694993), 0), (.int .i64 58, .agg (uN .u8 128 79080062157896012368112015137830137845133233154059295355132316465698810570728560867861968261581878603287302131648830497615561625509972000634451124597877625052117318601965315747939948894771394984623786265962230648903491008341370262001318351796175408903887364500344460656633895595305382183956549165966134694993), 1)] 2,
 .mem 101 none ([.sl 2 0 100 100, .mp 3, .v (.int .i64 0), .v (.slice none 0 0), .v (.int .i64 0), .v (.int .i64 0), .v (.int .i64 2), .v (.bool false)])] ++ deadL 7 ++ [.mem 66 none ([.ptr 4 0, .v (.int .i64 8), .v (.int .i64 1), .v (.int .i64 2), .v (.bool false), .v (.int .i64 8), .v (.int .i64 100), .ptr 15 0, .su 75 0 2 0 2, .v (.int .i64 3), .ptr 13 0, .v (.int .i64 1), .fn (.func 54) ([]) ([])]),
 .mem 131 none ([.v (.int .i64 8), .ifc 114 (.agg ([.ptr 12 0])), .su 228 0 0 0 1]),
 .dead,
 .mem 160 none ([.v (.bool true), .v (.int .i64 58), .v (.int .i64 100), .su 71 0 1 0 1])] ++ deadL 5 ++ [.mem 3 (some 1) ([.v (.int .i64 14)])] ++ deadL 27 ++ [.mem 3 (some 1) ([.v (.int .i64 2), .v (.int .i64 3)])] ++ deadL 21 ++ [.mem 76 (some 2) ([.v (.int .i64 58), .v (.int .i64 3)]),
 .dead,
 .dead,
 .dead,
 .mem 31 (some 6) ([.v (.string ⟨#[]⟩), .v (.int .i64 1), .v (.int .i64 1), .su 21 0 1 0 1, .v (.int .i64 58), .v (.int .i64 2), .v (.string ⟨#[]⟩), .v (.int .i64 2), .v (.int .i64 2), .su 49 0 2 0 2, .v (.int .i64 60), .v (.int .i64 1)])] ++ deadL 152 ++ [.mem 125 (some 1) ([.v (.pointer none)])] ++ deadL 219 ++ [.mem 82 none ([.v (.int .i64 1), .v (.int .i64 0)])] ++ deadL 279), 728⟩
end Go.Proofs.YtknahinjccendaaGreatDoor.RStoreNames
namespace Go.Proofs.YtknahinjccendaaGreatDoor.RStoreNames
open Go Go.RowKit Ev
set_option maxRecDepth 1000000 in
theorem part2 : Ev.Reach Tryz.prog st2 st3 :=
 Ev.Reach.seg (Ev.tab_ok Ev.ctab) Ev.crcHook_ok Tryz.checked.mixed (HK := Ev.crcHook) (FT := tabOf Tryz.prog) (k := 17120) (bits := 726838724295606890549323807888004534353641360687318060281490199181070647260072333562905722955155879651540715917066967208899601332482076) (by kernel_rfl)
end Go.Proofs.YtknahinjccendaaGreatDoor.RStoreNames
/-
 StoreNames: a state of its run (4).
-/
namespace Go.Proofs.YtknahinjccendaaGreatDoor.RStoreNames
open Go Go.RowKit Ev
set_option maxRecDepth 100000
noncomputable def st4 : ASt := ⟨⟨7, 71, (ofO 72 [some (.ptr 12 0), some (.v (.int .i64 2)), some (.v (.int .i64 0)), none, none, none, some (.v (.int .i64 0)), some (.v (.int .i64 0)), some (.ptr 745 0), some (.v (.bool true)), some (.ptr 746 0), none, none, none, some (.ptr 12 0), some (.v (.bool false)), some (.tup ([.agg ([.v (.string ⟨#[]⟩), .v (.int .i64 2), .v (.int .i64 2), .su 744 0 2 0 2, .v (.int .i64 60), .v (.int .i64 1)]), .v (.bool true)])), some (.ptr 12 0), some (.v (.int .i64 2)), some (.tup ([.agg ([.v (.string ⟨#[]⟩), .v (.int .i64 2), .v (.int .i64 2), .su 744 0 2 0 2, .v (.int .i64 60), .v (.int .i64 1)]), .v (.bool true)])), some (.agg ([.v (.string ⟨#[]⟩), .v (.int .i64 2), .v (.int .i64 2), .su 744 0 2 0 2, .v (.int .i64 60), .v (.int .i64 1)])), some (.v (.bool true)), some (.v (.bool true)), some (.v (.bool false)), some (.v (.bool false)), some (.v (.int .i64 0)), some (.v (.bool false)), some (.v (.bool false)), some (.v (.bool false)), some (.v (.int .i64 0)), some (.ptr 745 3), some (.su 744 0 2 0 2), some (.v (.int .i64 6)), some (.v (.bool false)), some (.v (.bool false)), some (.v (.int .i64 2)), some (.v (.int .i64 0)), some (.ptr 12 0), some (.v (.int .i64 13)), some (.v (.int .i64 0)), some (.agg ([.v (.int .i64 2), .v (.int .i64 0)])), none, none, none, none, none, none, none, none, none, none, none, none, none, none, none, none, none, none, none, none, none, none, none, none, none, none, none, none, none, none]), .no, [.code (subC (bodyC Tryz.prog 7) [1, 1, 1, 1, 1, 0, 0]), .code (subC (bodyC Tryz.prog 7) [1, 1, 1, 1, 1, 0, 1]), .code (subC (bodyC Tryz.prog 7) [1, 1, 1, 1, 1, 1])], [], false, none, 737⟩, [⟨13, 44, (ofO 45 [some (.ptr 12 0), some (.v (.int .i64 2)), none, none, some (.v (.slice none 0 0)), some (.v (.int .i64 0)), some (.ptr 736 0), some (.v (.bool true)), some (.v (.slice none 0 0)), some (.v (.int .i64 0)), none, none, some (.ptr 12 0), some (.v (.bool false)), some (.tup ([.agg ([.v (.string ⟨#[]⟩), .v (.int .i64 2), .v (.int .i64 2), .su 735 0 2 0 2, .v (.int .i64 60), .v (.int .i64 1)]), .v (.bool true)])), some (.ptr 12 0), some (.v (.int .i64 2)), some (.tup ([.agg ([.v (.string ⟨#[]⟩), .v (.int .i64 2), .v (.int .i64 2), .su 735 0 2 0 2, .v (.int .i64 60), .v (.int .i64 1)]), .v (.bool true)])), some (.agg ([.v (.string ⟨#[]⟩), .v (.int .i64 2), .v (.int .i64 2), .su 735 0 2 0 2, .v (.int .i64 60), .v (.int .i64 1)])), some (.v (.bool true)), some (.v (.bool true)), some (.v (.bool false)), some (.ptr 736 3), some (.su 735 0 2 0 2), some (.v (.int .i64 6)), some (.v (.int .i64 0)), some (.v (.bool true)), some (.v (.int .i64 0)), none, some (.ptr 12 0), some (.v (.int .i64 2)), some (.v (.int .i64 0)), none, none, none, none, none, none, none, none, none, none, none, none]), (plC (subC (bodyC Tryz.prog 13) [1, 1, 1, 1, 1, 0, 1, 0, 0, 1, 1, 0, 0, 1, 0]) 3), [.code (subC (bodyC Tryz.prog 13) [1, 1, 1, 1, 1, 0, 1, 0, 0, 1, 1, 0, 0, 1, 1]), .inBlock 1, .code (subC (bodyC Tryz.prog 13) [1, 1, 1, 1, 1, 0, 1, 0, 0, 1, 1, 1]), .inLoop (subC (bodyC Tryz.prog 13) [1, 1, 1, 1, 1, 0, 1, 0, 0]), .inBlock 0, .code (subC (bodyC Tryz.prog 13) [1, 1, 1, 1, 1, 1])], [], false, none, 728⟩,
 ⟨3, 365, (ofO 366 [some (.v (.bool false)), some (.ptr 12 0), some (.ptr 4 0), some (.ptr 80 0), some (.v (.int .i64 0)), some (.v (.int .i64 0)), some (.v (.int .i64 200)), some (.v (.int .i64 1)), some (.v (.int .i64 0)), some (.v (.int .i64 201)), some (.v (.int .i64 0)), some (.v (.int .i64 201)), some (.ptr 148 0), some (.v (.int .i64 201)), some (.ptr 151 0), some (.v (.int .i64 201)), some (.ptr 173 0), some (.v (.int .i64 41)), some (.v (.int .i64 50)), some (.v (.int .i64 0)), some (.v (.int .i64 201)), some (.v (.bool true)), some (.su 439 0 128 0 128), some (.v (.int .i64 0)), some (.v (.int .i64 0)), some (.v (.int .i64 200)), none, none, none, none, none, none, none, none, none, none, none, none, none, none, none, none, none, none, none, none, none, none, none, none, none, none, some (.tup ([.ptr 12 0, .ptr 4 0])), some (.agg ([.v (.int .i64 8), .v (.int .i64 1), .v (.int .i64 2), .v (.bool false), .v (.int .i64 8), .v (.int .i64 100)])), some (.tup ([.ptr 12 0, .ptr 4 0])), some (.ptr 12 0), some (.ptr 4 0), some (.ptr 12 0), some (.sl 17 0 1 1), some (.tup ([.agg ([.v (.string ⟨#[]⟩), .v (.int .i64 1), .v (.int .i64 1), .su 44 0 1 0 1, .v (.int .i64 58), .v (.int .i64 2)]), .v (.int .i64 0)])), some (.tup ([.agg ([.v (.string ⟨#[]⟩), .v (.int .i64 2), .v (.int .i64 2), .su 79 0 2 0 2, .v (.int .i64 60), .v (.int .i64 1)]), .v (.int .i64 0)])), some (.ptr 12 0), some (.sl 45 0 2 2), some (.tup ([.agg ([.v (.string ⟨#[]⟩), .v (.int .i64 2), .v (.int .i64 2), .su 79 0 2 0 2, .v (.int .i64 60), .v (.int .i64 1)]), .v (.int .i64 0)])), some (.agg ([.v (.string ⟨#[]⟩), .v (.int .i64 2), .v (.int .i64 2), .su 79 0 2 0 2, .v (.int .i64 60), .v (.int .i64 1)])), some (.v (.int .i64 0)), some (.tup ([.v (.int .i64 0), .v (.int .i64 200)])), some (.ptr 12 0), some (.tup ([.v (.int .i64 0), .v (.int .i64 200)])), some (.v (.int .i64 0)), some (.v (.int .i64 200)), some (.ptr 12 0), some (.v (.int .i64 1)), some (.tup ([.v (.int .i64 0), .v (.int .i64 201)])), some (.ptr 12 0), some (.tup ([.v (.int .i64 0), .v (.int .i64 201)])), some (.v (.int .i64 0)), some (.v (.int .i64 201)), some (.tup ([.v (.int .i64 0), .v (.int .i64 201)])), some (.ptr 12 0), some (.tup ([.v (.int .i64 0), .v (.int .i64 201)])), some (.v (.int .i64 0)), some (.v (.int .i64 201)), some (.tup ([.agg ([.v (.string ⟨#[]⟩), .v (.int .i64 0), .v (.int .i64 0), .v (.slice none 0 0), .v (.int .i64 0), .v (.int .i64 0)]), .v (.int .i64 201)])), some (.ptr 12 0), some (.tup ([.agg ([.v (.string ⟨#[]⟩), .v (.int .i64 0), .v (.int .i64 0), .v (.slice none 0 0), .v (.int .i64 0), .v (.int .i64 0)]), .v (.int .i64 201)])), some (.agg ([.v (.string ⟨#[]⟩), .v (.int .i64 0), .v (.int .i64 0), .v (.slice none 0 0), .v (.int .i64 0), .v (.int .i64 0)])), some (.v (.int .i64 201)), some (.tup ([.agg ([.v (.string ⟨#[]⟩), .v (.int .i64 0), .v (.int .i64 0), .v (.slice none 0 0), .v (.int .i64 0), .v (.int .i64 0)]), .v (.int .i64 201)])), some (.ptr 12 0), some (.sl 149 0 1 1), some (.tup ([.agg ([.v (.string ⟨#[]⟩), .v (.int .i64 0), .v (.int .i64 0), .v (.slice none 0 0), .v (.int .i64 0), .v (.int .i64 0)]), .v (.int .i64 201)])), some (.agg ([.v (.string ⟨#[]⟩), .v (.int .i64 0), .v (.int .i64 0), .v (.slice none 0 0), .v (.int .i64 0), .v (.int .i64 0)])), some (.v (.int .i64 201)), some (.tup ([.agg ([.v (.string ⟨#[]⟩), .v (.int .i64 0), .v (.int .i64 0), .v (.slice none 0 0), .v (.int .i64 0), .v (.int .i64 0)]), .v (.int .i64 41)])), some (.ptr 12 0), some (.sl 152 0 1 1), some (.tup ([.agg ([.v (.string ⟨#[]⟩), .v (.int .i64 0), .v (.int .i64 0), .v (.slice none 0 0), .v (.int .i64 0), .v (.int .i64 0)]), .v (.int .i64 41)])), some (.agg ([.v (.string ⟨#[]⟩), .v (.int .i64 0), .v (.int .i64 0), .v (.slice none 0 0), .v (.int .i64 0), .v (.int .i64 0)])), some (.v (.int .i64 41)), some (.ptr 12 0), some (.ptr 80 1), some (.v (.int .i64 2)), some (.sl 174 0 6 6), some (.v (.int .i64 50)), some (.ptr 12 0), some (.ptr 80 1), some (.v (.int .i64 2)), some (.sl 195 0 6 6), some (.v (.int .i64 0)), some (.ptr 12 0), some (.ptr 80 1), some (.v (.int .i64 2)), some (.v (.int .i64 201)), some (.v (.int .i64 0)), some (.v (.bool true)), some (.v (.bool true)), some (.ptr 80 4), some (.v (.int .i64 60)), some (.v (.bool true)), some (.v (.bool true)), some (.v (.bool true)), some (.v (.int .i64 200)), some (.v (.bool true)), some (.v (.bool true)), some (.v (.bool true)), some (.v (.int .i64 1)), some (.v (.bool true)), some (.v (.bool true)), some (.v (.bool true)), some (.v (.int .i64 201)), some (.v (.bool true)), some (.v (.bool true)), some (.v (.bool true)), some (.v (.int .i64 201)), some (.v (.bool true)), some (.v (.bool true)), some (.v (.bool true)), some (.v (.int .i64 201)), some (.v (.bool true)), some (.v (.bool true)), some (.v (.bool true)), some (.v (.int .i64 201)), some (.v (.bool true)), some (.v (.bool true)), some (.v (.bool true)), some (.v (.int .i64 41)), some (.v (.bool true)), some (.v (.bool true)), some (.v (.bool true)), some (.v (.int .i64 50)), some (.v (.bool true)), some (.v (.bool true)), some (.v (.bool true)), some (.v (.int .i64 0)), some (.v (.bool true)), some (.v (.bool true)), some (.v (.bool true)), some (.v (.int .i64 201)), some (.v (.bool true)), some (.v (.bool true)), some (.v (.bool true)), some (.ptr 12 0), some (.v (.int .i64 3)), some (.v (.bool true)), some (.v (.bool true)), some (.tup ([.su 439 0 128 0 128, .v (.int .i64 0)])), some (.ptr 4 0), some (.tup ([.su 439 0 128 0 128, .v (.int .i64 0)])), some (.su 439 0 128 0 128), some (.v (.int .i64 0)), some (.ptr 4 0), some (.su 439 0 128 0 128), some (.v (.int .i64 0)), some (.tup ([.v (.int .i64 0), .v (.int .i64 200)])), some (.ptr 12 0), some (.tup ([.v (.int .i64 0), .v (.int .i64 200)])), some (.v (.int .i64 0)), some (.v (.int .i64 200)), none, some (.ptr 12 0), none, none, none, none, none, none, none, none, none, none, none, none, none, none, none, none, none, none, none, none, none, none, none, none, none, none, none, none, none, none, none, none, none, none, none, none, none, none, none, none, none, none, none, none, none, none, none, none, none, none, none, none, none, none, none, none, none, none, none, none, none, none, none, none, none, none, none, none, none, none, none, none, none, none, none, none, none, none, none, none, none, none, none, none, none, none, none, none, none, none, none, none, none, none, none, none, none, none, none, none, none, none, none, none, none, none, none, none, none, none, none, none, none, none, none, none, none, none, none, none, none, none, none, none, none, none, none, none, none, none, none, none, none, none, none, none, none, none, none, none, none, none, none, none, none, none, none, none, none, none, none, none, none, none, none, none, none, none, none, none, none, none, none, none, none, none, none, none, none, none, none, none, none, none, none, none, none, none, none, none, none, none, none, none]), (plC (subC (bodyC Tryz.prog 3) [1, 1, 1, 1, 1, 1, 1, 1, 1, 1, 1, 1, 1, 1, 1, 1, 1, 1, 0]) 1), [.code (subC (bodyC Tryz.prog 3) [1, 1, 1, 1, 1, 1, 1, 1, 1, 1, 1, 1, 1, 1, 1, 1, 1, 1, 1])], [], false, none, 0⟩],
 ofL 748 ([] ++ [.dead,
 .dead,
 .mem 94 none (zN (.v (.int .u8 0)) 12800),
 .map [(.int .i64 60, .agg (uN .u8 128 79080062157896012368112015137830137845133233154059295355132316465698810570728560867861968261581878603287302131648830497615561625509972000634451124597877625052117318601965315747939948894771394984623786265962230648903491008341370262001318351796175408903887364500344460656633895595305382183956549165966134694993), 0), (.int .i64 58, .agg (uN .u8 128 79080062157896012368112015137830137845133233154059295355132316465698810570728560867861968261581878603287302131648830497615561625509972000634451124597877625052117318601965315747939948894771394984623786265962230648903491008341370262001318351796175408903887364500344460656633895595305382183956549165966134694993), 1)] 2,
 .mem 101 none ([.sl 2 0 100 100, .mp 3, .v (.int .i64 0), .v (.slice none 0 0), .v (.int .i64 0), .v (.int .i64 0), .v (.int .i64 2), .v (.bool false)])] ++ deadL 7 ++ [.mem 66 none ([.ptr 4 0, .v (.int .i64 8), .v (.int .i64 1), .v (.int .i64 2), .v (.bool false), .v (.int .i64 8), .v (.int .i64 100), .ptr 15 0, .su 75 0 2 0 2, .v (.int .i64 3), .ptr 13 0, .v (.int .i64 1), .fn (.func 54) ([]) ([])]),
 .mem 131 none ([.v (.int .i64 8), .ifc 114 (.agg ([.ptr 12 0])), .su 228 0 0 0 1]),
 .dead,
 .mem 160 none ([.v (.bool true), .v (.int .i64 58), .v (.int .i64 100), .su 71 0 1 0 1])] ++ deadL 5 ++ [.mem 3 (some 1) ([.v (.int .i64 14)])] ++ deadL 27 ++ [.mem 3 (some 1) ([.v (.int .i64 2), .v (.int .i64 3)])] ++ deadL 21 ++ [.mem 76 (some 2) ([.v (.int .i64 58), .v (.int .i64 3)]),
 .dead,
 .dead,
 .dead,
 .mem 31 (some 6) ([.v (.string ⟨#[]⟩), .v (.int .i64 1), .v (.int .i64 1), .su 21 0 1 0 1, .v (.int .i64 58), .v (.int .i64 2), .v (.string ⟨#[]⟩), .v (.int .i64 2), .v (.int .i64 2), .su 49 0 2 0 2, .v (.int .i64 60), .v (.int .i64 1)])] ++ deadL 152 ++ [.mem 125 (some 1) ([.v (.pointer none)])] ++ deadL 517 ++ [.mem 82 none ([.v (.int .i64 2), .v (.int .i64 0)])]), 747⟩
end Go.Proofs.YtknahinjccendaaGreatDoor.RStoreNames
namespace Go.Proofs.YtknahinjccendaaGreatDoor.RStoreNames
open Go Go.RowKit Ev
set_option maxRecDepth 1000000 in
theorem part3 : Ev.Reach Tryz.prog st3 st4 :=
 Ev.Reach.seg (Ev.tab_ok Ev.ctab) Ev.crcHook_ok Tryz.checked.mixed (HK := Ev.crcHook) (FT := tabOf Tryz.prog) (k := 1068) (bits := 370149157595803483760113594165444983305188659934209969315302857882035005733103009779662706572686786162969525026591079999487776766804412458287307566414161000493456451977232804070368272398077727564002635422399074929097310253084) (by kernel_rfl)
end Go.Proofs.YtknahinjccendaaGreatDoor.RStoreNames
/-
 StoreNames: a state of its run (5).
-/
namespace Go.Proofs.YtknahinjccendaaGreatDoor.RStoreNames
open Go Go.RowKit Ev
set_option maxRecDepth 100000
noncomputable def st5 : ASt := ⟨⟨7, 71, (ofO 72 [some (.ptr 12 0), some (.v (.int .i64 2)), some (.v (.int .i64 0)), none, none, none, some (.v (.int .i64 0)), some (.v (.int .i64 0)), some (.ptr 745 0), some (.v (.bool true)), some (.ptr 746 0), some (.v (.int .i64 0)), none, none, some (.ptr 12 0), some (.v (.bool false)), some (.tup ([.agg ([.v (.string ⟨#[]⟩), .v (.int .i64 2), .v (.int .i64 2), .su 744 0 2 0 2, .v (.int .i64 60), .v (.int .i64 1)]), .v (.bool true)])), some (.ptr 12 0), some (.v (.int .i64 2)), some (.tup ([.agg ([.v (.string ⟨#[]⟩), .v (.int .i64 2), .v (.int .i64 2), .su 744 0 2 0 2, .v (.int .i64 60), .v (.int .i64 1)]), .v (.bool true)])), some (.agg ([.v (.string ⟨#[]⟩), .v (.int .i64 2), .v (.int .i64 2), .su 744 0 2 0 2, .v (.int .i64 60), .v (.int .i64 1)])), some (.v (.bool true)), some (.v (.bool true)), some (.v (.bool false)), some (.v (.bool false)), some (.v (.int .i64 0)), some (.v (.bool false)), some (.v (.bool false)), some (.v (.bool false)), some (.v (.int .i64 0)), some (.ptr 745 3), some (.su 744 0 2 0 2), some (.v (.int .i64 6)), some (.v (.bool false)), some (.v (.bool false)), some (.v (.int .i64 2)), some (.v (.int .i64 0)), some (.ptr 12 0), some (.v (.int .i64 13)), some (.v (.int .i64 0)), some (.agg ([.v (.int .i64 2), .v (.int .i64 0)])), some (.ptr 12 0), some (.ptr 12 0), some (.ptr 12 10), some (.ptr 13 0), some (.agg ([.v (.int .i64 2), .v (.int .i64 0)])), some (.v (.int .i64 0)), none, none, none, none, none, none, none, none, none, none, none, none, none, none, none, none, none, none, none, none, none, none, none, none]), .no, [.code (subC (bodyC Tryz.prog 7) [1, 1, 1, 1, 1, 0, 1]), .code (subC (bodyC Tryz.prog 7) [1, 1, 1, 1, 1, 1])], [], false, none, 737⟩, [⟨13, 44, (ofO 45 [some (.ptr 12 0), some (.v (.int .i64 2)), none, none, some (.v (.slice none 0 0)), some (.v (.int .i64 0)), some (.ptr 736 0), some (.v (.bool true)), some (.v (.slice none 0 0)), some (.v (.int .i64 0)), none, none, some (.ptr 12 0), some (.v (.bool false)), some (.tup ([.agg ([.v (.string ⟨#[]⟩), .v (.int .i64 2), .v (.int .i64 2), .su 735 0 2 0 2, .v (.int .i64 60), .v (.int .i64 1)]), .v (.bool true)])), some (.ptr 12 0), some (.v (.int .i64 2)), some (.tup ([.agg ([.v (.string ⟨#[]⟩), .v (.int .i64 2), .v (.int .i64 2), .su 735 0 2 0 2, .v (.int .i64 60), .v (.int .i64 1)]), .v (.bool true)])), some (.agg ([.v (.string ⟨#[]⟩), .v (.int .i64 2), .v (.int .i64 2), .su 735 0 2 0 2, .v (.int .i64 60), .v (.int .i64 1)])), some (.v (.bool true)), some (.v (.bool true)), some (.v (.bool false)), some (.ptr 736 3), some (.su 735 0 2 0 2), some (.v (.int .i64 6)), some (.v (.int .i64 0)), some (.v (.bool true)), some (.v (.int .i64 0)), none, some (.ptr 12 0), some (.v (.int .i64 2)), some (.v (.int .i64 0)), none, none, none, none, none, none, none, none, none, none, none, none]), (plC (subC (bodyC Tryz.prog 13) [1, 1, 1, 1, 1, 0, 1, 0, 0, 1, 1, 0, 0, 1, 0]) 3), [.code (subC (bodyC Tryz.prog 13) [1, 1, 1, 1, 1, 0, 1, 0, 0, 1, 1, 0, 0, 1, 1]), .inBlock 1, .code (subC (bodyC Tryz.prog 13) [1, 1, 1, 1, 1, 0, 1, 0, 0, 1, 1, 1]), .inLoop (subC (bodyC Tryz.prog 13) [1, 1, 1, 1, 1, 0, 1, 0, 0]), .inBlock 0, .code (subC (bodyC Tryz.prog 13) [1, 1, 1, 1, 1, 1])], [], false, none, 728⟩,
 ⟨3, 365, (ofO 366 [some (.v (.bool false)), some (.ptr 12 0), some (.ptr 4 0), some (.ptr 80 0), some (.v (.int .i64 0)), some (.v (.int .i64 0)), some (.v (.int .i64 200)), some (.v (.int .i64 1)), some (.v (.int .i64 0)), some (.v (.int .i64 201)), some (.v (.int .i64 0)), some (.v (.int .i64 201)), some (.ptr 148 0), some (.v (.int .i64 201)), some (.ptr 151 0), some (.v (.int .i64 201)), some (.ptr 173 0), some (.v (.int .i64 41)), some (.v (.int .i64 50)), some (.v (.int .i64 0)), some (.v (.int .i64 201)), some (.v (.bool true)), some (.su 439 0 128 0 128), some (.v (.int .i64 0)), some (.v (.int .i64 0)), some (.v (.int .i64 200)), none, none, none, none, none, none, none, none, none, none, none, none, none, none, none, none, none, none, none, none, none, none, none, none, none, none, some (.tup ([.ptr 12 0, .ptr 4 0])), some (.agg ([.v (.int .i64 8), .v (.int .i64 1), .v (.int .i64 2), .v (.bool false), .v (.int .i64 8), .v (.int .i64 100)])), some (.tup ([.ptr 12 0, .ptr 4 0])), some (.ptr 12 0), some (.ptr 4 0), some (.ptr 12 0), some (.sl 17 0 1 1), some (.tup ([.agg ([.v (.string ⟨#[]⟩), .v (.int .i64 1), .v (.int .i64 1), .su 44 0 1 0 1, .v (.int .i64 58), .v (.int .i64 2)]), .v (.int .i64 0)])), some (.tup ([.agg ([.v (.string ⟨#[]⟩), .v (.int .i64 2), .v (.int .i64 2), .su 79 0 2 0 2, .v (.int .i64 60), .v (.int .i64 1)]), .v (.int .i64 0)])), some (.ptr 12 0), some (.sl 45 0 2 2), some (.tup ([.agg ([.v (.string ⟨#[]⟩), .v (.int .i64 2), .v (.int .i64 2), .su 79 0 2 0 2, .v (.int .i64 60), .v (.int .i64 1)]), .v (.int .i64 0)])), some (.agg ([.v (.string ⟨#[]⟩), .v (.int .i64 2), .v (.int .i64 2), .su 79 0 2 0 2, .v (.int .i64 60), .v (.int .i64 1)])), some (.v (.int .i64 0)), some (.tup ([.v (.int .i64 0), .v (.int .i64 200)])), some (.ptr 12 0), some (.tup ([.v (.int .i64 0), .v (.int .i64 200)])), some (.v (.int .i64 0)), some (.v (.int .i64 200)), some (.ptr 12 0), some (.v (.int .i64 1)), some (.tup ([.v (.int .i64 0), .v (.int .i64 201)])), some (.ptr 12 0), some (.tup ([.v (.int .i64 0), .v (.int .i64 201)])), some (.v (.int .i64 0)), some (.v (.int .i64 201)), some (.tup ([.v (.int .i64 0), .v (.int .i64 201)])), some (.ptr 12 0), some (.tup ([.v (.int .i64 0), .v (.int .i64 201)])), some (.v (.int .i64 0)), some (.v (.int .i64 201)), some (.tup ([.agg ([.v (.string ⟨#[]⟩), .v (.int .i64 0), .v (.int .i64 0), .v (.slice none 0 0), .v (.int .i64 0), .v (.int .i64 0)]), .v (.int .i64 201)])), some (.ptr 12 0), some (.tup ([.agg ([.v (.string ⟨#[]⟩), .v (.int .i64 0), .v (.int .i64 0), .v (.slice none 0 0), .v (.int .i64 0), .v (.int .i64 0)]), .v (.int .i64 201)])), some (.agg ([.v (.string ⟨#[]⟩), .v (.int .i64 0), .v (.int .i64 0), .v (.slice none 0 0), .v (.int .i64 0), .v (.int .i64 0)])), some (.v (.int .i64 201)), some (.tup ([.agg ([.v (.string ⟨#[]⟩), .v (.int .i64 0), .v (.int .i64 0), .v (.slice none 0 0), .v (.int .i64 0), .v (.int .i64 0)]), .v (.int .i64 201)])), some (.ptr 12 0), some (.sl 149 0 1 1), some (.tup ([.agg ([.v (.string ⟨#[]⟩), .v (.int .i64 0), .v (.int .i64 0), .v (.slice none 0 0), .v (.int .i64 0), .v (.int .i64 0)]), .v (.int .i64 201)])), some (.agg ([.v (.string ⟨#[]⟩), .v (.int .i64 0), .v (.int .i64 0), .v (.slice none 0 0), .v (.int .i64 0), .v (.int .i64 0)])), some (.v (.int .i64 201)), some (.tup ([.agg ([.v (.string ⟨#[]⟩), .v (.int .i64 0), .v (.int .i64 0), .v (.slice none 0 0), .v (.int .i64 0), .v (.int .i64 0)]), .v (.int .i64 41)])), some (.ptr 12 0), some (.sl 152 0 1 1), some (.tup ([.agg ([.v (.string ⟨#[]⟩), .v (.int .i64 0), .v (.int .i64 0), .v (.slice none 0 0), .v (.int .i64 0), .v (.int .i64 0)]), .v (.int .i64 41)])), some (.agg ([.v (.string ⟨#[]⟩), .v (.int .i64 0), .v (.int .i64 0), .v (.slice none 0 0), .v (.int .i64 0), .v (.int .i64 0)])), some (.v (.int .i64 41)), some (.ptr 12 0), some (.ptr 80 1), some (.v (.int .i64 2)), some (.sl 174 0 6 6), some (.v (.int .i64 50)), some (.ptr 12 0), some (.ptr 80 1), some (.v (.int .i64 2)), some (.sl 195 0 6 6), some (.v (.int .i64 0)), some (.ptr 12 0), some (.ptr 80 1), some (.v (.int .i64 2)), some (.v (.int .i64 201)), some (.v (.int .i64 0)), some (.v (.bool true)), some (.v (.bool true)), some (.ptr 80 4), some (.v (.int .i64 60)), some (.v (.bool true)), some (.v (.bool true)), some (.v (.bool true)), some (.v (.int .i64 200)), some (.v (.bool true)), some (.v (.bool true)), some (.v (.bool true)), some (.v (.int .i64 1)), some (.v (.bool true)), some (.v (.bool true)), some (.v (.bool true)), some (.v (.int .i64 201)), some (.v (.bool true)), some (.v (.bool true)), some (.v (.bool true)), some (.v (.int .i64 201)), some (.v (.bool true)), some (.v (.bool true)), some (.v (.bool true)), some (.v (.int .i64 201)), some (.v (.bool true)), some (.v (.bool true)), some (.v (.bool true)), some (.v (.int .i64 201)), some (.v (.bool true)), some (.v (.bool true)), some (.v (.bool true)), some (.v (.int .i64 41)), some (.v (.bool true)), some (.v (.bool true)), some (.v (.bool true)), some (.v (.int .i64 50)), some (.v (.bool true)), some (.v (.bool true)), some (.v (.bool true)), some (.v (.int .i64 0)), some (.v (.bool true)), some (.v (.bool true)), some (.v (.bool true)), some (.v (.int .i64 201)), some (.v (.bool true)), some (.v (.bool true)), some (.v (.bool true)), some (.ptr 12 0), some (.v (.int .i64 3)), some (.v (.bool true)), some (.v (.bool true)), some (.tup ([.su 439 0 128 0 128, .v (.int .i64 0)])), some (.ptr 4 0), some (.tup ([.su 439 0 128 0 128, .v (.int .i64 0)])), some (.su 439 0 128 0 128), some (.v (.int .i64 0)), some (.ptr 4 0), some (.su 439 0 128 0 128), some (.v (.int .i64 0)), some (.tup ([.v (.int .i64 0), .v (.int .i64 200)])), some (.ptr 12 0), some (.tup ([.v (.int .i64 0), .v (.int .i64 200)])), some (.v (.int .i64 0)), some (.v (.int .i64 200)), none, some (.ptr 12 0), none, none, none, none, none, none, none, none, none, none, none, none, none, none, none, none, none, none, none, none, none, none, none, none, none, none, none, none, none, none, none, none, none, none, none, none, none, none, none, none, none, none, none, none, none, none, none, none, none, none, none, none, none, none, none, none, none, none, none, none, none, none, none, none, none, none, none, none, none, none, none, none, none, none, none, none, none, none, none, none, none, none, none, none, none, none, none, none, none, none, none, none, none, none, none, none, none, none, none, none, none, none, none, none, none, none, none, none, none, none, none, none, none, none, none, none, none, none, none, none, none, none, none, none, none, none, none, none, none, none, none, none, none, none, none, none, none, none, none, none, none, none, none, none, none, none, none, none, none, none, none, none, none, none, none, none, none, none, none, none, none, none, none, none, none, none, none, none, none, none, none, none, none, none, none, none, none, none, none, none, none, none, none, none]), (plC (subC (bodyC Tryz.prog 3) [1, 1, 1, 1, 1, 1, 1, 1, 1, 1, 1, 1, 1, 1, 1, 1, 1, 1, 0]) 1), [.code (subC (bodyC Tryz.prog 3) [1, 1, 1, 1, 1, 1, 1, 1, 1, 1, 1, 1, 1, 1, 1, 1, 1, 1, 1])], [], false, none, 0⟩],
 ofL 1034 ([] ++ [.dead,
 .dead,
 .mem 94 none (zN (.v (.int .u8 0)) 12800),
 .map [(.int .i64 60, .agg (uN .u8 128 79080062157896012368112015137830137845133233154059295355132316465698810570728560867861968261581878603287302131648830497615561625509972000634451124597877625052117318601965315747939948894771394984623786265962230648903491008341370262001318351796175408903887364500344460656633895595305382183956549165966134694993), 0), (.int .i64 58, .agg (uN .u8 128 79080062157896012368112015137830137845133233154059295355132316465698810570728560867861968261581878603287302131648830497615561625509972000634451124597877625052117318601965315747939948894771394984623786265962230648903491008341370262001318351796175408903887364500344460656633895595305382183956549165966134694993), 1)] 2,
 .mem 101 none ([.sl 2 0 100 100, .mp 3, .v (.int .i64 0), .v (.slice none 0 0), .v (.int .i64 0), .v (.int .i64 0), .v (.int .i64 2), .v (.bool false)])] ++ deadL 7 ++ [.mem 66 none ([.ptr 4 0, .v (.int .i64 8), .v (.int .i64 1), .v (.int .i64 2), .v (.bool false), .v (.int .i64 8), .v (.int .i64 100), .ptr 15 0, .su 75 0 2 0 2, .v (.int .i64 3), .ptr 13 0, .v (.int .i64 1), .fn (.func 54) ([]) ([])]),
 .mem 131 none ([.v (.int .i64 8), .ifc 114 (.agg ([.ptr 12 0])), .su 228 0 1 0 1]),
 .dead,
 .mem 160 none ([.v (.bool true), .v (.int .i64 58), .v (.int .i64 100), .su 71 0 1 0 1])] ++ deadL 5 ++ [.mem 3 (some 1) ([.v (.int .i64 14)])] ++ deadL 27 ++ [.mem 3 (some 1) ([.v (.int .i64 2), .v (.int .i64 3)])] ++ deadL 21 ++ [.mem 76 (some 2) ([.v (.int .i64 58), .v (.int .i64 3)]),
 .dead,
 .dead,
 .dead,
 .mem 31 (some 6) ([.v (.string ⟨#[]⟩), .v (.int .i64 1), .v (.int .i64 1), .su 21 0 1 0 1, .v (.int .i64 58), .v (.int .i64 2), .v (.string ⟨#[]⟩), .v (.int .i64 2), .v (.int .i64 2), .su 49 0 2 0 2, .v (.int .i64 60), .v (.int .i64 1)])] ++ deadL 152 ++ [.mem 125 (some 1) ([.ptr 1030 0])] ++ deadL 517 ++ [.mem 82 none ([.v (.int .i64 2), .v (.int .i64 0)])] ++ deadL 282 ++ [.mem 2 (some 1) (uN .i64 6 6618611909121),
 .mem 124 none ([.v (.int .i64 2), .v (.int .i64 0), .v (.int .i64 2), .su 1029 0 6 0 6, .v (.int .i64 1), .v (.bool false), .v (.int .i64 0)]),
 .dead,
 .dead]), 1033⟩
end Go.Proofs.YtknahinjccendaaGreatDoor.RStoreNames
namespace Go.Proofs.YtknahinjccendaaGreatDoor.RStoreNames
open Go Go.RowKit Ev
set_option maxRecDepth 1000000 in
theorem part4 : Ev.Reach Tryz.prog st4 st5 :=
 Ev.Reach.seg (Ev.tab_ok Ev.ctab) Ev.crcHook_ok Tryz.checked.mixed (HK := Ev.crcHook) (FT := tabOf Tryz.prog) (k := 17093) (bits := 17257854094678232714201329831574637442732578997846143098249287791142336877328092460740383972108719261511291046061819207318549006466118205728628656199271550945998820778566749293097699867882594560494087043399648330575266877963163744187909819612412871219658881829790652903433013337658055400686593282573022827425820) (by kernel_rfl)
end Go.Proofs.YtknahinjccendaaGreatDoor.RStoreNames
/-
 StoreNames: a state of its run (6).
-/
namespace Go.Proofs.YtknahinjccendaaGreatDoor.RStoreNames
open Go Go.RowKit Ev
set_option maxRecDepth 100000
noncomputable def st6 : ASt := ⟨⟨147, 26, (ofO 27 [some (.su 1217 0 128 0 128), some (.su 1204 0 128 0 128), none, none, some (.v (.bool false)), some (.v (.int .i64 40)), some (.su 1217 0 128 0 128), some (.v (.int .i64 128)), some (.su 1204 0 128 0 128), some (.v (.int .i64 128)), some (.v (.bool false)), some (.su 1217 0 128 0 128), some (.v (.int .i64 128)), some (.v (.int .i64 40)), some (.v (.bool true)), some (.v (.int .i64 40)), some (.su 1217 0 128 0 128), some (.v (.int .i64 39)), some (.ptr 1217 39), some (.v (.int .u8 0)), some (.su 1204 0 128 0 128), some (.v (.int .i64 39)), some (.ptr 1204 39), some (.v (.int .u8 0)), some (.v (.bool false)), some (.v (.int .i64 40))]), .no, [.code (subC (bodyC Tryz.prog 147) [1, 1, 0, 1, 0, 0, 1, 1, 0, 0, 1, 0]), .code (subC (bodyC Tryz.prog 147) [1, 1, 0, 1, 0, 0, 1, 1, 0, 0, 1, 1]), .inBlock 1, .code (subC (bodyC Tryz.prog 147) [1, 1, 0, 1, 0, 0, 1, 1, 1]), .inLoop (subC (bodyC Tryz.prog 147) [1, 1, 0, 1, 0, 0]), .inBlock 0, .code (subC (bodyC Tryz.prog 147) [1, 1, 1])], [], false, none, 1218⟩, [⟨127, 23, (ofO 24 [some (.su 1204 0 128 0 128), none, some (.v (.slice none 0 0)), some (.v (.int .i64 0)), some (.v (.int .i64 124)), some (.su 1204 0 128 0 128), some (.v (.int .i64 128)), some (.v (.int .i64 124)), some (.v (.int .i64 124)), some (.v (.bool false)), some (.v (.bool false)), some (.su 1204 0 128 0 128), some (.v (.int .i64 124)), some (.su 1204 0 124 0 128), some (.su 1217 0 128 0 128), some (.su 1204 0 128 0 128), none, none, none, none, none, none, none]), (plC (subC (bodyC Tryz.prog 127) [1, 1, 0, 0]) 8), [.code (subC (bodyC Tryz.prog 127) [1, 1, 0, 1]), .code (subC (bodyC Tryz.prog 127) [1, 1, 1])], [], false, none, 1206⟩,
 ⟨103, 24, (ofO 25 [some (.su 1204 0 128 0 128), none, some (.v (.bool false)), none, none, none, some (.su 1204 0 128 0 128), none, none, none, none, none, none, none, none, none, none, none, none, none, none, none, none, none]), (plC (subC (bodyC Tryz.prog 103) [1, 0]) 1), [.code (subC (bodyC Tryz.prog 103) [1, 1])], [], false, none, 1206⟩,
 ⟨80, 85, (ofO 86 [some (.su 1204 0 128 0 128), none, some (.ptr 1205 0), some (.v (.int .i64 0)), none, none, none, none, none, none, none, none, none, none, none, none, none, none, some (.su 1204 0 128 0 128), none, none, none, none, none, none, none, none, none, none, none, none, none, none, none, none, none, none, none, none, none, none, none, none, none, none, none, none, none, none, none, none, none, none, none, none, none, none, none, none, none, none, none, none, none, none, none, none, none, none, none, none, none, none, none, none, none, none, none, none, none, none, none, none, none, none]), (plC (subC (bodyC Tryz.prog 80) [1, 0, 0, 0]) 1), [.code (subC (bodyC Tryz.prog 80) [1, 0, 0, 1]), .code (subC (bodyC Tryz.prog 80) [1, 0, 1]), .inScope (subC (bodyC Tryz.prog 80) [1, 0])], [], false, none, 1205⟩,
 ⟨46, 97, (ofO 98 [some (.ptr 12 0), some (.v (.int .i64 2)), some (.v (.int .i64 0)), none, none, none, some (.ptr 1182 0), some (.v (.int .i64 0)), some (.ptr 1200 0), some (.v (.int .i64 6)), some (.su 1204 0 128 0 128), some (.v (.int .i64 0)), some (.su 1203 0 128 0 128), some (.v (.int .i64 0)), none, none, some (.tup ([.agg ([.v (.string ⟨#[]⟩), .v (.int .i64 2), .v (.int .i64 2), .su 1192 0 2 0 2, .v (.int .i64 60), .v (.int .i64 1)]), .v (.int .i64 6)])), some (.ptr 12 0), some (.v (.int .i64 2)), some (.v (.int .i64 0)), some (.tup ([.agg ([.v (.string ⟨#[]⟩), .v (.int .i64 2), .v (.int .i64 2), .su 1192 0 2 0 2, .v (.int .i64 60), .v (.int .i64 1)]), .v (.int .i64 6)])), some (.agg ([.v (.string ⟨#[]⟩), .v (.int .i64 2), .v (.int .i64 2), .su 1192 0 2 0 2, .v (.int .i64 60), .v (.int .i64 1)])), some (.v (.int .i64 6)), some (.v (.int .i64 6)), some (.v (.bool false)), none, some (.ptr 12 0), some (.ptr 12 0), some (.ptr 12 1), some (.ptr 12 2), some (.v (.int .i64 1)), some (.v (.int .i64 1)), some (.v (.bool false)), some (.v (.int .i64 0)), some (.tup ([.su 1203 0 128 0 128, .v (.int .i64 0)])), some (.ptr 12 0), some (.ptr 12 0), some (.ptr 12 0), some (.ptr 4 0), some (.ptr 1200 4), some (.v (.int .i64 60)), some (.v (.int .i64 0)), some (.ptr 12 0), some (.ptr 12 0), some (.ptr 12 1), some (.ptr 12 2), some (.v (.int .i64 1)), some (.v (.int .i64 0)), some (.v (.int .i64 60)), some (.v (.int .i64 0)), some (.v (.int .i64 60)), some (.tup ([.su 1203 0 128 0 128, .v (.int .i64 0)])), some (.su 1203 0 128 0 128), some (.v (.int .i64 0)), some (.v (.int .i64 0)), some (.v (.bool false)), none, none, some (.v (.slice none 0 0)), some (.su 1203 0 128 0 128), some (.su 1204 0 128 0 128), some (.v (.int .i64 1)), none, some (.su 1204 0 128 0 128), none, none, none, none, none, none, none, none, none, none, none, none, none, none, none, none, none, none, none, none, none, none, none, none, none, none, none, none, none, none, none, none, none]), (plC (subC (bodyC Tryz.prog 46) [1, 1, 1, 1, 1, 0]) 1), [.code (subC (bodyC Tryz.prog 46) [1, 1, 1, 1, 1, 1])], [], false, none, 1182⟩,
 ⟨15, 20, (ofO 21 [some (.ptr 12 0), some (.v (.int .i64 2)), some (.v (.int .i64 0)), none, none, none, some (.v (.bool false)), none, none, some (.ptr 12 0), some (.v (.bool false)), none, some (.ptr 12 0), some (.v (.int .i64 2)), some (.v (.int .i64 0)), none, none, none, none, none]), (plC (subC (bodyC Tryz.prog 15) [1, 1, 0]) 3), [.code (subC (bodyC Tryz.prog 15) [1, 1, 1])], [], false, none, 1182⟩,
 ⟨3, 365, (ofO 366 [some (.v (.bool false)), some (.ptr 12 0), some (.ptr 4 0), some (.ptr 80 0), some (.v (.int .i64 0)), some (.v (.int .i64 0)), some (.v (.int .i64 200)), some (.v (.int .i64 1)), some (.v (.int .i64 0)), some (.v (.int .i64 201)), some (.v (.int .i64 0)), some (.v (.int .i64 201)), some (.ptr 148 0), some (.v (.int .i64 201)), some (.ptr 151 0), some (.v (.int .i64 201)), some (.ptr 173 0), some (.v (.int .i64 41)), some (.v (.int .i64 50)), some (.v (.int .i64 0)), some (.v (.int .i64 201)), some (.v (.bool true)), some (.su 439 0 128 0 128), some (.v (.int .i64 0)), some (.v (.int .i64 0)), some (.v (.int .i64 200)), some (.su 1180 0 6 0 6), some (.v (.int .i64 0)), none, none, none, none, none, none, none, none, none, none, none, none, none, none, none, none, none, none, none, none, none, none, none, none, some (.tup ([.ptr 12 0, .ptr 4 0])), some (.agg ([.v (.int .i64 8), .v (.int .i64 1), .v (.int .i64 2), .v (.bool false), .v (.int .i64 8), .v (.int .i64 100)])), some (.tup ([.ptr 12 0, .ptr 4 0])), some (.ptr 12 0), some (.ptr 4 0), some (.ptr 12 0), some (.sl 17 0 1 1), some (.tup ([.agg ([.v (.string ⟨#[]⟩), .v (.int .i64 1), .v (.int .i64 1), .su 44 0 1 0 1, .v (.int .i64 58), .v (.int .i64 2)]), .v (.int .i64 0)])), some (.tup ([.agg ([.v (.string ⟨#[]⟩), .v (.int .i64 2), .v (.int .i64 2), .su 79 0 2 0 2, .v (.int .i64 60), .v (.int .i64 1)]), .v (.int .i64 0)])), some (.ptr 12 0), some (.sl 45 0 2 2), some (.tup ([.agg ([.v (.string ⟨#[]⟩), .v (.int .i64 2), .v (.int .i64 2), .su 79 0 2 0 2, .v (.int .i64 60), .v (.int .i64 1)]), .v (.int .i64 0)])), some (.agg ([.v (.string ⟨#[]⟩), .v (.int .i64 2), .v (.int .i64 2), .su 79 0 2 0 2, .v (.int .i64 60), .v (.int .i64 1)])), some (.v (.int .i64 0)), some (.tup ([.v (.int .i64 0), .v (.int .i64 200)])), some (.ptr 12 0), some (.tup ([.v (.int .i64 0), .v (.int .i64 200)])), some (.v (.int .i64 0)), some (.v (.int .i64 200)), some (.ptr 12 0), some (.v (.int .i64 1)), some (.tup ([.v (.int .i64 0), .v (.int .i64 201)])), some (.ptr 12 0), some (.tup ([.v (.int .i64 0), .v (.int .i64 201)])), some (.v (.int .i64 0)), some (.v (.int .i64 201)), some (.tup ([.v (.int .i64 0), .v (.int .i64 201)])), some (.ptr 12 0), some (.tup ([.v (.int .i64 0), .v (.int .i64 201)])), some (.v (.int .i64 0)), some (.v (.int .i64 201)), some (.tup ([.agg ([.v (.string ⟨#[]⟩), .v (.int .i64 0), .v (.int .i64 0), .v (.slice none 0 0), .v (.int .i64 0), .v (.int .i64 0)]), .v (.int .i64 201)])), some (.ptr 12 0), some (.tup ([.agg ([.v (.string ⟨#[]⟩), .v (.int .i64 0), .v (.int .i64 0), .v (.slice none 0 0), .v (.int .i64 0), .v (.int .i64 0)]), .v (.int .i64 201)])), some (.agg ([.v (.string ⟨#[]⟩), .v (.int .i64 0), .v (.int .i64 0), .v (.slice none 0 0), .v (.int .i64 0), .v (.int .i64 0)])), some (.v (.int .i64 201)), some (.tup ([.agg ([.v (.string ⟨#[]⟩), .v (.int .i64 0), .v (.int .i64 0), .v (.slice none 0 0), .v (.int .i64 0), .v (.int .i64 0)]), .v (.int .i64 201)])), some (.ptr 12 0), some (.sl 149 0 1 1), some (.tup ([.agg ([.v (.string ⟨#[]⟩), .v (.int .i64 0), .v (.int .i64 0), .v (.slice none 0 0), .v (.int .i64 0), .v (.int .i64 0)]), .v (.int .i64 201)])), some (.agg ([.v (.string ⟨#[]⟩), .v (.int .i64 0), .v (.int .i64 0), .v (.slice none 0 0), .v (.int .i64 0), .v (.int .i64 0)])), some (.v (.int .i64 201)), some (.tup ([.agg ([.v (.string ⟨#[]⟩), .v (.int .i64 0), .v (.int .i64 0), .v (.slice none 0 0), .v (.int .i64 0), .v (.int .i64 0)]), .v (.int .i64 41)])), some (.ptr 12 0), some (.sl 152 0 1 1), some (.tup ([.agg ([.v (.string ⟨#[]⟩), .v (.int .i64 0), .v (.int .i64 0), .v (.slice none 0 0), .v (.int .i64 0), .v (.int .i64 0)]), .v (.int .i64 41)])), some (.agg ([.v (.string ⟨#[]⟩), .v (.int .i64 0), .v (.int .i64 0), .v (.slice none 0 0), .v (.int .i64 0), .v (.int .i64 0)])), some (.v (.int .i64 41)), some (.ptr 12 0), some (.ptr 80 1), some (.v (.int .i64 2)), some (.sl 174 0 6 6), some (.v (.int .i64 50)), some (.ptr 12 0), some (.ptr 80 1), some (.v (.int .i64 2)), some (.sl 195 0 6 6), some (.v (.int .i64 0)), some (.ptr 12 0), some (.ptr 80 1), some (.v (.int .i64 2)), some (.v (.int .i64 201)), some (.v (.int .i64 0)), some (.v (.bool true)), some (.v (.bool true)), some (.ptr 80 4), some (.v (.int .i64 60)), some (.v (.bool true)), some (.v (.bool true)), some (.v (.bool true)), some (.v (.int .i64 200)), some (.v (.bool true)), some (.v (.bool true)), some (.v (.bool true)), some (.v (.int .i64 1)), some (.v (.bool true)), some (.v (.bool true)), some (.v (.bool true)), some (.v (.int .i64 201)), some (.v (.bool true)), some (.v (.bool true)), some (.v (.bool true)), some (.v (.int .i64 201)), some (.v (.bool true)), some (.v (.bool true)), some (.v (.bool true)), some (.v (.int .i64 201)), some (.v (.bool true)), some (.v (.bool true)), some (.v (.bool true)), some (.v (.int .i64 201)), some (.v (.bool true)), some (.v (.bool true)), some (.v (.bool true)), some (.v (.int .i64 41)), some (.v (.bool true)), some (.v (.bool true)), some (.v (.bool true)), some (.v (.int .i64 50)), some (.v (.bool true)), some (.v (.bool true)), some (.v (.bool true)), some (.v (.int .i64 0)), some (.v (.bool true)), some (.v (.bool true)), some (.v (.bool true)), some (.v (.int .i64 201)), some (.v (.bool true)), some (.v (.bool true)), some (.v (.bool true)), some (.ptr 12 0), some (.v (.int .i64 3)), some (.v (.bool true)), some (.v (.bool true)), some (.tup ([.su 439 0 128 0 128, .v (.int .i64 0)])), some (.ptr 4 0), some (.tup ([.su 439 0 128 0 128, .v (.int .i64 0)])), some (.su 439 0 128 0 128), some (.v (.int .i64 0)), some (.ptr 4 0), some (.su 439 0 128 0 128), some (.v (.int .i64 0)), some (.tup ([.v (.int .i64 0), .v (.int .i64 200)])), some (.ptr 12 0), some (.tup ([.v (.int .i64 0), .v (.int .i64 200)])), some (.v (.int .i64 0)), some (.v (.int .i64 200)), some (.tup ([.su 1180 0 6 0 6, .v (.int .i64 0)])), some (.ptr 12 0), some (.tup ([.su 1180 0 6 0 6, .v (.int .i64 0)])), some (.su 1180 0 6 0 6), some (.v (.int .i64 0)), some (.v (.int .i64 200)), some (.v (.bool true)), some (.v (.bool true)), some (.v (.int .i64 0)), some (.v (.bool true)), some (.v (.bool true)), some (.v (.bool true)), some (.su 1180 0 6 0 6), some (.sl 1181 0 6 6), some (.v (.bool true)), some (.v (.bool true)), some (.v (.bool true)), some (.ptr 12 0), none, none, none, none, none, none, none, none, none, none, none, none, none, none, none, none, none, none, none, none, none, none, none, none, none, none, none, none, none, none, none, none, none, none, none, none, none, none, none, none, none, none, none, none, none, none, none, none, none, none, none, none, none, none, none, none, none, none, none, none, none, none, none, none, none, none, none, none, none, none, none, none, none, none, none, none, none, none, none, none, none, none, none, none, none, none, none, none, none, none, none, none, none, none, none, none, none, none, none, none, none, none, none, none, none, none, none, none, none, none, none, none, none, none, none, none, none, none, none, none, none, none, none, none, none, none, none, none, none, none, none, none, none, none, none, none, none, none, none, none, none, none, none, none, none, none, none, none, none, none, none, none, none, none, none, none, none, none, none, none, none, none, none, none, none, none, none, none]), (plC (subC (bodyC Tryz.prog 3) [1, 1, 1, 1, 1, 1, 1, 1, 1, 1, 1, 1, 1, 1, 1, 1, 1, 1, 1, 0]) 13), [.code (subC (bodyC Tryz.prog 3) [1, 1, 1, 1, 1, 1, 1, 1, 1, 1, 1, 1, 1, 1, 1, 1, 1, 1, 1, 1])], [], false, none, 0⟩],
 ofL 1219 ([] ++ [.dead,
 .dead,
 .mem 94 none (zN (.v (.int .u8 0)) 12800),
 .map [(.int .i64 60, .agg (uN .u8 128 79080062157896012368112015137830137845133233154059295355132316465698810570728560867861968261581878603287302131648830497615561625509972000634451124597877625052117318601965315747939948894771394984623786265962230648903491008341370262001318351796175408903887364500344460656633895595305382183956549165966134694993), 0), (.int .i64 58, .agg (uN .u8 128 79080062157896012368112015137830137845133233154059295355132316465698810570728560867861968261581878603287302131648830497615561625509972000634451124597877625052117318601965315747939948894771394984623786265962230648903491008341370262001318351796175408903887364500344460656633895595305382183956549165966134694993), 1)] 2,
 .mem 101 none ([.sl 2 0 100 100, .mp 3, .v (.int .i64 0), .v (.slice none 0 0), .v (.int .i64 0), .v (.int .i64 0), .v (.int .i64 2), .v (.bool false)])] ++ deadL 7 ++ [.mem 66 none ([.ptr 4 0, .v (.int .i64 8), .v (.int .i64 1), .v (.int .i64 2), .v (.bool false), .v (.int .i64 8), .v (.int .i64 100), .ptr 15 0, .su 75 0 2 0 2, .v (.int .i64 3), .ptr 13 0, .v (.int .i64 1), .fn (.func 54) ([]) ([])]),
 .mem 131 none ([.v (.int .i64 8), .ifc 114 (.agg ([.ptr 12 0])), .su 228 0 1 0 1]),
 .dead,
 .mem 160 none ([.v (.bool true), .v (.int .i64 58), .v (.int .i64 100), .su 71 0 1 0 1])] ++ deadL 5 ++ [.mem 3 (some 1) ([.v (.int .i64 14)])] ++ deadL 27 ++ [.mem 3 (some 1) ([.v (.int .i64 2), .v (.int .i64 3)])] ++ deadL 21 ++ [.mem 76 (some 2) ([.v (.int .i64 58), .v (.int .i64 3)]),
 .dead,
 .dead,
 .dead,
 .mem 31 (some 6) ([.v (.string ⟨#[]⟩), .v (.int .i64 1), .v (.int .i64 1), .su 21 0 1 0 1, .v (.int .i64 58), .v (.int .i64 2), .v (.string ⟨#[]⟩), .v (.int .i64 2), .v (.int .i64 2), .su 49 0 2 0 2, .v (.int .i64 60), .v (.int .i64 1)])] ++ deadL 152 ++ [.mem 125 (some 1) ([.ptr 1030 0])] ++ deadL 800 ++ [.mem 2 (some 1) (uN .i64 6 6618611909121),
 .mem 124 none ([.v (.int .i64 2), .v (.int .i64 0), .v (.int .i64 2), .su 1029 0 6 0 6, .v (.int .i64 0), .v (.bool false), .v (.int .i64 0)])] ++ deadL 151 ++ [.mem 88 none ([.v (.int .i64 0), .v (.int .i64 0), .v (.int .i64 0), .v (.slice none 0 0)])] ++ deadL 9 ++ [.mem 3 (some 1) ([.v (.int .i64 2), .v (.int .i64 3)])] ++ deadL 7 ++ [.mem 31 none ([.v (.string ⟨#[]⟩), .v (.int .i64 2), .v (.int .i64 2), .su 1192 0 2 0 2, .v (.int .i64 60), .v (.int .i64 1)]),
 .dead,
 .dead,
 .dead,
 .mem 5 (some 1) (uN .u8 128 79080062157896012368112015137830137845133233154059295355132316465698810570728560867861968261581878603287302131648830497615561625509972000634451124597877625052117318601965315747939948894771394984623786265962230648903491008341370262001318351796175408903887364500344460656633895595305382183956549165966134694993),
 .mem 88 none ([.v (.int .i64 0), .v (.int .i64 0), .v (.int .i64 0), .v (.slice none 0 0)])] ++ deadL 11 ++ [.mem 5 (some 1) (uN .u8 128 79080062157896012368112015137830137845133233154059295355132316465698810570728560867861968261581878603287302131648830497615561625509972000634451124597877625052117318601965315747939948894771394984623786265962230648903491008341370262001318351796175408903887364500344460656633895595305382183956549165966134694993)]), 1218⟩
end Go.Proofs.YtknahinjccendaaGreatDoor.RStoreNames
namespace Go.Proofs.YtknahinjccendaaGreatDoor.RStoreNames
open Go Go.RowKit Ev
set_option maxRecDepth 1000000 in
theorem part5 : Ev.Reach Tryz.prog st5 st6 :=
 Ev.Reach.seg (Ev.tab_ok Ev.ctab) Ev.crcHook_ok Tryz.checked.mixed (HK := Ev.crcHook) (FT := tabOf Tryz.prog) (k := 11994) (bits := 2257704312126124669798945942037766521867236771217345896666392997076590340700108068024765592621251569087831312604947289677080075568704284413474888587243099713393893779719180497373934612077531712924727011288857867582079046617795166812716959866658826293455663606501426925927705785878442350290326779668617354622138849112262216435428558853432826030477223931599666353844252) (by kernel_rfl)
end Go.Proofs.YtknahinjccendaaGreatDoor.RStoreNames
/-
 StoreNames: a state of its run (7).
-/
namespace Go.Proofs.YtknahinjccendaaGreatDoor.RStoreNames
open Go Go.RowKit Ev
set_option maxRecDepth 100000
noncomputable def st7 : ASt := ⟨⟨135, 45, (ofO 46 [some (.ptr 1304 0), some (.v (.int .i64 8)), some (.v (.int .u64 3)), none, none, none, some (.v (.int .i64 0)), none, some (.v (.bool false)), some (.ptr 1304 0), some (.v (.bool false)), some (.v (.bool false)), some (.v (.int .i64 8)), some (.v (.bool true)), some (.v (.bool false)), none, some (.v (.int .i64 8)), some (.v (.bool false)), none, none, none, none, none, none, none, none, none, none, none, none, none, none, none, none, none, none, none, none, none, none, none, none, none, none, none]), (plC (subC (bodyC Tryz.prog 135) [1, 0, 0, 1, 1, 1, 1, 0]) 2), [.code (subC (bodyC Tryz.prog 135) [1, 0, 0, 1, 1, 1, 1, 1]), .inBlock 0, .code (subC (bodyC Tryz.prog 135) [1, 1])], [], false, none, 1373⟩, [⟨133, 9, (ofO 10 [some (.ptr 1304 0), some (.v (.int .i64 3)), none, none, some (.v (.int .i64 0)), some (.ptr 1304 0), some (.v (.int .i64 3)), some (.v (.int .u64 3)), none]), (plC (subC (bodyC Tryz.prog 133) [1, 0]) 3), [.code .ret], [], false, none, 1373⟩,
 ⟨109, 58, (ofO 59 [some (.agg ([.v (.int .i64 2), .v (.int .i64 0), .v (.int .i64 2), .su 1301 0 6 0 6])), some (.v (.int .i64 1)), some (.ptr 1302 0), none, some (.v (.slice none 0 0)), some (.v (.int .i64 0)), some (.v (.int .i64 0)), some (.ptr 1304 0), some (.fn (.func 133) ([.ptr 1304 0]) ([])), none, some (.v (.int .i64 3)), some (.agg ([.v (.int .i64 2), .v (.int .i64 0), .v (.int .i64 2), .su 1301 0 6 0 6])), some (.v (.int .i64 1)), some (.v (.int .i64 0)), some (.v (.int .i64 0)), some (.v (.bool false)), none, some (.fn (.func 133) ([.ptr 1304 0]) ([])), some (.sl 1305 0 3 3), some (.sl 1305 0 3 3), some (.v (.int .i64 0)), some (.ptr 1302 2), some (.v (.int .i64 2)), some (.v (.int .u64 2)), some (.v (.int .i64 0)), some (.fn (.func 133) ([.ptr 1304 0]) ([])), some (.ptr 1302 0), some (.v (.int .i64 2)), some (.v (.int .i64 0)), some (.ptr 1302 1), some (.v (.int .i64 0)), some (.v (.int .u64 0)), some (.v (.int .i64 0)), some (.ptr 1302 3), some (.su 1301 0 6 0 6), some (.v (.int .i64 6)), some (.v (.int .u64 6)), some (.v (.int .i64 0)), some (.ptr 1302 3), some (.su 1301 0 6 0 6), some (.v (.int .i64 6)), some (.v (.int .i64 2)), some (.v (.bool true)), some (.ptr 1301 2), some (.v (.int .i64 3)), some (.fn (.func 133) ([.ptr 1304 0]) ([])), some (.v (.int .i64 3)), some (.v (.int .i64 0)), some (.v (.int .i64 2)), none, none, none, none, none, none, none, none, none]), (plC (subC (bodyC Tryz.prog 109) [1, 1, 1, 1, 1, 1, 1, 1, 1, 0, 1, 0, 0, 1, 1, 0, 0, 1]) 2), [.inBlock 1, .code (subC (bodyC Tryz.prog 109) [1, 1, 1, 1, 1, 1, 1, 1, 1, 0, 1, 0, 0, 1, 1, 1]), .inLoop (subC (bodyC Tryz.prog 109) [1, 1, 1, 1, 1, 1, 1, 1, 1, 0, 1, 0, 0]), .inBlock 0, .code (subC (bodyC Tryz.prog 109) [1, 1, 1, 1, 1, 1, 1, 1, 1, 1])], [], false, none, 1302⟩,
 ⟨80, 85, (ofO 86 [some (.su 1204 0 128 0 128), none, some (.ptr 1205 0), some (.v (.int .i64 0)), some (.ptr 1222 0), some (.v (.int .u64 2)), some (.v (.int .i64 0)), some (.v (.int .i64 2)), some (.v (.int .i64 0)), some (.v (.int .u64 0)), some (.v (.int .i64 0)), some (.v (.int .u64 6)), some (.v (.int .i64 0)), some (.ptr 1249 0), none, none, none, none, some (.su 1204 0 128 0 128), some (.v (.bool true)), some (.v (.bool false)), none, some (.su 1204 0 128 0 128), some (.ptr 1222 0), some (.ptr 1222 0), some (.tup ([.su 1224 0 3 0 3, .v (.int .i64 0)])), some (.tup ([.v (.int .u64 2), .v (.int .i64 0)])), some (.ptr 1222 0), some (.tup ([.v (.int .u64 2), .v (.int .i64 0)])), some (.v (.int .u64 2)), some (.v (.int .i64 0)), some (.tup ([.v (.int .i64 2), .v (.int .i64 0)])), some (.ptr 1222 0), some (.tup ([.v (.int .i64 2), .v (.int .i64 0)])), some (.v (.int .i64 2)), some (.v (.int .i64 0)), some (.tup ([.v (.int .u64 0), .v (.int .i64 0)])), some (.ptr 1222 0), some (.tup ([.v (.int .u64 0), .v (.int .i64 0)])), some (.v (.int .u64 0)), some (.v (.int .i64 0)), some (.tup ([.v (.int .u64 6), .v (.int .i64 0)])), some (.ptr 1222 0), some (.tup ([.v (.int .u64 6), .v (.int .i64 0)])), some (.v (.int .u64 6)), some (.v (.int .i64 0)), some (.v (.int .i64 2)), some (.v (.int .u64 0)), some (.v (.int .i64 0)), some (.v (.int .u64 2)), some (.v (.int .i64 2)), some (.agg ([.v (.int .i64 2), .v (.int .i64 0), .v (.int .i64 2), .v (.slice none 0 0)])), some (.ptr 1222 0), some (.v (.int .u64 6)), some (.v (.int .u64 6)), some (.v (.int .i64 6)), some (.fn (.func 132) ([]) ([.ptr 1251 0, .ptr 1250 0])), none, none, none, none, none, none, none, none, none, none, none, some (.agg ([.v (.int .i64 2), .v (.int .i64 0), .v (.int .i64 2), .su 1301 0 6 0 6])), some (.su 1204 0 128 0 128), some (.v (.int .i64 128)), some (.v (.int .i64 1)), none, none, none, none, none, none, none, none, none, none, none, none, none]), (plC (subC (bodyC Tryz.prog 80) [1, 0, 1, 1, 1, 1, 1, 1, 1, 1, 1, 1, 0, 0]) 4), [.code (subC (bodyC Tryz.prog 80) [1, 0, 1, 1, 1, 1, 1, 1, 1, 1, 1, 1, 0, 1]), .code (subC (bodyC Tryz.prog 80) [1, 0, 1, 1, 1, 1, 1, 1, 1, 1, 1, 1, 1]), .inScope (subC (bodyC Tryz.prog 80) [1, 0])], [1252], false, none, 1205⟩,
 ⟨46, 97, (ofO 98 [some (.ptr 12 0), some (.v (.int .i64 2)), some (.v (.int .i64 0)), none, none, none, some (.ptr 1182 0), some (.v (.int .i64 0)), some (.ptr 1200 0), some (.v (.int .i64 6)), some (.su 1204 0 128 0 128), some (.v (.int .i64 0)), some (.su 1203 0 128 0 128), some (.v (.int .i64 0)), none, none, some (.tup ([.agg ([.v (.string ⟨#[]⟩), .v (.int .i64 2), .v (.int .i64 2), .su 1192 0 2 0 2, .v (.int .i64 60), .v (.int .i64 1)]), .v (.int .i64 6)])), some (.ptr 12 0), some (.v (.int .i64 2)), some (.v (.int .i64 0)), some (.tup ([.agg ([.v (.string ⟨#[]⟩), .v (.int .i64 2), .v (.int .i64 2), .su 1192 0 2 0 2, .v (.int .i64 60), .v (.int .i64 1)]), .v (.int .i64 6)])), some (.agg ([.v (.string ⟨#[]⟩), .v (.int .i64 2), .v (.int .i64 2), .su 1192 0 2 0 2, .v (.int .i64 60), .v (.int .i64 1)])), some (.v (.int .i64 6)), some (.v (.int .i64 6)), some (.v (.bool false)), none, some (.ptr 12 0), some (.ptr 12 0), some (.ptr 12 1), some (.ptr 12 2), some (.v (.int .i64 1)), some (.v (.int .i64 1)), some (.v (.bool false)), some (.v (.int .i64 0)), some (.tup ([.su 1203 0 128 0 128, .v (.int .i64 0)])), some (.ptr 12 0), some (.ptr 12 0), some (.ptr 12 0), some (.ptr 4 0), some (.ptr 1200 4), some (.v (.int .i64 60)), some (.v (.int .i64 0)), some (.ptr 12 0), some (.ptr 12 0), some (.ptr 12 1), some (.ptr 12 2), some (.v (.int .i64 1)), some (.v (.int .i64 0)), some (.v (.int .i64 60)), some (.v (.int .i64 0)), some (.v (.int .i64 60)), some (.tup ([.su 1203 0 128 0 128, .v (.int .i64 0)])), some (.su 1203 0 128 0 128), some (.v (.int .i64 0)), some (.v (.int .i64 0)), some (.v (.bool false)), none, none, some (.v (.slice none 0 0)), some (.su 1203 0 128 0 128), some (.su 1204 0 128 0 128), some (.v (.int .i64 1)), none, some (.su 1204 0 128 0 128), none, none, none, none, none, none, none, none, none, none, none, none, none, none, none, none, none, none, none, none, none, none, none, none, none, none, none, none, none, none, none, none, none]), (plC (subC (bodyC Tryz.prog 46) [1, 1, 1, 1, 1, 0]) 1), [.code (subC (bodyC Tryz.prog 46) [1, 1, 1, 1, 1, 1])], [], false, none, 1182⟩,
 ⟨15, 20, (ofO 21 [some (.ptr 12 0), some (.v (.int .i64 2)), some (.v (.int .i64 0)), none, none, none, some (.v (.bool false)), none, none, some (.ptr 12 0), some (.v (.bool false)), none, some (.ptr 12 0), some (.v (.int .i64 2)), some (.v (.int .i64 0)), none, none, none, none, none]), (plC (subC (bodyC Tryz.prog 15) [1, 1, 0]) 3), [.code (subC (bodyC Tryz.prog 15) [1, 1, 1])], [], false, none, 1182⟩,
 ⟨3, 365, (ofO 366 [some (.v (.bool false)), some (.ptr 12 0), some (.ptr 4 0), some (.ptr 80 0), some (.v (.int .i64 0)), some (.v (.int .i64 0)), some (.v (.int .i64 200)), some (.v (.int .i64 1)), some (.v (.int .i64 0)), some (.v (.int .i64 201)), some (.v (.int .i64 0)), some (.v (.int .i64 201)), some (.ptr 148 0), some (.v (.int .i64 201)), some (.ptr 151 0), some (.v (.int .i64 201)), some (.ptr 173 0), some (.v (.int .i64 41)), some (.v (.int .i64 50)), some (.v (.int .i64 0)), some (.v (.int .i64 201)), some (.v (.bool true)), some (.su 439 0 128 0 128), some (.v (.int .i64 0)), some (.v (.int .i64 0)), some (.v (.int .i64 200)), some (.su 1180 0 6 0 6), some (.v (.int .i64 0)), none, none, none, none, none, none, none, none, none, none, none, none, none, none, none, none, none, none, none, none, none, none, none, none, some (.tup ([.ptr 12 0, .ptr 4 0])), some (.agg ([.v (.int .i64 8), .v (.int .i64 1), .v (.int .i64 2), .v (.bool false), .v (.int .i64 8), .v (.int .i64 100)])), some (.tup ([.ptr 12 0, .ptr 4 0])), some (.ptr 12 0), some (.ptr 4 0), some (.ptr 12 0), some (.sl 17 0 1 1), some (.tup ([.agg ([.v (.string ⟨#[]⟩), .v (.int .i64 1), .v (.int .i64 1), .su 44 0 1 0 1, .v (.int .i64 58), .v (.int .i64 2)]), .v (.int .i64 0)])), some (.tup ([.agg ([.v (.string ⟨#[]⟩), .v (.int .i64 2), .v (.int .i64 2), .su 79 0 2 0 2, .v (.int .i64 60), .v (.int .i64 1)]), .v (.int .i64 0)])), some (.ptr 12 0), some (.sl 45 0 2 2), some (.tup ([.agg ([.v (.string ⟨#[]⟩), .v (.int .i64 2), .v (.int .i64 2), .su 79 0 2 0 2, .v (.int .i64 60), .v (.int .i64 1)]), .v (.int .i64 0)])), some (.agg ([.v (.string ⟨#[]⟩), .v (.int .i64 2), .v (.int .i64 2), .su 79 0 2 0 2, .v (.int .i64 60), .v (.int .i64 1)])), some (.v (.int .i64 0)), some (.tup ([.v (.int .i64 0), .v (.int .i64 200)])), some (.ptr 12 0), some (.tup ([.v (.int .i64 0), .v (.int .i64 200)])), some (.v (.int .i64 0)), some (.v (.int .i64 200)), some (.ptr 12 0), some (.v (.int .i64 1)), some (.tup ([.v (.int .i64 0), .v (.int .i64 201)])), some (.ptr 12 0), some (.tup ([.v (.int .i64 0), .v (.int .i64 201)])), some (.v (.int .i64 0)), some (.v (.int .i64 201)), some (.tup ([.v (.int .i64 0), .v (.int .i64 201)])), some (.ptr 12 0), some (.tup ([.v (.int .i64 0), .v (.int .i64 201)])), some (.v (.int .i64 0)), some (.v (.int .i64 201)), some (.tup ([.agg ([.v (.string ⟨#[]⟩), .v (.int .i64 0), .v (.int .i64 0), .v (.slice none 0 0), .v (.int .i64 0), .v (.int .i64 0)]), .v (.int .i64 201)])), some (.ptr 12 0), some (.tup ([.agg ([.v (.string ⟨#[]⟩), .v (.int .i64 0), .v (.int .i64 0), .v (.slice none 0 0), .v (.int .i64 0), .v (.int .i64 0)]), .v (.int .i64 201)])), some (.agg ([.v (.string ⟨#[]⟩), .v (.int .i64 0), .v (.int .i64 0), .v (.slice none 0 0), .v (.int .i64 0), .v (.int .i64 0)])), some (.v (.int .i64 201)), some (.tup ([.agg ([.v (.string ⟨#[]⟩), .v (.int .i64 0), .v (.int .i64 0), .v (.slice none 0 0), .v (.int .i64 0), .v (.int .i64 0)]), .v (.int .i64 201)])), some (.ptr 12 0), some (.sl 149 0 1 1), some (.tup ([.agg ([.v (.string ⟨#[]⟩), .v (.int .i64 0), .v (.int .i64 0), .v (.slice none 0 0), .v (.int .i64 0), .v (.int .i64 0)]), .v (.int .i64 201)])), some (.agg ([.v (.string ⟨#[]⟩), .v (.int .i64 0), .v (.int .i64 0), .v (.slice none 0 0), .v (.int .i64 0), .v (.int .i64 0)])), some (.v (.int .i64 201)), some (.tup ([.agg ([.v (.string ⟨#[]⟩), .v (.int .i64 0), .v (.int .i64 0), .v (.slice none 0 0), .v (.int .i64 0), .v (.int .i64 0)]), .v (.int .i64 41)])), some (.ptr 12 0), some (.sl 152 0 1 1), some (.tup ([.agg ([.v (.string ⟨#[]⟩), .v (.int .i64 0), .v (.int .i64 0), .v (.slice none 0 0), .v (.int .i64 0), .v (.int .i64 0)]), .v (.int .i64 41)])), some (.agg ([.v (.string ⟨#[]⟩), .v (.int .i64 0), .v (.int .i64 0), .v (.slice none 0 0), .v (.int .i64 0), .v (.int .i64 0)])), some (.v (.int .i64 41)), some (.ptr 12 0), some (.ptr 80 1), some (.v (.int .i64 2)), some (.sl 174 0 6 6), some (.v (.int .i64 50)), some (.ptr 12 0), some (.ptr 80 1), some (.v (.int .i64 2)), some (.sl 195 0 6 6), some (.v (.int .i64 0)), some (.ptr 12 0), some (.ptr 80 1), some (.v (.int .i64 2)), some (.v (.int .i64 201)), some (.v (.int .i64 0)), some (.v (.bool true)), some (.v (.bool true)), some (.ptr 80 4), some (.v (.int .i64 60)), some (.v (.bool true)), some (.v (.bool true)), some (.v (.bool true)), some (.v (.int .i64 200)), some (.v (.bool true)), some (.v (.bool true)), some (.v (.bool true)), some (.v (.int .i64 1)), some (.v (.bool true)), some (.v (.bool true)), some (.v (.bool true)), some (.v (.int .i64 201)), some (.v (.bool true)), some (.v (.bool true)), some (.v (.bool true)), some (.v (.int .i64 201)), some (.v (.bool true)), some (.v (.bool true)), some (.v (.bool true)), some (.v (.int .i64 201)), some (.v (.bool true)), some (.v (.bool true)), some (.v (.bool true)), some (.v (.int .i64 201)), some (.v (.bool true)), some (.v (.bool true)), some (.v (.bool true)), some (.v (.int .i64 41)), some (.v (.bool true)), some (.v (.bool true)), some (.v (.bool true)), some (.v (.int .i64 50)), some (.v (.bool true)), some (.v (.bool true)), some (.v (.bool true)), some (.v (.int .i64 0)), some (.v (.bool true)), some (.v (.bool true)), some (.v (.bool true)), some (.v (.int .i64 201)), some (.v (.bool true)), some (.v (.bool true)), some (.v (.bool true)), some (.ptr 12 0), some (.v (.int .i64 3)), some (.v (.bool true)), some (.v (.bool true)), some (.tup ([.su 439 0 128 0 128, .v (.int .i64 0)])), some (.ptr 4 0), some (.tup ([.su 439 0 128 0 128, .v (.int .i64 0)])), some (.su 439 0 128 0 128), some (.v (.int .i64 0)), some (.ptr 4 0), some (.su 439 0 128 0 128), some (.v (.int .i64 0)), some (.tup ([.v (.int .i64 0), .v (.int .i64 200)])), some (.ptr 12 0), some (.tup ([.v (.int .i64 0), .v (.int .i64 200)])), some (.v (.int .i64 0)), some (.v (.int .i64 200)), some (.tup ([.su 1180 0 6 0 6, .v (.int .i64 0)])), some (.ptr 12 0), some (.tup ([.su 1180 0 6 0 6, .v (.int .i64 0)])), some (.su 1180 0 6 0 6), some (.v (.int .i64 0)), some (.v (.int .i64 200)), some (.v (.bool true)), some (.v (.bool true)), some (.v (.int .i64 0)), some (.v (.bool true)), some (.v (.bool true)), some (.v (.bool true)), some (.su 1180 0 6 0 6), some (.sl 1181 0 6 6), some (.v (.bool true)), some (.v (.bool true)), some (.v (.bool true)), some (.ptr 12 0), none, none, none, none, none, none, none, none, none, none, none, none, none, none, none, none, none, none, none, none, none, none, none, none, none, none, none, none, none, none, none, none, none, none, none, none, none, none, none, none, none, none, none, none, none, none, none, none, none, none, none, none, none, none, none, none, none, none, none, none, none, none, none, none, none, none, none, none, none, none, none, none, none, none, none, none, none, none, none, none, none, none, none, none, none, none, none, none, none, none, none, none, none, none, none, none, none, none, none, none, none, none, none, none, none, none, none, none, none, none, none, none, none, none, none, none, none, none, none, none, none, none, none, none, none, none, none, none, none, none, none, none, none, none, none, none, none, none, none, none, none, none, none, none, none, none, none, none, none, none, none, none, none, none, none, none, none, none, none, none, none, none, none, none, none, none, none, none]), (plC (subC (bodyC Tryz.prog 3) [1, 1, 1, 1, 1, 1, 1, 1, 1, 1, 1, 1, 1, 1, 1, 1, 1, 1, 1, 0]) 13), [.code (subC (bodyC Tryz.prog 3) [1, 1, 1, 1, 1, 1, 1, 1, 1, 1, 1, 1, 1, 1, 1, 1, 1, 1, 1, 1])], [], false, none, 0⟩],
 ofL 1374 ([] ++ [.dead,
 .dead,
 .mem 94 none (zN (.v (.int .u8 0)) 12800),
 .map [(.int .i64 60, .agg (uN .u8 128 79080062157896012368112015137830137845133233154059295355132316465698810570728560867861968261581878603287302131648830497615561625509972000634451124597877625052117318601965315747939948894771394984623786265962230648903491008341370262001318351796175408903887364500344460656633895595305382183956549165966134694993), 0), (.int .i64 58, .agg (uN .u8 128 79080062157896012368112015137830137845133233154059295355132316465698810570728560867861968261581878603287302131648830497615561625509972000634451124597877625052117318601965315747939948894771394984623786265962230648903491008341370262001318351796175408903887364500344460656633895595305382183956549165966134694993), 1)] 2,
 .mem 101 none ([.sl 2 0 100 100, .mp 3, .v (.int .i64 0), .v (.slice none 0 0), .v (.int .i64 0), .v (.int .i64 0), .v (.int .i64 2), .v (.bool false)])] ++ deadL 7 ++ [.mem 66 none ([.ptr 4 0, .v (.int .i64 8), .v (.int .i64 1), .v (.int .i64 2), .v (.bool false), .v (.int .i64 8), .v (.int .i64 100), .ptr 15 0, .su 75 0 2 0 2, .v (.int .i64 3), .ptr 13 0, .v (.int .i64 1), .fn (.func 54) ([]) ([])]),
 .mem 131 none ([.v (.int .i64 8), .ifc 114 (.agg ([.ptr 12 0])), .su 228 0 1 0 1]),
 .dead,
 .mem 160 none ([.v (.bool true), .v (.int .i64 58), .v (.int .i64 100), .su 71 0 1 0 1])] ++ deadL 5 ++ [.mem 3 (some 1) ([.v (.int .i64 14)])] ++ deadL 27 ++ [.mem 3 (some 1) ([.v (.int .i64 2), .v (.int .i64 3)])] ++ deadL 21 ++ [.mem 76 (some 2) ([.v (.int .i64 58), .v (.int .i64 3)]),
 .dead,
 .dead,
 .dead,
 .mem 31 (some 6) ([.v (.string ⟨#[]⟩), .v (.int .i64 1), .v (.int .i64 1), .su 21 0 1 0 1, .v (.int .i64 58), .v (.int .i64 2), .v (.string ⟨#[]⟩), .v (.int .i64 2), .v (.int .i64 2), .su 49 0 2 0 2, .v (.int .i64 60), .v (.int .i64 1)])] ++ deadL 152 ++ [.mem 125 (some 1) ([.ptr 1030 0])] ++ deadL 800 ++ [.mem 2 (some 1) (uN .i64 6 6618611909121),
 .mem 124 none ([.v (.int .i64 2), .v (.int .i64 0), .v (.int .i64 2), .su 1029 0 6 0 6, .v (.int .i64 0), .v (.bool false), .v (.int .i64 0)])] ++ deadL 151 ++ [.mem 88 none ([.v (.int .i64 0), .v (.int .i64 0), .v (.int .i64 0), .v (.slice none 0 0)])] ++ deadL 9 ++ [.mem 3 (some 1) ([.v (.int .i64 2), .v (.int .i64 3)])] ++ deadL 7 ++ [.mem 31 none ([.v (.string ⟨#[]⟩), .v (.int .i64 2), .v (.int .i64 2), .su 1192 0 2 0 2, .v (.int .i64 60), .v (.int .i64 1)]),
 .dead,
 .dead,
 .dead,
 .mem 5 (some 1) (uN .u8 128 79080062157896012368112015137830137845133233154059295355132316465698810570728560867861968261581878603287302131648830497615561625509972000634451124597877625052117318601965315747939948894771394984623786265962230648903491008341370262001318351796175408903887364500344460656633895595305382183956549165966134694993),
 .mem 88 none ([.v (.int .i64 0), .v (.int .i64 0), .v (.int .i64 0), .v (.slice none 0 0)])] ++ deadL 43 ++ [.mem 88 none ([.v (.int .i64 2), .v (.int .i64 0), .v (.int .i64 2), .su 1301 0 6 0 6]),
 .dead,
 .dead,
 .dfd true] ++ deadL 48 ++ [.mem 2 (some 1) (uN .i64 6 6618611909121),
 .dead,
 .dead,
 .mem 210 none ([.su 1372 0 36 0 36])] ++ deadL 67 ++ [.mem 5 (some 1) (uN .u8 36 3885337784451458141944236105315595000016985650412892511968537748164788255075397096529)]), 1373⟩
end Go.Proofs.YtknahinjccendaaGreatDoor.RStoreNames
namespace Go.Proofs.YtknahinjccendaaGreatDoor.RStoreNames
open Go Go.RowKit Ev
set_option maxRecDepth 1000000 in
theorem part6 : Ev.Reach Tryz.prog st6 st7 :=
 Ev.Reach.seg (Ev.tab_ok Ev.ctab) Ev.crcHook_ok Tryz.checked.mixed (HK := Ev.crcHook) (FT := tabOf Tryz.prog) (k := 12000) (bits := 103075167919539362738271827980393384024573080672484828596510254380384248309906388805428097358640872849909475072231920580244767086053662453105306476274054895473499672723823502718892076035925885377809400937910268676052141693044228878041595466871682914675231401288659339652454808030171909697672075496730992381357119818759893456280086831759981061143767010694706308038659628189362874942404582038277124804981095942631452) (by kernel_rfl)
end Go.Proofs.YtknahinjccendaaGreatDoor.RStoreNames
/-
 StoreNames: a state of its run (8).
-/
namespace Go.Proofs.YtknahinjccendaaGreatDoor.RStoreNames
open Go Go.RowKit Ev
set_option maxRecDepth 100000
noncomputable def st8 : ASt := ⟨⟨157, 26, (ofO 27 [some (.yl 1548), some (.ptr 1546 0), none, some (.v (.int .i64 4)), some (.v (.int .u8 0)), some (.ptr 1495 0), some (.ptr 1495 0), some (.ptr 1495 0), some (.su 1494 0 128 0 128), some (.ptr 1495 0), some (.ptr 1495 0), some (.ptr 1495 1), some (.v (.int .i64 36)), some (.su 1494 36 92 36 92), some (.v (.int .i64 92)), some (.v (.int .i64 4)), some (.v (.bool true)), some (.v (.int .i64 4)), some (.ptr 1494 40), some (.v (.int .u8 0)), some (.yl 1548), some (.v (.int .i64 4)), some (.v (.int .u8 0)), some (.v (.bool true)), some (.v (.bool false)), some (.v (.int .i64 4))]), (plC (subC (bodyC Tryz.prog 157) [1, 0, 0, 1, 1, 0, 0, 1, 0]) 4), [.code (subC (bodyC Tryz.prog 157) [1, 0, 0, 1, 1, 0, 0, 1, 1]), .inBlock 1, .code (subC (bodyC Tryz.prog 157) [1, 0, 0, 1, 1, 1]), .inLoop (subC (bodyC Tryz.prog 157) [1, 0, 0]), .inBlock 0], [], false, none, 1549⟩, [⟨131, 23, (ofO 24 [some (.ptr 1495 0), some (.v (.int .i64 8)), none, some (.ptr 1543 0), some (.ptr 1544 0), some (.ptr 1545 0), none, none, some (.ptr 1495 0), some (.fn (.func 157) ([]) ([.ptr 1546 0])), none, none, none, none, none, none, none, none, none, none, none, none, none]), .no, [.inRF 1548, .inBlock 0, .code (subC (bodyC Tryz.prog 131) [1, 0, 1, 1]), .inScope (subC (bodyC Tryz.prog 131) [1, 0])], [1547], false, none, 1543⟩,
 ⟨106, 32, (ofO 33 [some (.ptr 1495 0), some (.v (.int .i64 8)), none, none, some (.v (.int .u64 0)), some (.v (.int .i64 0)), none, none, some (.v (.bool false)), some (.ptr 1495 0), some (.v (.bool false)), some (.v (.bool false)), some (.v (.int .i64 8)), some (.v (.bool true)), some (.v (.bool false)), none, some (.ptr 1495 0), some (.v (.int .i64 8)), none, none, none, none, none, none, none, none, none, none, none, none, none, none]), (plC (subC (bodyC Tryz.prog 106) [1, 1, 0]) 2), [.code (subC (bodyC Tryz.prog 106) [1, 1, 1])], [], false, none, 1543⟩,
 ⟨107, 14, (ofO 15 [some (.ptr 1495 0), none, some (.v (.int .i64 0)), some (.v (.int .i64 0)), none, none, none, some (.ptr 1495 0), none, none, none, none, none, none]), (plC (subC (bodyC Tryz.prog 107) [1, 0]) 1), [.code (subC (bodyC Tryz.prog 107) [1, 1])], [], false, none, 1543⟩,
 ⟨132, 24, (ofO 25 [some (.yl 1526), some (.ptr 1524 0), some (.ptr 1523 0), none, some (.v (.int .i64 2)), some (.v (.int .i64 2)), some (.v (.int .i64 0)), some (.v (.int .i64 6)), some (.v (.int .i64 2)), some (.v (.bool true)), some (.v (.int .i64 2)), some (.tup ([.v (.int .i64 2), .v (.int .i64 0)])), some (.ptr 1495 0), some (.tup ([.v (.int .i64 2), .v (.int .i64 0)])), some (.v (.int .i64 2)), some (.v (.int .i64 0)), some (.v (.int .i64 0)), some (.v (.bool false)), some (.yl 1526), some (.v (.int .i64 1)), some (.v (.int .i64 2)), some (.v (.bool true)), some (.v (.bool false)), some (.v (.int .i64 2))]), (plC (subC (bodyC Tryz.prog 132) [1, 0, 0, 1, 1, 0, 0, 1, 0]) 1), [.code (subC (bodyC Tryz.prog 132) [1, 0, 0, 1, 1, 0, 0, 1, 1]), .inBlock 1, .code (subC (bodyC Tryz.prog 132) [1, 0, 0, 1, 1, 1]), .inLoop (subC (bodyC Tryz.prog 132) [1, 0, 0]), .inBlock 0], [], false, none, 1527⟩,
 ⟨80, 85, (ofO 86 [some (.su 1477 0 128 0 128), none, some (.ptr 1478 0), some (.v (.int .i64 0)), some (.ptr 1495 0), some (.v (.int .u64 2)), some (.v (.int .i64 0)), some (.v (.int .i64 2)), some (.v (.int .i64 0)), some (.v (.int .u64 0)), some (.v (.int .i64 0)), some (.v (.int .u64 6)), some (.v (.int .i64 0)), some (.ptr 1522 0), none, none, none, none, some (.su 1477 0 128 0 128), some (.v (.bool true)), some (.v (.bool false)), none, some (.su 1477 0 128 0 128), some (.ptr 1495 0), some (.ptr 1495 0), some (.tup ([.su 1497 0 3 0 3, .v (.int .i64 0)])), some (.tup ([.v (.int .u64 2), .v (.int .i64 0)])), some (.ptr 1495 0), some (.tup ([.v (.int .u64 2), .v (.int .i64 0)])), some (.v (.int .u64 2)), some (.v (.int .i64 0)), some (.tup ([.v (.int .i64 2), .v (.int .i64 0)])), some (.ptr 1495 0), some (.tup ([.v (.int .i64 2), .v (.int .i64 0)])), some (.v (.int .i64 2)), some (.v (.int .i64 0)), some (.tup ([.v (.int .u64 0), .v (.int .i64 0)])), some (.ptr 1495 0), some (.tup ([.v (.int .u64 0), .v (.int .i64 0)])), some (.v (.int .u64 0)), some (.v (.int .i64 0)), some (.tup ([.v (.int .u64 6), .v (.int .i64 0)])), some (.ptr 1495 0), some (.tup ([.v (.int .u64 6), .v (.int .i64 0)])), some (.v (.int .u64 6)), some (.v (.int .i64 0)), some (.v (.int .i64 2)), some (.v (.int .u64 0)), some (.v (.int .i64 0)), some (.v (.int .u64 2)), some (.v (.int .i64 2)), some (.agg ([.v (.int .i64 2), .v (.int .i64 0), .v (.int .i64 2), .v (.slice none 0 0)])), some (.ptr 1495 0), some (.v (.int .u64 6)), some (.v (.int .u64 6)), some (.v (.int .i64 6)), some (.fn (.func 132) ([]) ([.ptr 1524 0, .ptr 1523 0])), none, none, none, none, none, none, none, none, none, none, none, none, none, none, none, none, none, none, none, none, none, none, none, none, none, none, none, none]), .no, [.inRF 1526, .inBlock 0, .code (subC (bodyC Tryz.prog 80) [1, 0, 1, 1, 1, 1, 1, 1, 1, 1, 1, 1]), .inScope (subC (bodyC Tryz.prog 80) [1, 0])], [1525], false, none, 1478⟩,
 ⟨46, 97, (ofO 98 [some (.ptr 12 0), some (.v (.int .i64 1)), some (.v (.int .i64 0)), none, none, none, some (.ptr 1455 0), some (.v (.int .i64 0)), some (.ptr 1473 0), some (.v (.int .i64 13)), some (.su 1477 0 128 0 128), some (.v (.int .i64 0)), some (.su 1476 0 128 0 128), some (.v (.int .i64 0)), none, none, some (.tup ([.agg ([.v (.string ⟨#[]⟩), .v (.int .i64 1), .v (.int .i64 1), .su 1464 0 1 0 1, .v (.int .i64 58), .v (.int .i64 2)]), .v (.int .i64 13)])), some (.ptr 12 0), some (.v (.int .i64 1)), some (.v (.int .i64 0)), some (.tup ([.agg ([.v (.string ⟨#[]⟩), .v (.int .i64 1), .v (.int .i64 1), .su 1464 0 1 0 1, .v (.int .i64 58), .v (.int .i64 2)]), .v (.int .i64 13)])), some (.agg ([.v (.string ⟨#[]⟩), .v (.int .i64 1), .v (.int .i64 1), .su 1464 0 1 0 1, .v (.int .i64 58), .v (.int .i64 2)])), some (.v (.int .i64 13)), some (.v (.int .i64 13)), some (.v (.bool false)), none, some (.ptr 12 0), some (.ptr 12 0), some (.ptr 12 1), some (.ptr 12 2), some (.v (.int .i64 1)), some (.v (.int .i64 1)), some (.v (.bool false)), some (.v (.int .i64 0)), some (.tup ([.su 1476 0 128 0 128, .v (.int .i64 0)])), some (.ptr 12 0), some (.ptr 12 0), some (.ptr 12 0), some (.ptr 4 0), some (.ptr 1473 4), some (.v (.int .i64 58)), some (.v (.int .i64 0)), some (.ptr 12 0), some (.ptr 12 0), some (.ptr 12 1), some (.ptr 12 2), some (.v (.int .i64 1)), some (.v (.int .i64 0)), some (.v (.int .i64 58)), some (.v (.int .i64 0)), some (.v (.int .i64 58)), some (.tup ([.su 1476 0 128 0 128, .v (.int .i64 0)])), some (.su 1476 0 128 0 128), some (.v (.int .i64 0)), some (.v (.int .i64 0)), some (.v (.bool false)), none, none, some (.v (.slice none 0 0)), some (.su 1476 0 128 0 128), some (.su 1477 0 128 0 128), some (.v (.int .i64 1)), none, some (.su 1477 0 128 0 128), none, none, none, none, none, none, none, none, none, none, none, none, none, none, none, none, none, none, none, none, none, none, none, none, none, none, none, none, none, none, none, none, none]), (plC (subC (bodyC Tryz.prog 46) [1, 1, 1, 1, 1, 0]) 1), [.code (subC (bodyC Tryz.prog 46) [1, 1, 1, 1, 1, 1])], [], false, none, 1455⟩,
 ⟨15, 20, (ofO 21 [some (.ptr 12 0), some (.v (.int .i64 1)), some (.v (.int .i64 0)), none, none, none, some (.v (.bool false)), none, none, some (.ptr 12 0), some (.v (.bool false)), none, some (.ptr 12 0), some (.v (.int .i64 1)), some (.v (.int .i64 0)), none, none, none, none, none]), (plC (subC (bodyC Tryz.prog 15) [1, 1, 0]) 3), [.code (subC (bodyC Tryz.prog 15) [1, 1, 1])], [], false, none, 1455⟩,
 ⟨3, 365, (ofO 366 [some (.v (.bool false)), some (.ptr 12 0), some (.ptr 4 0), some (.ptr 80 0), some (.v (.int .i64 0)), some (.v (.int .i64 0)), some (.v (.int .i64 200)), some (.v (.int .i64 1)), some (.v (.int .i64 0)), some (.v (.int .i64 201)), some (.v (.int .i64 0)), some (.v (.int .i64 201)), some (.ptr 148 0), some (.v (.int .i64 201)), some (.ptr 151 0), some (.v (.int .i64 201)), some (.ptr 173 0), some (.v (.int .i64 41)), some (.v (.int .i64 50)), some (.v (.int .i64 0)), some (.v (.int .i64 201)), some (.v (.bool true)), some (.su 439 0 128 0 128), some (.v (.int .i64 0)), some (.v (.int .i64 0)), some (.v (.int .i64 200)), some (.su 1180 0 6 0 6), some (.v (.int .i64 0)), none, none, none, none, none, none, none, none, none, none, none, none, none, none, none, none, none, none, none, none, none, none, none, none, some (.tup ([.ptr 12 0, .ptr 4 0])), some (.agg ([.v (.int .i64 8), .v (.int .i64 1), .v (.int .i64 2), .v (.bool false), .v (.int .i64 8), .v (.int .i64 100)])), some (.tup ([.ptr 12 0, .ptr 4 0])), some (.ptr 12 0), some (.ptr 4 0), some (.ptr 12 0), some (.sl 17 0 1 1), some (.tup ([.agg ([.v (.string ⟨#[]⟩), .v (.int .i64 1), .v (.int .i64 1), .su 44 0 1 0 1, .v (.int .i64 58), .v (.int .i64 2)]), .v (.int .i64 0)])), some (.tup ([.agg ([.v (.string ⟨#[]⟩), .v (.int .i64 2), .v (.int .i64 2), .su 79 0 2 0 2, .v (.int .i64 60), .v (.int .i64 1)]), .v (.int .i64 0)])), some (.ptr 12 0), some (.sl 45 0 2 2), some (.tup ([.agg ([.v (.string ⟨#[]⟩), .v (.int .i64 2), .v (.int .i64 2), .su 79 0 2 0 2, .v (.int .i64 60), .v (.int .i64 1)]), .v (.int .i64 0)])), some (.agg ([.v (.string ⟨#[]⟩), .v (.int .i64 2), .v (.int .i64 2), .su 79 0 2 0 2, .v (.int .i64 60), .v (.int .i64 1)])), some (.v (.int .i64 0)), some (.tup ([.v (.int .i64 0), .v (.int .i64 200)])), some (.ptr 12 0), some (.tup ([.v (.int .i64 0), .v (.int .i64 200)])), some (.v (.int .i64 0)), some (.v (.int .i64 200)), some (.ptr 12 0), some (.v (.int .i64 1)), some (.tup ([.v (.int .i64 0), .v (.int .i64 201)])), some (.ptr 12 0), some (.tup ([.v (.int .i64 0), .v (.int .i64 201)])), some (.v (.int .i64 0)), some (.v (.int .i64 201)), some (.tup ([.v (.int .i64 0), .v (.int .i64 201)])), some (.ptr 12 0), some (.tup ([.v (.int .i64 0), .v (.int .i64 201)])), some (.v (.int .i64 0)), some (.v (.int .i64 201)), some (.tup ([.agg ([.v (.string ⟨#[]⟩), .v (.int .i64 0), .v (.int .i64 0), .v (.slice none 0 0), .v (.int .i64 0), .v (.int .i64 0)]), .v (.int .i64 201)])), some (.ptr 12 0), some (.tup ([.agg ([.v (.string ⟨#[]⟩), .v (.int .i64 0), .v (.int .i64 0), .v (.slice none 0 0), .v (.int .i64 0), .v (.int .i64 0)]), .v (.int .i64 201)])), some (.agg ([.v (.string ⟨#[]⟩), .v (.int .i64 0), .v (.int .i64 0), .v (.slice none 0 0), .v (.int .i64 0), .v (.int .i64 0)])), some (.v (.int .i64 201)), some (.tup ([.agg ([.v (.string ⟨#[]⟩), .v (.int .i64 0), .v (.int .i64 0), .v (.slice none 0 0), .v (.int .i64 0), .v (.int .i64 0)]), .v (.int .i64 201)])), some (.ptr 12 0), some (.sl 149 0 1 1), some (.tup ([.agg ([.v (.string ⟨#[]⟩), .v (.int .i64 0), .v (.int .i64 0), .v (.slice none 0 0), .v (.int .i64 0), .v (.int .i64 0)]), .v (.int .i64 201)])), some (.agg ([.v (.string ⟨#[]⟩), .v (.int .i64 0), .v (.int .i64 0), .v (.slice none 0 0), .v (.int .i64 0), .v (.int .i64 0)])), some (.v (.int .i64 201)), some (.tup ([.agg ([.v (.string ⟨#[]⟩), .v (.int .i64 0), .v (.int .i64 0), .v (.slice none 0 0), .v (.int .i64 0), .v (.int .i64 0)]), .v (.int .i64 41)])), some (.ptr 12 0), some (.sl 152 0 1 1), some (.tup ([.agg ([.v (.string ⟨#[]⟩), .v (.int .i64 0), .v (.int .i64 0), .v (.slice none 0 0), .v (.int .i64 0), .v (.int .i64 0)]), .v (.int .i64 41)])), some (.agg ([.v (.string ⟨#[]⟩), .v (.int .i64 0), .v (.int .i64 0), .v (.slice none 0 0), .v (.int .i64 0), .v (.int .i64 0)])), some (.v (.int .i64 41)), some (.ptr 12 0), some (.ptr 80 1), some (.v (.int .i64 2)), some (.sl 174 0 6 6), some (.v (.int .i64 50)), some (.ptr 12 0), some (.ptr 80 1), some (.v (.int .i64 2)), some (.sl 195 0 6 6), some (.v (.int .i64 0)), some (.ptr 12 0), some (.ptr 80 1), some (.v (.int .i64 2)), some (.v (.int .i64 201)), some (.v (.int .i64 0)), some (.v (.bool true)), some (.v (.bool true)), some (.ptr 80 4), some (.v (.int .i64 60)), some (.v (.bool true)), some (.v (.bool true)), some (.v (.bool true)), some (.v (.int .i64 200)), some (.v (.bool true)), some (.v (.bool true)), some (.v (.bool true)), some (.v (.int .i64 1)), some (.v (.bool true)), some (.v (.bool true)), some (.v (.bool true)), some (.v (.int .i64 201)), some (.v (.bool true)), some (.v (.bool true)), some (.v (.bool true)), some (.v (.int .i64 201)), some (.v (.bool true)), some (.v (.bool true)), some (.v (.bool true)), some (.v (.int .i64 201)), some (.v (.bool true)), some (.v (.bool true)), some (.v (.bool true)), some (.v (.int .i64 201)), some (.v (.bool true)), some (.v (.bool true)), some (.v (.bool true)), some (.v (.int .i64 41)), some (.v (.bool true)), some (.v (.bool true)), some (.v (.bool true)), some (.v (.int .i64 50)), some (.v (.bool true)), some (.v (.bool true)), some (.v (.bool true)), some (.v (.int .i64 0)), some (.v (.bool true)), some (.v (.bool true)), some (.v (.bool true)), some (.v (.int .i64 201)), some (.v (.bool true)), some (.v (.bool true)), some (.v (.bool true)), some (.ptr 12 0), some (.v (.int .i64 3)), some (.v (.bool true)), some (.v (.bool true)), some (.tup ([.su 439 0 128 0 128, .v (.int .i64 0)])), some (.ptr 4 0), some (.tup ([.su 439 0 128 0 128, .v (.int .i64 0)])), some (.su 439 0 128 0 128), some (.v (.int .i64 0)), some (.ptr 4 0), some (.su 439 0 128 0 128), some (.v (.int .i64 0)), some (.tup ([.v (.int .i64 0), .v (.int .i64 200)])), some (.ptr 12 0), some (.tup ([.v (.int .i64 0), .v (.int .i64 200)])), some (.v (.int .i64 0)), some (.v (.int .i64 200)), some (.tup ([.su 1180 0 6 0 6, .v (.int .i64 0)])), some (.ptr 12 0), some (.tup ([.su 1180 0 6 0 6, .v (.int .i64 0)])), some (.su 1180 0 6 0 6), some (.v (.int .i64 0)), some (.v (.int .i64 200)), some (.v (.bool true)), some (.v (.bool true)), some (.v (.int .i64 0)), some (.v (.bool true)), some (.v (.bool true)), some (.v (.bool true)), some (.su 1180 0 6 0 6), some (.sl 1181 0 6 6), some (.v (.bool true)), some (.v (.bool true)), some (.v (.bool true)), some (.ptr 12 0), some (.v (.bool true)), some (.v (.bool true)), some (.v (.bool true)), some (.ptr 12 0), none, none, none, none, none, none, none, none, none, none, none, none, none, none, none, none, none, none, none, none, none, none, none, none, none, none, none, none, none, none, none, none, none, none, none, none, none, none, none, none, none, none, none, none, none, none, none, none, none, none, none, none, none, none, none, none, none, none, none, none, none, none, none, none, none, none, none, none, none, none, none, none, none, none, none, none, none, none, none, none, none, none, none, none, none, none, none, none, none, none, none, none, none, none, none, none, none, none, none, none, none, none, none, none, none, none, none, none, none, none, none, none, none, none, none, none, none, none, none, none, none, none, none, none, none, none, none, none, none, none, none, none, none, none, none, none, none, none, none, none, none, none, none, none, none, none, none, none, none, none, none, none, none, none, none, none, none, none, none, none, none, none, none, none]), (plC (subC (bodyC Tryz.prog 3) [1, 1, 1, 1, 1, 1, 1, 1, 1, 1, 1, 1, 1, 1, 1, 1, 1, 1, 1, 0]) 17), [.code (subC (bodyC Tryz.prog 3) [1, 1, 1, 1, 1, 1, 1, 1, 1, 1, 1, 1, 1, 1, 1, 1, 1, 1, 1, 1])], [], false, none, 0⟩],
 ofL 1550 ([] ++ [.dead,
 .dead,
 .mem 94 none (zN (.v (.int .u8 0)) 12800),
 .map [(.int .i64 60, .agg (uN .u8 128 79080062157896012368112015137830137845133233154059295355132316465698810570728560867861968261581878603287302131648830497615561625509972000634451124597877625052117318601965315747939948894771394984623786265962230648903491008341370262001318351796175408903887364500344460656633895595305382183956549165966134694993), 0), (.int .i64 58, .agg (uN .u8 128 79080062157896012368112015137830137845133233154059295355132316465698810570728560867861968261581878603287302131648830497615561625509972000634451124597877625052117318601965315747939948894771394984623786265962230648903491008341370262001318351796175408903887364500344460656633895595305382183956549165966134694993), 1)] 2,
 .mem 101 none ([.sl 2 0 100 100, .mp 3, .v (.int .i64 0), .v (.slice none 0 0), .v (.int .i64 0), .v (.int .i64 0), .v (.int .i64 2), .v (.bool false)])] ++ deadL 7 ++ [.mem 66 none ([.ptr 4 0, .v (.int .i64 8), .v (.int .i64 1), .v (.int .i64 2), .v (.bool false), .v (.int .i64 8), .v (.int .i64 100), .ptr 15 0, .su 75 0 2 0 2, .v (.int .i64 3), .ptr 13 0, .v (.int .i64 1), .fn (.func 54) ([]) ([])]),
 .mem 131 none ([.v (.int .i64 8), .ifc 114 (.agg ([.ptr 12 0])), .su 228 0 1 0 1]),
 .dead,
 .mem 160 none ([.v (.bool true), .v (.int .i64 58), .v (.int .i64 100), .su 71 0 1 0 1])] ++ deadL 5 ++ [.mem 3 (some 1) ([.v (.int .i64 14)])] ++ deadL 27 ++ [.mem 3 (some 1) ([.v (.int .i64 2), .v (.int .i64 3)])] ++ deadL 21 ++ [.mem 76 (some 2) ([.v (.int .i64 58), .v (.int .i64 3)]),
 .dead,
 .dead,
 .dead,
 .mem 31 (some 6) ([.v (.string ⟨#[]⟩), .v (.int .i64 1), .v (.int .i64 1), .su 21 0 1 0 1, .v (.int .i64 58), .v (.int .i64 2), .v (.string ⟨#[]⟩), .v (.int .i64 2), .v (.int .i64 2), .su 49 0 2 0 2, .v (.int .i64 60), .v (.int .i64 1)])] ++ deadL 152 ++ [.mem 125 (some 1) ([.ptr 1030 0])] ++ deadL 800 ++ [.mem 2 (some 1) (uN .i64 6 6618611909121),
 .mem 124 none ([.v (.int .i64 2), .v (.int .i64 0), .v (.int .i64 2), .su 1029 0 6 0 6, .v (.int .i64 0), .v (.bool false), .v (.int .i64 0)])] ++ deadL 424 ++ [.mem 88 none ([.v (.int .i64 0), .v (.int .i64 0), .v (.int .i64 0), .v (.slice none 0 0)])] ++ deadL 8 ++ [.mem 3 (some 1) ([.v (.int .i64 14)])] ++ deadL 8 ++ [.mem 31 none ([.v (.string ⟨#[]⟩), .v (.int .i64 1), .v (.int .i64 1), .su 1464 0 1 0 1, .v (.int .i64 58), .v (.int .i64 2)]),
 .dead,
 .dead,
 .dead,
 .mem 5 (some 1) (uN .u8 128 79080062157896012368112015137830137845133233154059295355132316465698810570728560867861968261581878603287302131648830497615561625509972000634451124597877625052117318601965315747939948894771394984623786265962230648903491008341370262001318351796175408903887364500344460656633895595305382183956549165966134694993),
 .mem 88 none ([.v (.int .i64 0), .v (.int .i64 0), .v (.int .i64 0), .v (.slice none 0 0)])] ++ deadL 15 ++ [.mem 5 (some 1) (uN .u8 128 79080062157896012368112015137830137845133233154059295355132316465698810570728560867861968261581878603287302131648830497615561625509972000634451124597877625052117318601965315747939948894771394984623786265962230648903491008341370262001318351796175408903887364500344460656633895595305382183956549165966134694993),
 .mem 205 none ([.su 1494 0 128 0 128, .v (.int .i64 36), .v (.bool true)]),
 .dead,
 .mem 5 (some 1) ([.v (.int .u8 81), .v (.int .u8 84), .v (.int .u8 1)])] ++ deadL 24 ++ [.mem 88 none ([.v (.int .i64 2), .v (.int .i64 0), .v (.int .i64 2), .su 1542 0 2 0 2]),
 .mem 179 none ([.ptr 1495 0]),
 .mem 3 none ([.v (.int .i64 6)]),
 .dfd true,
 .loop .ready none 80 85 (ofO 86 [some (.su 1477 0 128 0 128), none, some (.ptr 1478 0), some (.v (.int .i64 0)), some (.ptr 1495 0), some (.v (.int .u64 2)), some (.v (.int .i64 0)), some (.v (.int .i64 2)), some (.v (.int .i64 0)), some (.v (.int .u64 0)), some (.v (.int .i64 0)), some (.v (.int .u64 6)), some (.v (.int .i64 0)), some (.ptr 1522 0), none, none, none, none, some (.su 1477 0 128 0 128), some (.v (.bool true)), some (.v (.bool false)), none, some (.su 1477 0 128 0 128), some (.ptr 1495 0), some (.ptr 1495 0), some (.tup ([.su 1497 0 3 0 3, .v (.int .i64 0)])), some (.tup ([.v (.int .u64 2), .v (.int .i64 0)])), some (.ptr 1495 0), some (.tup ([.v (.int .u64 2), .v (.int .i64 0)])), some (.v (.int .u64 2)), some (.v (.int .i64 0)), some (.tup ([.v (.int .i64 2), .v (.int .i64 0)])), some (.ptr 1495 0), some (.tup ([.v (.int .i64 2), .v (.int .i64 0)])), some (.v (.int .i64 2)), some (.v (.int .i64 0)), some (.tup ([.v (.int .u64 0), .v (.int .i64 0)])), some (.ptr 1495 0), some (.tup ([.v (.int .u64 0), .v (.int .i64 0)])), some (.v (.int .u64 0)), some (.v (.int .i64 0)), some (.tup ([.v (.int .u64 6), .v (.int .i64 0)])), some (.ptr 1495 0), some (.tup ([.v (.int .u64 6), .v (.int .i64 0)])), some (.v (.int .u64 6)), some (.v (.int .i64 0)), some (.v (.int .i64 2)), some (.v (.int .u64 0)), some (.v (.int .i64 0)), some (.v (.int .u64 2)), some (.v (.int .i64 2)), some (.agg ([.v (.int .i64 2), .v (.int .i64 0), .v (.int .i64 2), .v (.slice none 0 0)])), some (.ptr 1495 0), some (.v (.int .u64 6)), some (.v (.int .u64 6)), some (.v (.int .i64 6)), some (.fn (.func 132) ([]) ([.ptr 1524 0, .ptr 1523 0])), none, none, none, none, none, none, none, none, none, none, none, none, none, none, none, none, none, none, none, none, none, none, none, none, none, none, none, none]) [57, 58] (subC (bodyC Tryz.prog 80) [1, 0, 1, 1, 1, 1, 1, 1, 1, 1, 1, 0, 1, 0, 0]) (subC (bodyC Tryz.prog 80) [1, 0, 1, 1, 1, 1, 1, 1, 1, 1, 1, 0, 1, 0, 1]) 1525] ++ deadL 15 ++ [.mem 2 (some 1) ([.v (.int .i64 1), .v (.int .i64 2)]),
 .mem 3 none ([.v (.int .i64 8)]),
 .mem 49 none ([.v (.int .u64 0)]),
 .mem 4 none ([.v (.bool false)]),
 .mem 179 none ([.ptr 1495 0]),
 .dfd true,
 .loop .ready none 131 23 (ofO 24 [some (.ptr 1495 0), some (.v (.int .i64 8)), none, some (.ptr 1543 0), some (.ptr 1544 0), some (.ptr 1545 0), none, none, some (.ptr 1495 0), some (.fn (.func 157) ([]) ([.ptr 1546 0])), none, none, none, none, none, none, none, none, none, none, none, none, none]) [10, 11] (subC (bodyC Tryz.prog 131) [1, 0, 1, 0, 1, 0, 0]) (subC (bodyC Tryz.prog 131) [1, 0, 1, 0, 1, 0, 1]) 1547]), 1549⟩
end Go.Proofs.YtknahinjccendaaGreatDoor.RStoreNames
namespace Go.Proofs.YtknahinjccendaaGreatDoor.RStoreNames
open Go Go.RowKit Ev
set_option maxRecDepth 1000000 in
theorem part7 : Ev.Reach Tryz.prog st7 st8 :=
 Ev.Reach.seg (Ev.tab_ok Ev.ctab) Ev.crcHook_ok Tryz.checked.mixed (HK := Ev.crcHook) (FT := tabOf Tryz.prog) (k := 12000) (bits := 19591023966541822150149387634511021166314209493110605405204565524362652033378414849815506192240546185113688841502104970688668534928535226524291058534709984834738183445778777158680448419854125698734700176056010801380646172480586263838498047791224200155166328580710872180790026257120641771155215094474099946776953356312418644820945883061159961126791895847237103490635058912070366134405772619176179291170589929949734973058373561204405890037207047226100156973240727679004) (by kernel_rfl)
end Go.Proofs.YtknahinjccendaaGreatDoor.RStoreNames
