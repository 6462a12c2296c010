/-
  A region that draws its order: the small machine may be ahead of the model; the model catches up.
-/
import Derived.Test.YtnkjhicokcmmpaaEk
namespace Go.Proofs.Ytnkjhicokcmmpaa.Ev
open Go Go.RowKit

theorem vsame_eq : ∀ {x y : Value}, vsame x y = true → x = y := by
  intro x y h
  unfold vsame at h
  split at h
  · rename_i a b; cases a <;> cases b <;> simp at h <;> rfl
  · simp only [Bool.and_eq_true, decide_eq_true_eq] at h; rw [h.1, h.2]
  · rename_i a b
    simp only [decide_eq_true_eq] at h
    congr 1
    obtain ⟨a⟩ := a; obtain ⟨b⟩ := b
    congr 1
    exact Array.toList_inj.1 h
  · rfl
  · simp only [Bool.and_eq_true, Nat.beq_eq] at h; rw [h.1, h.2]
  · rfl
  · rfl
  · rfl
  · cases h
mutual
theorem sameA_eq : ∀ {x y : AV}, sameA x y = true → x = y
  | .v x, y, h => by cases y <;> simp [sameA] at h; rw [vsame_eq h]
  | .ptr i o, y, h => by cases y <;> simp [sameA] at h; simp [h]
  | .sl i o n c, y, h => by cases y <;> simp [sameA] at h; simp [h]
  | .su i o n c q, y, h => by cases y <;> simp [sameA] at h; simp [h]
  | .se, y, h => by cases y <;> simp [sameA] at h; rfl
  | .s0, y, h => by cases y <;> simp [sameA] at h; rfl
  | .mp i, y, h => by cases y <;> simp [sameA] at h; simp [h]
  | .agg l, y, h => by cases y <;> simp [sameA] at h; rw [sameAs_eq h]
  | .tup l, y, h => by cases y <;> simp [sameA] at h; rw [sameAs_eq h]
  | .fn f l m, y, h => by
    cases y <;> simp [sameA] at h
    obtain ⟨⟨h1, h2⟩, h3⟩ := h
    rw [h1, sameAs_eq h2, sameAs_eq h3]
  | .yl i, y, h => by cases y <;> simp [sameA] at h; simp [h]
  | .ifc t x, y, h => by
    cases y <;> simp [sameA] at h
    rw [h.1, sameA_eq h.2]
theorem sameAs_eq : ∀ {l m : List AV}, sameAs l m = true → l = m
  | [], m, h => by cases m <;> simp [sameAs] at h; rfl
  | x :: l, m, h => by
    cases m <;> simp [sameAs] at h
    rw [sameA_eq h.1, sameAs_eq h.2]
end

/-- What operation y sees in slot s. -/
def envS (l : List Oper) (W : Tr Nat) (nt : Nat) (X T0 : Tr AV) (y s : Nat) : AV :=
  match W.get s with
  | some i => cond (Nat.blt s nt && ancB l y i) (At X i) (At T0 s)
  | none => At T0 s
/-- What lies in slot s, where just 'C' is done. -/
def valS (W : Tr Nat) (nt : Nat) (X T0 : Tr AV) (C : Nat → Prop) [DecidablePred C] (s : Nat) : AV :=
  match W.get s with
  | some i => if s < nt ∧ C i then At X i else At T0 s
  | none => At T0 s
def Sees (l : List Oper) (o : Oper) (s : Nat) : Prop := s ∈ slotsOf o ∨ s ∈ guardSlot (dstIn l) o

section
variable {l : List Oper} {W : Tr Nat} (sc : Sc l W) {nt : Nat} {X T0 : Tr AV}
include sc
/-- Where all that y waits for is done, and y is not, it sees what lies there. -/
theorem envS_val {C : Nat → Prop} [DecidablePred C] (hC : ∀ y p, C y → Pred l y p → C p) {y s : Nat} {o : Oper} (ho : l[y]? = some o) (hs : Sees l o s) (hy : ¬ C y) (hp : ∀ p, Pred l y p → C p) :
    envS l W nt X T0 y s = valS W nt X T0 C s := by
  unfold envS valS
  cases hw : W.get s with
  | none => rfl
  | some i =>
    simp only
    have hlt : ∀ a b, ancB l a b = true → b < a := fun a b h => ancB_lt sc.below a b h
    by_cases hn : s < nt
    · have hb : Nat.blt s nt = true := by rw [Nat.blt_eq]; exact hn
      simp only [hb, Bool.true_and, hn, true_and]
      rcases sc.slot ho hs hw with rfl | h | h
      · have : ancB l i i = false := by
          cases h : ancB l i i with
          | false => rfl
          | true => exact absurd (hlt _ _ h) (Nat.lt_irrefl _)
        rw [this, if_neg hy]; rfl
      · have := anc_closed sc.below hC y i hp h
        rw [h, if_pos this]; rfl
      · have hni : ¬ C i := fun hi => hy (anc_closed sc.below hC i y (fun p hpp => hC i p hi hpp) h)
        have : ancB l y i = false := by
          cases h' : ancB l y i with
          | false => rfl
          | true => exact absurd (hlt _ _ h') (Nat.lt_asymm (hlt _ _ h))
        rw [this, if_neg hni]; rfl
    · have hb : Nat.blt s nt = false := by
        cases h : Nat.blt s nt with
        | false => rfl
        | true => rw [Nat.blt_eq] at h; exact absurd h hn
      simp [hb, hn]
end

/-- An operation that the small machine has done and the model has not. -/
def Pend (P : Program) (ρ : Env) (H : Tr AB) (lo hi : Nat) (live : Bool) (l : List Oper) (W : Tr Nat) (nt : Nat) (X T0 : Tr AV) (lds : List (Nat × TypeId × AV × AV)) (G : Nat → Option Nat) (y : Nat) : Prop :=
  ∃ o Ty, l[y]? = some o ∧ (∀ s, Sees l o s → At Ty s = envS l W nt X T0 y s) ∧
    ((wantedA Ty (dstIn l) o = false ∧ At X y = .v undef) ∨
     (wantedA Ty (dstIn l) o = true ∧ aopP P Ty o = some (At X y)) ∨
     (wantedA Ty (dstIn l) o = true ∧ ∃ t p, rdOf Ty o = some (t, p) ∧ (live = true → readA P t p H = some (At X y)) ∧ (y, t, p, At X y) ∈ lds) ∨
     (wantedA Ty (dstIn l) o = true ∧ ∃ e c k g, aopN P Ty o = some (e, c, k) ∧ At X y = k.av g ∧ G y = some g ∧ H.get g = some (.mem e none c) ∧ ρ g = none ∧ lo ≤ g ∧ g < hi))

structure DrR (P : Program) (ρ : Env) (H : Tr AB) (lo hi : Nat) (live : Bool) (nt : Nat) (T : Tr AV) (l : List Oper) (D : Nat) (X T0 : Tr AV) (lds : List (Nat × TypeId × AV × AV)) (W : Tr Nat) (C : Nat → Prop) (G : Nat → Option Nat) (rest : List Nat) (ts : Array Value) : Prop where
  sc : Sc l W
  lin : Lin l C rest
  closC : ∀ y p, C y → Pred l y p → C p
  closD : ∀ y p, Nat.testBit D y = true → Pred l y p → Nat.testBit D p = true
  sub : ∀ y, C y → Nat.testBit D y = true
  dlt : ∀ y, Nat.testBit D y = true → y < l.length
  size : ts.size = nt
  T : ∀ s, At T s = valS W nt X T0 (fun i => Nat.testBit D i = true) s
  ts : ∀ [DecidablePred C] s, VR ρ (valS W nt X T0 C s) (ts.getD s undef)
  pend : ∀ y, Nat.testBit D y = true → ¬ C y → Pend P ρ H lo hi live l W nt X T0 lds G y
  ginj : ∀ {y z g}, G y = some g → G z = some g → y = z
  gb : ∀ {y g}, G y = some g → g < hi ∧ Nat.testBit D y = true

theorem Pend.mono {P : Program} {ρ ρ' : Env} {H H' : Tr AB} {lo hi : Nat} {live : Bool} {l : List Oper} {W : Tr Nat} {nt : Nat} {X T0 : Tr AV} {lds lds' : List (Nat × TypeId × AV × AV)} {G : Nat → Option Nat} {y : Nat}
    (h : Pend P ρ H lo hi live l W nt X T0 lds G y) {hi' : Nat} {live' : Bool} (hhi : hi ≤ hi') (hg : ∀ g, G y = some g → lo ≤ g → g < hi → ρ g = none → ρ' g = none ∧ H'.get g = H.get g)
    (hl : ∀ t p x, (y, t, p, x) ∈ lds → (y, t, p, x) ∈ lds' ∧ (live' = true → (live = true → readA P t p H = some x) → readA P t p H' = some x)) : Pend P ρ' H' lo hi' live' l W nt X T0 lds' G y := by
  obtain ⟨o, Ty, ho, hs, h⟩ := h
  refine ⟨o, Ty, ho, hs, ?_⟩
  rcases h with h | h | ⟨h1, t, a, h2, h3, h4⟩ | ⟨h1, e, c, k, g, h2, h3, h4, h5, h6, h7, h8⟩
  · exact .inl h
  · exact .inr (.inl h)
  · exact .inr (.inr (.inl ⟨h1, t, a, h2, fun hlv => (hl _ _ _ h4).2 hlv h3, (hl _ _ _ h4).1⟩))
  · have := hg g h4 h7 h8 h6
    exact .inr (.inr (.inr ⟨h1, e, c, k, g, h2, h3, h4, by rw [this.2]; exact h5, this.1, h7, by omega⟩))

/-- Nothing of this region's turns, elsewhere. -/
theorem DrR.mono {P : Program} {ρ ρ' : Env} {H H' : Tr AB} {lo hi hi' nt D : Nat} {live : Bool} {T X T0 : Tr AV} {l : List Oper} {lds : List (Nat × TypeId × AV × AV)} {W : Tr Nat} {C : Nat → Prop} {G : Nat → Option Nat} {rest : List Nat} {ts : Array Value}
    (h : DrR P ρ H lo hi live nt T l D X T0 lds W C G rest ts) (hle : ρ.le ρ') (hhi : hi ≤ hi') (hg : ∀ g, g < hi → ρ g = none → ρ' g = none ∧ H'.get g = H.get g) : DrR P ρ' H' lo hi' false nt T l D X T0 lds W C G rest ts :=
  { h with
    ts := fun s => (h.ts s).mono hle
    pend := fun y h1 h2 => (h.pend y h1 h2).mono hhi (fun g _ _ hb hn => hg g hb hn) (fun t p x hm => ⟨hm, fun h => by cases h⟩)
    gb := fun hgy => ⟨Nat.lt_of_lt_of_le (h.gb hgy).1 hhi, (h.gb hgy).2⟩ }
/-- The loads still read the same. -/
theorem DrR.live {P : Program} {ρ : Env} {H : Tr AB} {lo hi nt D : Nat} {T X T0 : Tr AV} {l : List Oper} {lds : List (Nat × TypeId × AV × AV)} {W : Tr Nat} {C : Nat → Prop} {G : Nat → Option Nat} {rest : List Nat} {ts : Array Value}
    (h : DrR P ρ H lo hi false nt T l D X T0 lds W C G rest ts) (hl : ldsOk P H lds = true) : DrR P ρ H lo hi true nt T l D X T0 lds W C G rest ts :=
  { h with
    pend := fun y h1 h2 => (h.pend y h1 h2).mono (Nat.le_refl _) (fun g _ _ _ hn => ⟨hn, rfl⟩) (fun t p x hm => ⟨hm, fun _ _ => by
      unfold ldsOk at hl
      rw [List.all_eq_true] at hl
      have := hl _ hm
      simp only at this
      split at this
      · rename_i x' hx; rw [hx, sameA_eq this]
      · cases this⟩) }
theorem DrR.forOp {P : Program} {ρ : Env} {H : Tr AB} {lo hi nt D : Nat} {live : Bool} {T X T0 : Tr AV} {l : List Oper} {lds : List (Nat × TypeId × AV × AV)} {W : Tr Nat} {C : Nat → Prop} {G : Nat → Option Nat} {rest : List Nat} {ts : Array Value}
    (h : DrR P ρ H lo hi live nt T l D X T0 lds W C G rest ts) {x : Nat} (hp : ∀ p, Pred l x p → C p) : DrR P ρ H lo hi live nt T l D X T0 (ldsFor l x lds) W C G rest ts :=
  { h with
    pend := fun y h1 h2 => (h.pend y h1 h2).mono (Nat.le_refl _) (fun g _ _ _ hn => ⟨hn, rfl⟩) (fun t p v hm => ⟨by
      unfold ldsFor
      rw [List.mem_filter]
      refine ⟨hm, ?_⟩
      have : ancB l x y = false := by
        cases hb : ancB l x y with
        | false => rfl
        | true => exact absurd (anc_closed h.sc.below h.closC x y hp hb) h2
      unfold ancB at this
      simp only [this, Bool.not_false], fun hlv hv => hv hlv⟩) }

theorem testBit_put (D y z : Nat) : Nat.testBit (D ||| 2 ^ y) z = (Nat.testBit D z || decide (y = z)) := by
  rw [Nat.testBit_or, Nat.testBit_two_pow]
theorem valS_congr {W : Tr Nat} {nt : Nat} {X X' T0 : Tr AV} {C C' : Nat → Prop} [DecidablePred C] [DecidablePred C'] {s : Nat} (h : ∀ i, W.get s = some i → (C i ↔ C' i) ∧ (C i → At X i = At X' i)) : valS W nt X T0 C s = valS W nt X' T0 C' s := by
  unfold valS
  cases hw : W.get s with
  | none => rfl
  | some i =>
    obtain ⟨h1, h2⟩ := h i hw
    simp only
    by_cases hc : s < nt ∧ C i
    · rw [if_pos hc, if_pos ⟨hc.1, h1.1 hc.2⟩, h2 hc.2]
    · rw [if_neg hc, if_neg (fun h => hc ⟨h.1, h1.2 h.2⟩)]
theorem envS_congr {l : List Oper} {W : Tr Nat} {nt : Nat} {X X' T0 : Tr AV} {y s : Nat} (h : ∀ i, ancB l y i = true → At X i = At X' i) : envS l W nt X T0 y s = envS l W nt X' T0 y s := by
  unfold envS
  cases hw : W.get s with
  | none => rfl
  | some i =>
    simp only
    cases hb : (Nat.blt s nt && ancB l y i) with
    | false => rfl
    | true =>
      simp only [Bool.and_eq_true] at hb
      simp only [cond_true]; exact h i hb.2

section
variable {P : Program} {ρ : Env} {H : Tr AB} {lo hi nt D : Nat} {live : Bool} {T X T0 : Tr AV} {l : List Oper} {lds : List (Nat × TypeId × AV × AV)} {W : Tr Nat} {C : Nat → Prop} {G : Nat → Option Nat} {rest : List Nat} {ts : Array Value}
/-- What an operation that may come up sees. -/
theorem DrR.sees (h : DrR P ρ H lo hi live nt T l D X T0 lds W C G rest ts) {y s : Nat} {o : Oper} (ho : l[y]? = some o) (hs : Sees l o s) (hy : Nat.testBit D y = false) (hp : ∀ p, Pred l y p → Nat.testBit D p = true) : At T s = envS l W nt X T0 y s := by
  rw [h.T s]
  exact (envS_val h.sc (C := fun i => Nat.testBit D i = true) h.closD ho hs (by rw [hy]; simp) hp).symm
theorem DrR.seesC (h : DrR P ρ H lo hi live nt T l D X T0 lds W C G rest ts) {y s : Nat} {o : Oper} (ho : l[y]? = some o) (hs : Sees l o s) (hy : ¬ C y) (hp : ∀ p, Pred l y p → C p) : VR ρ (envS l W nt X T0 y s) (ts.getD s undef) := by
  classical
  rw [envS_val h.sc (C := C) h.closC ho hs hy hp]
  exact h.ts s
/-- The temporaries behind an operation. -/
theorem DrR.putT (h : DrR P ρ H lo hi live nt T l D X T0 lds W C G rest ts) {y : Nat} {o : Oper} (ho : l[y]? = some o) (hy : Nat.testBit D y = false) (x : AV) (s : Nat) :
    At (putT nt T o.dst x) s = valS W nt (tput X y x) T0 (fun i => Nat.testBit (D ||| 2 ^ y) i = true) s := by
  have hX : ∀ i, i ≠ y → At (tput X y x) i = At X i := fun i hi => by rw [At_tput, if_neg hi]
  have hXy : At (tput X y x) y = x := by rw [At_tput, if_pos rfl]
  have hrest : ∀ s, (∀ i, W.get s = some i → i ≠ y) → At T s = valS W nt (tput X y x) T0 (fun i => Nat.testBit (D ||| 2 ^ y) i = true) s := fun s hs => by
    rw [h.T s]
    refine valS_congr fun i hi => ⟨?_, fun _ => (hX i (hs i hi)).symm⟩
    rw [testBit_put]
    have : y ≠ i := fun e => hs i hi e.symm
    simp [this]
  have hno : ∀ s, o.dst ≠ some s → ∀ i, W.get s = some i → i ≠ y := fun s hd i hi e => by
    subst e
    obtain ⟨o', h1, h2⟩ := (h.sc.wr s i).1 hi
    rw [ho] at h1; cases h1
    exact hd h2
  cases hd : o.dst with
  | none => exact hrest s (hno s (by rw [hd]; simp))
  | some d =>
    simp only [Ev.putT]
    cases hb : Nat.blt d nt with
    | true =>
      have hlt : d < nt := by simpa [Nat.blt_eq] using hb
      simp only [cond_true]
      rw [At_tput]
      by_cases e : s = d
      · subst e
        rw [if_pos rfl]
        unfold valS
        rw [(h.sc.wr s y).2 ⟨o, ho, hd⟩]
        simp only
        rw [if_pos ⟨hlt, by rw [testBit_put]; simp⟩, hXy]
      · rw [if_neg e]
        exact hrest s (hno s (by rw [hd]; simpa using fun h => e h.symm))
    | false =>
      have hlt : ¬ d < nt := fun hlt => by
        have : Nat.blt d nt = true := by rw [Nat.blt_eq]; exact hlt
        rw [hb] at this; cases this
      simp only [cond_false]
      by_cases e : s = d
      · subst e
        rw [h.T s]
        unfold valS
        rw [(h.sc.wr s y).2 ⟨o, ho, hd⟩]
        simp only
        rw [if_neg (fun h => hlt h.1), if_neg (fun h => hlt h.1)]
      · exact hrest s (hno s (by rw [hd]; simpa using fun h => e h.symm))
/-- The model's temporaries behind an operation. -/
theorem DrR.putTs (h : DrR P ρ H lo hi live nt T l D X T0 lds W C G rest ts) {ρ' : Env} (hle : ρ.le ρ') {y : Nat} {o : Oper} (ho : l[y]? = some o) (hy : ¬ C y) {X' : Tr AV} {v : Value} (hX : ∀ i, C i → At X' i = At X i) (hv : VR ρ' (At X' y) v) [DecidablePred (fun z => C z ∨ z = y)] (s : Nat) :
    VR ρ' (valS W nt X' T0 (fun z => C z ∨ z = y) s) ((match o.dst with | some d => ts.setIfInBounds d v | none => ts).getD s undef) := by
  classical
  have hrest : ∀ s, (∀ i, W.get s = some i → i ≠ y) → VR ρ' (valS W nt X' T0 (fun z => C z ∨ z = y) s) (ts.getD s undef) := fun s hs => by
    have := (h.ts s).mono hle
    rwa [valS_congr (C := C) (C' := fun z => C z ∨ z = y) (X' := X') (fun i hi => ⟨by simp [hs i hi], fun hc => (hX i hc).symm⟩)] at this
  have hno : ∀ s, o.dst ≠ some s → ∀ i, W.get s = some i → i ≠ y := fun s hd i hi e => by
    subst e
    obtain ⟨o', h1, h2⟩ := (h.sc.wr s i).1 hi
    rw [ho] at h1; cases h1
    exact hd h2
  cases hd : o.dst with
  | none => exact hrest s (hno s (by rw [hd]; simp))
  | some d =>
    simp only
    by_cases hlt : d < nt
    · rw [getD_set _ _ _ _ (by rw [h.size]; exact hlt)]
      by_cases e : s = d
      · subst e
        rw [if_pos rfl]
        unfold valS
        rw [(h.sc.wr s y).2 ⟨o, ho, hd⟩]
        simp only
        rw [if_pos ⟨hlt, by simp⟩]
        exact hv
      · rw [if_neg e]
        exact hrest s (hno s (by rw [hd]; simpa using fun h => e h.symm))
    · have hs : ts.setIfInBounds d v = ts := by simp [Array.setIfInBounds, h.size, hlt]
      rw [hs]
      by_cases e : s = d
      · subst e
        have := (h.ts s).mono hle
        unfold valS at this ⊢
        rw [(h.sc.wr s y).2 ⟨o, ho, hd⟩] at this ⊢
        simp only at this ⊢
        rw [if_neg (fun h => hlt h.1)] at this ⊢
        exact this
      · exact hrest s (hno s (by rw [hd]; simpa using fun h => e h.symm))
end
end Go.Proofs.Ytnkjhicokcmmpaa.Ev
