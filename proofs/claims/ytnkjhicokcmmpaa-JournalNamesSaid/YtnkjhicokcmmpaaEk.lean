/-
  Regions that draw their order: what the small machine's tables say, and in which orders the model may go.
-/
import Derived.Test.YtnkjhicokcmmpaaEj
namespace Go.Proofs.Ytnkjhicokcmmpaa.Ev
open Go Go.RowKit

theorem fold_or {α : Type} (b : α → Bool) (f : α → Nat) : ∀ (l : List α) (m i : Nat), Nat.testBit (l.foldl (fun m e => cond (b e) (m ||| f e) m) m) i = (Nat.testBit m i || l.any fun e => b e && Nat.testBit (f e) i)
  | [], m, i => by simp
  | e :: l, m, i => by
    rw [List.foldl_cons, fold_or b f l]
    cases hb : b e <;> simp [hb, Nat.testBit_or, Bool.or_assoc]

/-- Operation y waits for p. -/
def Pred (l : List Oper) (y p : Nat) : Prop := ∃ o e, l[y]? = some o ∧ e ∈ o.after.toList ∧ Region.binds .any e = true ∧ e.on = p
def Below' (l : List Oper) : Prop := ∀ y o, l[y]? = some o → edgesBelow o y = true
theorem pred_lt {l : List Oper} (hE : Below' l) {y p : Nat} (h : Pred l y p) : p < y := by
  obtain ⟨o, e, ho, he, hb, rfl⟩ := h
  have := hE y o ho
  unfold edgesBelow at this
  rw [List.all_eq_true] at this
  have := this e he
  rw [hb] at this
  simpa [Nat.blt_eq] using this
theorem predMask_bit {l : List Oper} {y i : Nat} {o : Oper} (ho : l[y]? = some o) : Nat.testBit (predMask o) i = true ↔ Pred l y i := by
  unfold predMask
  rw [fold_or]
  simp only [Nat.zero_testBit, Bool.false_or, List.any_eq_true, Bool.and_eq_true, Nat.testBit_two_pow, decide_eq_true_eq]
  constructor
  · rintro ⟨e, he, hb, hi⟩; exact ⟨o, e, ho, he, hb, hi⟩
  · rintro ⟨o', e, ho', he, hb, hi⟩
    rw [ho] at ho'; cases ho'
    exact ⟨e, he, hb, hi⟩

theorem ancL_old : ∀ (l : List Oper) (k : Nat) (an : Tr Nat) (j : Nat), j < k ∨ k + l.length ≤ j → (ancL l k an).get j = an.get j
  | [], _, _, _, _ => rfl
  | o :: l, k, an, j, h => by
    unfold ancL
    rw [ancL_old l (k + 1) _ j (by simp at h; omega), get_tput, if_neg (by simp at h; omega)]
theorem ancOf_congr {an an' : Tr Nat} {o : Oper} (h : ∀ e ∈ o.after.toList, Region.binds .any e = true → an.get e.on = an'.get e.on) : ancOf an o = ancOf an' o := by
  have key : ∀ (L : List Edge) (m : Nat), (∀ e ∈ L, Region.binds .any e = true → an.get e.on = an'.get e.on) →
      L.foldl (fun m e => cond (Region.binds .any e) (m ||| (2 ^ e.on ||| (match an.get e.on with | some k => k | none => 0))) m) m = L.foldl (fun m e => cond (Region.binds .any e) (m ||| (2 ^ e.on ||| (match an'.get e.on with | some k => k | none => 0))) m) m := by
    intro L
    induction L with
    | nil => intro m _; rfl
    | cons e L ih =>
      intro m h
      simp only [List.foldl_cons]
      cases hb : Region.binds .any e with
      | false => simp only [cond_false]; exact ih _ (fun e' he' => h e' (by simp [he']))
      | true =>
        simp only [cond_true]
        rw [h e (by simp) hb]
        exact ih _ (fun e' he' => h e' (by simp [he']))
  exact key _ 0 h
theorem ancL_new : ∀ (l : List Oper) (k : Nat) (an : Tr Nat) (y : Nat) (o : Oper), l[y]? = some o → (∀ j o', l[j]? = some o' → edgesBelow o' (k + j) = true) → (ancL l k an).get (k + y) = some (ancOf (ancL l k an) o)
  | [], _, _, y, o, h, _ => by simp at h
  | o :: l, k, an, y, o', h, hE => by
    cases y with
    | zero =>
      simp at h; subst h
      unfold ancL
      show (ancL l (k + 1) (tput an k (ancOf an o))).get k = _
      rw [ancL_old l (k + 1) _ k (by omega), get_tput, if_pos rfl]
      congr 1
      refine ancOf_congr fun e he hb => ?_
      have := hE 0 o rfl
      unfold edgesBelow at this
      rw [List.all_eq_true] at this
      have := this e he
      rw [hb] at this
      have hlt : e.on < k := by simpa [Nat.blt_eq] using this
      rw [ancL_old l (k + 1) _ _ (by omega), get_tput, if_neg (by omega)]
    | succ y =>
      unfold ancL
      have := ancL_new l (k + 1) (tput an k (ancOf an o)) y o' (by simpa using h) (fun j o'' hj => by
        have := hE (j + 1) o'' (by simpa using hj)
        rwa [show k + (j + 1) = k + 1 + j by omega] at this)
      rwa [show k + (y + 1) = k + 1 + y by omega]
def ancB (l : List Oper) (y i : Nat) : Bool := anBit (ancL l 0 .e) y i
theorem ancB_spec {l : List Oper} (hE : Below' l) {y i : Nat} (h : ancB l y i = true) : ∃ p, Pred l y p ∧ (i = p ∨ ancB l p i = true) := by
  unfold ancB anBit at h
  cases ho : l[y]? with
  | none =>
    have hy : l.length ≤ y := by simpa using ho
    rw [ancL_old l 0 .e y (by omega)] at h
    simp [Tr.get] at h
  | some o =>
    have := ancL_new l 0 .e y o ho (fun j o' hj => by simpa using hE j o' hj)
    rw [Nat.zero_add] at this
    rw [this] at h
    simp only at h
    unfold ancOf at h
    rw [fold_or] at h
    simp only [Nat.zero_testBit, Bool.false_or, List.any_eq_true, Bool.and_eq_true, Nat.testBit_or, Nat.testBit_two_pow, Bool.or_eq_true, decide_eq_true_eq] at h
    obtain ⟨e, he, hb, hi⟩ := h
    refine ⟨e.on, ⟨o, e, ho, he, hb, rfl⟩, ?_⟩
    rcases hi with hi | hi
    · exact .inl hi.symm
    · exact .inr hi
theorem anc_closed {l : List Oper} (hE : Below' l) {C : Nat → Prop} (hC : ∀ y p, C y → Pred l y p → C p) : ∀ (y i : Nat), (∀ p, Pred l y p → C p) → ancB l y i = true → C i := by
  intro y
  induction y using Nat.strongRecOn with
  | ind y ih =>
    intro i hp h
    obtain ⟨p, h1, h2⟩ := ancB_spec hE h
    rcases h2 with rfl | h2
    · exact hp _ h1
    · exact ih p (pred_lt hE h1) i (fun q hq => hC p q (hp _ h1) hq) h2
theorem ancB_lt {l : List Oper} (hE : Below' l) : ∀ (y i : Nat), ancB l y i = true → i < y := by
  intro y i h
  exact anc_closed hE (C := fun z => z < y) (fun a p ha hp => Nat.lt_trans (pred_lt hE hp) ha) y i (fun p hp => pred_lt hE hp) h

theorem writersL_spec : ∀ (l : List Oper) (k : Nat) (W0 W : Tr Nat), writersL l k W0 = some W → ∀ d y, W.get d = some y ↔ W0.get d = some y ∨ ∃ j o, l[j]? = some o ∧ y = k + j ∧ o.dst = some d
  | [], k, W0, W, h, d, y => by simp [writersL] at h; subst h; simp
  | o :: l, k, W0, W, h, d, y => by
    unfold writersL at h
    cases hd : o.dst with
    | none =>
      rw [hd] at h
      rw [writersL_spec l (k + 1) W0 W h d y]
      constructor
      · rintro (h1 | ⟨j, o', h1, h2, h3⟩)
        · exact .inl h1
        · exact .inr ⟨j + 1, o', by simpa using h1, by omega, h3⟩
      · rintro (h1 | ⟨j, o', h1, h2, h3⟩)
        · exact .inl h1
        · cases j with
          | zero => simp at h1; subst h1; rw [hd] at h3; cases h3
          | succ j => exact .inr ⟨j, o', by simpa using h1, by omega, h3⟩
    | some d' =>
      rw [hd] at h
      simp only at h
      cases hw : W0.get d' with
      | some x => simp [hw] at h
      | none =>
        simp only [hw] at h
        rw [writersL_spec l (k + 1) _ W h d y, get_tput]
        constructor
        · rintro (h1 | ⟨j, o', h1, h2, h3⟩)
          · split at h1
            · rename_i e; cases h1; exact .inr ⟨0, o, rfl, rfl, by rw [hd, e]⟩
            · exact .inl h1
          · exact .inr ⟨j + 1, o', by simpa using h1, by omega, h3⟩
        · rintro (h1 | ⟨j, o', h1, h2, h3⟩)
          · left
            rw [if_neg (fun e => by subst e; rw [hw] at h1; cases h1)]
            exact h1
          · cases j with
            | zero =>
              simp at h1; subst h1
              rw [hd] at h3; cases h3
              left; rw [if_pos rfl]; simp [h2]
            | succ j => exact .inr ⟨j, o', by simpa using h1, by omega, h3⟩

/-- What is checked of a region's text. -/
structure Sc (l : List Oper) (W : Tr Nat) : Prop where
  below : Below' l
  plain : ∀ {y : Nat} {o : Oper}, l[y]? = some o → plainOp o = true
  wr : ∀ d y, W.get d = some y ↔ ∃ o, l[y]? = some o ∧ o.dst = some d
  slot : ∀ {y s i : Nat} {o : Oper}, l[y]? = some o → (s ∈ slotsOf o ∨ s ∈ guardSlot (dstIn l) o) → W.get s = some i → i = y ∨ ancB l y i = true ∨ ancB l i y = true
theorem scL_spec (all : List Oper) (an W : Tr Nat) : ∀ (l : List Oper) (k : Nat), scL all an W l k = true → ∀ y o, l[y]? = some o → edgesBelow o (k + y) = true ∧ plainOp o = true ∧ (∀ s, (s ∈ slotsOf o ∨ s ∈ guardSlot (dstIn all) o) → slotOk an W (k + y) s = true)
  | [], _, _, y, o, h => by simp at h
  | o :: l, k, h, y, o', ho => by
    simp only [scL, Bool.and_eq_true, List.all_eq_true] at h
    obtain ⟨⟨⟨⟨h1, h2⟩, h3⟩, h4⟩, h5⟩ := h
    cases y with
    | zero =>
      simp at ho; subst ho
      exact ⟨h1, h2, fun s hs => hs.elim (h3 s) (h4 s)⟩
    | succ y =>
      have := scL_spec all an W l (k + 1) h5 y o' (by simpa using ho)
      rwa [show k + (y + 1) = k + 1 + y by omega]
theorem scOk_spec {l : List Oper} (h : scOk l = true) : ∃ W, Sc l W := by
  unfold scOk at h
  cases hw : writersL l 0 .e with
  | none => simp [hw] at h
  | some W =>
    simp only [hw] at h
    have hs := scL_spec l _ W l 0 h
    refine ⟨W, fun y o ho => by simpa using (hs y o ho).1, fun ho => (hs _ _ ho).2.1, fun d y => ?_, fun {y s i o} ho hs' hi => ?_⟩
    · rw [writersL_spec l 0 .e W hw d y]
      constructor
      · rintro (h1 | ⟨j, o, h1, h2, h3⟩)
        · simp [Tr.get] at h1
        · rw [Nat.zero_add] at h2; subst h2; exact ⟨o, h1, h3⟩
      · rintro ⟨o, h1, h2⟩; exact .inr ⟨y, o, h1, by simp, h2⟩
    · have := (hs y o ho).2.2 s hs'
      rw [Nat.zero_add] at this
      unfold slotOk at this
      rw [hi] at this
      simp only [Bool.or_eq_true, Nat.beq_eq] at this
      rcases this with (h1 | h1) | h1
      · exact .inl h1
      · exact .inr (.inl h1)
      · exact .inr (.inr h1)

theorem readyL_spec (all : List Oper) (D : Nat) : ∀ (l : List Oper) (k : Nat), (∀ j, l[j]? = all[k + j]?) → ∀ y o, (y, o) ∈ readyL D l k ↔ k ≤ y ∧ all[y]? = some o ∧ y < k + l.length ∧ Nat.testBit D y = false ∧ ∀ p, Pred all y p → Nat.testBit D p = true
  | [], k, _, y, o => by simp [readyL]; omega
  | o :: l, k, h, y, o' => by
    have h0 : all[k]? = some o := by simpa using (h 0).symm
    have ih := readyL_spec all D l (k + 1) (fun j => by have := h (j + 1); simpa [Nat.add_assoc, Nat.add_comm 1 j] using this) y o'
    have hm : (Nat.beq (predMask o &&& D) (predMask o) = true) ↔ ∀ p, Pred all k p → Nat.testBit D p = true := by
      rw [Nat.beq_eq]
      constructor
      · intro he p hp
        have := (predMask_bit h0).2 hp
        rw [← he, Nat.testBit_and, Bool.and_eq_true] at this
        exact this.2
      · intro hp
        refine Nat.eq_of_testBit_eq fun i => ?_
        rw [Nat.testBit_and]
        cases hb : Nat.testBit (predMask o) i with
        | false => rfl
        | true => rw [hp i ((predMask_bit h0).1 hb)]; rfl
    have key : ∀ (b : Prop), ((y, o') ∈ readyL D l (k + 1) ∨ (b ∧ y = k ∧ o' = o)) ↔ ((k + 1 ≤ y ∧ all[y]? = some o' ∧ y < k + 1 + l.length ∧ Nat.testBit D y = false ∧ ∀ p, Pred all y p → Nat.testBit D p = true) ∨ (b ∧ y = k ∧ o' = o)) := fun b => by rw [ih]
    have hlen : k + (o :: l).length = k + 1 + l.length := by simp; omega
    unfold readyL
    cases hd : Nat.testBit D k with
    | true =>
      simp only [cond_true]
      rw [ih, hlen]
      constructor
      · rintro ⟨h1, h2⟩; exact ⟨by omega, h2⟩
      · rintro ⟨h1, h2, h3, h4, h5⟩
        have : y ≠ k := fun e => by subst e; rw [hd] at h4; cases h4
        exact ⟨by omega, h2, h3, h4, h5⟩
    | false =>
      simp only [cond_false]
      cases hb : Nat.beq (predMask o &&& D) (predMask o) with
      | true =>
        simp only [cond_true, List.mem_cons, Prod.mk.injEq]
        rw [ih, hlen]
        constructor
        · rintro (⟨rfl, rfl⟩ | ⟨h1, h2⟩)
          · exact ⟨Nat.le_refl _, h0, by omega, hd, hm.1 hb⟩
          · exact ⟨by omega, h2⟩
        · rintro ⟨h1, h2, h3, h4, h5⟩
          by_cases e : y = k
          · subst e; rw [h0] at h2; cases h2; exact .inl ⟨rfl, rfl⟩
          · exact .inr ⟨by omega, h2, h3, h4, h5⟩
      | false =>
        simp only [cond_false]
        rw [ih, hlen]
        constructor
        · rintro ⟨h1, h2⟩; exact ⟨by omega, h2⟩
        · rintro ⟨h1, h2, h3, h4, h5⟩
          have : y ≠ k := fun e => by
            subst e
            have := hm.2 h5
            rw [hb] at this; cases this
          exact ⟨by omega, h2, h3, h4, h5⟩
theorem mem_ready' {all : List Oper} {D y : Nat} {o : Oper} : (y, o) ∈ readyL D all 0 ↔ all[y]? = some o ∧ Nat.testBit D y = false ∧ ∀ p, Pred all y p → Nat.testBit D p = true := by
  rw [readyL_spec all D all 0 (fun j => by simp) y o]
  constructor
  · rintro ⟨_, h1, _, h2⟩; exact ⟨h1, h2⟩
  · rintro ⟨h1, h2⟩
    have := (List.getElem?_eq_some_iff.1 h1).1
    exact ⟨Nat.zero_le _, h1, by omega, h2⟩

/-- An order that the model may go in, from where C is done. -/
inductive Lin (l : List Oper) : (Nat → Prop) → List Nat → Prop
  | nil {C : Nat → Prop} (h : ∀ y, y < l.length → C y) : Lin l C []
  | cons {C : Nat → Prop} {y : Nat} {r : List Nat} (hy : y < l.length) (hn : ¬ C y) (hp : ∀ p, Pred l y p → C p) (t : Lin l (fun z => C z ∨ z = y) r) : Lin l C (y :: r)
theorem Lin.congr {l : List Oper} {C C' : Nat → Prop} {r : List Nat} (h : Lin l C r) (hc : ∀ z, C z ↔ C' z) : Lin l C' r := by
  have : C = C' := funext fun z => propext (hc z)
  exact this ▸ h
theorem lin_go {ops : Array Oper} (hE : Below' ops.toList) : ∀ (fuel t : Nat) (listed : Array Bool), listed.size = ops.size → listed.toList.count false ≤ fuel →
    Lin ops.toList (fun z => listed.getD z false = true) (Region.linearise.go .any ops fuel t listed []) := by
  have hready : ∀ (listed : Array Bool), listed.size = ops.size → ∀ i, i ∈ ((List.range ops.size).filter fun i => !listed.getD i true && ((ops[i]?).map (·.after.all fun e => !Region.binds .any e || listed.getD e.on false)).getD false) ↔ (i < ops.size ∧ listed.getD i false = false ∧ ∀ p, Pred ops.toList i p → listed.getD p false = true) := by
    intro listed hsz i
    rw [List.mem_filter, List.mem_range, Bool.and_eq_true]
    constructor
    · rintro ⟨h1, h2, h3⟩
      refine ⟨h1, ?_, ?_⟩
      · have : i < listed.size := by omega
        simp [Array.getD, this] at h2 ⊢; exact h2
      · rintro p ⟨o, e, ho, he, hb, rfl⟩
        rw [Array.getElem?_toList] at ho
        rw [ho] at h3
        simp only [Option.map_some, Option.getD_some] at h3
        rw [Array.all_eq_true_iff_forall_mem] at h3
        have := h3 e (by simpa using he)
        rw [hb] at this
        simpa using this
    · rintro ⟨h1, h2, h3⟩
      refine ⟨h1, ?_, ?_⟩
      · have : i < listed.size := by omega
        simp [Array.getD, this] at h2 ⊢; exact h2
      · have ho : ops[i]? = some ops[i] := Array.getElem?_eq_getElem h1
        rw [ho]
        simp only [Option.map_some, Option.getD_some]
        rw [Array.all_eq_true_iff_forall_mem]
        intro e he
        cases hb : Region.binds .any e with
        | false => rfl
        | true =>
          have := h3 e.on ⟨ops[i], e, by rw [Array.getElem?_toList]; exact ho, by simpa using he, hb, rfl⟩
          simp [this]
  have hall : ∀ (listed : Array Bool), listed.size = ops.size → (∀ i, ¬ (i < ops.size ∧ listed.getD i false = false ∧ ∀ p, Pred ops.toList i p → listed.getD p false = true)) → ∀ y, y < ops.toList.length → listed.getD y false = true := by
    intro listed hsz h y
    induction y using Nat.strongRecOn with
    | ind y ih =>
      intro hy
      cases hb : listed.getD y false with
      | true => rfl
      | false =>
        exfalso
        refine h y ⟨by simpa using hy, hb, fun p hp => ih p (pred_lt hE hp) (Nat.lt_trans (pred_lt hE hp) hy)⟩
  intro fuel
  induction fuel with
  | zero =>
    intro t listed hsz hc
    simp only [Region.linearise.go, List.reverse_nil]
    refine .nil fun y hy => ?_
    have hc0 : listed.toList.count false = 0 := by omega
    rw [List.count_eq_zero] at hc0
    have hlt : y < listed.size := by rw [hsz]; simpa using hy
    have : listed[y] ∈ listed.toList := by simp
    cases hb : listed[y] with
    | true => simp [Array.getD, hlt, hb]
    | false => rw [hb] at this; exact absurd this hc0
  | succ fuel ih =>
    intro t listed hsz hc
    simp only [Region.linearise.go]
    split
    · rename_i i hi
      have hmem := (hready listed hsz i).1 (List.mem_of_getElem? hi)
      obtain ⟨h1, h2, h3⟩ := hmem
      have hlt : i < listed.size := by omega
      have hfalse : listed[i] = false := by simpa [Array.getD, hlt] using h2
      rw [linearise_go_acc, List.reverse_singleton, List.singleton_append]
      refine .cons (by simpa using h1) (by rw [h2]; simp) h3 ?_
      refine (ih _ (listed.setIfInBounds i true) (by simpa using hsz) ?_).congr ?_
      · rw [Array.toList_setIfInBounds, List.count_set (by simpa using hlt)]
        have : listed.toList[i]'(by simpa using hlt) = false := by simpa using hfalse
        have e1 : (if (false == false) = true then (1 : Nat) else 0) = 1 := rfl
        have e2 : (if (true == false) = true then (1 : Nat) else 0) = 0 := rfl
        rw [this, e1, e2]
        omega
      · intro z
        by_cases e : z = i
        · subst e; simp [Array.getD, hlt]
        · have he : ¬ i = z := fun h => e h.symm
          have : (listed.setIfInBounds i true).getD z false = listed.getD z false := by
            rw [Array.getD_eq_getD_getElem?, Array.getD_eq_getD_getElem?, Array.getElem?_setIfInBounds_ne he]
          rw [this]
          simp [e]
    · rename_i hnone
      rw [List.reverse_nil]
      refine .nil (hall listed hsz ?_)
      intro i hi
      have hmem := (hready listed hsz i).2 hi
      have hpos : 0 < ((List.range ops.size).filter fun i => !listed.getD i true && ((ops[i]?).map (·.after.all fun e => !Region.binds .any e || listed.getD e.on false)).getD false).length := List.length_pos_of_mem hmem
      have := List.getElem?_eq_none_iff.1 hnone
      exact absurd (Nat.mod_lt t hpos) (by omega)
theorem lin_schedule {ops : Array Oper} (hE : Below' ops.toList) (t : Nat) : Lin ops.toList (fun _ => False) (Region.schedule true ops t) := by
  unfold Region.schedule Region.linearise
  simp only [Bool.true_or, if_true]
  refine (lin_go hE ops.size t (Array.replicate ops.size false) (by simp) ?_).congr ?_
  · simp
  · intro z
    simp [Array.getD]
end Go.Proofs.Ytnkjhicokcmmpaa.Ev
