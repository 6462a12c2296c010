/-
  Texts of this claim, laid together: Sk, Sl, Sm, Sn, So, Sp, Sq, Sr, Ss, Ta, Tb, Tc, Td, Ti, Tj, Tk.
-/
import Derived.Test.YtnfdknnbaebagaaQa
import Derived.RangeFuncRecord
import Derived.Laws.IdiomStrings
import Derived.Laws.MakeOwn
import Derived.Laws.IdiomCopy

namespace Go.Proofs.Ytnfdknnbaebagaa.Sm
open Go Go.RowKit
theorem fold_or {α : Type} (b : α → Bool) (f : α → Nat) : ∀ (l : List α) (m i : Nat), Nat.testBit (l.foldl (fun m e => cond (b e) (m ||| f e) m) m) i = (Nat.testBit m i || l.any fun e => b e && Nat.testBit (f e) i)
 | [], m, i => by simp
 | e :: l, m, i => by
   rw [List.foldl_cons, fold_or b f l]
   cases hb : b e <;> simp [hb, Nat.testBit_or, Bool.or_assoc]
def Pred (l : List Oper) (y p : Nat) : Prop := ∃ o e, l[y]? = some o ∧ e ∈ o.after.toList ∧ Region.binds .any e = true ∧ e.on = p
def Below' (l : List Oper) : Prop := ∀ y o, l[y]? = some o → edgesBelow o y = true
theorem pred_lt {l : List Oper} (hE : Below' l) {y p : Nat} (h : Pred l y p) : p < y := by
 obtain ⟨o, e, ho, he, hb, rfl⟩ := h
 have := hE y o ho
 unfold edgesBelow at this
 rw [List.all_eq_true] at this
 have := this e he
 rw [hb] at this
 simpa [Nat.blt_eq] using this
theorem predMask_bit {l : List Oper} {y i : Nat} {o : Oper} (ho : l[y]? = some o) : Nat.testBit (predMask o) i = true ↔ Pred l y i := by
 unfold predMask
 rw [fold_or]
 simp only [Nat.zero_testBit, Bool.false_or, List.any_eq_true, Bool.and_eq_true, Nat.testBit_two_pow, decide_eq_true_eq]
 constructor
 · rintro ⟨e, he, hb, hi⟩; exact ⟨o, e, ho, he, hb, hi⟩
 · rintro ⟨o', e, ho', he, hb, hi⟩
   rw [ho] at ho'; cases ho'
   exact ⟨e, he, hb, hi⟩
theorem ancL_old : ∀ (l : List Oper) (k : Nat) (an : Tr Nat) (j : Nat), j < k ∨ k + l.length ≤ j → (ancL l k an).get j = an.get j
 | [], _, _, _, _ => rfl
 | o :: l, k, an, j, h => by
   unfold ancL
   rw [ancL_old l (k + 1) _ j (by simp at h; omega), get_tput, if_neg (by simp at h; omega)]
theorem ancOf_congr {an an' : Tr Nat} {o : Oper} (h : ∀ e ∈ o.after.toList, Region.binds .any e = true → an.get e.on = an'.get e.on) : ancOf an o = ancOf an' o := by
 have key : ∀ (L : List Edge) (m : Nat), (∀ e ∈ L, Region.binds .any e = true → an.get e.on = an'.get e.on) →
     L.foldl (fun m e => cond (Region.binds .any e) (m ||| (2 ^ e.on ||| (match an.get e.on with | some k => k | none => 0))) m) m = L.foldl (fun m e => cond (Region.binds .any e) (m ||| (2 ^ e.on ||| (match an'.get e.on with | some k => k | none => 0))) m) m := by
   intro L
   induction L with
   | nil => intro m _; rfl
   | cons e L ih =>
     intro m h
     simp only [List.foldl_cons]
     cases hb : Region.binds .any e with
     | false => simp only [cond_false]; exact ih _ (fun e' he' => h e' (by simp [he']))
     | true =>
       simp only [cond_true]
       rw [h e (by simp) hb]
       exact ih _ (fun e' he' => h e' (by simp [he']))
 exact key _ 0 h
theorem ancL_new : ∀ (l : List Oper) (k : Nat) (an : Tr Nat) (y : Nat) (o : Oper), l[y]? = some o → (∀ j o', l[j]? = some o' → edgesBelow o' (k + j) = true) → (ancL l k an).get (k + y) = some (ancOf (ancL l k an) o)
 | [], _, _, y, o, h, _ => by simp at h
 | o :: l, k, an, y, o', h, hE => by
   cases y with
   | zero =>
     simp at h; subst h
     unfold ancL
     show (ancL l (k + 1) (tput an k (ancOf an o))).get k = _
     rw [ancL_old l (k + 1) _ k (by omega), get_tput, if_pos rfl]
     congr 1
     refine ancOf_congr fun e he hb => ?_
     have := hE 0 o rfl
     unfold edgesBelow at this
     rw [List.all_eq_true] at this
     have := this e he
     rw [hb] at this
     have hlt : e.on < k := by simpa [Nat.blt_eq] using this
     rw [ancL_old l (k + 1) _ _ (by omega), get_tput, if_neg (by omega)]
   | succ y =>
     unfold ancL
     have := ancL_new l (k + 1) (tput an k (ancOf an o)) y o' (by simpa using h) (fun j o'' hj => by
       have := hE (j + 1) o'' (by simpa using hj)
       rwa [show k + (j + 1) = k + 1 + j by omega] at this)
     rwa [show k + (y + 1) = k + 1 + y by omega]
def ancB (l : List Oper) (y i : Nat) : Bool := anBit (ancL l 0 .e) y i
theorem ancB_spec {l : List Oper} (hE : Below' l) {y i : Nat} (h : ancB l y i = true) : ∃ p, Pred l y p ∧ (i = p ∨ ancB l p i = true) := by
 unfold ancB anBit at h
 cases ho : l[y]? with
 | none =>
   have hy : l.length ≤ y := by simpa using ho
   rw [ancL_old l 0 .e y (by omega)] at h
   simp [Tr.get] at h
 | some o =>
   have := ancL_new l 0 .e y o ho (fun j o' hj => by simpa using hE j o' hj)
   rw [Nat.zero_add] at this
   rw [this] at h
   simp only at h
   unfold ancOf at h
   rw [fold_or] at h
   simp only [Nat.zero_testBit, Bool.false_or, List.any_eq_true, Bool.and_eq_true, Nat.testBit_or, Nat.testBit_two_pow, Bool.or_eq_true, decide_eq_true_eq] at h
   obtain ⟨e, he, hb, hi⟩ := h
   refine ⟨e.on, ⟨o, e, ho, he, hb, rfl⟩, ?_⟩
   rcases hi with hi | hi
   · exact .inl hi.symm
   · exact .inr hi
theorem anc_closed {l : List Oper} (hE : Below' l) {C : Nat → Prop} (hC : ∀ y p, C y → Pred l y p → C p) : ∀ (y i : Nat), (∀ p, Pred l y p → C p) → ancB l y i = true → C i := by
 intro y
 induction y using Nat.strongRecOn with
 | ind y ih =>
   intro i hp h
   obtain ⟨p, h1, h2⟩ := ancB_spec hE h
   rcases h2 with rfl | h2
   · exact hp _ h1
   · exact ih p (pred_lt hE h1) i (fun q hq => hC p q (hp _ h1) hq) h2
theorem ancB_lt {l : List Oper} (hE : Below' l) : ∀ (y i : Nat), ancB l y i = true → i < y := by
 intro y i h
 exact anc_closed hE (C := fun z => z < y) (fun a p ha hp => Nat.lt_trans (pred_lt hE hp) ha) y i (fun p hp => pred_lt hE hp) h
theorem writersL_spec : ∀ (l : List Oper) (k : Nat) (W0 W : Tr Nat), writersL l k W0 = some W → ∀ d y, W.get d = some y ↔ W0.get d = some y ∨ ∃ j o, l[j]? = some o ∧ y = k + j ∧ o.dst = some d
 | [], k, W0, W, h, d, y => by simp [writersL] at h; subst h; simp
 | o :: l, k, W0, W, h, d, y => by
   unfold writersL at h
   cases hd : o.dst with
   | none =>
     rw [hd] at h
     rw [writersL_spec l (k + 1) W0 W h d y]
     constructor
     · rintro (h1 | ⟨j, o', h1, h2, h3⟩)
       · exact .inl h1
       · exact .inr ⟨j + 1, o', by simpa using h1, by omega, h3⟩
     · rintro (h1 | ⟨j, o', h1, h2, h3⟩)
       · exact .inl h1
       · cases j with
         | zero => simp at h1; subst h1; rw [hd] at h3; cases h3
         | succ j => exact .inr ⟨j, o', by simpa using h1, by omega, h3⟩
   | some d' =>
     rw [hd] at h
     simp only at h
     cases hw : W0.get d' with
     | some x => simp [hw] at h
     | none =>
       simp only [hw] at h
       rw [writersL_spec l (k + 1) _ W h d y, get_tput]
       constructor
       · rintro (h1 | ⟨j, o', h1, h2, h3⟩)
         · split at h1
           · rename_i e; cases h1; exact .inr ⟨0, o, rfl, rfl, by rw [hd, e]⟩
           · exact .inl h1
         · exact .inr ⟨j + 1, o', by simpa using h1, by omega, h3⟩
       · rintro (h1 | ⟨j, o', h1, h2, h3⟩)
         · left
           rw [if_neg (fun e => by subst e; rw [hw] at h1; cases h1)]
           exact h1
         · cases j with
           | zero =>
             simp at h1; subst h1
             rw [hd] at h3; cases h3
             left; rw [if_pos rfl]; simp [h2]
           | succ j => exact .inr ⟨j, o', by simpa using h1, by omega, h3⟩
structure Sc (l : List Oper) (W : Tr Nat) : Prop where
 below : Below' l
 plain : ∀ {y : Nat} {o : Oper}, l[y]? = some o → plainOp o = true
 wr : ∀ d y, W.get d = some y ↔ ∃ o, l[y]? = some o ∧ o.dst = some d
 slot : ∀ {y s i : Nat} {o : Oper}, l[y]? = some o → (s ∈ slotsOf o ∨ s ∈ guardSlot (dstIn l) o) → W.get s = some i → i = y ∨ ancB l y i = true ∨ ancB l i y = true
theorem scL_spec (all : List Oper) (an W : Tr Nat) : ∀ (l : List Oper) (k : Nat), scL all an W l k = true → ∀ y o, l[y]? = some o → edgesBelow o (k + y) = true ∧ plainOp o = true ∧ (∀ s, (s ∈ slotsOf o ∨ s ∈ guardSlot (dstIn all) o) → slotOk an W (k + y) s = true)
 | [], _, _, y, o, h => by simp at h
 | o :: l, k, h, y, o', ho => by
   simp only [scL, Bool.and_eq_true, List.all_eq_true] at h
   obtain ⟨⟨⟨⟨h1, h2⟩, h3⟩, h4⟩, h5⟩ := h
   cases y with
   | zero =>
     simp at ho; subst ho
     exact ⟨h1, h2, fun s hs => hs.elim (h3 s) (h4 s)⟩
   | succ y =>
     have := scL_spec all an W l (k + 1) h5 y o' (by simpa using ho)
     rwa [show k + (y + 1) = k + 1 + y by omega]
theorem scOk_spec {l : List Oper} (h : scOk l = true) : ∃ W, Sc l W := by
 unfold scOk at h
 cases hw : writersL l 0 .e with
 | none => simp [hw] at h
 | some W =>
   simp only [hw] at h
   have hs := scL_spec l _ W l 0 h
   refine ⟨W, fun y o ho => by simpa using (hs y o ho).1, fun ho => (hs _ _ ho).2.1, fun d y => ?_, fun {y s i o} ho hs' hi => ?_⟩
   · rw [writersL_spec l 0 .e W hw d y]
     constructor
     · rintro (h1 | ⟨j, o, h1, h2, h3⟩)
       · simp [Tr.get] at h1
       · rw [Nat.zero_add] at h2; subst h2; exact ⟨o, h1, h3⟩
     · rintro ⟨o, h1, h2⟩; exact .inr ⟨y, o, h1, by simp, h2⟩
   · have := (hs y o ho).2.2 s hs'
     rw [Nat.zero_add] at this
     unfold slotOk at this
     rw [hi] at this
     simp only [Bool.or_eq_true, Nat.beq_eq] at this
     rcases this with (h1 | h1) | h1
     · exact .inl h1
     · exact .inr (.inl h1)
     · exact .inr (.inr h1)
theorem readyL_spec (all : List Oper) (D : Nat) : ∀ (l : List Oper) (k : Nat), (∀ j, l[j]? = all[k + j]?) → ∀ y o, (y, o) ∈ readyL D l k ↔ k ≤ y ∧ all[y]? = some o ∧ y < k + l.length ∧ Nat.testBit D y = false ∧ ∀ p, Pred all y p → Nat.testBit D p = true
 | [], k, _, y, o => by simp [readyL]; omega
 | o :: l, k, h, y, o' => by
   have h0 : all[k]? = some o := by simpa using (h 0).symm
   have ih := readyL_spec all D l (k + 1) (fun j => by have := h (j + 1); simpa [Nat.add_assoc, Nat.add_comm 1 j] using this) y o'
   have hm : (Nat.beq (predMask o &&& D) (predMask o) = true) ↔ ∀ p, Pred all k p → Nat.testBit D p = true := by
     rw [Nat.beq_eq]
     constructor
     · intro he p hp
       have := (predMask_bit h0).2 hp
       rw [← he, Nat.testBit_and, Bool.and_eq_true] at this
       exact this.2
     · intro hp
       refine Nat.eq_of_testBit_eq fun i => ?_
       rw [Nat.testBit_and]
       cases hb : Nat.testBit (predMask o) i with
       | false => rfl
       | true => rw [hp i ((predMask_bit h0).1 hb)]; rfl
   have key : ∀ (b : Prop), ((y, o') ∈ readyL D l (k + 1) ∨ (b ∧ y = k ∧ o' = o)) ↔ ((k + 1 ≤ y ∧ all[y]? = some o' ∧ y < k + 1 + l.length ∧ Nat.testBit D y = false ∧ ∀ p, Pred all y p → Nat.testBit D p = true) ∨ (b ∧ y = k ∧ o' = o)) := fun b => by rw [ih]
   have hlen : k + (o :: l).length = k + 1 + l.length := by simp; omega
   unfold readyL
   cases hd : Nat.testBit D k with
   | true =>
     simp only [cond_true]
     rw [ih, hlen]
     constructor
     · rintro ⟨h1, h2⟩; exact ⟨by omega, h2⟩
     · rintro ⟨h1, h2, h3, h4, h5⟩
       have : y ≠ k := fun e => by subst e; rw [hd] at h4; cases h4
       exact ⟨by omega, h2, h3, h4, h5⟩
   | false =>
     simp only [cond_false]
     cases hb : Nat.beq (predMask o &&& D) (predMask o) with
     | true =>
       simp only [cond_true, List.mem_cons, Prod.mk.injEq]
       rw [ih, hlen]
       constructor
       · rintro (⟨rfl, rfl⟩ | ⟨h1, h2⟩)
         · exact ⟨Nat.le_refl _, h0, by omega, hd, hm.1 hb⟩
         · exact ⟨by omega, h2⟩
       · rintro ⟨h1, h2, h3, h4, h5⟩
         by_cases e : y = k
         · subst e; rw [h0] at h2; cases h2; exact .inl ⟨rfl, rfl⟩
         · exact .inr ⟨by omega, h2, h3, h4, h5⟩
     | false =>
       simp only [cond_false]
       rw [ih, hlen]
       constructor
       · rintro ⟨h1, h2⟩; exact ⟨by omega, h2⟩
       · rintro ⟨h1, h2, h3, h4, h5⟩
         have : y ≠ k := fun e => by
           subst e
           have := hm.2 h5
           rw [hb] at this; cases this
         exact ⟨by omega, h2, h3, h4, h5⟩
theorem mem_ready' {all : List Oper} {D y : Nat} {o : Oper} : (y, o) ∈ readyL D all 0 ↔ all[y]? = some o ∧ Nat.testBit D y = false ∧ ∀ p, Pred all y p → Nat.testBit D p = true := by
 rw [readyL_spec all D all 0 (fun j => by simp) y o]
 constructor
 · rintro ⟨_, h1, _, h2⟩; exact ⟨h1, h2⟩
 · rintro ⟨h1, h2⟩
   have := (List.getElem?_eq_some_iff.1 h1).1
   exact ⟨Nat.zero_le _, h1, by omega, h2⟩
inductive Lin (l : List Oper) : (Nat → Prop) → List Nat → Prop
 | nil {C : Nat → Prop} (h : ∀ y, y < l.length → C y) : Lin l C []
 | cons {C : Nat → Prop} {y : Nat} {r : List Nat} (hy : y < l.length) (hn : ¬ C y) (hp : ∀ p, Pred l y p → C p) (t : Lin l (fun z => C z ∨ z = y) r) : Lin l C (y :: r)
theorem Lin.congr {l : List Oper} {C C' : Nat → Prop} {r : List Nat} (h : Lin l C r) (hc : ∀ z, C z ↔ C' z) : Lin l C' r := by
 have : C = C' := funext fun z => propext (hc z)
 exact this ▸ h
theorem lin_go {ops : Array Oper} (hE : Below' ops.toList) : ∀ (fuel t : Nat) (listed : Array Bool), listed.size = ops.size → listed.toList.count false ≤ fuel →
   Lin ops.toList (fun z => listed.getD z false = true) (Region.linearise.go .any ops fuel t listed []) := by
 have hready : ∀ (listed : Array Bool), listed.size = ops.size → ∀ i, i ∈ ((List.range ops.size).filter fun i => !listed.getD i true && ((ops[i]?).map (·.after.all fun e => !Region.binds .any e || listed.getD e.on false)).getD false) ↔ (i < ops.size ∧ listed.getD i false = false ∧ ∀ p, Pred ops.toList i p → listed.getD p false = true) := by
   intro listed hsz i
   rw [List.mem_filter, List.mem_range, Bool.and_eq_true]
   constructor
   · rintro ⟨h1, h2, h3⟩
     refine ⟨h1, ?_, ?_⟩
     · have : i < listed.size := by omega
       simp [Array.getD, this] at h2 ⊢; exact h2
     · rintro p ⟨o, e, ho, he, hb, rfl⟩
       rw [Array.getElem?_toList] at ho
       rw [ho] at h3
       simp only [Option.map_some, Option.getD_some] at h3
       rw [Array.all_eq_true_iff_forall_mem] at h3
       have := h3 e (by simpa using he)
       rw [hb] at this
       simpa using this
   · rintro ⟨h1, h2, h3⟩
     refine ⟨h1, ?_, ?_⟩
     · have : i < listed.size := by omega
       simp [Array.getD, this] at h2 ⊢; exact h2
     · have ho : ops[i]? = some ops[i] := Array.getElem?_eq_getElem h1
       rw [ho]
       simp only [Option.map_some, Option.getD_some]
       rw [Array.all_eq_true_iff_forall_mem]
       intro e he
       cases hb : Region.binds .any e with
       | false => rfl
       | true =>
         have := h3 e.on ⟨ops[i], e, by rw [Array.getElem?_toList]; exact ho, by simpa using he, hb, rfl⟩
         simp [this]
 have hall : ∀ (listed : Array Bool), listed.size = ops.size → (∀ i, ¬ (i < ops.size ∧ listed.getD i false = false ∧ ∀ p, Pred ops.toList i p → listed.getD p false = true)) → ∀ y, y < ops.toList.length → listed.getD y false = true := by
   intro listed hsz h y
   induction y using Nat.strongRecOn with
   | ind y ih =>
     intro hy
     cases hb : listed.getD y false with
     | true => rfl
     | false =>
       exfalso
       refine h y ⟨by simpa using hy, hb, fun p hp => ih p (pred_lt hE hp) (Nat.lt_trans (pred_lt hE hp) hy)⟩
 intro fuel
 induction fuel with
 | zero =>
   intro t listed hsz hc
   simp only [Region.linearise.go, List.reverse_nil]
   refine .nil fun y hy => ?_
   have hc0 : listed.toList.count false = 0 := by omega
   rw [List.count_eq_zero] at hc0
   have hlt : y < listed.size := by rw [hsz]; simpa using hy
   have : listed[y] ∈ listed.toList := by simp
   cases hb : listed[y] with
   | true => simp [Array.getD, hlt, hb]
   | false => rw [hb] at this; exact absurd this hc0
 | succ fuel ih =>
   intro t listed hsz hc
   simp only [Region.linearise.go]
   split
   · rename_i i hi
     have hmem := (hready listed hsz i).1 (List.mem_of_getElem? hi)
     obtain ⟨h1, h2, h3⟩ := hmem
     have hlt : i < listed.size := by omega
     have hfalse : listed[i] = false := by simpa [Array.getD, hlt] using h2
     rw [linearise_go_acc, List.reverse_singleton, List.singleton_append]
     refine .cons (by simpa using h1) (by rw [h2]; simp) h3 ?_
     refine (ih _ (listed.setIfInBounds i true) (by simpa using hsz) ?_).congr ?_
     · rw [Array.toList_setIfInBounds, List.count_set (by simpa using hlt)]
       have : listed.toList[i]'(by simpa using hlt) = false := by simpa using hfalse
       have e1 : (if (false == false) = true then (1 : Nat) else 0) = 1 := rfl
       have e2 : (if (true == false) = true then (1 : Nat) else 0) = 0 := rfl
       rw [this, e1, e2]
       omega
     · intro z
       by_cases e : z = i
       · subst e; simp [Array.getD, hlt]
       · have he : ¬ i = z := fun h => e h.symm
         have : (listed.setIfInBounds i true).getD z false = listed.getD z false := by
           rw [Array.getD_eq_getD_getElem?, Array.getD_eq_getD_getElem?, Array.getElem?_setIfInBounds_ne he]
         rw [this]
         simp [e]
   · rename_i hnone
     rw [List.reverse_nil]
     refine .nil (hall listed hsz ?_)
     intro i hi
     have hmem := (hready listed hsz i).2 hi
     have hpos : 0 < ((List.range ops.size).filter fun i => !listed.getD i true && ((ops[i]?).map (·.after.all fun e => !Region.binds .any e || listed.getD e.on false)).getD false).length := List.length_pos_of_mem hmem
     have := List.getElem?_eq_none_iff.1 hnone
     exact absurd (Nat.mod_lt t hpos) (by omega)
theorem lin_schedule {ops : Array Oper} (hE : Below' ops.toList) (t : Nat) : Lin ops.toList (fun _ => False) (Region.schedule true ops t) := by
 unfold Region.schedule Region.linearise
 simp only [Bool.true_or, if_true]
 refine (lin_go hE ops.size t (Array.replicate ops.size false) (by simp) ?_).congr ?_
 · simp
 · intro z
   simp [Array.getD]
end Go.Proofs.Ytnfdknnbaebagaa.Sm
/-
 A region that draws its order: the small machine may be ahead of the model; the model catches up.
-/
namespace Go.Proofs.Ytnfdknnbaebagaa.Sm
open Go Go.RowKit
theorem vsame_eq : ∀ {x y : Value}, vsame x y = true → x = y := by
 intro x y h
 unfold vsame at h
 split at h
 · rename_i a b; cases a <;> cases b <;> simp at h <;> rfl
 · simp only [Bool.and_eq_true, decide_eq_true_eq] at h; rw [h.1, h.2]
 · rename_i a b
   simp only [decide_eq_true_eq] at h
   congr 1
   obtain ⟨a⟩ := a; obtain ⟨b⟩ := b
   congr 1
   exact Array.toList_inj.1 h
 · rfl
 · simp only [Bool.and_eq_true, Nat.beq_eq] at h; rw [h.1, h.2]
 · rfl
 · rfl
 · rfl
 · cases h
mutual
theorem sameA_eq : ∀ {x y : AV}, sameA x y = true → x = y
 | .v x, y, h => by cases y <;> simp [sameA] at h; rw [vsame_eq h]
 | .ptr i o, y, h => by cases y <;> simp [sameA] at h; simp [h]
 | .sl i o n c, y, h => by cases y <;> simp [sameA] at h; simp [h]
 | .su i o n c q, y, h => by cases y <;> simp [sameA] at h; simp [h]
 | .se, y, h => by cases y <;> simp [sameA] at h; rfl
 | .s0, y, h => by cases y <;> simp [sameA] at h; rfl
 | .mp i, y, h => by cases y <;> simp [sameA] at h; simp [h]
 | .agg l, y, h => by cases y <;> simp [sameA] at h; rw [sameAs_eq h]
 | .tup l, y, h => by cases y <;> simp [sameA] at h; rw [sameAs_eq h]
 | .fn f l m, y, h => by
   cases y <;> simp [sameA] at h
   obtain ⟨⟨h1, h2⟩, h3⟩ := h
   rw [h1, sameAs_eq h2, sameAs_eq h3]
 | .yl i, y, h => by cases y <;> simp [sameA] at h; simp [h]
 | .ifc t x, y, h => by
   cases y <;> simp [sameA] at h
   rw [h.1, sameA_eq h.2]
theorem sameAs_eq : ∀ {l m : List AV}, sameAs l m = true → l = m
 | [], m, h => by cases m <;> simp [sameAs] at h; rfl
 | x :: l, m, h => by
   cases m <;> simp [sameAs] at h
   rw [sameA_eq h.1, sameAs_eq h.2]
end
def envS (l : List Oper) (W : Tr Nat) (nt : Nat) (X T0 : Tr AV) (y s : Nat) : AV :=
 match W.get s with
 | some i => cond (Nat.blt s nt && ancB l y i) (At X i) (At T0 s)
 | none => At T0 s
def valS (W : Tr Nat) (nt : Nat) (X T0 : Tr AV) (C : Nat → Prop) [DecidablePred C] (s : Nat) : AV :=
 match W.get s with
 | some i => if s < nt ∧ C i then At X i else At T0 s
 | none => At T0 s
def Sees (l : List Oper) (o : Oper) (s : Nat) : Prop := s ∈ slotsOf o ∨ s ∈ guardSlot (dstIn l) o
section
variable {l : List Oper} {W : Tr Nat} (sc : Sc l W) {nt : Nat} {X T0 : Tr AV}
include sc
theorem envS_val {C : Nat → Prop} [DecidablePred C] (hC : ∀ y p, C y → Pred l y p → C p) {y s : Nat} {o : Oper} (ho : l[y]? = some o) (hs : Sees l o s) (hy : ¬ C y) (hp : ∀ p, Pred l y p → C p) :
   envS l W nt X T0 y s = valS W nt X T0 C s := by
 unfold envS valS
 cases hw : W.get s with
 | none => rfl
 | some i =>
   simp only
   have hlt : ∀ a b, ancB l a b = true → b < a := fun a b h => ancB_lt sc.below a b h
   by_cases hn : s < nt
   · have hb : Nat.blt s nt = true := by rw [Nat.blt_eq]; exact hn
     simp only [hb, Bool.true_and, hn, true_and]
     rcases sc.slot ho hs hw with rfl | h | h
     · have : ancB l i i = false := by
         cases h : ancB l i i with
         | false => rfl
         | true => exact absurd (hlt _ _ h) (Nat.lt_irrefl _)
       rw [this, if_neg hy]; rfl
     · have := anc_closed sc.below hC y i hp h
       rw [h, if_pos this]; rfl
     · have hni : ¬ C i := fun hi => hy (anc_closed sc.below hC i y (fun p hpp => hC i p hi hpp) h)
       have : ancB l y i = false := by
         cases h' : ancB l y i with
         | false => rfl
         | true => exact absurd (hlt _ _ h') (Nat.lt_asymm (hlt _ _ h))
       rw [this, if_neg hni]; rfl
   · have hb : Nat.blt s nt = false := by
       cases h : Nat.blt s nt with
       | false => rfl
       | true => rw [Nat.blt_eq] at h; exact absurd h hn
     simp [hb, hn]
end
variable [Kx]
def Pend (P : Program) (ρ : Env) (H : Tr AB) (lo hi : Nat) (live : Bool) (l : List Oper) (W : Tr Nat) (nt : Nat) (X T0 : Tr AV) (lds : List (Nat × TypeId × AV × AV)) (G : Nat → Option Nat) (y : Nat) : Prop :=
 ∃ o Ty, l[y]? = some o ∧ (∀ s, Sees l o s → At Ty s = envS l W nt X T0 y s) ∧ gOk Ty (dstIn l) o = true ∧
   ((wantedA Ty (dstIn l) o = false ∧ At X y = .v undef) ∨
    (wantedA Ty (dstIn l) o = true ∧ aopQ P Ty o = some (At X y)) ∨
    (wantedA Ty (dstIn l) o = true ∧ ∃ t p, rdQ Ty o = some (t, p) ∧ (live = true → readQ P t p H = some (At X y)) ∧ (y, t, p, At X y) ∈ lds) ∨
    (wantedA Ty (dstIn l) o = true ∧ ∃ e c k g, aopN P Ty o = some (e, c, k) ∧ At X y = k.av g ∧ G y = some g ∧ H.get g = some (.mem e none c) ∧ ρ g = none ∧ lo ≤ g ∧ g < hi))
structure DrR (P : Program) (ρ : Env) (H : Tr AB) (lo hi : Nat) (live : Bool) (nt : Nat) (T : Tr AV) (l : List Oper) (D : Nat) (X T0 : Tr AV) (lds : List (Nat × TypeId × AV × AV)) (W : Tr Nat) (C : Nat → Prop) (G : Nat → Option Nat) (rest : List Nat) (ts : Array Value) : Prop where
 sc : Sc l W
 lin : Lin l C rest
 closC : ∀ y p, C y → Pred l y p → C p
 closD : ∀ y p, Nat.testBit D y = true → Pred l y p → Nat.testBit D p = true
 sub : ∀ y, C y → Nat.testBit D y = true
 dlt : ∀ y, Nat.testBit D y = true → y < l.length
 size : ts.size = nt
 T : ∀ s, At T s = valS W nt X T0 (fun i => Nat.testBit D i = true) s
 ts : ∀ [DecidablePred C] s, VR ρ (valS W nt X T0 C s) (ts.getD s undef)
 pend : ∀ y, Nat.testBit D y = true → ¬ C y → Pend P ρ H lo hi live l W nt X T0 lds G y
 ginj : ∀ {y z g}, G y = some g → G z = some g → y = z
 gb : ∀ {y g}, G y = some g → g < hi ∧ Nat.testBit D y = true
theorem Pend.mono {P : Program} {ρ ρ' : Env} {H H' : Tr AB} {lo hi : Nat} {live : Bool} {l : List Oper} {W : Tr Nat} {nt : Nat} {X T0 : Tr AV} {lds lds' : List (Nat × TypeId × AV × AV)} {G : Nat → Option Nat} {y : Nat}
   (h : Pend P ρ H lo hi live l W nt X T0 lds G y) {hi' : Nat} {live' : Bool} (hhi : hi ≤ hi') (hg : ∀ g, G y = some g → lo ≤ g → g < hi → ρ g = none → ρ' g = none ∧ Keeps H H' g)
   (hl : ∀ t p x, (y, t, p, x) ∈ lds → (y, t, p, x) ∈ lds' ∧ (live' = true → (live = true → readQ P t p H = some x) → readQ P t p H' = some x)) : Pend P ρ' H' lo hi' live' l W nt X T0 lds' G y := by
 obtain ⟨o, Ty, ho, hs, hgk, h⟩ := h
 refine ⟨o, Ty, ho, hs, hgk, ?_⟩
 rcases h with h | h | ⟨h1, t, a, h2, h3, h4⟩ | ⟨h1, e, c, k, g, h2, h3, h4, h5, h6, h7, h8⟩
 · exact .inl h
 · exact .inr (.inl h)
 · exact .inr (.inr (.inl ⟨h1, t, a, h2, fun hlv => (hl _ _ _ h4).2 hlv h3, (hl _ _ _ h4).1⟩))
 · have := hg g h4 h7 h8 h6
   exact .inr (.inr (.inr ⟨h1, e, c, k, g, h2, h3, h4, by rw [this.2]; exact h5, this.1, h7, by omega⟩))
theorem DrR.mono {P : Program} {ρ ρ' : Env} {H H' : Tr AB} {lo hi hi' nt D : Nat} {live : Bool} {T X T0 : Tr AV} {l : List Oper} {lds : List (Nat × TypeId × AV × AV)} {W : Tr Nat} {C : Nat → Prop} {G : Nat → Option Nat} {rest : List Nat} {ts : Array Value}
   (h : DrR P ρ H lo hi live nt T l D X T0 lds W C G rest ts) (hle : ρ.le ρ') (hhi : hi ≤ hi') (hg : ∀ g, g < hi → ρ g = none → ρ' g = none ∧ Keeps H H' g) : DrR P ρ' H' lo hi' false nt T l D X T0 lds W C G rest ts :=
 { h with
   ts := fun s => (h.ts s).mono hle
   pend := fun y h1 h2 => (h.pend y h1 h2).mono hhi (fun g _ _ hb hn => hg g hb hn) (fun t p x hm => ⟨hm, fun h => by cases h⟩)
   gb := fun hgy => ⟨Nat.lt_of_lt_of_le (h.gb hgy).1 hhi, (h.gb hgy).2⟩ }
theorem DrR.live {P : Program} (hk : HKok P) {ρ : Env} {H : Tr AB} {lo hi nt D : Nat} {T X T0 : Tr AV} {l : List Oper} {lds : List (Nat × TypeId × AV × AV)} {W : Tr Nat} {C : Nat → Prop} {G : Nat → Option Nat} {rest : List Nat} {ts : Array Value}
   (h : DrR P ρ H lo hi false nt T l D X T0 lds W C G rest ts) (hl : ldsOk P H lds = true) : DrR P ρ H lo hi true nt T l D X T0 lds W C G rest ts :=
 { h with
   pend := fun y h1 h2 => (h.pend y h1 h2).mono (Nat.le_refl _) (fun g _ _ _ hn => ⟨hn, Keeps.refl _ _⟩) (fun t p x hm => ⟨hm, fun _ _ => by
     unfold ldsOk at hl
     rw [List.all_eq_true] at hl
     have := hl _ hm
     simp only at this
     split at this
     · rename_i x' hx; rw [Bool.or_eq_true] at this; rw [hx, this.elim hk.q sameA_eq]
     · cases this⟩) }
theorem DrR.forOp {P : Program} {ρ : Env} {H : Tr AB} {lo hi nt D : Nat} {live : Bool} {T X T0 : Tr AV} {l : List Oper} {lds : List (Nat × TypeId × AV × AV)} {W : Tr Nat} {C : Nat → Prop} {G : Nat → Option Nat} {rest : List Nat} {ts : Array Value}
   (h : DrR P ρ H lo hi live nt T l D X T0 lds W C G rest ts) {x : Nat} (hp : ∀ p, Pred l x p → C p) : DrR P ρ H lo hi live nt T l D X T0 (ldsFor l x lds) W C G rest ts :=
 { h with
   pend := fun y h1 h2 => (h.pend y h1 h2).mono (Nat.le_refl _) (fun g _ _ _ hn => ⟨hn, Keeps.refl _ _⟩) (fun t p v hm => ⟨by
     unfold ldsFor
     rw [List.mem_filter]
     refine ⟨hm, ?_⟩
     have : ancB l x y = false := by
       cases hb : ancB l x y with
       | false => rfl
       | true => exact absurd (anc_closed h.sc.below h.closC x y hp hb) h2
     unfold ancB at this
     simp only [this, Bool.not_false], fun hlv hv => hv hlv⟩) }
omit [Kx] in
theorem testBit_put (D y z : Nat) : Nat.testBit (D ||| 2 ^ y) z = (Nat.testBit D z || decide (y = z)) := by
 rw [Nat.testBit_or, Nat.testBit_two_pow]
omit [Kx] in
theorem valS_congr {W : Tr Nat} {nt : Nat} {X X' T0 : Tr AV} {C C' : Nat → Prop} [DecidablePred C] [DecidablePred C'] {s : Nat} (h : ∀ i, W.get s = some i → (C i ↔ C' i) ∧ (C i → At X i = At X' i)) : valS W nt X T0 C s = valS W nt X' T0 C' s := by
 unfold valS
 cases hw : W.get s with
 | none => rfl
 | some i =>
   obtain ⟨h1, h2⟩ := h i hw
   simp only
   by_cases hc : s < nt ∧ C i
   · rw [if_pos hc, if_pos ⟨hc.1, h1.1 hc.2⟩, h2 hc.2]
   · rw [if_neg hc, if_neg (fun h => hc ⟨h.1, h1.2 h.2⟩)]
omit [Kx] in
theorem envS_congr {l : List Oper} {W : Tr Nat} {nt : Nat} {X X' T0 : Tr AV} {y s : Nat} (h : ∀ i, ancB l y i = true → At X i = At X' i) : envS l W nt X T0 y s = envS l W nt X' T0 y s := by
 unfold envS
 cases hw : W.get s with
 | none => rfl
 | some i =>
   simp only
   cases hb : (Nat.blt s nt && ancB l y i) with
   | false => rfl
   | true =>
     simp only [Bool.and_eq_true] at hb
     simp only [cond_true]; exact h i hb.2
section
variable {P : Program} {ρ : Env} {H : Tr AB} {lo hi nt D : Nat} {live : Bool} {T X T0 : Tr AV} {l : List Oper} {lds : List (Nat × TypeId × AV × AV)} {W : Tr Nat} {C : Nat → Prop} {G : Nat → Option Nat} {rest : List Nat} {ts : Array Value}
theorem DrR.sees (h : DrR P ρ H lo hi live nt T l D X T0 lds W C G rest ts) {y s : Nat} {o : Oper} (ho : l[y]? = some o) (hs : Sees l o s) (hy : Nat.testBit D y = false) (hp : ∀ p, Pred l y p → Nat.testBit D p = true) : At T s = envS l W nt X T0 y s := by
 rw [h.T s]
 exact (envS_val h.sc (C := fun i => Nat.testBit D i = true) h.closD ho hs (by rw [hy]; simp) hp).symm
theorem DrR.seesC (h : DrR P ρ H lo hi live nt T l D X T0 lds W C G rest ts) {y s : Nat} {o : Oper} (ho : l[y]? = some o) (hs : Sees l o s) (hy : ¬ C y) (hp : ∀ p, Pred l y p → C p) : VR ρ (envS l W nt X T0 y s) (ts.getD s undef) := by
 classical
 rw [envS_val h.sc (C := C) h.closC ho hs hy hp]
 exact h.ts s
theorem DrR.putT (h : DrR P ρ H lo hi live nt T l D X T0 lds W C G rest ts) {y : Nat} {o : Oper} (ho : l[y]? = some o) (hy : Nat.testBit D y = false) (x : AV) (s : Nat) :
   At (putT nt T o.dst x) s = valS W nt (tput X y x) T0 (fun i => Nat.testBit (D ||| 2 ^ y) i = true) s := by
 have hX : ∀ i, i ≠ y → At (tput X y x) i = At X i := fun i hi => by rw [At_tput, if_neg hi]
 have hXy : At (tput X y x) y = x := by rw [At_tput, if_pos rfl]
 have hrest : ∀ s, (∀ i, W.get s = some i → i ≠ y) → At T s = valS W nt (tput X y x) T0 (fun i => Nat.testBit (D ||| 2 ^ y) i = true) s := fun s hs => by
   rw [h.T s]
   refine valS_congr fun i hi => ⟨?_, fun _ => (hX i (hs i hi)).symm⟩
   rw [testBit_put]
   have : y ≠ i := fun e => hs i hi e.symm
   simp [this]
 have hno : ∀ s, o.dst ≠ some s → ∀ i, W.get s = some i → i ≠ y := fun s hd i hi e => by
   subst e
   obtain ⟨o', h1, h2⟩ := (h.sc.wr s i).1 hi
   rw [ho] at h1; cases h1
   exact hd h2
 cases hd : o.dst with
 | none => exact hrest s (hno s (by rw [hd]; simp))
 | some d =>
   simp only [Sm.putT]
   cases hb : Nat.blt d nt with
   | true =>
     have hlt : d < nt := by simpa [Nat.blt_eq] using hb
     simp only [cond_true]
     rw [At_tput]
     by_cases e : s = d
     · subst e
       rw [if_pos rfl]
       unfold valS
       rw [(h.sc.wr s y).2 ⟨o, ho, hd⟩]
       simp only
       rw [if_pos ⟨hlt, by rw [testBit_put]; simp⟩, hXy]
     · rw [if_neg e]
       exact hrest s (hno s (by rw [hd]; simpa using fun h => e h.symm))
   | false =>
     have hlt : ¬ d < nt := fun hlt => by
       have : Nat.blt d nt = true := by rw [Nat.blt_eq]; exact hlt
       rw [hb] at this; cases this
     simp only [cond_false]
     by_cases e : s = d
     · subst e
       rw [h.T s]
       unfold valS
       rw [(h.sc.wr s y).2 ⟨o, ho, hd⟩]
       simp only
       rw [if_neg (fun h => hlt h.1), if_neg (fun h => hlt h.1)]
     · exact hrest s (hno s (by rw [hd]; simpa using fun h => e h.symm))
theorem DrR.putTs (h : DrR P ρ H lo hi live nt T l D X T0 lds W C G rest ts) {ρ' : Env} (hle : ρ.le ρ') {y : Nat} {o : Oper} (ho : l[y]? = some o) (hy : ¬ C y) {X' : Tr AV} {v : Value} (hX : ∀ i, C i → At X' i = At X i) (hv : VR ρ' (At X' y) v) [DecidablePred (fun z => C z ∨ z = y)] (s : Nat) :
   VR ρ' (valS W nt X' T0 (fun z => C z ∨ z = y) s) ((match o.dst with | some d => ts.setIfInBounds d v | none => ts).getD s undef) := by
 classical
 have hrest : ∀ s, (∀ i, W.get s = some i → i ≠ y) → VR ρ' (valS W nt X' T0 (fun z => C z ∨ z = y) s) (ts.getD s undef) := fun s hs => by
   have := (h.ts s).mono hle
   rwa [valS_congr (C := C) (C' := fun z => C z ∨ z = y) (X' := X') (fun i hi => ⟨by simp [hs i hi], fun hc => (hX i hc).symm⟩)] at this
 have hno : ∀ s, o.dst ≠ some s → ∀ i, W.get s = some i → i ≠ y := fun s hd i hi e => by
   subst e
   obtain ⟨o', h1, h2⟩ := (h.sc.wr s i).1 hi
   rw [ho] at h1; cases h1
   exact hd h2
 cases hd : o.dst with
 | none => exact hrest s (hno s (by rw [hd]; simp))
 | some d =>
   simp only
   by_cases hlt : d < nt
   · rw [getD_set _ _ _ _ (by rw [h.size]; exact hlt)]
     by_cases e : s = d
     · subst e
       rw [if_pos rfl]
       unfold valS
       rw [(h.sc.wr s y).2 ⟨o, ho, hd⟩]
       simp only
       rw [if_pos ⟨hlt, by simp⟩]
       exact hv
     · rw [if_neg e]
       exact hrest s (hno s (by rw [hd]; simpa using fun h => e h.symm))
   · have hs : ts.setIfInBounds d v = ts := by simp [Array.setIfInBounds, h.size, hlt]
     rw [hs]
     by_cases e : s = d
     · subst e
       have := (h.ts s).mono hle
       unfold valS at this ⊢
       rw [(h.sc.wr s y).2 ⟨o, ho, hd⟩] at this ⊢
       simp only at this ⊢
       rw [if_neg (fun h => hlt h.1)] at this ⊢
       exact this
     · exact hrest s (hno s (by rw [hd]; simpa using fun h => e h.symm))
end
end Go.Proofs.Ytnfdknnbaebagaa.Sm
/-
 A region that draws its order: the small machine goes ahead; the model catches up.
-/
namespace Go.Proofs.Ytnfdknnbaebagaa.Sm
open Go Go.RowKit
theorem mem_slots {o : Oper} {s : Tmp} (h : Operand.tmp s ∈ o.op.operands) : s ∈ slotsOf o := by
 unfold slotsOf
 rw [List.mem_filterMap]
 exact ⟨.tmp s, by simpa using h, rfl⟩
theorem ev_of_slots {ρ : Env} {Ty : Tr AV} {fr : Frame} {o : Oper} (h : ∀ s, s ∈ slotsOf o → VR ρ (At Ty s) (fr.tmps.getD s undef)) : ∀ y ∈ o.op.operands, VR ρ (aev Ty y) (fr.eval y) := by
 intro y hy
 cases y with
 | tmp t => exact h t (mem_slots hy)
 | const x => exact ofV_VR x
 | global g => exact .v _
 | func f => simpa [aev, Frame.eval] using VR.fn (.func f) (VRs.nil (ρ := ρ)) VRs.nil
theorem finish_region {fr : Frame} {ops : Array Oper} {i : Nat} {r : List Nat} {k : List Item} {o : Oper} (ht : fr.todo = .inRegion ops (i :: r) :: k) (ho : ops[i]? = some o) (v : Value) :
   fr.finish v = { fr with tmps := (match o.dst with | some d => fr.tmps.setIfInBounds d v | none => fr.tmps), todo := .inRegion ops r :: k } := by
 unfold Frame.finish
 rw [ht]
 simp only [ho, Option.bind_some]
 cases o.dst <;> rfl
variable [Kx]
theorem DrR.caught {P : Program} {ρ ρ' : Env} {H : Tr AB} {lo hi nt D : Nat} {T X T0 : Tr AV} {l : List Oper} {lds : List (Nat × TypeId × AV × AV)} {W : Tr Nat} {C : Nat → Prop} {G : Nat → Option Nat} {y : Nat} {r : List Nat} {ts : Array Value}
   (h : DrR P ρ H lo hi true nt T l D X T0 lds W C G (y :: r) ts) (hD : Nat.testBit D y = true) {o : Oper} (ho : l[y]? = some o) {v : Value} (hle : ρ.le ρ') (hg : ∀ g z, G z = some g → z ≠ y → ρ g = none → ρ' g = none) (hv : VR ρ' (At X y) v) :
   DrR P ρ' H lo hi true nt T l D X T0 lds W (fun z => C z ∨ z = y) G r (match o.dst with | some d => ts.setIfInBounds d v | none => ts) := by
 cases h.lin with
 | cons hy hn hp t =>
   exact { h with
     lin := t
     closC := fun z p hz hzp => by
       rcases hz with hz | rfl
       · exact .inl (h.closC z p hz hzp)
       · exact .inl (hp p hzp)
     sub := fun z hz => by
       rcases hz with hz | rfl
       · exact h.sub z hz
       · exact hD
     size := by cases o.dst <;> simp [h.size]
     ts := fun s => h.putTs hle ho hn (fun _ _ => rfl) hv s
     pend := fun z h1 h2 => (h.pend z h1 (fun hc => h2 (.inl hc))).mono (Nat.le_refl _) (fun g hG _ _ hn => ⟨hg g z hG (fun e => h2 (.inr e)) hn, Keeps.refl _ _⟩) (fun t p x hm => ⟨hm, fun _ hl => hl rfl⟩) }
theorem catchup {P : Program} (hk : HKok P) {w0 : Bs} {H : Tr AB} {lo n nt D : Nat} {T X T0 : Tr AV} {ops : Array Oper} {lds : List (Nat × TypeId × AV × AV)} {W : Tr Nat} {G : Nat → Option Nat} {k : List Item} {cs : List Frame} :
   ∀ (rest : List Nat) (ρ : Env) (w : World) (fr : Frame) (C : Nat → Prop), HR w0 ρ H n w → fr.todo = .inRegion ops rest :: k → fr.mode = .run → DrR P ρ H lo n true nt T ops.toList D X T0 lds W C G rest fr.tmps →
   ∃ (rest' : List Nat) (ρ' : Env) (w' : World) (fr' : Frame) (C' : Nat → Prop), Steps P (lone fr cs w) (lone fr' cs w') ∧ HR w0 ρ' H n w' ∧ ρ.le ρ' ∧ (∀ g, g < lo → ρ' g = ρ g) ∧
     fr' = { fr with tmps := fr'.tmps, todo := .inRegion ops rest' :: k } ∧ DrR P ρ' H lo n true nt T ops.toList D X T0 lds W C' G rest' fr'.tmps ∧ (∀ y r, rest' = y :: r → Nat.testBit D y = false) := by
 intro rest
 induction rest with
 | nil =>
   intro ρ w fr C hr ht hm hd
   exact ⟨[], ρ, w, fr, C, Steps.refl _ _, hr, ρ.le_refl, fun _ _ => rfl, by rw [← ht], hd, fun y r e => by cases e⟩
 | cons y r ih =>
   intro ρ w fr C hr ht hm hd
   cases hD : Nat.testBit D y with
   | false => exact ⟨y :: r, ρ, w, fr, C, Steps.refl _ _, hr, ρ.le_refl, fun _ _ => rfl, by rw [← ht], hd, fun y' r' e => by cases e; exact hD⟩
   | true =>
     obtain ⟨hy, hn, hp⟩ : y < ops.toList.length ∧ ¬ C y ∧ ∀ p, Pred ops.toList y p → C p := by
       cases hd.lin with | cons hy hn hp t => exact ⟨hy, hn, hp⟩
     obtain ⟨o, Ty, ho, hs, hgk, hcase⟩ := hd.pend y hD hn
     have ho' : ops[y]? = some o := by simpa using ho
     have hsee : ∀ s, Sees ops.toList o s → VR ρ (At Ty s) (fr.tmps.getD s undef) := fun s h => by
       rw [hs s h]; exact hd.seesC ho h hn hp
     have hev := ev_of_slots (fr := fr) (fun s h => hsee s (.inl h))
     have hw := wantedA_sound (n := 0) (ops := ops) hgk (fun d h => hsee d (.inr h))
     have hplain := hd.sc.plain ho
     -- what is left, behind one step
     have go : ∀ (ρ' : Env) (w' : World) (v : Value), step P (lone fr cs w) = .next (lone (fr.finish v) cs w') → HR w0 ρ' H n w' → ρ.le ρ' → (∀ g, g < lo → ρ' g = ρ g) → (∀ g z, G z = some g → z ≠ y → ρ g = none → ρ' g = none) → VR ρ' (At X y) v →
         ∃ (rest' : List Nat) (ρ' : Env) (w' : World) (fr' : Frame) (C' : Nat → Prop), Steps P (lone fr cs w) (lone fr' cs w') ∧ HR w0 ρ' H n w' ∧ ρ.le ρ' ∧ (∀ g, g < lo → ρ' g = ρ g) ∧
           fr' = { fr with tmps := fr'.tmps, todo := .inRegion ops rest' :: k } ∧ DrR P ρ' H lo n true nt T ops.toList D X T0 lds W C' G rest' fr'.tmps ∧ (∀ y r, rest' = y :: r → Nat.testBit D y = false) := by
       intro ρ' w' v hst hr' hle hlo hg hv
       have hf := finish_region ht ho' v
       have hd' := hd.caught hD ho hle hg hv
       obtain ⟨rest', ρ2, w2, fr2, C2, h1, h2, h3, h4, h5, h6, h7⟩ := ih ρ' w' (fr.finish v) _ hr' (by rw [hf]) (by rw [hf]; exact hm) (by rw [hf]; exact hd')
       refine ⟨rest', ρ2, w2, fr2, C2, .head hst h1, h2, Env.le_trans hle h3, fun g hgl => (h4 g hgl).trans (hlo g hgl), ?_, h6, h7⟩
       rw [h5, hf]
     rcases hcase with ⟨h1, h2⟩ | ⟨h1, h2⟩ | ⟨h1, t, a, h2, h3, _⟩ | ⟨h1, e, c, kk, g, h2, h3, h4, h5, h6, h7, h8⟩
     · refine go ρ w undef (step_unwanted ht hm ?_) hr ρ.le_refl (fun _ _ => rfl) (fun _ _ _ _ h => h) (by rw [h2]; exact .v _)
       rw [ho']; simp only [Option.map_some, Option.getD_some]; rw [hw]; exact h1
     · obtain ⟨v, hv, hrun⟩ := aopQ_sound hk h2 hr hev
       exact go ρ w v (step_value (stepG_oper ht hm ho' (by rw [hw]; exact h1) hplain) hrun) hr ρ.le_refl (fun _ _ => rfl) (fun _ _ _ _ h => h) hv
     · obtain ⟨v, hv, hrun⟩ := readQ_sound hk hr h2 (h3 rfl) hev
       exact go ρ w v (step_value (stepG_oper ht hm ho' (by rw [hw]; exact h1) hplain) hrun) hr ρ.le_refl (fun _ _ => rfl) (fun _ _ _ _ h => h) hv
     · obtain ⟨vs, hvs, hrun⟩ := aopN_sound h2 hev
       have hbr : BR (ρ.set g (w.heap.size, 0)) 0 (.mem e none c) (.cells vs.toArray e) := ⟨vs, [], (0, 0), hvs.mono (Env.le_set h6 _), by simp, unfrozen_zero _, rfl, fun _ => rfl⟩
       refine go (ρ.set g (w.heap.size, 0)) _ _ (step_value (stepG_oper ht hm ho' (by rw [hw]; exact h1) hplain) (hrun w)) (hr.name h8 h6 h5 rfl hbr (fun hk => (hr.kb hk).2.2 _ _ h5)) (Env.le_set h6 _) (fun g' hl => ?_) (fun g' z hz hne hn' => ?_) ?_
       · rw [Env.set_at, if_neg (by omega)]
       · rw [Env.set_at]
         rw [if_neg (fun e => by subst e; exact hne (hd.ginj hz h4))]
         exact hn'
       · rw [h3]; exact NewV.VR (Env.set_same _ _ _) kk
theorem DrR.ahead {P : Program} (hk : HKok P) {ρ : Env} {H H' : Tr AB} {lo n n' nt D : Nat} {T X T0 : Tr AV} {l : List Oper} {lds : List (Nat × TypeId × AV × AV)} {W : Tr Nat} {C : Nat → Prop} {G : Nat → Option Nat} {rest : List Nat} {ts : Array Value} {w0 : Bs} {w : World}
   (h : DrR P ρ H lo n true nt T l D X T0 lds W C G rest ts) (hr : HR w0 ρ H n w) (hlo : lo ≤ n) {y : Nat} {o : Oper} {x : AV} {q : Option (TypeId × AV × AV)} (hy : (y, o) ∈ readyL D l 0) (he : eagerA P T l o H n = some (x, H', n', q)) :
   ∃ G', HR w0 ρ H' n' w ∧ Ext ρ ρ H H' n n' ∧ DrR P ρ H' lo n' true nt (Sm.putT nt T o.dst x) l (D ||| 2 ^ y) (tput X y x) T0 (addLd y q lds) W C G' rest ts := by
 obtain ⟨ho, hyD, hp⟩ := mem_ready'.1 hy
 have hnC : ¬ C y := fun hc => by have := h.sub y hc; rw [hyD] at this; cases this
 have hX : ∀ i, i ≠ y → At (tput X y x) i = At X i := fun i hi => by rw [At_tput, if_neg hi]
 have hXy : At (tput X y x) y = x := by rw [At_tput, if_pos rfl]
 have hanc : ∀ z i, Nat.testBit D z = true → ancB l z i = true → i ≠ y := fun z i hz hi e => by
   have := anc_closed h.sc.below (C := fun i => Nat.testBit D i = true) h.closD z i (fun p hpp => h.closD z p hz hpp) hi
   rw [e, hyD] at this; cases this
 have hancy : ∀ i, ancB l y i = true → i ≠ y := fun i hi e => by subst e; exact absurd (ancB_lt h.sc.below _ _ hi) (Nat.lt_irrefl _)
 have hsee : ∀ s, Sees l o s → At T s = envS l W nt (tput X y x) T0 y s := fun s hs => by
   rw [h.sees ho hs hyD hp]
   exact envS_congr fun i hi => (hX i (hancy i hi)).symm
 have finish : ∀ (G' : Nat → Option Nat) (lds' : List (Nat × TypeId × AV × AV)), n ≤ n' → (∀ z, z ≠ y → G' z = G z) → (∀ g, G' y = some g → n ≤ g ∧ g < n') → (∀ g, g < n → ρ g = none → H'.get g = H.get g) → (∀ t p v, readQ P t p H = some v → readQ P t p H' = some v) → (∀ e, e ∈ lds → e ∈ lds') →
     Pend P ρ H' lo n' true l W nt (tput X y x) T0 lds' G' y → DrR P ρ H' lo n' true nt (Sm.putT nt T o.dst x) l (D ||| 2 ^ y) (tput X y x) T0 lds' W C G' rest ts := by
   intro G' lds' hnn hGo hGy hH hL hlds hpy
   refine { h with closD := fun z p hz hzp => ?_, sub := fun z hz => ?_, dlt := fun z hz => ?_, T := h.putT ho hyD x, ts := fun s => ?_, pend := fun z hz hzC => ?_, ginj := fun {a b g} ha hb => ?_, gb := fun {a g} ha => ?_ }
   · rw [testBit_put] at hz ⊢
     by_cases e : y = z
     · subst e; rw [hp p hzp]; rfl
     · simp [e] at hz; rw [h.closD z p hz hzp]; rfl
   · rw [testBit_put, h.sub z hz]; rfl
   · rw [testBit_put] at hz
     by_cases e : y = z
     · subst e; exact (List.getElem?_eq_some_iff.1 ho).1
     · simp [e] at hz; exact h.dlt z hz
   · have := h.ts s
     rwa [valS_congr (X' := tput X y x) (C' := C) (fun i hi => ⟨Iff.rfl, fun hc => (hX i (fun e => hnC (e ▸ hc))).symm⟩)] at this
   · by_cases e : z = y
     · subst e; exact hpy
     · have hzD : Nat.testBit D z = true := by
         rw [testBit_put] at hz
         have : y ≠ z := fun h => e h.symm
         simpa [this] using hz
       obtain ⟨o', Ty, h1, h2, hgk, h3⟩ := h.pend z hzD hzC
       refine ⟨o', Ty, h1, fun s hs => (h2 s hs).trans (envS_congr fun i hi => (hX i (hanc z i hzD hi)).symm), hgk, ?_⟩
       rw [hX z e]
       rcases h3 with h3 | h3 | ⟨h3, t, a, h4, h5, h6⟩ | ⟨h3, e', c, k, g, h4, h5, h6, h7, h8, h9, h10⟩
       · exact .inl h3
       · exact .inr (.inl h3)
       · exact .inr (.inr (.inl ⟨h3, t, a, h4, fun _ => hL _ _ _ (h5 rfl), hlds _ h6⟩))
       · exact .inr (.inr (.inr ⟨h3, e', c, k, g, h4, h5, (hGo z e).trans h6, (hH g h10 h8).trans h7, h8, h9, by omega⟩))
   · by_cases ea : a = y <;> by_cases eb : b = y
     · rw [ea, eb]
     · subst ea
       rw [hGo b eb] at hb
       have := hGy g ha; have := (h.gb hb).1; omega
     · subst eb
       rw [hGo a ea] at ha
       have := hGy g hb; have := (h.gb ha).1; omega
     · rw [hGo a ea] at ha; rw [hGo b eb] at hb; exact h.ginj ha hb
   · by_cases ea : a = y
     · subst ea; exact ⟨(hGy g ha).2, by rw [testBit_put]; simp⟩
     · rw [hGo a ea] at ha
       exact ⟨Nat.lt_of_lt_of_le (h.gb ha).1 hnn, by rw [testBit_put, (h.gb ha).2]; rfl⟩
 have hGn : G y = none := by
   cases hg : G y with
   | none => rfl
   | some g => have := (h.gb hg).2; rw [hyD] at this; cases this
 unfold eagerA at he
 cases hgk : gOk T (dstIn l) o with
 | false => simp [hgk] at he
 | true =>
 simp only [hgk, cond_true] at he
 cases hw : wantedA T (dstIn l) o with
 | false =>
   simp only [hw, cond_false, Option.some.injEq, Prod.mk.injEq] at he
   obtain ⟨rfl, rfl, rfl, rfl⟩ := he
   refine ⟨G, hr, Ext.refl _ _ _, finish G lds (Nat.le_refl _) (fun _ _ => rfl) (fun g hg => by rw [hGn] at hg; cases hg) (fun _ _ _ => rfl) (fun _ _ _ h => h) (fun _ h => h) ?_⟩
   exact ⟨o, T, ho, hsee, hgk, .inl ⟨hw, hXy⟩⟩
 | true =>
   simp only [hw, cond_true] at he
   cases hP : aopQ P T o with
   | some x' =>
     simp only [hP, Option.some.injEq, Prod.mk.injEq] at he
     obtain ⟨rfl, rfl, rfl, rfl⟩ := he
     refine ⟨G, hr, Ext.refl _ _ _, finish G lds (Nat.le_refl _) (fun _ _ => rfl) (fun g hg => by rw [hGn] at hg; cases hg) (fun _ _ _ => rfl) (fun _ _ _ h => h) (fun _ h => h) ?_⟩
     exact ⟨o, T, ho, hsee, hgk, .inr (.inl ⟨hw, by rw [hXy]; exact hP⟩)⟩
   | none =>
     simp only [hP] at he
     have alloc : (match aopN P T o with | some (e, l, k) => some (k.av n, tput H n (.mem e none l), n + 1, none) | none => none) = some (x, H', n', q) →
         ∃ G', HR w0 ρ H' n' w ∧ Ext ρ ρ H H' n n' ∧ DrR P ρ H' lo n' true nt (Sm.putT nt T o.dst x) l (D ||| 2 ^ y) (tput X y x) T0 (addLd y q lds) W C G' rest ts := by
       intro he
       cases hN : aopN P T o with
       | none => simp [hN] at he
       | some r =>
         obtain ⟨e, c, k⟩ := r
         simp only [hN, Option.some.injEq, Prod.mk.injEq] at he
         obtain ⟨rfl, rfl, rfl, rfl⟩ := he
         have htop := hr.top (Nat.le_refl n)
         refine ⟨fun z => if z = y then some n else G z, hr.put _, Ext.put hr _, finish _ lds (Nat.le_succ _) (fun z hz => by simp [hz]) (fun g hg => by simp at hg; omega) (fun g hg _ => by rw [get_tput, if_neg (by omega)]) (fun t p v hl => ?_) (fun _ h => h) ?_⟩
         · have hne : ∀ {i B}, H.get i = some B → (tput H n (.mem e none c)).get i = some B := fun {i B} hB => by
             have : i ≠ n := fun e => by subst e; rw [htop.2] at hB; cases hB
             rw [get_tput, if_neg this]; exact hB
           exact readQ_of hk (fun _ _ hB => hne hB) hl
         · refine ⟨o, T, ho, hsee, hgk, .inr (.inr (.inr ⟨hw, e, c, k, n, hN, hXy, by simp, by rw [get_tput, if_pos rfl], htop.1, hlo, Nat.lt_succ_self _⟩))⟩
     split at he
     · rename_i t a hop
       cases hl : readQ P t a H with
       | none => simp [hl] at he
       | some x' =>
         simp only [hl, Option.some.injEq, Prod.mk.injEq] at he
         obtain ⟨rfl, rfl, rfl, rfl⟩ := he
         refine ⟨G, hr, Ext.refl _ _ _, finish G _ (Nat.le_refl _) (fun _ _ => rfl) (fun g hg => by rw [hGn] at hg; cases hg) (fun _ _ _ => rfl) (fun _ _ _ h => h) (fun _ h => by simp [addLd, h]) ?_⟩
         exact ⟨o, T, ho, hsee, hgk, .inr (.inr (.inl ⟨hw, t, a, hop, fun _ => by rw [hXy]; exact hl, by rw [hXy]; simp [addLd]⟩))⟩
     · exact alloc he
end Go.Proofs.Ytnfdknnbaebagaa.Sm
/-
 Frames and stacks that stand for the model's; the pieces of a step.
-/
namespace Go.Proofs.Ytnfdknnbaebagaa.Sm
open Go Go.RowKit
variable [Kx]
def RgR (P : Program) (ρ : Env) (H : Tr AB) (lo hi : Nat) (live : Bool) (nt : Nat) (T : Tr AV) : ARg → List Item → Array Value → Prop
 | .no, front, ts => front = [] ∧ TR ρ nt T ts
 | .pl ops l, front, ts => (∃ rest, front = [.inRegion ops rest] ∧ PlR ops l rest) ∧ TR ρ nt T ts
 | .dr ops D X T0 lds cur, front, ts => ∃ W C G rest, front = [.inRegion ops rest] ∧ DrR P ρ H lo hi live nt T ops.toList D X T0 lds W C G rest ts ∧ (∀ y, cur = some y → ∃ r, rest = y :: r ∧ Nat.testBit D y = false)
structure FRel (P : Program) (ρ : Env) (H : Tr AB) (hi : Nat) (live : Bool) (af : AFr) (fr : Frame) : Prop where
 fn : fr.fn = af.fn
 kind : fr.kind = .normal
 mode : fr.mode = cond af.ret .returning .run
 ds : DsR ρ af.ds fr.defers
 ro : RoR ρ af.round fr.roundOf
 todo : ∃ front rest, fr.todo = front ++ rest ∧ IRs ρ af.todo rest ∧ RgR P ρ H af.lo hi live af.nt af.T af.rg front fr.tmps
theorem RgR.mono {P : Program} {ρ ρ' : Env} {H H' : Tr AB} {lo hi hi' nt : Nat} {live : Bool} {T : Tr AV} {rg : ARg} {front : List Item} {ts : Array Value} (h : RgR P ρ H lo hi live nt T rg front ts) (hle : ρ.le ρ') (hhi : hi ≤ hi')
   (hg : ∀ g, g < hi → ρ g = none → ρ' g = none ∧ Keeps H H' g) : RgR P ρ' H' lo hi' false nt T rg front ts := by
 cases rg with
 | no => exact ⟨h.1, h.2.mono hle⟩
 | pl ops l => exact ⟨h.1, h.2.mono hle⟩
 | dr ops D X T0 lds cur =>
   obtain ⟨W, C, G, rest, h1, h2, h3⟩ := h
   exact ⟨W, C, G, rest, h1, h2.mono hle hhi hg, h3⟩
theorem FRel.mono {P : Program} {ρ ρ' : Env} {H H' : Tr AB} {hi hi' : Nat} {live : Bool} {af : AFr} {fr : Frame} (h : FRel P ρ H hi live af fr) (hle : ρ.le ρ') (hhi : hi ≤ hi')
   (hg : ∀ g, g < hi → ρ g = none → ρ' g = none ∧ Keeps H H' g) : FRel P ρ' H' hi' false af fr := by
 obtain ⟨front, rest, h1, h2, h3⟩ := h.todo
 exact ⟨h.fn, h.kind, h.mode, h.ds.mono hle, h.ro.mono hle, front, rest, h1, h2.mono hle, h3.mono hle hhi hg⟩
def Env.upto (ρ : Env) (k : Nat) : Env := ⟨fun i => if i < k then ρ i else none, ρ.im⟩
omit [Kx] in
theorem Env.upto_at (ρ : Env) (k i : Nat) : (ρ.upto k) i = if i < k then ρ i else none := rfl
omit [Kx] in
theorem Env.upto_le (ρ : Env) (k : Nat) : (ρ.upto k).le ρ := ⟨fun i b h => (by rw [Env.upto_at] at h; split at h; exact h; exact absurd h nofun), fun _ _ h => h⟩
omit [Kx] in
theorem Env.upto_mono {ρ ρ' : Env} (h : ρ.le ρ') (k : Nat) : (ρ.upto k).le (ρ'.upto k) := ⟨fun i b hi => (by
 rw [Env.upto_at] at hi ⊢
 split at hi
 · rename_i hk; rw [if_pos hk]; exact h _ _ hi
 · exact absurd hi nofun), h.im⟩
omit [Kx] in
theorem Env.upto_of {ρ : Env} {k : Nat} (h : ∀ i, k ≤ i → ρ i = none) : ρ.upto k = ρ := by
 obtain ⟨nm, im⟩ := ρ
 simp only [Env.upto, Env.mk.injEq, and_true]
 funext i
 by_cases hi : i < k
 · exact if_pos hi
 · rw [if_neg hi]; exact (h i (Nat.le_of_not_lt hi)).symm
inductive StackR (P : Program) (w0 : Bs) (ρ : Env) (H : Tr AB) : Nat → List AFr → List Frame → Prop
 | nil {hi : Nat} (h : ∀ i, (w0.ρ i ≠ none ∨ w0.K i) → i < hi) : StackR P w0 ρ H hi [] []
 | cons {hi : Nat} {af : AFr} {fr : Frame} {l : List AFr} {m : List Frame} (h : FRel P (ρ.upto hi) H hi false af fr) (hlo : af.lo ≤ hi) (t : StackR P w0 ρ H af.lo l m) : StackR P w0 ρ H hi (af :: l) (fr :: m)
theorem StackR.mono {P : Program} {w0 : Bs} {ρ ρ' : Env} {H H' : Tr AB} {hi : Nat} {l : List AFr} {m : List Frame} (h : StackR P w0 ρ H hi l m) (hle : ρ.le ρ') (hg : ∀ g, g < hi → ρ g = none → ρ' g = none ∧ Keeps H H' g) : StackR P w0 ρ' H' hi l m := by
 induction h with
 | nil h => exact .nil h
 | @cons hi _ _ _ _ h hlo t ih =>
   refine .cons (h.mono (Env.upto_mono hle _) (Nat.le_refl _) fun g hgl hn => ?_) hlo (ih (fun g hl hn => hg g (Nat.lt_of_lt_of_le hl hlo) hn))
   rw [Env.upto_at, if_pos hgl] at hn
   obtain ⟨h1, h2⟩ := hg g hgl hn
   exact ⟨by rw [Env.upto_at, if_pos hgl]; exact h1, h2⟩
theorem StackR.base {P : Program} {w0 : Bs} {ρ : Env} {H : Tr AB} {hi : Nat} {l : List AFr} {m : List Frame} (h : StackR P w0 ρ H hi l m) : ∀ i, (w0.ρ i ≠ none ∨ w0.K i) → i < hi := by
 induction h with
 | nil h => exact h
 | cons _ hlo _ ih => exact fun i hi => Nat.lt_of_lt_of_le (ih i hi) hlo
theorem StackR.push {P : Program} {w0 : Bs} {ρ : Env} {H : Tr AB} {hi : Nat} {af : AFr} {fr : Frame} {l : List AFr} {m : List Frame} (h : FRel P ρ H hi false af fr) (htop : ∀ i, hi ≤ i → ρ i = none) (hlo : af.lo ≤ hi) (t : StackR P w0 ρ H af.lo l m) : StackR P w0 ρ H hi (af :: l) (fr :: m) :=
 .cons (by rw [Env.upto_of htop]; exact h) hlo t
def SR (P : Program) (w0 : Bs) (s : ASt) (fr : Frame) (cs : List Frame) (w : World) : Prop :=
 ∃ ρ, HR w0 ρ s.H s.n w ∧ FRel P ρ s.H s.n true s.fr fr ∧ s.fr.lo ≤ s.n ∧ StackR P w0 ρ s.H s.fr.lo s.cs cs
omit [Kx] in
theorem Ext.low {ρ ρ' : Env} {H H' : Tr AB} {n n' m : Nat} (h : Ext ρ ρ' H H' n n') (hm : m ≤ n) : ∀ g, g < m → ρ g = none → ρ' g = none ∧ Keeps H H' g := fun g hg hn =>
 ⟨(h.old (Nat.lt_of_lt_of_le hg hm)).trans hn, h.keep (Nat.lt_of_lt_of_le hg hm) hn⟩
def toCallee (fv : Value) (args : Array Value) : Sem Next := do let d ← Deferred.ofValue fv args; invoke d.target d.args
omit [Kx] in
theorem calleeOf_sound {P : Program} {ρ : Env} {f : AV} {args : List AV} {fv : Value} {vs : List Value} {c : Callee'} (h : calleeOf P f args = some c) (hf : VR ρ f fv) (ha : VRs ρ args vs) :
   (∃ g xs us, c = .fn g xs ∧ VRs ρ xs us ∧ ∀ w, (toCallee fv vs.toArray).run P w = (callFunc g us.toArray).run P w) ∨
   (∃ i b cc, c = .yl i args ∧ ρ i = some (b, cc) ∧ ∀ w, (toCallee fv vs.toArray).run P w = (Instr.yield b vs.toArray).run P w) := by
 unfold calleeOf at h
 split at h
 · rename_i g first cap
   simp only [Option.some.injEq] at h; subst h
   cases hf with
   | fn _ e e' =>
     refine .inl ⟨g, _, _, rfl, (e.append ha).append e', fun w => ?_⟩
     unfold toCallee
     simp [Deferred.ofValue, invoke]
 · rename_i i
   simp at h; subst h
   cases hf with
   | yl e =>
     refine .inr ⟨i, _, _, rfl, e, fun w => ?_⟩
     unfold toCallee
     simp [Deferred.ofValue, invoke]
 · cases h
omit [Kx] in
theorem methodA_sound {P : Program} {t : TypeId} {name : String} {f : FuncId} (h : methodA P t name = some f) : ∀ v w, (method (P.types.size + Made.depth) t v name).run P w = .ok (f, v) w := by
 unfold methodA at h
 split at h
 · rename_i inf hinf
   split at h
   · rename_i m hm
     intro v w
     obtain ⟨d, hd⟩ : ∃ d, P.types.size + Made.depth = d + 1 := ⟨P.types.size + Made.depth - 1, by unfold Made.depth; omega⟩
     rw [hd]
     unfold method
     have hpath : ∀ {l : List FieldStep}, m.path.toList = l → l = [] → m.path.isEmpty = true := fun h1 h2 => by
       rw [h2] at h1
       simpa using h1
     split at h
     · rename_i g e hp hfn hu
       simp at h; subst h
       have hpe := hpath hp rfl
       simp [run_typeInfo hinf, hm, hp, follow, hfn, receiverAt, run_underlying hu, Place.get, hpe]
     · cases h
     · rename_i g d' hne hp hfn hu
       simp at h; subst h
       have hpe := hpath hp rfl
       simp only [Sem.run_bind, run_typeInfo hinf, Result.andThen_ok, hm, hp, follow, Sem.run_pure, hfn, receiverAt, run_underlying hu]
       cases d' <;> first | (exact absurd rfl (hne _)) | simp [Place.get]
     · cases h
   · cases h
 · cases h
omit [Kx] in
theorem callOf_sound {P : Program} {ρ : Env} {T : Tr AV} {o : Oper} {c : Callee'} {ev : Operand → Value} (h : callOf P T o = some c) (hev : ∀ y ∈ o.op.operands, VR ρ (aev T y) (ev y)) :
   (∃ g xs us, c = .fn g xs ∧ VRs ρ xs us ∧ ∀ w, (execOp ev o).run P w = (callFunc g us.toArray).run P w) ∨
   (∃ i xs vs b cc, c = .yl i xs ∧ VRs ρ xs vs ∧ ρ i = some (b, cc) ∧ ∀ w, (execOp ev o).run P w = (Instr.yield b vs.toArray).run P w) := by
 obtain ⟨dst, op, type, pos, after, guard⟩ := o
 unfold callOf at h
 split at h
 · rename_i f args ats hop
   simp only at hop
   subst hop
   have hargs : VRs ρ (args.toList.map (aev T)) (args.toList.map ev) := VRs.map_ev fun y hy => hev y (by simp [Op.operands, Call.operands]; exact .inr (by simpa using hy))
   have hf := hev f (by simp [Op.operands, Call.operands])
   have hex : ∀ w, (execOp ev ⟨dst, .call ⟨.value f, args, ats⟩, type, pos, after, guard⟩).run P w = (toCallee (ev f) (args.toList.map ev).toArray).run P w := fun w => by
     unfold execOp toCallee resolve
     rw [arrmap]
   rcases calleeOf_sound h hf hargs with ⟨g, xs, us, h1, h2, h3⟩ | ⟨i, b, cc, h1, h2, h3⟩
   · exact .inl ⟨g, xs, us, h1, h2, fun w => (hex w).trans (h3 w)⟩
   · exact .inr ⟨i, _, _, b, cc, h1, hargs, h2, fun w => (hex w).trans (h3 w)⟩
 · rename_i r name args ats hop
   simp only at hop
   subst hop
   have hargs : VRs ρ (args.toList.map (aev T)) (args.toList.map ev) := VRs.map_ev fun y hy => hev y (by simp [Op.operands, Call.operands]; exact .inr (by simpa using hy))
   have hr := hev r (by simp [Op.operands, Call.operands])
   split at h
   · rename_i t x hrx
     rw [hrx] at hr
     generalize hrv : ev r = rv at hr
     cases hr with
     | ifc _ hx =>
       rename_i u
       cases hm : methodA P t name with
       | none => simp [hm] at h
       | some g =>
         simp [hm] at h; subst h
         refine .inl ⟨g, _, _, rfl, .cons hx hargs, fun w => ?_⟩
         have e0 : ∀ (a : Value) (ys : Array Value), (#[a] ++ ys)[0]? = some a := fun a ys => by rw [← Array.getElem?_toList]; simp
         have e1 : ∀ (a : Value) (ys : Array Value), (#[a] ++ ys).extract 1 (#[a] ++ ys).size = ys := fun a ys => Array.toList_inj.1 (by simp [List.extract_eq_take_drop])
         have e2 : (u :: args.toList.map ev).toArray = #[u] ++ args.map ev := Array.toList_inj.1 (by simp)
         unfold execOp resolve
         simp only [Sem.run_bind, Sem.run_pure, Result.andThen_ok, invoke, hrv, e0, e1, callMethod, run_program, methodA_sound hm, e2]
   · cases h
 · cases h
end Go.Proofs.Ytnfdknnbaebagaa.Sm
namespace Go.Proofs.Ytnfdknnbaebagaa.Sm
open Go Go.RowKit
section
variable {P : Program} {FT : FuncId → Option Func} {w0 : Bs} {w : World} {ρ : Env} {H H' : Tr AB} {n n' : Nat}
theorem At_argsT : ∀ (l : List AV) (k : Nat) (T : Tr AV) (s : Nat), At (argsT l k T) s = if k ≤ s ∧ s < k + l.length then (l[s - k]?).getD (.v undef) else At T s
 | [], k, T, s => by simp [argsT]; omega
 | x :: l, k, T, s => by
   unfold argsT
   rw [At_argsT l (k + 1), At_tput]
   by_cases h1 : s = k
   · subst h1; rw [if_neg (by omega), if_pos rfl, if_pos ⟨by omega, by simp⟩]; simp
   · by_cases h2 : k + 1 ≤ s ∧ s < k + 1 + l.length
     · rw [if_pos h2, if_pos ⟨by omega, by simp; omega⟩]
       rw [show s - k = (s - (k + 1)) + 1 by omega]
       simp
     · rw [if_neg h2, if_neg h1, if_neg (by simp; omega)]
theorem argsT_TR {l : List AV} {vs : List Value} (h : VRs ρ l vs) (m : Nat) : TR ρ (cond (Nat.ble m l.length) l.length m) (argsT l 0 .e) (vs.toArray ++ Array.replicate (m - vs.toArray.size) undef) := by
 have hl := h.length
 constructor
 · simp
   cases hb : Nat.ble m l.length with
   | true => have := Nat.le_of_ble_eq_true hb; simp; omega
   | false =>
     have : l.length < m := by
       rcases Nat.lt_or_ge l.length m with h' | h'
       · exact h'
       · rw [Nat.ble_eq_true_of_le h'] at hb; cases hb
     simp; omega
 · intro s
   rw [At_argsT]
   by_cases hs : s < l.length
   · rw [if_pos ⟨Nat.zero_le _, by omega⟩]
     obtain ⟨u, hu, hx⟩ := h.get (k := s) (x := l[s]) (List.getElem?_eq_getElem hs)
     have : (vs.toArray ++ Array.replicate (m - vs.toArray.size) undef).getD s undef = u := by
       rw [Array.getD_eq_getD_getElem?, ← Array.getElem?_toList]
       simp only [Array.toList_append]
       rw [List.getElem?_append_left (by rw [← hl]; exact hs), hu]
       rfl
     rw [this]
     simp [hs]
     exact hx
   · rw [if_neg (by omega)]
     have : (vs.toArray ++ Array.replicate (m - vs.toArray.size) undef).getD s undef = undef := by
       rw [Array.getD_eq_getD_getElem?, ← Array.getElem?_toList]
       simp only [Array.toList_append]
       rw [List.getElem?_append_right (by rw [← hl]; omega)]
       simp only [Array.toList_replicate, List.getElem?_replicate]
       split <;> rfl
     rw [this]
     exact .v _
theorem putParams_TR : ∀ {ps : List Tmp} {xs : List AV} {vs : List Value} {nt : Nat} {T : Tr AV} {ts : Array Value}, TR ρ nt T ts → VRs ρ xs vs → TR ρ nt (putParams nt ps xs T) ((ps.zip vs).foldl (fun t p => t.setIfInBounds p.1 p.2) ts)
 | [], xs, vs, nt, T, ts, h, _ => by cases xs <;> simpa [putParams] using h
 | p :: ps, [], vs, nt, T, ts, h, hx => by cases hx; simpa [putParams] using h
 | p :: ps, x :: xs, vs, nt, T, ts, h, hx => by
   cases hx with
   | cons e t =>
     simp only [putParams, List.zip_cons_cons, List.foldl_cons]
     exact putParams_TR (h.put (d := some p) e) t
theorem apply_enter {fr : Frame} {cs : List Frame} {w' : World} {S : Sem Next} {f : FuncId} {args : Array Value} (hc : ∀ d x y z r, fr.todo ≠ .call d x y z :: r) (hr : S.run P w = .ok (.enter f args) w') :
   (stepG.apply P true fr cs none S w).bare = .go { frame := Frame.enter P f args .normal, callers := fr :: cs, status := .running, dying := none } w' := by
 have : (match fr.todo with | .call _ true _ _ :: _ => CallKind.wrapped | _ => .normal) = .normal := by
   split
   · rename_i e; exact absurd e (hc _ _ _ _ _)
   · rfl
 simp [stepG.apply, hr]
 exact congrArg (Frame.enter P f args) this
theorem apply_round {fr : Frame} {cs : List Frame} {w' : World} {S : Sem Next} {l : Nat} {f : FuncId} {tmps : Array Value} {a b : Code} (hr : S.run P w = .ok (.round l f tmps a b) w') :
   (stepG.apply P true fr cs none S w).bare = .go { frame := Frame.round l f tmps a b .normal, callers := fr :: cs, status := .running, dying := none } w' := by
 simp [stepG.apply, hr]
variable [Kx]
theorem enter_sound (hft : FTok P FT) {s s' : ASt} {af : AFr} {fr : Frame} {cs base : List Frame} {c : Callee'} (h : enterA FT af s c = some s') (hr : HR w0 ρ s.H s.n w) (hfr : FRel P ρ s.H s.n false af fr) (hlo : af.lo ≤ s.n)
   (hst : StackR P w0 ρ s.H af.lo s.cs cs) {S : Sem Next} {fr0 : Frame} {w1 : World} (hg : (stepG P true { frame := fr0, callers := cs ++ base, status := .running, dying := none } w1).bare = (stepG.apply P true fr (cs ++ base) none S w).bare) (hc : ∀ d x y z r, fr.todo ≠ .call d x y z :: r)
   (hS : (∃ g xs us, c = .fn g xs ∧ VRs ρ xs us ∧ S.run P w = (callFunc g us.toArray).run P w) ∨ (∃ i xs vs b cc, c = .yl i xs ∧ VRs ρ xs vs ∧ ρ i = some (b, cc) ∧ S.run P w = (Instr.yield b vs.toArray).run P w)) :
   ∃ fr', step P (lone fr0 (cs ++ base) w1) = .next (lone fr' (fr :: cs ++ base) w) ∧ SR P w0 s' fr' (fr :: cs) w := by
 rcases hS with ⟨g, xs, us, rfl, hx, hrun⟩ | ⟨i, xs, vs, b, cc, rfl, hx, hi, hrun⟩
 · simp only [enterA] at h
   cases hfn : FT g with
   | none => simp [hfn] at h
   | some fn =>
     cases hb : fn.body with
     | none => simp [hfn, hb] at h
     | some body =>
       simp only [hfn, hb, Option.some.injEq] at h
       subst h
       refine ⟨_, step_lone_go (hg.trans (apply_enter hc (hrun.trans (hft.call hfn (by rw [hb]; rfl) _ _)))), ρ, hr, ?_, Nat.le_refl _, .push hfr (fun i hi => (hr.top hi).1) hlo hst⟩
       have hP := hft.fn hfn
       refine ⟨rfl, rfl, rfl, .nil, .inl ⟨rfl, rfl⟩, [], _, rfl, ?_, rfl, ?_⟩
       · simp only [Frame.enter, hP, Option.bind_some, hb, Option.getD_some]
         exact .cons (.code _) .nil
       · have := argsT_TR hx fn.ntmps
         simpa [Frame.enter, hP] using this
 · simp only [enterA] at h
   split at h
   · rename_i st pd fn nt T ps asg bd d hB
     rw [beq_dec] at h
     by_cases hl : xs.length = ps.length
     · simp only [hl, decide_true, cond_true, Option.some.injEq] at h
       subst h
       obtain ⟨o, ho, ts, db, dc, hts, hd, rfl⟩ := hr.blk hi hB
       have hvl := hx.length
       have hy : (Instr.yield b vs.toArray).run P w = .ok (.round b fn ((ps.toArray.zip vs.toArray).foldl (fun tmps (x : Tmp × Value) => tmps.setIfInBounds x.1 x.2) ts) asg bd) w := by
         unfold Instr.yield
         have hne : ¬ (vs.toArray.size ≠ ps.toArray.size) := by simp; omega
         simp only [Sem.run_bind, run_getLoop ho, Result.andThen_ok, if_neg hne, Sem.run_pure]
       refine ⟨_, step_lone_go (hg.trans (apply_round (hrun.trans hy))), ρ, hr, ?_, Nat.le_refl _, .push hfr (fun i hi => (hr.top hi).1) hlo hst⟩
       refine ⟨rfl, rfl, rfl, .nil, .inr ⟨i, b, cc, rfl, rfl, hi⟩, [], _, rfl, .cons (.code _) (.cons .beginRound (.cons (.code _) .nil)), rfl, ?_⟩
       have := putParams_TR (ps := ps) hts hx
       have he : (ps.toArray.zip vs.toArray).foldl (fun tmps (x : Tmp × Value) => tmps.setIfInBounds x.1 x.2) ts = (ps.zip vs).foldl (fun t p => t.setIfInBounds p.1 p.2) ts := by
         rw [← Array.foldl_toList]; simp
       simp only [Frame.round, he]
       exact this
     · simp [hl] at h
   · cases h
theorem now_sound (hk : HKok P) {T : Tr AV} {o : Oper} {x : AV} (hr : HR w0 ρ H n w) (h : nowA P T o H n = some (x, H', n')) {fr : Frame} {cs : List Frame} (hev : ∀ y ∈ o.op.operands, VR ρ (aev T y) (fr.eval y))
   (hg : stepG P true { frame := fr, callers := cs, status := .running, dying := none } w = stepG.apply P true fr cs none (execOp fr.eval o) w) (hc : ∀ d x y z r, fr.todo ≠ .call d x y z :: r) :
   ∃ ρ' v w', Steps P (lone fr cs w) (lone (fr.finish v) cs w') ∧ VR ρ' x v ∧ HR w0 ρ' H' n' w' ∧ Ext ρ ρ' H H' n n' := by
 unfold nowA at h
 cases hW : aopW P T o H n with
 | some r =>
   rw [hW] at h
   simp at h; subst h
   obtain ⟨ρ', v, w', h1, h2, h3, h4⟩ := aopW_sound hr hW hev
   refine ⟨ρ', v, w', ?_, h2, h3, h4⟩
   rcases h1 with h1 | ⟨rfl, h1⟩
   · exact .one (step_value hg h1)
   · exact .one (step_skip' hg h1)
 | none =>
   rw [hW] at h
   simp only at h
   cases hW2 : Kx.K.w T o H n with
   | some r =>
     rw [hW2] at h
     simp at h; subst h
     obtain ⟨ρ', v, w', h1, h2, h3, h4⟩ := hk.w hW2 hr hev
     refine ⟨ρ', v, w', ?_, h2, h3, h4⟩
     rcases h1 with h1 | ⟨rfl, h1⟩
     · exact .one (step_value hg h1)
     · exact .one (step_skip' hg h1)
   | none =>
   rw [hW2] at h
   simp only [hooked] at h
   split at h
   · rename_i f args hco
     obtain ⟨hen, hcalls⟩ := hk.f h
     rcases callOf_sound hco hev with ⟨g, xs, us, h1, h2, h3⟩ | ⟨i, xs, vs, b, cc, h1, _⟩
     · cases h1
       have hst := step_enter hc hg ((h3 w).trans (hen _ _))
       obtain ⟨e, w', fr'', hR, hcomes, _, hleave⟩ := hcalls hr h2 (fr :: cs)
       obtain ⟨ρ', v, rfl, hv, hr', hx⟩ := hR
       exact ⟨ρ', v, w', .head hst (Steps.trans hcomes (.one (step_leave_returned hleave))), hv, hr', hx⟩
     · cases h1
   · cases h
theorem FRel.pl_done {af : AFr} {fr : Frame} {hi hi' : Nat} {live : Bool} {ρ' : Env} {ops : Array Oper} {o : Oper} {r : List Oper} (h : FRel P ρ H hi live af fr) (hrg : af.rg = .pl ops (o :: r)) (hle : ρ.le ρ') {x : AV} {v : Value} (hv : VR ρ' x v) (live' : Bool) :
   FRel P ρ' H' hi' live' { af with T := putT af.nt af.T o.dst x, rg := .pl ops r } (fr.finish v) := by
 obtain ⟨front, rest, h1, h2, h3⟩ := h.todo
 rw [hrg] at h3
 obtain ⟨⟨rest', rfl, hp⟩, hT⟩ := h3
 obtain ⟨i, r', rfl, hi, hp'⟩ := hp.head
 have ht : fr.todo = .inRegion ops (i :: r') :: rest := h1
 rw [finish_region ht hi v]
 exact ⟨h.fn, h.kind, h.mode, h.ds.mono hle, h.ro.mono hle, [.inRegion ops r'], rest, rfl, h2.mono hle, ⟨r', rfl, hp'⟩, (hT.mono hle).put hv⟩
theorem DrR.opdone (hk : HKok P) {ρ' : Env} {lo nt D : Nat} {live : Bool} {T X T0 : Tr AV} {l : List Oper} {lds : List (Nat × TypeId × AV × AV)} {W : Tr Nat} {C : Nat → Prop} {G : Nat → Option Nat} {y : Nat} {r : List Nat} {ts : Array Value} {hi hi' : Nat}
   (h : DrR P ρ H lo hi live nt T l D X T0 lds W C G (y :: r) ts) (hy : Nat.testBit D y = false) {o : Oper} (ho : l[y]? = some o) {x : AV} {v : Value} (hle : ρ.le ρ') (hg : ∀ g, g < hi → ρ g = none → ρ' g = none ∧ Keeps H H' g) (hnn : hi ≤ hi')
   (hl : ldsOk P H' lds = true) (hv : VR ρ' x v) :
   DrR P ρ' H' lo hi' true nt (Sm.putT nt T o.dst x) l (D ||| 2 ^ y) (tput X y x) T0 lds W (fun z => C z ∨ z = y) G r (match o.dst with | some d => ts.setIfInBounds d v | none => ts) := by
 cases h.lin with
 | cons hylt hn hp t =>
   have hX : ∀ i, i ≠ y → At (tput X y x) i = At X i := fun i hi => by rw [At_tput, if_neg hi]
   have hXy : At (tput X y x) y = x := by rw [At_tput, if_pos rfl]
   have hpD : ∀ p, Pred l y p → Nat.testBit D p = true := fun p hpp => h.sub p (hp p hpp)
   have hanc : ∀ z i, Nat.testBit D z = true → ancB l z i = true → i ≠ y := fun z i hz hi e => by
     have := anc_closed h.sc.below (C := fun i => Nat.testBit D i = true) h.closD z i (fun p hpp => h.closD z p hz hpp) hi
     rw [e, hy] at this; cases this
   have h2 := DrR.live hk (h.mono hle hnn hg) hl
   refine { h with lin := t, closC := fun z p hz hzp => ?_, closD := fun z p hz hzp => ?_, sub := fun z hz => ?_, dlt := fun z hz => ?_, size := ?_, T := h.putT ho hy x, ts := fun s => ?_, pend := fun z hz hzC => ?_, gb := fun {a g} ha => ?_ }
   · rcases hz with hz | rfl
     · exact .inl (h.closC z p hz hzp)
     · exact .inl (hp p hzp)
   · rw [testBit_put] at hz ⊢
     by_cases e : y = z
     · subst e; rw [hpD p hzp]; rfl
     · simp [e] at hz; rw [h.closD z p hz hzp]; rfl
   · rw [testBit_put]
     rcases hz with hz | rfl
     · rw [h.sub z hz]; rfl
     · simp
   · rw [testBit_put] at hz
     by_cases e : y = z
     · subst e; exact hylt
     · simp [e] at hz; exact h.dlt z hz
   · cases o.dst <;> simp [h.size]
   · exact h.putTs hle ho hn (fun i hi => hX i (fun e => hn (e ▸ hi))) (by rw [hXy]; exact hv) s
   · have hne : z ≠ y := fun e => hzC (.inr e)
     have hzD : Nat.testBit D z = true := by
       rw [testBit_put] at hz
       have : y ≠ z := fun h => hne h.symm
       simpa [this] using hz
     obtain ⟨o', Ty, q1, q2, q3⟩ := h2.pend z hzD (fun hc => hzC (.inl hc))
     refine ⟨o', Ty, q1, fun s hs => (q2 s hs).trans (envS_congr fun i hi => (hX i (hanc z i hzD hi)).symm), ?_⟩
     rw [hX z hne]
     exact q3
   · have := h.gb ha
     exact ⟨Nat.lt_of_lt_of_le this.1 hnn, by rw [testBit_put, this.2]; rfl⟩
theorem finishA_sound (hk : HKok P) {c c' : AFr} {cfr : Frame} {hi hi' : Nat} {x : AV} {v : Value} (h : finishA P H c x = some c') (hf : FRel P ρ H hi false c cfr) (hhi : hi ≤ hi') (hv : VR ρ x v) : FRel P ρ H hi' true c' (cfr.finish v) ∧ c'.lo = c.lo := by
 unfold finishA at h
 split at h
 · rename_i ops o r hrg
   simp only [Option.some.injEq] at h
   subst h
   exact ⟨hf.pl_done hrg ρ.le_refl hv true, rfl⟩
 · rename_i ops D X T0 lds y hrg
   split at h
   · rename_i o ho
     cases hl : ldsOk P H lds with
     | false => simp [hl] at h
     | true =>
       simp only [hl, cond_true, Option.some.injEq] at h
       subst h
       obtain ⟨front, rest, h1, h2, h3⟩ := hf.todo
       rw [hrg] at h3
       obtain ⟨W, C, G, rest', rfl, hd, hcur⟩ := h3
       obtain ⟨r, rfl, hyD⟩ := hcur y rfl
       have ht : cfr.todo = .inRegion ops (y :: r) :: rest := h1
       have ho' : ops[y]? = some o := by simpa using ho
       rw [finish_region ht ho' v]
       refine ⟨⟨hf.fn, hf.kind, hf.mode, hf.ds, hf.ro, [.inRegion ops r], rest, rfl, h2, W, _, G, r, rfl, DrR.opdone hk hd hyD ho ρ.le_refl (fun g _ hn => ⟨hn, Keeps.refl _ _⟩) hhi hl hv, fun y hy => by cases hy⟩, rfl⟩
   · cases h
 · rename_i hrg
   split at h
   · rename_i i k htd
     simp only [Option.some.injEq] at h
     subst h
     obtain ⟨front, rest, h1, h2, h3⟩ := hf.todo
     rw [hrg] at h3
     obtain ⟨rfl, hT⟩ := h3
     rw [htd] at h2
     cases h2 with
     | cons a t =>
       cases a with
       | inRF hb =>
         rename_i m b cc
         have ht : cfr.todo = .inRangeFunc b :: m := h1
         have hfin : cfr.finish v = { cfr with todo := .endRangeFunc b :: m } := by unfold Frame.finish; rw [ht]
         rw [hfin]
         refine ⟨⟨hf.fn, hf.kind, hf.mode, hf.ds, hf.ro, [], _, rfl, .cons (.endRF hb) t, ?_⟩, rfl⟩
         simp only [hrg]
         exact ⟨rfl, hT⟩
   · cases h
 · cases h
end
section
variable {P : Program} {FT : FuncId → Option Func} {w0 : Bs} [Kx]
def Goes (P : Program) (w0 : Bs) (base : List Frame) (s' : ASt) (fr : Frame) (cs : List Frame) (w : World) : Prop :=
 ∃ fr' cs' w', Steps P (lone fr (cs ++ base) w) (lone fr' (cs' ++ base) w') ∧ SR P w0 s' fr' cs' w'
theorem back_sound (hK : HKok P) {base : List Frame} {s s' : ASt} {fr : Frame} {cs : List Frame} {w w' : World} {ρ : Env} {x : AV} {v : Value} (h : backA P s x = some s') (hr : HR w0 ρ s.H s.n w') (hst : StackR P w0 ρ s.H s.fr.lo s.cs cs) (hlo : s.fr.lo ≤ s.n) (hv : VR ρ x v)
   (hk : ∀ c cs', cs = c :: cs' → step P (lone fr (cs ++ base) w) = .next (lone (c.finish v) (cs' ++ base) w')) : Goes P w0 base s' fr cs w := by
 unfold backA at h
 generalize hscs : s.cs = scs at hst h
 cases hst with
 | nil => cases h
 | cons hf hl t =>
   rename_i c cfr l m
   simp only at h
   cases hc : finishA P s.H c x with
   | none => simp [hc] at h
   | some c' =>
     simp only [hc, Option.some.injEq] at h
     subst h
     obtain ⟨h1, h2⟩ := finishA_sound hK hc (hf.mono (Env.upto_le ρ _) (Nat.le_refl _) (fun g hg hn => ⟨by rw [Env.upto_at, if_pos hg] at hn; exact hn, Keeps.refl _ _⟩)) hlo hv
     refine ⟨_, m, w', .one (hk cfr m rfl), ρ, hr, h1, ?_, ?_⟩
     · show c'.lo ≤ s.n
       rw [h2]; omega
     · show StackR P w0 ρ s.H c'.lo l m
       rw [h2]; exact t
theorem todo_sound {base : List Frame} {s : ASt} {fr : Frame} {cs : List Frame} {w : World} (h : SR P w0 s fr cs w) (hrg : s.fr.rg = .no) (hret : s.fr.ret = false) {l : List AItem} {m : List Item} (hl : ∀ ρ, IRs ρ s.fr.todo fr.todo → IRs ρ l m)
   (hs : stepG.exec P true true fr (cs ++ base) none w = .go { frame := { fr with todo := m }, callers := cs ++ base, status := .running, dying := none } w) : Goes P w0 base { s with fr := { s.fr with todo := l } } fr cs w := by
 obtain ⟨ρ, hr, hf, hlo, hst⟩ := h
 obtain ⟨front, rest, h1, h2, h3⟩ := hf.todo
 rw [hrg] at h3
 obtain ⟨rfl, hT⟩ := h3
 have ht : fr.todo = rest := h1
 have hm := hf.mode
 rw [hret] at hm
 refine ⟨_, cs, w, .one (step_todo hm hs), ρ, hr, ⟨hf.fn, hf.kind, hf.mode, hf.ds, hf.ro, [], m, rfl, hl ρ (ht ▸ h2), ?_⟩, hlo, hst⟩
 simp only [hrg]
 exact ⟨rfl, hT⟩
omit [Kx] in
theorem Fr.put (w : World) (b : Nat) (o : Obj) : Fr (fun k => k = b) w (w.putObj b o) := ⟨rfl, rfl, rfl, by simp [World.putObj], fun k _ hn => World.putObj_heap_other hn⟩
theorem leave_sound (hK : HKok P) {base : List Frame} {s s' : ASt} {fr : Frame} {cs : List Frame} {w : World} (h : SR P w0 s fr cs w) (hrg : s.fr.rg = .no) (hret : s.fr.ret = false) {jump : Option Code} (hl : leaveA P s jump = some s')
   (hs0 : fr.roundOf = none → (jump = none ∨ jump = some .ret) → stepG.exec P true true fr (cs ++ base) none w = .go { frame := { fr with mode := .returning }, callers := cs ++ base, status := .running, dying := none } w)
   (hs1 : ∀ l, fr.roundOf = some l → stepG.exec P true true fr (cs ++ base) none w = GStep.after (seen P fr.fn ((Instr.endRound l jump).runT P w #[]).2) (match ((Instr.endRound l jump).runT P w #[]).1 with
       | .ok v w => doReturn P true fr (cs ++ base) none v w
       | .halt _ w => .ended (.stuck "range over a function: no such loop" (fr.pos P)) w)) : Goes P w0 base s' fr cs w := by
 obtain ⟨ρ, hr, hf, hlo, hst⟩ := h
 have hm := hf.mode
 rw [hret] at hm
 unfold leaveA at hl
 rcases hf.ro with ⟨hro, hro'⟩ | ⟨i, b, c, hro, hro', hi⟩
 · rw [hro] at hl
   simp only at hl
   have key : ∀ s'', some { s with fr := { s.fr with ret := true } } = some s'' → (jump = none ∨ jump = some .ret) → Goes P w0 base s'' fr cs w := by
     intro s'' he hj
     simp only [Option.some.injEq] at he
     subst he
     obtain ⟨front, rest, h1, h2, h3⟩ := hf.todo
     exact ⟨_, cs, w, .one (step_todo hm (hs0 hro' hj)), ρ, hr, ⟨hf.fn, hf.kind, rfl, hf.ds, hf.ro, front, rest, h1, h2, h3⟩, hlo, hst⟩
   split at hl
   · exact key _ hl (.inl rfl)
   · exact key _ hl (.inr rfl)
   · cases hl
 · rw [hro] at hl
   have hs := hs1 b hro'
   simp only at hl
   split at hl
   · rename_i st pd fn nt T ps asg bd d hB
     obtain ⟨o, ho, ts, db, dc, hts, hd, rfl⟩ := hr.blk hi hB
     have hrun : (Instr.endRound b jump).run P w = .ok (.bool (goesOn jump)) (w.putObj b (.loop { state := (stOf jump), pending := jump, fn := fn, tmps := ts, params := ps.toArray, assign := asg, body := bd, defers := db })) := by
       unfold Instr.endRound
       simp only [Sem.run_bind, run_getLoop ho, Result.andThen_ok, Sem.run_pure]
       simp only [setObj, Sem.run, ho, Result.andThen_ok, World.putObj]
       cases jump <;> rfl
     have hw' : HR w0 ρ (tput s.H i (.loop (stOf jump) jump fn nt T ps asg bd d)) s.n (w.putObj b (.loop { state := (stOf jump), pending := jump, fn := fn, tmps := ts, params := ps.toArray, assign := asg, body := bd, defers := db })) :=
       hr.write hi hB rfl rfl (World.putObj_heap_same (hr.base hi).2) ⟨ts, db, dc, hts, hd, rfl⟩ (Fr.put w b _)
     refine back_sound hK hl hw' ?_ hlo (VR.v _) (fun c cs' hcs => ?_)
     · exact hst.mono ρ.le_refl (fun g _ hn => ⟨hn, Keeps.of (by show (tput _ _ _).get g = _; rw [get_tput, if_neg (fun e => by subst e; rw [hi] at hn; cases hn)])⟩)
     · refine step_lone_go ?_
       have hstep : stepG P true { frame := fr, callers := cs ++ base, status := .running, dying := none } w = stepG.exec P true true fr (cs ++ base) none w := by
         obtain ⟨fn, tmps, todo, defers, mode, kind, ro⟩ := fr
         simp only at hm; subst hm
         rfl
       rw [hstep, hs]
       simp only [Sem.runT_eq, hrun, GStep.bare_after]
       rw [hcs]
       simp only [List.cons_append, doReturn, hf.kind]
       rfl
   · cases hl
end
section
variable {P : Program} {FT : FuncId → Option Func} {w0 : Bs} [Kx]
omit [Kx] in
theorem inRegion_not_call {ops : Array Oper} {l : List Nat} {k : List Item} : ∀ d x y z r, (Item.inRegion ops l :: k) ≠ .call d x y z :: r := fun _ _ _ _ _ e => by cases e
theorem stepPl_sound (hft : FTok P FT) (hk : HKok P) {base : List Frame} {s s' : ASt} {fr : Frame} {cs : List Frame} {w : World} {ops : Array Oper} {o : Oper} {r : List Oper} (h : SR P w0 s fr cs w) (hrg : s.fr.rg = .pl ops (o :: r)) (hret : s.fr.ret = false)
   (hs : stepPl P FT s ops o r = some s') : Goes P w0 base s' fr cs w := by
 obtain ⟨ρ, hr, hf, hlo, hst⟩ := h
 have hm := hf.mode
 rw [hret] at hm
 obtain ⟨front, rest, h1, h2, h3⟩ := hf.todo
 rw [hrg] at h3
 obtain ⟨⟨rest', rfl, hp⟩, hT⟩ := h3
 obtain ⟨i, r', rfl, hoi, hp'⟩ := hp.head
 have ht : fr.todo = .inRegion ops (i :: r') :: rest := h1
 have hev : ∀ y ∈ o.op.operands, VR ρ (aev s.fr.T y) (fr.eval y) := fun y _ => hT.ev y
 have fin : ∀ {ρ' : Env} {x : AV} {v : Value} {H' : Tr AB} {n' : Nat} {w' : World}, Steps P (lone fr (cs ++ base) w) (lone (fr.finish v) (cs ++ base) w') → VR ρ' x v → HR w0 ρ' H' n' w' → Ext ρ ρ' s.H H' s.n n' →
     Goes P w0 base { s with fr := { s.fr with T := putT s.fr.nt s.fr.T o.dst x, rg := .pl ops r }, H := H', n := n' } fr cs w := by
   intro ρ' x v H' n' w' hsteps hv hr' hx
   exact ⟨_, cs, w', hsteps, ρ', hr', hf.pl_done hrg hx.le hv true, Nat.le_trans hlo hx.nn, hst.mono hx.le (hx.low hlo)⟩
 unfold stepPl at hs
 cases hsp : stopQ s.fr.T ops.toList o s.H with
 | true => simp [hsp] at hs
 | false =>
 simp only [hsp, cond_false] at hs
 cases hpl : plainOp o with
 | false => simp [hpl] at hs
 | true =>
   cases hgk : gOk s.fr.T (dstIn ops.toList) o with
   | false => simp [hgk] at hs
   | true =>
   have hw := wantedA_sound (n := 0) (ops := ops) (o := o) (T := s.fr.T) hgk (fun d _ => hT.2 d)
   simp only [hpl, hgk, Bool.and_self, cond_true] at hs
   cases hwa : wantedA s.fr.T (dstIn ops.toList) o with
   | false =>
     simp only [hwa, cond_false, Option.some.injEq] at hs
     subst hs
     refine fin (.one (step_unwanted ht hm ?_)) (.v undef) hr (Ext.refl _ _ _)
     rw [hoi]; simp only [Option.map_some, Option.getD_some]; rw [hw, hwa]
   | true =>
     simp only [hwa, cond_true] at hs
     have hg := stepG_oper (P := P) (cs := cs ++ base) (w := w) ht hm hoi (by rw [hw, hwa]) hpl
     have hc : ∀ d x y z r, fr.todo ≠ .call d x y z :: r := by rw [ht]; exact inRegion_not_call
     cases hP : aopQ P s.fr.T o with
     | some x =>
       simp only [hP, Option.some.injEq] at hs
       subst hs
       obtain ⟨v, hv, hrun⟩ := aopQ_sound hk hP hr hev
       exact fin (.one (step_value hg hrun)) hv hr (Ext.refl _ _ _)
     | none =>
       simp only [hP] at hs
       cases hsee : seesA P s.fr.T o s.H with
       | some x =>
         simp only [hsee, Option.some.injEq] at hs
         subst hs
         obtain ⟨v, hv, hrun⟩ := seesA_sound hk hr hsee hev
         exact fin (.one (step_value hg hrun)) hv hr (Ext.refl _ _ _)
       | none =>
         simp only [hsee] at hs
         cases hN : aopN P s.fr.T o with
         | some q =>
           obtain ⟨e, l, k⟩ := q
           simp only [hN, Option.some.injEq] at hs
           subst hs
           obtain ⟨vs, hvs, hrun⟩ := aopN_sound hN hev
           have hbr : BR (ρ.set s.n (w.heap.size, 0)) 0 (.mem e none l) (.cells vs.toArray e) := ⟨vs, [], (0, 0), hvs.mono (Env.le_set (hr.top (Nat.le_refl _)).1 _), by simp, unfrozen_zero _, rfl, fun _ => rfl⟩
           exact fin (.one (step_value hg (hrun w))) (NewV.VR (Env.set_same _ _ _) k) (hr.alloc rfl hbr) (Ext.alloc hr _ _)
         | none =>
           simp only [hN] at hs
           cases hnow : nowA P s.fr.T o s.H s.n with
           | some q =>
             obtain ⟨x, H', n'⟩ := q
             simp only [hnow, Option.some.injEq] at hs
             subst hs
             obtain ⟨ρ', v, w', g1, g2, g3, g4⟩ := now_sound hk hr hnow hev hg hc
             exact fin g1 g2 g3 g4
           | none =>
             simp only [hnow] at hs
             cases hco : callOf P s.fr.T o with
             | none => simp [hco] at hs
             | some c =>
               simp only [hco] at hs
               have hS := callOf_sound (P := P) hco hev
               obtain ⟨fr', g1, g2⟩ := enter_sound (base := base) hft hs hr (hf.mono ρ.le_refl (Nat.le_refl _) (fun g _ hn => ⟨hn, Keeps.refl _ _⟩)) hlo hst (congrArg GStep.bare hg) hc (by
                 rcases hS with ⟨g, xs, us, q1, q2, q3⟩ | ⟨j, xs, vs, b, cc, q1, q2, q3, q4⟩
                 · exact .inl ⟨g, xs, us, q1, q2, q3 w⟩
                 · exact .inr ⟨j, xs, vs, b, cc, q1, q2, q3, q4 w⟩)
               exact ⟨fr', fr :: cs, w, .one g1, g2⟩
theorem firstEager_spec {T : Tr AV} {all : List Oper} {H : Tr AB} {n : Nat} : ∀ {l : List (Nat × Oper)} {r}, firstEager P T all H n l = some r → (r.1, r.2.1) ∈ l ∧ eagerA P T all r.2.1 H n = some r.2.2
 | [], r, h => by simp [firstEager] at h
 | (y, o) :: l, r, h => by
   unfold firstEager at h
   cases he : eagerA P T all o H n with
   | some q =>
     obtain ⟨x, H', n', q⟩ := q
     simp only [he, Option.some.injEq] at h
     subst h
     exact ⟨by simp, he⟩
   | none =>
     simp only [he] at h
     obtain ⟨h1, h2⟩ := firstEager_spec h
     exact ⟨by simp [h1], h2⟩
theorem stepDr_sound (hft : FTok P FT) (hk : HKok P) {base : List Frame} {s s' : ASt} {fr : Frame} {cs : List Frame} {w : World} {ops : Array Oper} {D : Nat} {X T0 : Tr AV} {lds : List (Nat × TypeId × AV × AV)} (h : SR P w0 s fr cs w) (hrg : s.fr.rg = .dr ops D X T0 lds none) (hret : s.fr.ret = false)
   (hs : stepDr P FT s ops D X T0 lds = some s') : Goes P w0 base s' fr cs w := by
 obtain ⟨ρ, hr, hf, hlo, hst⟩ := h
 have hm := hf.mode
 rw [hret] at hm
 obtain ⟨front, rest, h1, h2, h3⟩ := hf.todo
 rw [hrg] at h3
 obtain ⟨W, C, G, rest', rfl, hd, _⟩ := h3
 have ht : fr.todo = .inRegion ops rest' :: rest := h1
 unfold stepDr at hs
 simp only at hs
 split at hs
 · -- all is done
   rename_i hnone
   simp only [Option.some.injEq] at hs
   subst hs
   obtain ⟨rest2, ρ2, w2, fr2, C2, g1, g2, g3, g4, g5, g6, g7⟩ := catchup hk (cs := cs ++ base) rest' ρ w fr C hr ht hm hd
   have hnil : rest2 = [] := by
     cases rest2 with
     | nil => rfl
     | cons y r =>
       have hy := g7 y r rfl
       cases g6.lin with
       | cons hylt hn hp t =>
         have ho : ops.toList[y]? = some (ops.toList[y]) := List.getElem?_eq_getElem hylt
         have : (y, ops.toList[y]) ∈ readyL D ops.toList 0 := mem_ready'.2 ⟨ho, hy, fun p hpp => g6.sub p (hp p hpp)⟩
         rw [hnone] at this; cases this
   subst hnil
   have ht2 : fr2.todo = .inRegion ops [] :: rest := by rw [g5]
   have hm2 : fr2.mode = .run := by rw [g5]; exact hm
   have hstep : step P (lone fr2 (cs ++ base) w2) = .next (lone { fr2 with todo := rest } (cs ++ base) w2) := step_todo hm2 (by simp only [stepG.exec, ht2])
   have hall : ∀ i, i < ops.toList.length → C2 i := by
     cases g6.lin with | nil h => exact h
   refine ⟨_, cs, w2, g1.trans (.one hstep), ρ2, g2, ⟨by rw [g5]; exact hf.fn, by rw [g5]; exact hf.kind, by rw [g5]; exact hf.mode, by rw [g5]; exact hf.ds.mono g3, by rw [g5]; exact hf.ro.mono g3, [], rest, rfl, h2.mono g3, rfl, g6.size, fun q => ?_⟩, hlo, hst.mono g3 (fun g hg hn => ⟨(g4 g hg).trans hn, Keeps.refl _ _⟩)⟩
   classical
   have h4 := g6.ts q
   show VR ρ2 (At s.fr.T q) _
   rw [g6.T q]
   rwa [valS_congr (C' := fun i => Nat.testBit D i = true) (X' := X) (fun i hi => ⟨⟨g6.sub i, fun hb => hall i (g6.dlt i hb)⟩, fun _ => rfl⟩)] at h4
 · rename_i hne
   cases hsp : ((readyL D ops.toList 0).any fun p => stopEQ s.fr.T ops.toList p.2) with
   | true => simp [hsp] at hs
   | false =>
   simp only [hsp, cond_false] at hs
   split at hs
   · -- ahead
     rename_i y o x H n l he
     simp only [Option.some.injEq] at hs
     subst hs
     obtain ⟨hmem, he'⟩ := firstEager_spec he
     obtain ⟨G', g1, g2, g3⟩ := DrR.ahead hk hd hr hlo hmem he'
     exact ⟨fr, cs, w, Steps.refl _ _, ρ, g1, ⟨hf.fn, hf.kind, hf.mode, hf.ds, hf.ro, _, rest, h1, h2, W, C, G', rest', rfl, g3, fun y hy => by cases hy⟩, Nat.le_trans hlo g2.nn, hst.mono g2.le (g2.low hlo)⟩
   · split at hs
     · rename_i y o hrs
       obtain ⟨rest2, ρ2, w2, fr2, C2, g1, g2, g3, g4, g5, g6, g7⟩ := catchup hk (cs := cs ++ base) rest' ρ w fr C hr ht hm hd
       have hmem : (y, o) ∈ readyL D ops.toList 0 := by rw [hrs]; simp
       obtain ⟨ho, hyD, hpD⟩ := mem_ready'.1 hmem
       obtain ⟨r, rfl⟩ : ∃ r, rest2 = y :: r := by
         cases hrest : rest2 with
         | nil =>
           subst hrest
           cases g6.lin with
           | nil h =>
             have := g6.sub y (h y (List.getElem?_eq_some_iff.1 ho).1)
             rw [hyD] at this; cases this
         | cons z r =>
           subst hrest
           have hz := g7 z r rfl
           cases g6.lin with
           | cons hzlt hn hp t =>
             have hoz : ops.toList[z]? = some (ops.toList[z]) := List.getElem?_eq_getElem hzlt
             have : (z, ops.toList[z]) ∈ readyL D ops.toList 0 := mem_ready'.2 ⟨hoz, hz, fun p hpp => g6.sub p (hp p hpp)⟩
             rw [hrs] at this
             simp at this
             exact ⟨r, by rw [this.1]⟩
       have hlin : ¬ C2 y ∧ ∀ p, Pred ops.toList y p → C2 p := by
         cases g6.lin with | cons _ hn hp _ => exact ⟨hn, hp⟩
       have ht2 : fr2.todo = .inRegion ops (y :: r) :: rest := by rw [g5]
       have hm2 : fr2.mode = .run := by rw [g5]; exact hm
       have ho' : ops[y]? = some o := by simpa using ho
       have hsee : ∀ q, Sees ops.toList o q → VR ρ2 (At s.fr.T q) (fr2.tmps.getD q undef) := fun q hq => by
         rw [g6.sees ho hq hyD hpD]; exact g6.seesC ho hq hlin.1 hlin.2
       have hev := ev_of_slots (fr := fr2) (fun q hq => hsee q (.inl hq))
       cases hsq : stopQ s.fr.T ops.toList o s.H with
       | true => simp [hsq] at hs
       | false =>
       simp only [hsq, cond_false] at hs
       cases hgk : gOk s.fr.T (dstIn ops.toList) o with
       | false => simp [hgk] at hs
       | true =>
       simp only [hgk, cond_true] at hs
       have hw := wantedA_sound (n := 0) (ops := ops) hgk (fun d hd => hsee d (.inr hd))
       have hst2 : StackR P w0 ρ2 s.H s.fr.lo s.cs cs := hst.mono g3 (fun g hg hn => ⟨(g4 g hg).trans hn, Keeps.refl _ _⟩)
       have hwa : wantedA s.fr.T (dstIn ops.toList) o = true := by
         cases hwa : wantedA s.fr.T (dstIn ops.toList) o with
         | true => rfl
         | false =>
           rename_i hnoE _
           have : firstEager P s.fr.T ops.toList s.H s.n (readyL D ops.toList 0) ≠ none := by
             rw [hrs]
             simp [firstEager, eagerA, hwa, hgk]
           exact absurd hnoE this
       have hpl := g6.sc.plain ho
       have hg := stepG_oper (P := P) (cs := cs ++ base) (w := w2) ht2 hm2 ho' (by rw [hw, hwa]) hpl
       have hc : ∀ d x y z r, fr2.todo ≠ .call d x y z :: r := by rw [ht2]; exact inRegion_not_call
       have g6' := g6.forOp hlin.2
       split at hs
       · -- at once
         rename_i x H' n' hnow
         cases hl : ldsOk P H' (ldsFor ops.toList y lds) with
         | false => simp [hl] at hs
         | true =>
           simp only [hl, cond_true, Option.some.injEq] at hs
           subst hs
           obtain ⟨ρ', v, w', q1, q2, q3, q4⟩ := now_sound hk g2 hnow hev hg hc
           rw [finish_region ht2 ho' v] at q1
           have hdone := DrR.opdone hk g6' (hi' := n') hyD ho q4.le (fun g hgl hn => ⟨(q4.old hgl).trans hn, q4.keep hgl hn⟩) q4.nn hl q2
           refine ⟨_, cs, w', g1.trans q1, ρ', q3, ⟨by rw [g5]; exact hf.fn, by rw [g5]; exact hf.kind, by rw [g5]; exact hf.mode, by rw [g5]; exact (hf.ds.mono g3).mono q4.le, by rw [g5]; exact (hf.ro.mono g3).mono q4.le, [.inRegion ops r], rest, rfl, (h2.mono g3).mono q4.le, W, _, G, r, rfl, hdone, fun y hy => by cases hy⟩, Nat.le_trans hlo q4.nn, hst2.mono q4.le (q4.low hlo)⟩
       · split at hs
         · -- a call
           rename_i c hco
           have hS := callOf_sound (P := P) hco hev
           have hfr2 : FRel P ρ2 s.H s.n false { s.fr with rg := .dr ops D X T0 (ldsFor ops.toList y lds) (some y) } fr2 :=
             ⟨by rw [g5]; exact hf.fn, by rw [g5]; exact hf.kind, by rw [g5]; exact hf.mode, by rw [g5]; exact hf.ds.mono g3, by rw [g5]; exact hf.ro.mono g3, [.inRegion ops (y :: r)], rest, ht2, h2.mono g3, W, C2, G, y :: r, rfl,
               g6'.mono ρ2.le_refl (Nat.le_refl _) (fun g _ hn => ⟨hn, Keeps.refl _ _⟩), fun y' hy' => by cases hy'; exact ⟨r, rfl, hyD⟩⟩
           obtain ⟨fr', q1, q2⟩ := enter_sound (base := base) hft hs g2 hfr2 hlo hst2 (congrArg GStep.bare hg) hc (by
             rcases hS with ⟨g, xs, us, e1, e2, e3⟩ | ⟨j, xs, vs, b, cc, e1, e2, e3, e4⟩
             · exact .inl ⟨g, xs, us, e1, e2, e3 w2⟩
             · exact .inr ⟨j, xs, vs, b, cc, e1, e2, e3, e4 w2⟩)
           exact ⟨fr', fr2 :: cs, w2, g1.trans (.one q1), q2⟩
         · cases hs
     · cases hs
end
section
variable {P : Program} {FT : FuncId → Option Func} {w0 : Bs} [Kx]
omit [Kx] in
theorem IRs.tail {ρ : Env} {x : AItem} {y : Item} {l : List AItem} {m : List Item} (h : IRs ρ (x :: l) (y :: m)) : IRs ρ l m := by cases h with | cons _ t => exact t
theorem stepCode_sound (hft : FTok P FT) (hk : HKok P) (hmix : P.follows .mixedOrders = true) {base : List Frame} {s s' : ASt} {fr : Frame} {cs : List Frame} {w : World} {c : Code} {k : List AItem} (h : SR P w0 s fr cs w) (hrg : s.fr.rg = .no) (hret : s.fr.ret = false) (htd : s.fr.todo = .code c :: k)
   (hs : stepCode P FT s c k = some s') : Goes P w0 base s' fr cs w := by
 have h0 := h
 obtain ⟨ρ, hr, hf, hlo, hst⟩ := h
 have hm := hf.mode
 rw [hret] at hm
 obtain ⟨front, rest, h1, h2, h3⟩ := hf.todo
 rw [hrg] at h3
 obtain ⟨rfl, hT⟩ := h3
 rw [htd] at h2
 obtain ⟨k', rfl, hk'⟩ : ∃ k', rest = .code c :: k' ∧ IRs ρ k k' := by
   cases h2 with | cons a t => cases a; exact ⟨_, rfl, t⟩
 have ht : fr.todo = .code c :: k' := h1
 have tl : ∀ ρ', IRs ρ' s.fr.todo fr.todo → IRs ρ' k k' := fun ρ' hh => by rw [htd, ht] at hh; exact hh.tail
 have to : ∀ {l : List AItem} {m : List Item}, (∀ ρ', IRs ρ' k k' → IRs ρ' l m) → stepG.exec P true true fr (cs ++ base) none w = .go { frame := { fr with todo := m }, callers := cs ++ base, status := .running, dying := none } w →
     some { s with fr := { s.fr with todo := l } } = some s' → Goes P w0 base s' fr cs w := by
   intro l m hl hx he
   simp only [Option.some.injEq] at he
   subst he
   exact todo_sound h0 hrg hret (fun ρ' hh => hl ρ' (tl ρ' hh)) hx
 cases c with
 | ret =>
   refine leave_sound hk h0 hrg hret (show leaveA P s (some .ret) = some s' from hs) (fun hro _ => ?_) (fun l hro => ?_)
   · simp only [stepG.exec, ht, hro]; rfl
   · simp only [stepG.exec, ht, hro]; rfl
 | skip => exact to (fun _ h => h) (by simp only [stepG.exec, ht]) hs
 | label l => exact to (fun _ h => h) (by simp only [stepG.exec, ht]) hs
 | seq a b => exact to (m := .code a :: .code b :: k') (fun _ h => .cons (.code _) (.cons (.code _) h)) (by simp only [stepG.exec, ht]) hs
 | block id b => exact to (m := .code b :: .inBlock id :: k') (fun _ h => .cons (.code _) (.cons (.inBlock _) h)) (by simp only [stepG.exec, ht]) hs
 | loop b => exact to (m := .code b :: .inLoop b :: k') (fun _ h => .cons (.code _) (.cons (.inLoop _) h)) (by simp only [stepG.exec, ht]) hs
 | scope b => exact to (m := .code b :: .inScope b :: k') (fun _ h => .cons (.code _) (.cons (.inScope _) h)) (by simp only [stepG.exec, ht]) hs
 | cond x a b =>
   simp only [stepCode] at hs
   have hx := hT.ev x
   split at hs
   · rename_i t hxt
     rw [hxt] at hx
     generalize hv : fr.eval x = v at hx
     cases hx
     refine to (m := .code (cond t a b) :: k') (fun _ h => .cons (.code _) h) ?_ hs
     simp only [stepG.exec, ht, hv]
     cases t <;> rfl
   · cases hs
 | exit id =>
   simp only [stepCode] at hs
   cases hx : aexit id k with
   | some l =>
     simp only [hx] at hs
     obtain ⟨m, hm', _⟩ := (aexit_sound hk').1 hx
     refine to (m := m) (fun ρ' hh => ?_) ?_ hs
     · obtain ⟨m2, e, hi⟩ := (aexit_sound hh).1 hx
       rw [hm'] at e; cases e; exact hi
     · simp only [stepG.exec, ht, hm', Option.elim_some]
   | none =>
     simp only [hx] at hs
     have hn := (aexit_sound (id := id) (l' := []) hk').2 hx
     refine leave_sound hk h0 hrg hret hs (fun hro hj => by rcases hj with h | h <;> cases h) (fun l hro => ?_)
     simp only [stepG.exec, ht, hn, Option.elim_none, hro]
     rfl
 | goto l => cases hs
 | refuse l => cases hs
 | region id ops draw =>
   simp only [stepCode] at hs
   cases draw with
   | false =>
     simp only [cond_false, Option.some.injEq] at hs
     subst hs
     refine ⟨_, cs, w, .one (step_todo (fr' := { fr with todo := .inRegion ops (List.range ops.size) :: k' }) hm (by simp [stepG.exec, ht])), ρ, hr, ⟨hf.fn, hf.kind, hf.mode, hf.ds, hf.ro, [.inRegion ops (List.range ops.size)], k', rfl, hk', ⟨_, rfl, PlR.start ops⟩, hT⟩, hlo, hst⟩
   | true =>
     simp only [cond_true] at hs
     cases hsc : scOk ops.toList with
     | false => simp [hsc] at hs
     | true =>
       simp only [hsc, cond_true, Option.some.injEq] at hs
       subst hs
       obtain ⟨W, sc⟩ := scOk_spec hsc
       obtain ⟨t, ht'⟩ : ∃ t, (choose (.order fr.fn id)).run P w = .ok t w.drew := ⟨_, by simp [choose, Sem.run, Question.forced, Question.cut]; rfl⟩
       have hstep : step P (lone fr (cs ++ base) w) = .next (lone { fr with todo := .inRegion ops (Region.schedule true ops t) :: k' } (cs ++ base) w.drew) :=
         step_todo hm (by simp only [stepG.exec, ht, ht', hmix]; rfl)
       have hfr : Fr No w w.drew := (Fr.refl No w).drew
       refine ⟨_, cs, w.drew, .one hstep, ρ, hr.same rfl hfr, ⟨hf.fn, hf.kind, hf.mode, hf.ds, hf.ro, [.inRegion ops (Region.schedule true ops t)], k', rfl, hk', W, fun _ => False, fun _ => none, _, rfl, ?_, fun y hy => by cases hy⟩, hlo, hst⟩
       have hv : ∀ (C : Nat → Prop) [DecidablePred C] (q : Nat), (∀ i, ¬ C i) → valS W s.fr.nt .e s.fr.T C q = At s.fr.T q := fun C _ q hC => by
         unfold valS
         cases W.get q with
         | none => rfl
         | some i => simp only; rw [if_neg (fun h => hC i h.2)]
       exact { sc := sc, lin := lin_schedule sc.below t, closC := fun _ _ h _ => h.elim, closD := fun y p h _ => by simp at h, sub := fun _ h => h.elim, dlt := fun y h => by simp at h, size := hT.1,
               T := fun q => (hv _ q (fun i => by simp)).symm, ts := by
                 intro inst q
                 have h := @hv _ inst q (fun _ h => h)
                 have h' := hT.2 q
                 rw [← h] at h'
                 exact h',
               pend := (fun y h => by simp at h), ginj := (fun h => by cases h), gb := (fun h => by cases h) }
 | rangeFunc f ps asg bd =>
   simp only [stepCode] at hs
   -- what is entered, from behind the two blocks
   have go : ∀ {d db dc : Nat} {H : Tr AB} {n : Nat} {ds : List Nat} {mark : List Deferred} {w1 : World} {ρ1 : Env}, HR w0 ρ1 H n w1 → Ext ρ ρ1 s.H H s.n n → ρ1 d = some (db, dc) → DsR ρ1 ds (mark ++ fr.defers) →
       (Instr.enterLoop fr.fn fr.tmps ps asg bd fr.roundOf).run P w = .ok (w1.heap.size, mark) (w1.alloc (.loop { state := .ready, pending := none, fn := fr.fn, tmps := fr.tmps, params := ps, assign := asg, body := bd, defers := db })) →
       (match calleeOf P (aev s.fr.T f) [.yl n] with
         | some c => enterA FT { s.fr with todo := .inRF n :: k, ds := ds } { s with H := tput H n (.loop .ready none s.fr.fn s.fr.nt s.fr.T ps.toList asg bd d), n := n + 1 } c
         | none => none) = some s' → Goes P w0 base s' fr cs w := by
     intro d db dc H n ds mark w1 ρ1 hr1 hx1 hd hds hrun he
     obtain ⟨ρ2, hρ2⟩ : ∃ ρ2, ρ2 = ρ1.set n (w1.heap.size, 0) := ⟨_, rfl⟩
     have htop := hr1.top (Nat.le_refl n)
     have hle2 : ρ1.le ρ2 := by rw [hρ2]; exact Env.le_set htop.1 _
     have hle : ρ.le ρ2 := Env.le_trans hx1.le hle2
     have hfn : fr.fn = s.fr.fn := hf.fn
     have hr2 : HR w0 ρ2 (tput H n (.loop .ready none s.fr.fn s.fr.nt s.fr.T ps.toList asg bd d)) (n + 1) (w1.alloc (.loop { state := .ready, pending := none, fn := fr.fn, tmps := fr.tmps, params := ps, assign := asg, body := bd, defers := db })) := by
       rw [hρ2]
       refine hr1.alloc rfl ⟨fr.tmps, db, dc, (hT.mono hx1.le).mono (Env.le_set htop.1 _), Env.le_set htop.1 _ _ _ hd, ?_⟩
       rw [hfn]
     have hx2 : Ext ρ ρ2 s.H (tput H n (.loop .ready none s.fr.fn s.fr.nt s.fr.T ps.toList asg bd d)) s.n (n + 1) := by
       rw [hρ2]; exact hx1.trans (Ext.alloc hr1 _ _)
     have hn2 : ρ2 n = some (w1.heap.size, 0) := by rw [hρ2]; exact Env.set_same _ _ _
     cases hco : calleeOf P (aev s.fr.T f) [.yl n] with
     | none => simp [hco] at he
     | some cc =>
       simp only [hco] at he
       have hS := calleeOf_sound (P := P) hco ((hT.ev f).mono hle) (VRs.cons (VR.yl hn2) .nil)
       obtain ⟨fr2, hfr2⟩ : ∃ fr2 : Frame, fr2 = { fr with todo := .inRangeFunc w1.heap.size :: k', defers := mark ++ fr.defers } := ⟨_, rfl⟩
       have hev : fr2.eval f = fr.eval f := by rw [hfr2]; cases f <;> rfl
       have hcaller : FRel P ρ2 (tput H n (.loop .ready none s.fr.fn s.fr.nt s.fr.T ps.toList asg bd d)) (n + 1) false { s.fr with todo := .inRF n :: k, ds := ds } fr2 := by
         rw [hfr2]
         refine ⟨hf.fn, hf.kind, hf.mode, hds.mono hle2, hf.ro.mono hle, [], _, rfl, .cons (.inRF hn2) (hk'.mono hle), ?_⟩
         simp only [hrg]
         exact ⟨rfl, hT.mono hle⟩
       have hg : (stepG P true { frame := fr, callers := cs ++ base, status := .running, dying := none } w).bare = (stepG.apply P true fr2 (cs ++ base) none (toCallee (fr.eval f) [Value.func (.yield w1.heap.size) #[] #[]].toArray) (w1.alloc (.loop { state := .ready, pending := none, fn := fr.fn, tmps := fr.tmps, params := ps, assign := asg, body := bd, defers := db }))).bare := by
         have hstep : stepG P true { frame := fr, callers := cs ++ base, status := .running, dying := none } w = stepG.exec P true true fr (cs ++ base) none w := by
           obtain ⟨fn, tmps, todo, defers, mode, kind, ro⟩ := fr
           simp only at hm; subst hm
           rfl
         rw [hstep]
         simp only [stepG.exec, ht, Sem.runT_eq, hrun, GStep.bare_after]
         rw [← hfr2]
         rw [← hev]
         have hq : (do let d ← resolve fr2.eval { callee := .value f, args := #[.const (Value.func (.yield w1.heap.size) #[] #[])], argTypes := #[] } 0; invoke d.target d.args : Sem Next) = toCallee (fr2.eval f) [Value.func (.yield w1.heap.size) #[] #[]].toArray := by
           have e1 : (#[Operand.const (Value.func (.yield w1.heap.size) #[] #[])] : Array Operand).map fr2.eval = [Value.func (.yield w1.heap.size) #[] #[]].toArray := by
             simp only [List.map_toArray, List.map_cons, List.map_nil]
             rfl
           unfold toCallee resolve
           simp only [e1]
         rw [hq]
       have hc : ∀ d x y z r, fr2.todo ≠ .call d x y z :: r := by rw [hfr2]; exact fun _ _ _ _ _ e => by cases e
       have hst2 := hst.mono hle (hx2.low hlo)
       obtain ⟨fr', q1, q2⟩ := enter_sound (base := base) hft he hr2 hcaller (Nat.le_trans hlo hx2.nn) hst2 hg hc (by
         rcases hS with ⟨g, xs, us, e1, e2, e3⟩ | ⟨j, b, c2, e1, e2, e3⟩
         · exact .inl ⟨g, xs, us, e1, e2, e3 _⟩
         · exact .inr ⟨j, _, _, b, c2, e1, .cons (VR.yl hn2) .nil, e2, e3 _⟩)
       exact ⟨fr', fr2 :: cs, _, .one q1, q2⟩
   cases hh : loopHome s with
   | none => rw [hh] at hs; cases hs
   | some q =>
     obtain ⟨d, H, n, ds⟩ := q
     rw [hh] at hs
     unfold loopHome at hh
     rcases hf.ro with ⟨hro, hro'⟩ | ⟨i, b, c, hro, hro', hi⟩
     · rw [hro] at hh
       simp only [Option.some.injEq, Prod.mk.injEq] at hh
       obtain ⟨rfl, rfl, rfl, rfl⟩ := hh
       have htop := hr.top (Nat.le_refl s.n)
       have hr1 : HR w0 (ρ.set s.n (w.heap.size, 0)) (tput s.H s.n (.dfd true)) (s.n + 1) (w.alloc (.deferred (some []))) := hr.alloc (c := 0) (B := .dfd true) rfl rfl
       refine go hr1 (Ext.alloc hr _ _) (Env.set_same _ _ _) (mark := [{ target := .collected w.heap.size, args := #[] }]) (.cons (Env.set_same _ _ _) (hf.ds.mono (Env.le_set htop.1 _))) ?_ hs
       rw [hro', run_enterLoop_outer]
       simp
     · rw [hro] at hh
       simp only at hh
       cases hB : s.H.get i with
       | none => simp [hB] at hh
       | some B =>
         cases B <;> simp only [hB] at hh <;> try (cases hh; done)
         rename_i st pd fn nt T ps' asg' bd' d'
         simp only [Option.some.injEq, Prod.mk.injEq] at hh
         obtain ⟨rfl, rfl, rfl, rfl⟩ := hh
         obtain ⟨o, ho, ts, db, dc, hts, hd, rfl⟩ := hr.blk hi hB
         refine go hr (Ext.refl _ _ _) hd (mark := []) (by simpa using hf.ds) ?_ hs
         rw [hro']
         unfold Instr.enterLoop
         simp only [Sem.run_bind, run_getLoop ho, Result.andThen_ok, Sem.run_pure, run_newObj]
         rfl
omit [Kx] in
theorem resA_sound {ρ : Env} {H : Tr AB} {n nt : Nat} {T : Tr AV} {ts : Array Value} {w : World} (hr : HR w0 ρ H n w) (hT : TR ρ nt T ts) : ∀ {l : List ResultVar} {xs : List AV}, resA P T H l = some xs →
   ∃ us, VRs ρ xs us ∧ (l.mapM (fun | ResultVar.tmp t => (pure (ts.getD t undef) : Sem Value) | .cell a t => do loadVar t (← asAddr (ts.getD a undef)))).run P w = .ok us w
 | [], xs, h => by simp [resA] at h; subst h; exact ⟨[], .nil, by simp⟩
 | .tmp t :: l, xs, h => by
   unfold resA at h
   cases hl : resA P T H l with
   | none => simp [hl] at h
   | some r =>
     simp only [hl, Option.some.injEq] at h
     subst h
     obtain ⟨us, h1, h2⟩ := resA_sound hr hT hl
     exact ⟨_, .cons (hT.2 t) h1, by simp only [List.mapM_cons, Sem.run_bind, Sem.run_pure, Result.andThen_ok, h2]⟩
 | .cell a t :: l, xs, h => by
   unfold resA at h
   split at h
   · rename_i i o ha
     cases hx : loadA P t (.ptr i o) H with
     | none => simp [hx] at h
     | some x =>
       cases hl : resA P T H l with
       | none => simp [hx, hl] at h
       | some r =>
         simp only [hx, hl, Option.some.injEq] at h
         subst h
         obtain ⟨us, h1, h2⟩ := resA_sound hr hT hl
         have hp := hT.2 a
         rw [ha] at hp
         generalize hv : ts.getD a undef = v at hp
         obtain ⟨u, hu, hrun⟩ := loadA_sound (P := P) hr hx hp
         cases hp with
         | @ptr _ b c _ e =>
           have : (loadVar t ⟨b, o, none⟩).run P w = .ok u w := by
             unfold Instr.loadAt at hrun
             simpa [Instr.sureAddr] using hrun
           refine ⟨_, .cons hu h1, ?_⟩
           have ha' : (asAddr (ts.getD a undef)).run P w = .ok ⟨b, o, none⟩ w := by rw [hv]; rfl
           simp only [List.mapM_cons, Sem.run_bind, ha', Sem.run_pure, Result.andThen_ok, this, h2]
   · cases h
omit [Kx] in
theorem results_sound {ρ : Env} {H : Tr AB} {n nt : Nat} {T : Tr AV} {ts : Array Value} {w : World} (hr : HR w0 ρ H n w) (hT : TR ρ nt T ts) {fn : Func} {xs : List AV} (h : resA P T H fn.results.toList = some xs) :
   ∃ v, VR ρ (tupA xs) v ∧ (results fn ts).run P w = .ok v w := by
 obtain ⟨us, h1, h2⟩ := resA_sound (P := P) hr hT h
 have hmap : (fn.results.mapM (fun | ResultVar.tmp t => (pure (ts.getD t undef) : Sem Value) | .cell a t => do loadVar t (← asAddr (ts.getD a undef)))).run P w = .ok us.toArray w := by
   rw [Array.mapM_eq_mapM_toList, Sem.run_map, h2]
   rfl
 refine ⟨if h : us.toArray.size = 1 then us.toArray[0] else .tuple us.toArray, ?_, ?_⟩
 · cases h1 with
   | nil => exact .tup .nil
   | cons a t =>
     cases t with
     | nil => exact a
     | cons b t => exact .tup (.cons a (.cons b t))
 · unfold results
   rw [Sem.run_bind]
   have hm2 := hmap
   erw [hm2]
   rfl
theorem stepE_sound (hft : FTok P FT) (hk : HKok P) (hmix : P.follows .mixedOrders = true) {base : List Frame} {s s' : ASt} {fr : Frame} {cs : List Frame} {w : World} (h : SR P w0 s fr cs w) (hs : stepE P FT s = some s') : Goes P w0 base s' fr cs w := by
 unfold stepE at hs
 cases hret : s.fr.ret with
 | true =>
   simp only [hret, cond_true] at hs
   unfold stepRet at hs
   obtain ⟨ρ, hr, hf, hlo, hst⟩ := h
   have hm := hf.mode
   rw [hret] at hm
   have hstepG : stepG P true { frame := fr, callers := cs ++ base, status := .running, dying := none } w = unwind P true fr (cs ++ base) none w := by
     obtain ⟨fn, tmps, todo, defers, mode, kind, ro⟩ := fr
     simp only at hm; subst hm
     rfl
   split at hs
   · rename_i d ds hds
     cases hB : s.H.get d with
     | none => simp [hB] at hs
     | some B =>
       cases B <;> simp only [hB] at hs <;> try (cases hs; done)
       rename_i bb
       cases bb <;> simp only at hs <;> try (cases hs; done)
       cases hnr : noRg s.fr.rg with
       | false => simp [hnr] at hs
       | true =>
       simp only [hnr, cond_true, Option.some.injEq] at hs
       subst hs
       have hdsr := hf.ds
       rw [hds] at hdsr
       generalize hdf : fr.defers = dfs at hdsr
       cases hdsr with
       | cons hd t =>
         rename_i b cc m
         obtain ⟨o, ho, hob⟩ := hr.blk hd hB
         have ho' : w.heap[b]? = some (.deferred (some [])) := by rw [ho]; rw [show o = .deferred (some []) from hob]
         have hstep : step P (lone fr (cs ++ base) w) = .next (lone { fr with defers := m } (cs ++ base) (w.putObj b (.deferred none))) := by
           refine step_lone_go ?_
           rw [hstepG]
           unfold unwind
           simp [hdf, run_takeDeferred ho']
         have hw' : HR w0 ρ (tput s.H d (.dfd false)) s.n (w.putObj b (.deferred none)) := hr.write hd hB rfl rfl (World.putObj_heap_same (hr.base hd).2) rfl (Fr.put w b _)
         obtain ⟨front, rest, h1, h2, h3⟩ := hf.todo
         refine ⟨_, cs, _, .one hstep, ρ, hw', ⟨hf.fn, hf.kind, hf.mode, t, hf.ro, front, rest, h1, h2, ?_⟩, hlo, hst.mono ρ.le_refl (fun g _ hn => ⟨hn, Keeps.of (by show (tput _ _ _).get g = _; rw [get_tput, if_neg (fun e => by subst e; rw [hd] at hn; cases hn)])⟩)⟩
         cases hrg : s.fr.rg with
         | no => rw [hrg] at h3; exact ⟨h3.1, h3.2⟩
         | pl ops l => rw [hrg] at hnr; cases hnr
         | dr ops D X T0 lds cur => rw [hrg] at hnr; cases hnr
   · rename_i hds
     split at hs
     · cases hs
     rename_i hrgs
     cases hfn : FT s.fr.fn with
     | none => simp [hfn] at hs
     | some fn =>
       simp only [hfn] at hs
       cases hres : resA P s.fr.T s.H fn.results.toList with
       | none => simp [hres] at hs
       | some l =>
         simp only [hres] at hs
         have hdsr := hf.ds
         rw [hds] at hdsr
         generalize hdf : fr.defers = dfs at hdsr
         cases hdsr
         obtain ⟨front, rest, h1, h2, h3⟩ := hf.todo
         have hTR : TR ρ s.fr.nt s.fr.T fr.tmps := by
           cases hrg : s.fr.rg with
           | no => rw [hrg] at h3; exact h3.2
           | pl ops l => rw [hrg] at h3; exact h3.2
           | dr ops D X T0 lds cur => exact absurd hrg (hrgs _ _ _ _ _ _)
         obtain ⟨v, hv, hrun⟩ := results_sound hr hTR hres
         have hP := hft.fn hfn
         refine back_sound hk hs hr hst hlo hv (fun c cs' hcs => ?_)
         refine step_lone_go ?_
         rw [hstepG]
         have hfnn : P.funcs[fr.fn]? = some fn := by rw [hf.fn]; exact hP
         unfold unwind
         rw [hcs]
         simp [hdf, hm, hfnn, hrun, doReturn, hf.kind]
 | false =>
   simp only [hret, cond_false] at hs
   cases hrg : s.fr.rg with
   | pl ops l =>
     cases l with
     | cons o r => simp only [hrg] at hs; exact stepPl_sound hft hk h hrg hret hs
     | nil =>
       simp only [hrg] at hs
       simp only [stepPlEnd, Option.some.injEq] at hs
       subst hs
       obtain ⟨ρ, hr, hf, hlo, hst⟩ := h
       have hm := hf.mode
       rw [hret] at hm
       obtain ⟨front, rest, h1, h2, h3⟩ := hf.todo
       rw [hrg] at h3
       obtain ⟨⟨rest', rfl, hp⟩, hT⟩ := h3
       have := hp.nil
       subst this
       have ht : fr.todo = .inRegion ops [] :: rest := h1
       exact ⟨_, cs, w, .one (step_todo (fr' := { fr with todo := rest }) hm (by simp only [stepG.exec, ht])), ρ, hr, ⟨hf.fn, hf.kind, hf.mode, hf.ds, hf.ro, [], rest, rfl, h2, rfl, hT⟩, hlo, hst⟩
   | dr ops D X T0 lds cur =>
     cases cur with
     | none => simp only [hrg] at hs; exact stepDr_sound hft hk h hrg hret hs
     | some y => simp only [hrg] at hs; cases hs
   | no =>
     simp only [hrg] at hs
     unfold stepItem at hs
     have h0 := h
     obtain ⟨ρ, hr, hf, hlo, hst⟩ := h
     have hm := hf.mode
     rw [hret] at hm
     obtain ⟨front, rest, h1, h2, h3⟩ := hf.todo
     rw [hrg] at h3
     obtain ⟨rfl, hT⟩ := h3
     have ht : fr.todo = rest := h1
     cases htd : s.fr.todo with
     | nil =>
       simp only [htd] at hs
       rw [htd] at h2
       cases h2
       refine leave_sound hk h0 hrg hret hs (fun hro _ => ?_) (fun l hro => ?_)
       · simp only [stepG.exec, ht, hro]; rfl
       · simp only [stepG.exec, ht, hro]; rfl
     | cons x k =>
       rw [htd] at h2
       cases x with
       | code c => simp only [htd] at hs; exact stepCode_sound hft hk hmix h0 hrg hret htd hs
       | inBlock id =>
         simp only [htd, Option.some.injEq] at hs; subst hs
         cases h2 with
         | cons a t =>
           cases a
           exact todo_sound h0 hrg hret (fun ρ' hh => by rw [htd, ht] at hh; exact hh.tail) (by simp only [stepG.exec, ht])
       | inScope b =>
         simp only [htd, Option.some.injEq] at hs; subst hs
         cases h2 with
         | cons a t =>
           cases a
           exact todo_sound h0 hrg hret (fun ρ' hh => by rw [htd, ht] at hh; exact hh.tail) (by simp only [stepG.exec, ht])
       | inLoop b =>
         simp only [htd, Option.some.injEq] at hs; subst hs
         cases h2 with
         | cons a t =>
           rename_i m
           cases a
           exact todo_sound h0 hrg hret (m := .code b :: .inLoop b :: m) (fun ρ' hh => by rw [htd, ht] at hh; exact .cons (.code _) (.cons (.inLoop _) hh.tail)) (by simp only [stepG.exec, ht])
       | inRF i => simp only [htd] at hs; cases hs
       | endRF i =>
         simp only [htd] at hs
         unfold endA at hs
         cases h2 with
         | cons a t =>
           cases a with
           | endRF hi =>
             rename_i m b cc
             cases hB : s.H.get i with
             | none => simp [hB] at hs
             | some B =>
               cases B <;> simp only [hB] at hs <;> try (cases hs; done)
               rename_i st pd fn nt T ps asg bd d
               obtain ⟨o, ho, ts, db, dc, hts, hd, rfl⟩ := hr.blk hi hB
               have fin : st ≠ .busy → some { s with fr := { s.fr with todo := pendItems pd ++ k }, H := tput s.H i (.loop .exhausted pd fn nt T ps asg bd d) } = some s' → Goes P w0 base s' fr cs w := by
                 intro hnb he
                 simp only [Option.some.injEq] at he
                 subst he
                 have hrun := run_endLoop (P := P) ho hnb
                 have hw' : HR w0 ρ (tput s.H i (.loop .exhausted pd fn nt T ps asg bd d)) s.n (w.putObj b (.loop { state := .exhausted, pending := pd, fn := fn, tmps := ts, params := ps.toArray, assign := asg, body := bd, defers := db })) :=
                   hr.write hi hB rfl rfl (World.putObj_heap_same (hr.base hi).2) ⟨ts, db, dc, hts, hd, rfl⟩ (Fr.put w b _)
                 have hstep : step P (lone fr (cs ++ base) w) = .next (lone { fr with todo := (pd.map Item.code).toList ++ m } (cs ++ base) (w.putObj b (.loop { state := .exhausted, pending := pd, fn := fn, tmps := ts, params := ps.toArray, assign := asg, body := bd, defers := db }))) := by
                   refine step_lone_go ?_
                   have hstep : stepG P true { frame := fr, callers := cs ++ base, status := .running, dying := none } w = stepG.exec P true true fr (cs ++ base) none w := by
                     obtain ⟨fn, tmps, todo, defers, mode, kind, ro⟩ := fr
                     simp only at hm; subst hm
                     rfl
                   rw [hstep]
                   simp only [stepG.exec, ht, Sem.runT_eq, hrun, GStep.bare_after]
                   rfl
                 refine ⟨_, cs, _, .one hstep, ρ, hw', ⟨hf.fn, hf.kind, hf.mode, hf.ds, hf.ro, [], _, rfl, ?_, by simp only [hrg]; exact ⟨rfl, hT⟩⟩, hlo, hst.mono ρ.le_refl (fun g _ hn => ⟨hn, Keeps.of (by show (tput _ _ _).get g = _; rw [get_tput, if_neg (fun e => by subst e; rw [hi] at hn; cases hn)])⟩)⟩
                 cases pd with
                 | none => exact t
                 | some c => exact .cons (.code _) t
               cases st with
               | busy => simp only at hs; cases hs
               | ready => exact fin (fun e => by cases e) hs
               | done => exact fin (fun e => by cases e) hs
               | exhausted => exact fin (fun e => by cases e) hs
       | beginRound =>
         simp only [htd] at hs
         cases h2 with
         | cons a t =>
           rename_i m
           cases a
           rcases hf.ro with ⟨hro, hro'⟩ | ⟨i, b, c, hro, hro', hi⟩
           · simp only [hro] at hs; cases hs
           · simp only [hro] at hs
             unfold beginA at hs
             cases hB : s.H.get i with
             | none => simp [hB] at hs
             | some B =>
               cases B <;> simp only [hB] at hs <;> try (cases hs; done)
               rename_i st pd fn nt T ps asg bd d
               cases st <;> simp only at hs <;> try (cases hs; done)
               simp only [Option.some.injEq] at hs
               subst hs
               obtain ⟨o, ho, ts, db, dc, hts, hd, rfl⟩ := hr.blk hi hB
               have hrun := run_beginRound (P := P) ho rfl
               have hw' : HR w0 ρ (tput s.H i (.loop .busy pd fn nt T ps asg bd d)) s.n (w.putObj b (.loop { state := .busy, pending := pd, fn := fn, tmps := ts, params := ps.toArray, assign := asg, body := bd, defers := db })) :=
                 hr.write hi hB rfl rfl (World.putObj_heap_same (hr.base hi).2) ⟨ts, db, dc, hts, hd, rfl⟩ (Fr.put w b _)
               have hstep : step P (lone fr (cs ++ base) w) = .next (lone { fr with todo := m } (cs ++ base) (w.putObj b (.loop { state := .busy, pending := pd, fn := fn, tmps := ts, params := ps.toArray, assign := asg, body := bd, defers := db }))) := by
                 refine step_lone_go ?_
                 have hstep : stepG P true { frame := fr, callers := cs ++ base, status := .running, dying := none } w = stepG.exec P true true fr (cs ++ base) none w := by
                   obtain ⟨fn, tmps, todo, defers, mode, kind, ro⟩ := fr
                   simp only at hm; subst hm
                   rfl
                 rw [hstep]
                 simp only [stepG.exec, ht, hro', Option.elim_some]
                 simp [stepG.apply, hrun, Frame.finish, ht, hro']
               exact ⟨_, cs, _, .one hstep, ρ, hw', ⟨hf.fn, hf.kind, hf.mode, hf.ds, hf.ro, [], m, rfl, t, by simp only [hrg]; exact ⟨rfl, hT⟩⟩, hlo, hst.mono ρ.le_refl (fun g _ hn => ⟨hn, Keeps.of (by show (tput _ _ _).get g = _; rw [get_tput, if_neg (fun e => by subst e; rw [hi] at hn; cases hn)])⟩)⟩
end
end Go.Proofs.Ytnfdknnbaebagaa.Sm
/-
 A RUN OF THE SMALL MACHINE IS A CONTRACT OF THE MODEL's CALL.
-/
namespace Go.Proofs.Ytnfdknnbaebagaa.Sm
open Go Go.RowKit
section
variable {P : Program} {FT : FuncId → Option Func} {w0 : Bs} [Kx]
def startF (FT : FuncId → Option Func) (f : FuncId) (args : List AV) (H : Tr AB) (n : Nat) : Option ASt :=
 match FT f with
 | some fn => match fn.body with
   | some b => some { fr := { fn := f, nt := cond (Nat.ble fn.ntmps args.length) args.length fn.ntmps, T := argsT args 0 .e, rg := .no, todo := [.code b], ds := [], ret := false, round := none, lo := n }, cs := [], H := H, n := n }
   | none => none
 | none => none
def finalF (P : Program) (FT : FuncId → Option Func) (f : FuncId) (s : ASt) : Option (AV × Tr AB × Nat) :=
 match finalE P FT f s with
 | some x => some (x, s.H, s.n)
 | none => none
end
def tabOf (P : Program) : FuncId → Option Func := fun f => P.funcs[f]?
theorem tab_ok {P : Program} (h : (P.funcs.toList.all fun fn => !(fn.name == "runtime.NumGoroutine")) = true) : FTok P (tabOf P) :=
 ⟨fun h => h, fun {f fn} hf hb args w => by
   have hf' : P.funcs[f]? = some fn := hf
   rw [List.all_eq_true] at h
   have hm : fn ∈ P.funcs.toList := by
     have : P.funcs.toList[f]? = some fn := by rw [Array.getElem?_toList]; exact hf'
     exact List.mem_of_getElem? this
   have hn := h fn hm
   have hn' : (fn.name == "runtime.NumGoroutine") = false := by simpa using hn
   have hbn : fn.body.isNone = false := by
     cases hbb : fn.body with
     | none => rw [hbb] at hb; cases hb
     | some b => rfl
   unfold callFunc
   simp only [Sem.run_bind, run_program, Result.andThen_ok, hf', hn', hbn, Bool.false_eq_true, if_false, Sem.run_pure]⟩
def hk0 : Hk := ⟨fun _ _ => none, fun _ _ => none, fun _ _ _ => none, fun _ _ _ _ => none, fun _ _ _ _ => none, fun _ _ => false, fun _ _ _ => false, fun _ _ => false⟩
variable [Kx]
end Go.Proofs.Ytnfdknnbaebagaa.Sm
namespace Go.Proofs.Ytnfdknnbaebagaa.Sm
open Go Go.RowKit
structure Sy where
 p : Tr AV → Oper → Option (AV × Prop)
 b : Tr AV → Oper → Option Bool
 rd : Tr AV → Oper → Option (TypeId × AV)
 r : TypeId → AV → Tr AB → Option (AV × Prop)
 w : Tr AV → Oper → Tr AB → Nat → Option ((AV × Tr AB × Nat) × Prop)
 f : FuncId → List AV → Tr AB → Nat → Option ((AV × Tr AB × Nat) × Prop)
 g : FuncId → List AV → Tr AB → Option (Bool × Prop × (Nat → Bool → AV × Tr AB × Nat))
def Sy.tests (S : Sy) (P : Program) (T : Tr AV) (o : Oper) (H : Tr AB) : Bool :=
 match o.op with
 | .call _ => match callOf P T o with
   | some (.fn f args) => (S.g f args H).isSome
   | _ => false
 | _ => false
@[reducible] def Sy.hope (S : Sy) (P : Program) (v : Option Bool) : Kx := ⟨{
 p := fun T o => match S.b T o with
   | some _ => (match v with | some v => some (.v (.bool v)) | none => none)
   | none => match S.p T o with | some r => some r.1 | none => none
 rd := S.rd
 r := fun t q H => match S.r t q H with | some r => some r.1 | none => none
 w := fun T o H n => match S.w T o H n with | some r => some r.1 | none => none
 f := fun f args H n => match S.g f args H with
   | some r => (match v with | some v => some (r.2.2 n v) | none => none)
   | none => match S.f f args H n with | some r => some r.1 | none => none
 q := fun _ _ => true
 stop := fun T o H => match v with
   | some _ => false
   | none => ((aopP P T o).isNone && (S.b T o).isSome) || S.tests P T o H
 stopE := fun T o => match v with
   | some _ => false
   | none => (aopP P T o).isNone && (S.b T o).isSome }⟩
open Classical in
@[reducible] noncomputable def Sy.true_ (S : Sy) : Kx := ⟨{
 p := fun T o => match S.b T o with
   | some b => some (.v (.bool b))
   | none => match S.p T o with | some r => if r.2 then some r.1 else none | none => none
 rd := S.rd
 r := fun t q H => match S.r t q H with | some r => if r.2 then some r.1 else none | none => none
 w := fun T o H n => match S.w T o H n with | some r => if r.2 then some r.1 else none | none => none
 f := fun f args H n => match S.g f args H with
   | some r => if r.2.1 then some (r.2.2 n r.1) else none
   | none => match S.f f args H n with | some r => if r.2 then some r.1 else none | none => none
 q := fun x y => decide (x = y)
 stop := fun _ _ _ => false
 stopE := fun _ _ => false }⟩
section
variable (S : Sy) (P : Program) (v : Option Bool)
def nB (b : Bool) (C : List Prop) : List Prop := match v with | some v => (b = v) :: C | none => [False]
def nP (T : Tr AV) (o : Oper) : List Prop :=
 match aopP P T o with
 | some _ => []
 | none => match S.b T o with
   | some b => nB v b []
   | none => match S.p T o with | some r => [r.2] | none => []
def nR (t : TypeId) (q : AV) (H : Tr AB) : List Prop :=
 match readA P t q H with
 | some _ => []
 | none => match S.r t q H with | some r => [r.2] | none => []
def nF (f : FuncId) (args : List AV) (H : Tr AB) (n : Nat) : List Prop :=
 match S.g f args H with
 | some r => nB v r.1 [r.2.1]
 | none => match S.f f args H n with | some r => [r.2] | none => []
def nW (T : Tr AV) (o : Oper) (H : Tr AB) (n : Nat) : List Prop :=
 match aopW P T o H n with
 | some _ => []
 | none => match S.w T o H n with
   | some r => [r.2]
   | none => match callOf P T o with
     | some (.fn f args) => nF S v f args H n
     | _ => []
def nL1 (H : Tr AB) (p : Nat × TypeId × AV × AV) : List Prop :=
 nR S P p.2.1 p.2.2.1 H ++ [match @readQ (S.hope P v) P p.2.1 p.2.2.1 H with | some x => x = p.2.2.2 | none => False]
def nL (H : Tr AB) : List (Nat × TypeId × AV × AV) → List Prop
 | [] => []
 | p :: l => nL1 S P v H p ++ nL H l
def nE (T : Tr AV) (all : List Oper) (o : Oper) (H : Tr AB) : List Prop :=
 cond (wantedA T (dstIn all) o)
   (match @aopQ (S.hope P v) P T o with
    | some _ => nP S P v T o
    | none => match @rdQ (S.hope P v) T o with
      | some (t, p) => nR S P t p H
      | none => [])
   []
end
section
variable {S : Sy} {P : Program} {v : Option Bool}
def All (l : List Prop) : Prop := ∀ C ∈ l, C
theorem All.nil : All [] := fun _ h => by cases h
theorem All.cons {C : Prop} {l : List Prop} (h : C) (k : All l) : All (C :: l) := fun D hD => by
 rcases List.mem_cons.1 hD with rfl | hD
 · exact h
 · exact k D hD
theorem All.head {C : Prop} {l : List Prop} (h : All (C :: l)) : C := h C (by simp)
theorem All.tail {C : Prop} {l : List Prop} (h : All (C :: l)) : All l := fun D hD => h D (by simp [hD])
theorem All.left {l m : List Prop} (h : All (l ++ m)) : All l := fun D hD => h D (by simp [hD])
theorem All.right {l m : List Prop} (h : All (l ++ m)) : All m := fun D hD => h D (by simp [hD])
theorem nB_true {b : Bool} {C : List Prop} (h : All (nB v b C)) : ∃ c, v = some c ∧ b = c ∧ All C := by
 cases v with
 | none => exact (All.head h).elim
 | some c => exact ⟨c, rfl, All.head h, All.tail h⟩
theorem hope_p (T : Tr AV) (o : Oper) : (S.hope P v).K.p T o = (match S.b T o with
   | some _ => (match v with | some v => some (.v (.bool v)) | none => none)
   | none => match S.p T o with | some r => some r.1 | none => none) := rfl
open Classical in
theorem true_p (T : Tr AV) (o : Oper) : S.true_.K.p T o = (match S.b T o with
   | some b => some (.v (.bool b))
   | none => match S.p T o with | some r => if r.2 then some r.1 else none | none => none) := rfl
theorem hope_r (t : TypeId) (q : AV) (H : Tr AB) : (S.hope P v).K.r t q H = (match S.r t q H with | some r => some r.1 | none => none) := rfl
open Classical in
theorem true_r (t : TypeId) (q : AV) (H : Tr AB) : S.true_.K.r t q H = (match S.r t q H with | some r => if r.2 then some r.1 else none | none => none) := rfl
theorem hope_w (T : Tr AV) (o : Oper) (H : Tr AB) (n : Nat) : (S.hope P v).K.w T o H n = (match S.w T o H n with | some r => some r.1 | none => none) := rfl
open Classical in
theorem true_w (T : Tr AV) (o : Oper) (H : Tr AB) (n : Nat) : S.true_.K.w T o H n = (match S.w T o H n with | some r => if r.2 then some r.1 else none | none => none) := rfl
theorem hope_f (f : FuncId) (args : List AV) (H : Tr AB) (n : Nat) : (S.hope P v).K.f f args H n = (match S.g f args H with
   | some r => (match v with | some v => some (r.2.2 n v) | none => none)
   | none => match S.f f args H n with | some r => some r.1 | none => none) := rfl
open Classical in
theorem true_f (f : FuncId) (args : List AV) (H : Tr AB) (n : Nat) : S.true_.K.f f args H n = (match S.g f args H with
   | some r => if r.2.1 then some (r.2.2 n r.1) else none
   | none => match S.f f args H n with | some r => if r.2 then some r.1 else none | none => none) := rfl
theorem hope_stop (T : Tr AV) (o : Oper) (H : Tr AB) : (S.hope P v).K.stop T o H = (match v with
   | some _ => false
   | none => ((aopP P T o).isNone && (S.b T o).isSome) || S.tests P T o H) := rfl
theorem hope_stopE (T : Tr AV) (o : Oper) : (S.hope P v).K.stopE T o = (match v with
   | some _ => false
   | none => (aopP P T o).isNone && (S.b T o).isSome) := rfl
theorem stopE_of {T : Tr AV} {o : Oper} {H : Tr AB} (h : (S.hope P v).K.stop T o H = false) : (S.hope P v).K.stopE T o = false := by
 rw [hope_stop] at h; rw [hope_stopE]
 cases v with
 | some _ => rfl
 | none => simp only [Bool.or_eq_false_iff] at h; exact h.1
theorem aopQ_yes {T : Tr AV} {o : Oper} {x : AV} (h : @aopQ (S.hope P v) P T o = some x) (hn : All (nP S P v T o)) : @aopQ S.true_ P T o = some x := by
 unfold aopQ nP at *
 cases hP : aopP P T o with
 | some y => rw [hP] at h; exact h
 | none =>
   simp only [hP, hope_p, true_p, hope_r, true_r] at h hn ⊢
   cases hb : S.b T o with
   | some b =>
     simp only [hb] at h hn ⊢
     obtain ⟨c, rfl, rfl, _⟩ := nB_true hn
     exact h
   | none =>
     simp only [hb] at h hn ⊢
     cases hp : S.p T o with
     | none => rw [hp] at h; cases h
     | some r =>
       simp only [hp] at h hn ⊢
       rw [if_pos (All.head hn)]; exact h
theorem aopQ_no {T : Tr AV} {o : Oper} (h : @aopQ (S.hope P v) P T o = none) (hs : (S.hope P v).K.stopE T o = false) : @aopQ S.true_ P T o = none := by
 unfold aopQ at *
 cases hP : aopP P T o with
 | some y => rw [hP] at h; cases h
 | none =>
   simp only [hP, hope_p, true_p, hope_r, true_r] at h ⊢
   cases hb : S.b T o with
   | some b =>
     simp only [hb] at h ⊢
     cases v with
     | some c => cases h
     | none => simp [hope_stopE, hP, hb] at hs
   | none =>
     simp only [hb] at h ⊢
     cases hp : S.p T o with
     | none => rfl
     | some r => rw [hp] at h; cases h
theorem readQ_yes {t : TypeId} {q x : AV} {H : Tr AB} (h : @readQ (S.hope P v) P t q H = some x) (hn : All (nR S P t q H)) : @readQ S.true_ P t q H = some x := by
 unfold readQ nR at *
 cases hP : readA P t q H with
 | some y => rw [hP] at h; exact h
 | none =>
   simp only [hP, hope_p, true_p, hope_r, true_r] at h hn ⊢
   cases hp : S.r t q H with
   | none => rw [hp] at h; cases h
   | some r =>
     simp only [hp] at h hn ⊢
     rw [if_pos (All.head hn)]; exact h
theorem readQ_no {t : TypeId} {q : AV} {H : Tr AB} (h : @readQ (S.hope P v) P t q H = none) : @readQ S.true_ P t q H = none := by
 unfold readQ at *
 cases hP : readA P t q H with
 | some y => rw [hP] at h; cases h
 | none =>
   simp only [hP, hope_p, true_p, hope_r, true_r] at h ⊢
   cases hp : S.r t q H with
   | none => rfl
   | some r => rw [hp] at h; cases h
theorem eager_yes {T : Tr AV} {all : List Oper} {o : Oper} {H : Tr AB} {n : Nat} {r} (h : @eagerA (S.hope P v) P T all o H n = some r) (hn : All (nE S P v T all o H)) (hs : wantedA T (dstIn all) o = true → gOk T (dstIn all) o = true → (S.hope P v).K.stopE T o = false) : @eagerA S.true_ P T all o H n = some r := by
 unfold eagerA nE at *
 cases hg : gOk T (dstIn all) o with
 | false => rw [hg] at h; cases h
 | true =>
   simp only [hg, cond_true] at h ⊢
   cases hw : wantedA T (dstIn all) o with
   | false => rw [hw] at h; exact h
   | true =>
     simp only [hw, cond_true] at h hn ⊢
     have hst := hs hw hg
     cases hP : @aopQ (S.hope P v) P T o with
     | some x =>
       rw [hP] at h hn
       rw [aopQ_yes hP hn]
       exact h
     | none =>
       rw [hP] at h hn
       rw [aopQ_no hP hst]
       simp only at h hn ⊢
       show (match @rdQ (S.hope P v) T o with | some (t, p) => _ | none => _) = _
       cases hr : @rdQ (S.hope P v) T o with
       | none => rw [hr] at h; exact h
       | some tp =>
         obtain ⟨t, p⟩ := tp
         rw [hr] at h hn
         simp only at h hn ⊢
         cases hx : @readQ (S.hope P v) P t p H with
         | none => rw [hx] at h; cases h
         | some x => rw [hx] at h; rw [readQ_yes hx hn]; exact h
theorem eager_no {T : Tr AV} {all : List Oper} {o : Oper} {H : Tr AB} {n : Nat} (h : @eagerA (S.hope P v) P T all o H n = none) (hs : wantedA T (dstIn all) o = true → gOk T (dstIn all) o = true → (S.hope P v).K.stopE T o = false) : @eagerA S.true_ P T all o H n = none := by
 unfold eagerA at *
 cases hg : gOk T (dstIn all) o with
 | false => rfl
 | true =>
   simp only [hg, cond_true] at h ⊢
   cases hw : wantedA T (dstIn all) o with
   | false => rw [hw] at h; cases h
   | true =>
     simp only [hw, cond_true] at h ⊢
     have hst := hs hw hg
     cases hP : @aopQ (S.hope P v) P T o with
     | some x => rw [hP] at h; cases h
     | none =>
       rw [hP] at h
       rw [aopQ_no hP hst]
       simp only at h ⊢
       show (match @rdQ (S.hope P v) T o with | some (t, p) => _ | none => _) = _
       cases hr : @rdQ (S.hope P v) T o with
       | none => rw [hr] at h; exact h
       | some tp =>
         obtain ⟨t, p⟩ := tp
         rw [hr] at h
         simp only at h ⊢
         cases hx : @readQ (S.hope P v) P t p H with
         | none => rw [readQ_no hx]
         | some x => rw [hx] at h; cases h
theorem first_yes {T : Tr AV} {all : List Oper} {H : Tr AB} {n : Nat} : ∀ {l : List (Nat × Oper)} {r}, @firstEager (S.hope P v) P T all H n l = some r → All (nE S P v T all r.2.1 H) → (∀ p ∈ l, wantedA T (dstIn all) p.2 = true → gOk T (dstIn all) p.2 = true → (S.hope P v).K.stopE T p.2 = false) → @firstEager S.true_ P T all H n l = some r
 | [], r, h, _, _ => by simp [firstEager] at h
 | (y, o) :: l, r, h, hn, hs => by
   unfold firstEager at *
   cases he : @eagerA (S.hope P v) P T all o H n with
   | some q =>
     obtain ⟨x, H', n', q⟩ := q
     simp only [he, Option.some.injEq] at h
     subst h
     rw [eager_yes he hn (hs (y, o) (by simp))]
   | none =>
     simp only [he] at h
     rw [eager_no he (hs (y, o) (by simp))]
     exact first_yes h hn (fun p hp => hs p (by simp [hp]))
theorem first_no {T : Tr AV} {all : List Oper} {H : Tr AB} {n : Nat} : ∀ {l : List (Nat × Oper)}, @firstEager (S.hope P v) P T all H n l = none → (∀ p ∈ l, wantedA T (dstIn all) p.2 = true → gOk T (dstIn all) p.2 = true → (S.hope P v).K.stopE T p.2 = false) → @firstEager S.true_ P T all H n l = none
 | [], _, _ => rfl
 | (y, o) :: l, h, hs => by
   unfold firstEager at *
   cases he : @eagerA (S.hope P v) P T all o H n with
   | some q => simp [he] at h
   | none =>
     simp only [he] at h
     rw [eager_no he (hs (y, o) (by simp))]
     exact first_no h (fun p hp => hs p (by simp [hp]))
theorem hooked_yes {T : Tr AV} {o : Oper} {H : Tr AB} {n : Nat} {r} {f : FuncId} {args : List AV} (hc : callOf P T o = some (.fn f args)) (h : @hooked (S.hope P v) P T o H n = some r) (hn : All (nF S v f args H n)) : @hooked S.true_ P T o H n = some r := by
 unfold hooked nF at *
 simp only [hc, hope_f, true_f] at h ⊢
 cases hg : S.g f args H with
 | some q =>
   simp only [hg] at h hn ⊢
   obtain ⟨c, rfl, h1, h2⟩ := nB_true hn
   rw [if_pos (All.head h2), h1]; exact h
 | none =>
   simp only [hg] at h hn ⊢
   cases hf : S.f f args H n with
   | none => rw [hf] at h; cases h
   | some q =>
     simp only [hf] at h hn ⊢
     rw [if_pos (All.head hn)]; exact h
theorem callOf_op {T : Tr AV} {o : Oper} {c : Callee'} (h : callOf P T o = some c) : ∃ k, o.op = .call k := by
 unfold callOf at h
 split at h
 · rename_i f args q e; exact ⟨_, e⟩
 · rename_i r name args q e; exact ⟨_, e⟩
 · cases h
theorem now_yes {T : Tr AV} {o : Oper} {H : Tr AB} {n : Nat} {r} (h : @nowA (S.hope P v) P T o H n = some r) (hn : All (nW S P v T o H n)) : @nowA S.true_ P T o H n = some r := by
 unfold nowA nW at *
 cases hW : aopW P T o H n with
 | some q => rw [hW] at h; exact h
 | none =>
   simp only [hW, hope_w, true_w] at h hn ⊢
   cases hw : S.w T o H n with
   | some q =>
     simp only [hw] at h hn ⊢
     rw [if_pos (All.head hn)]; exact h
   | none =>
     simp only [hw] at h hn ⊢
     cases hc : callOf P T o with
     | none => simp [hooked, hc] at h
     | some c =>
       cases c with
       | yl i xs => simp [hooked, hc] at h
       | fn f args => rw [hc] at hn; exact hooked_yes hc h hn
theorem now_no {T : Tr AV} {o : Oper} {H : Tr AB} {n : Nat} (h : @nowA (S.hope P v) P T o H n = none) (hs : (S.hope P v).K.stop T o H = false) : @nowA S.true_ P T o H n = none := by
 unfold nowA at *
 cases hW : aopW P T o H n with
 | some q => rw [hW] at h; cases h
 | none =>
   simp only [hW, hope_w, true_w] at h ⊢
   cases hw : S.w T o H n with
   | some q => simp [hw] at h
   | none =>
     simp only [hw] at h ⊢
     unfold hooked at *
     cases hc : callOf P T o with
     | none => rfl
     | some c =>
       cases c with
       | yl i xs => rfl
       | fn f args =>
         simp only [hc, hope_f, true_f] at h ⊢
         cases hg : S.g f args H with
         | some q =>
           simp only [hg] at h
           cases v with
           | some c => cases h
           | none =>
             obtain ⟨k, hk⟩ := callOf_op hc
             simp [hope_stop, Sy.tests, hk, hc, hg] at hs
         | none =>
           simp only [hg] at h ⊢
           cases hf : S.f f args H n with
           | none => rfl
           | some q => rw [hf] at h; cases h
theorem lds_yes {H : Tr AB} : ∀ {l : List (Nat × TypeId × AV × AV)}, @ldsOk (S.hope P v) P H l = true → All (nL S P v H l) → @ldsOk S.true_ P H l = true
 | [], _, _ => rfl
 | p :: l, h, hn => by
   unfold ldsOk at *
   simp only [List.all_cons, Bool.and_eq_true] at h ⊢
   have h1 : All (nL1 S P v H p) := All.left hn
   refine ⟨?_, lds_yes (l := l) h.2 (All.right hn)⟩
   unfold nL1 at h1
   have h2 := All.head (All.right h1)
   cases hx : @readQ (S.hope P v) P p.2.1 p.2.2.1 H with
   | none => rw [hx] at h2; exact h2.elim
   | some x =>
     rw [hx] at h2
     rw [readQ_yes hx (All.left h1)]
     rw [show x = p.2.2.2 from h2]
     simp only [Bool.or_eq_true]
     exact .inl (@decide_eq_true _ (Classical.propDecidable _) rfl)
def nBk (S : Sy) (P : Program) (v : Option Bool) (H : Tr AB) : List AFr → List Prop
 | c :: _ => match c.rg with
   | .dr _ _ _ _ lds (some _) => nL S P v H lds
   | _ => []
 | [] => []
def nLv (S : Sy) (P : Program) (v : Option Bool) (s : ASt) (jump : Option Code) : List Prop :=
 match s.fr.round with
 | none => []
 | some l => match s.H.get l with
   | some (.loop _ _ fn nt T ps asg bd d) => nBk S P v (tput s.H l (.loop (stOf jump) jump fn nt T ps asg bd d)) s.cs
   | _ => []
def nPl (S : Sy) (P : Program) (v : Option Bool) (s : ASt) (ops : Array Oper) (o : Oper) : List Prop :=
 cond (wantedA s.fr.T (dstIn ops.toList) o)
   (match @aopQ (S.hope P v) P s.fr.T o with
    | some _ => nP S P v s.fr.T o
    | none => match @seesA (S.hope P v) P s.fr.T o s.H with
      | some _ => (match @rdQ (S.hope P v) s.fr.T o with | some (t, p) => nR S P t p s.H | none => [])
      | none => match aopN P s.fr.T o with
        | some _ => []
        | none => match @nowA (S.hope P v) P s.fr.T o s.H s.n with
          | some _ => nW S P v s.fr.T o s.H s.n
          | none => [])
   []
def nDr (S : Sy) (P : Program) (v : Option Bool) (s : ASt) (ops : Array Oper) (D : Nat) (lds : List (Nat × TypeId × AV × AV)) : List Prop :=
 match readyL D ops.toList 0 with
 | [] => []
 | rs => match @firstEager (S.hope P v) P s.fr.T ops.toList s.H s.n rs with
   | some r => nE S P v s.fr.T ops.toList r.2.1 s.H
   | none => match rs with
     | [(y, o)] => match @nowA (S.hope P v) P s.fr.T o s.H s.n with
       | some (_, H, _) => nW S P v s.fr.T o s.H s.n ++ nL S P v H (ldsFor ops.toList y lds)
       | none => []
     | _ => []
def needs (S : Sy) (P : Program) (v : Option Bool) (s : ASt) : List Prop :=
 cond s.fr.ret (match s.fr.ds with | _ :: _ => [] | [] => nBk S P v s.H s.cs)
   (match s.fr.rg with
    | .pl ops (o :: _) => nPl S P v s ops o
    | .dr ops D _ _ lds none => nDr S P v s ops D lds
    | .no => (match s.fr.todo with
      | [] => nLv S P v s none
      | .code .ret :: _ => nLv S P v s (some .ret)
      | .code (.exit id) :: k => (match aexit id k with | some _ => [] | none => nLv S P v s (some (.exit id)))
      | _ => [])
    | _ => [])
theorem finish_yes {H : Tr AB} {c c' : AFr} {x : AV} (h : @finishA (S.hope P v) P H c x = some c') (hn : All (match c.rg with | .dr _ _ _ _ lds (some _) => nL S P v H lds | _ => [])) : @finishA S.true_ P H c x = some c' := by
 unfold finishA at *
 cases hrg : c.rg with
 | no => simp only [hrg] at h ⊢; exact h
 | pl ops l => cases l <;> simp only [hrg] at h ⊢ <;> exact h
 | dr ops D X T0 lds cur =>
   cases cur with
   | none => simp only [hrg] at h; cases h
   | some y =>
     simp only [hrg] at h hn ⊢
     cases ho : ops.toList[y]? with
     | none => rw [ho] at h; cases h
     | some o =>
       rw [ho] at h
       simp only at h ⊢
       cases hl : @ldsOk (S.hope P v) P H lds with
       | false => rw [hl] at h; cases h
       | true => rw [hl] at h; rw [lds_yes hl hn]; exact h
theorem back_yes {s s' : ASt} {x : AV} (h : @backA (S.hope P v) P s x = some s') (hn : All (nBk S P v s.H s.cs)) : @backA S.true_ P s x = some s' := by
 unfold backA nBk at *
 cases hcs : s.cs with
 | nil => rw [hcs] at h; cases h
 | cons c cs =>
   simp only [hcs] at h hn ⊢
   cases hf : @finishA (S.hope P v) P s.H c x with
   | none => rw [hf] at h; cases h
   | some c' => rw [hf] at h; rw [finish_yes hf hn]; exact h
theorem leave_yes {s s' : ASt} {jump : Option Code} (h : @leaveA (S.hope P v) P s jump = some s') (hn : All (nLv S P v s jump)) : @leaveA S.true_ P s jump = some s' := by
 unfold leaveA nLv at *
 cases hr : s.fr.round with
 | none => simp only [hr] at h ⊢; exact h
 | some l =>
   simp only [hr] at h hn ⊢
   cases hB : s.H.get l with
   | none => rw [hB] at h; cases h
   | some B =>
     cases B <;> simp only [hB] at h hn ⊢ <;> try (cases h; done)
     exact back_yes h hn
theorem pl_yes {FT : FuncId → Option Func} {s s' : ASt} {ops : Array Oper} {o : Oper} {r : List Oper} (h : @stepPl (S.hope P v) P FT s ops o r = some s') (hn : All (nPl S P v s ops o)) : @stepPl S.true_ P FT s ops o r = some s' := by
 unfold stepPl nPl at *
 dsimp only at h ⊢
 have hst0 : @stopQ S.true_ s.fr.T ops.toList o s.H = false := by unfold stopQ; rfl
 cases hsp : @stopQ (S.hope P v) s.fr.T ops.toList o s.H with
 | true => rw [hsp] at h; cases h
 | false =>
   rw [hsp] at h
   rw [hst0]
   simp only [cond_false] at h ⊢
   cases hg : (plainOp o && gOk s.fr.T (dstIn ops.toList) o) with
   | false => rw [hg] at h; cases h
   | true =>
     rw [hg] at h
     simp only [cond_true] at h ⊢
     cases hw : wantedA s.fr.T (dstIn ops.toList) o with
     | false => rw [hw] at h; exact h
     | true =>
       rw [hw] at h hn
       simp only [cond_true] at h hn ⊢
       have hst : (S.hope P v).K.stop s.fr.T o s.H = false := by
         unfold stopQ at hsp
         simp only [Bool.and_eq_true] at hg
         simpa [hg.2, hw] using hsp
       cases hP : @aopQ (S.hope P v) P s.fr.T o with
       | some x => rw [hP] at h hn; rw [aopQ_yes hP hn]; exact h
       | none =>
         rw [hP] at h hn
         rw [aopQ_no hP (stopE_of hst)]
         simp only at h hn ⊢
         cases hse : @seesA (S.hope P v) P s.fr.T o s.H with
         | some x =>
           rw [hse] at h hn
           have : @seesA S.true_ P s.fr.T o s.H = some x := by
             unfold seesA at hse ⊢
             show (match @rdQ (S.hope P v) s.fr.T o with | some (t, p) => @readQ S.true_ P t p s.H | none => none) = _
             cases hr : @rdQ (S.hope P v) s.fr.T o with
             | none => rw [hr] at hse; cases hse
             | some tp =>
               rw [hr] at hse hn
               exact readQ_yes hse hn
           rw [this]; exact h
         | none =>
           rw [hse] at h hn
           have : @seesA S.true_ P s.fr.T o s.H = none := by
             unfold seesA at hse ⊢
             show (match @rdQ (S.hope P v) s.fr.T o with | some (t, p) => @readQ S.true_ P t p s.H | none => none) = _
             cases hr : @rdQ (S.hope P v) s.fr.T o with
             | none => rfl
             | some tp =>
               rw [hr] at hse
               exact readQ_no hse
           rw [this]
           simp only at h hn ⊢
           cases hN : aopN P s.fr.T o with
           | some q => rw [hN] at h; exact h
           | none =>
             rw [hN] at h hn
             simp only at h hn ⊢
             cases hnow : @nowA (S.hope P v) P s.fr.T o s.H s.n with
             | some q => rw [hnow] at h hn; rw [now_yes hnow hn]; exact h
             | none => rw [hnow] at h; rw [now_no hnow hst]; exact h
theorem dr_yes {FT : FuncId → Option Func} {s s' : ASt} {ops : Array Oper} {D : Nat} {X T0 : Tr AV} {lds : List (Nat × TypeId × AV × AV)} (h : @stepDr (S.hope P v) P FT s ops D X T0 lds = some s') (hn : All (nDr S P v s ops D lds)) : @stepDr S.true_ P FT s ops D X T0 lds = some s' := by
 unfold stepDr nDr at *
 simp only at h ⊢
 split at h
 · exact h
 · rename_i hne
   have hst0 : ((readyL D ops.toList 0).any fun p => @stopEQ S.true_ s.fr.T ops.toList p.2) = false := by
     rw [List.any_eq_false]; intro p _; simp [stopEQ]
   rw [hst0]
   simp only [cond_false]
   cases hsp : ((readyL D ops.toList 0).any fun p => @stopEQ (S.hope P v) s.fr.T ops.toList p.2) with
   | true => rw [hsp] at h; cases h
   | false =>
     rw [hsp] at h
     simp only [cond_false] at h
     have hstop : ∀ p ∈ readyL D ops.toList 0, wantedA s.fr.T (dstIn ops.toList) p.2 = true → gOk s.fr.T (dstIn ops.toList) p.2 = true → (S.hope P v).K.stopE s.fr.T p.2 = false := fun p hp h1 h2 => by
       rw [List.any_eq_false] at hsp
       have := hsp p hp
       unfold stopEQ at this
       simpa [h1, h2] using this
     have hn' : All (match @firstEager (S.hope P v) P s.fr.T ops.toList s.H s.n (readyL D ops.toList 0) with
         | some r => nE S P v s.fr.T ops.toList r.2.1 s.H
         | none => match readyL D ops.toList 0 with
           | [(y, o)] => match @nowA (S.hope P v) P s.fr.T o s.H s.n with
             | some (_, H, _) => nW S P v s.fr.T o s.H s.n ++ nL S P v H (ldsFor ops.toList y lds)
             | none => []
           | _ => []) := by
       split at hn
       · rename_i he; exact absurd he hne
       · exact hn
     cases hf : @firstEager (S.hope P v) P s.fr.T ops.toList s.H s.n (readyL D ops.toList 0) with
     | some q =>
       rw [hf] at h hn'
       rw [first_yes hf hn' hstop]
       exact h
     | none =>
       rw [hf] at h hn'
       rw [first_no hf hstop]
       simp only at h hn' ⊢
       split at h
       · rename_i y o hrs
         rw [hrs] at hn'
         simp only at hn'
         have hsq0 : @stopQ S.true_ s.fr.T ops.toList o s.H = false := by unfold stopQ; rfl
         rw [hsq0]
         cases hsq : @stopQ (S.hope P v) s.fr.T ops.toList o s.H with
         | true => rw [hsq] at h; cases h
         | false =>
         rw [hsq] at h
         simp only [cond_false] at h ⊢
         cases hg : gOk s.fr.T (dstIn ops.toList) o with
         | false => rw [hg] at h; cases h
         | true =>
           rw [hg] at h
           simp only [cond_true] at h ⊢
           have hw : wantedA s.fr.T (dstIn ops.toList) o = true := by
             cases hw : wantedA s.fr.T (dstIn ops.toList) o with
             | true => rfl
             | false =>
               exfalso
               rw [hrs] at hf
               simp [firstEager, eagerA, hw, hg] at hf
           have hst : (S.hope P v).K.stop s.fr.T o s.H = false := by
             unfold stopQ at hsq
             simpa [hg, hw] using hsq
           cases hnow : @nowA (S.hope P v) P s.fr.T o s.H s.n with
           | some q =>
             obtain ⟨x, H', n'⟩ := q
             rw [hnow] at h hn'
             rw [now_yes hnow (All.left hn')]
             simp only at h ⊢
             cases hl : @ldsOk (S.hope P v) P H' (ldsFor ops.toList y lds) with
             | false => rw [hl] at h; cases h
             | true => rw [hl] at h; rw [lds_yes hl (All.right hn')]; exact h
           | none =>
             rw [hnow] at h
             rw [now_no hnow hst]
             exact h
       · exact h
theorem item_yes {FT : FuncId → Option Func} {s s' : ASt} (h : @stepItem (S.hope P v) P FT s = some s') (hn : All (match s.fr.todo with
      | [] => nLv S P v s none
      | .code .ret :: _ => nLv S P v s (some .ret)
      | .code (.exit id) :: k => (match aexit id k with | some _ => [] | none => nLv S P v s (some (.exit id)))
      | _ => [])) : @stepItem S.true_ P FT s = some s' := by
 unfold stepItem at *
 cases htd : s.fr.todo with
 | nil => simp only [htd] at h hn ⊢; exact leave_yes h hn
 | cons i k =>
   cases i <;> simp only [htd] at h hn ⊢ <;> try exact h
   rename_i c
   unfold stepCode at *
   cases c <;> simp only at h hn ⊢ <;> try exact h
   case ret => exact leave_yes h hn
   case exit id =>
     cases he : aexit id k with
     | some l => rw [he] at h; exact h
     | none => rw [he] at h hn; exact leave_yes h hn
theorem step_yes {FT : FuncId → Option Func} {s s' : ASt} (h : @stepE (S.hope P v) P FT s = some s') (hn : All (needs S P v s)) : @stepE S.true_ P FT s = some s' := by
 unfold stepE needs at *
 cases hret : s.fr.ret with
 | true =>
   simp only [hret, cond_true] at h hn ⊢
   unfold stepRet at *
   cases hds : s.fr.ds with
   | cons d ds => simp only [hds] at h ⊢; exact h
   | nil =>
     simp only [hds] at h hn ⊢
     have key : ∀ {s'}, (match FT s.fr.fn with | some fn => (match resA P s.fr.T s.H fn.results.toList with | some l => @backA (S.hope P v) P s (tupA l) | none => none) | none => none) = some s' → (match FT s.fr.fn with | some fn => (match resA P s.fr.T s.H fn.results.toList with | some l => @backA S.true_ P s (tupA l) | none => none) | none => none) = some s' := by
       intro s' h
       cases hf : FT s.fr.fn with
       | none => rw [hf] at h; cases h
       | some fn =>
         simp only [hf] at h ⊢
         cases hr : resA P s.fr.T s.H fn.results.toList with
         | none => rw [hr] at h; cases h
         | some l => rw [hr] at h; exact back_yes h hn
     cases hrg : s.fr.rg with
     | no => simp only [hrg] at h ⊢; exact key h
     | pl ops l => simp only [hrg] at h ⊢; exact key h
     | dr ops D X T0 lds cur => simp only [hrg] at h; cases h
 | false =>
   simp only [hret, cond_false] at h hn ⊢
   split at h
   · rename_i ops o r hrg; rw [hrg] at hn; simp only at hn ⊢; exact pl_yes h hn
   · exact h
   · rename_i ops D X T0 lds hrg; rw [hrg] at hn; simp only at hn ⊢; exact dr_yes h hn
   · cases h
   · rename_i hrg; rw [hrg] at hn; simp only at hn ⊢; exact item_yes h hn
end
structure Sy.Ok (S : Sy) (P : Program) : Prop where
 k : @HKok S.true_ P
 t : FTok P (tabOf P)
 m : P.follows .mixedOrders = true
def To (S : Sy) (P : Program) (f : FuncId) (s : ASt) (Q : AV → Tr AB → Nat → Prop) : Prop :=
 ∀ (w0 : Bs) (base : List Frame) (fr : Frame) (cs : List Frame) (w : World), @SR S.true_ P w0 s fr cs w →
   ∃ s' fr' cs' w', Steps P (lone fr (cs ++ base) w) (lone fr' (cs' ++ base) w') ∧ @SR S.true_ P w0 s' fr' cs' w' ∧ ∃ x H' n', finalF P (tabOf P) f s' = some (x, H', n') ∧ Q x H' n'
def conjL : List Prop → Prop
 | [] => True
 | [C] => C
 | C :: D :: l => C ∧ conjL (D :: l)
theorem conjL_all : ∀ {l : List Prop}, conjL l → All l
 | [], _ => All.nil
 | [_], h => All.cons h All.nil
 | _ :: _ :: _, h => All.cons h.1 (conjL_all h.2)
section
variable (S : Sy) (P : Program)
def seg : Nat → ASt → ASt
 | 0, s => s
 | k + 1, s => match @stepE (S.hope P none) P (tabOf P) s with
   | some s' => seg k s'
   | none => s
def askL : Nat → ASt → List Prop
 | 0, _ => []
 | k + 1, s => match @stepE (S.hope P none) P (tabOf P) s with
   | some s' => needs S P none s ++ askL k s'
   | none => []
def asks (k : Nat) (s : ASt) : Prop := conjL (askL S P k s)
def next (v : Bool) (s : ASt) : ASt := match @stepE (S.hope P (some v)) P (tabOf P) s with | some s' => s' | none => s
def askV (v : Bool) (s : ASt) : List Prop := match @stepE (S.hope P (some v)) P (tabOf P) s with | some _ => needs S P (some v) s | none => []
def restP : List Prop → Prop
 | [] => False
 | _ :: l => conjL l
def headP : List Prop → Prop
 | [] => False
 | C :: _ => C
def asksV (v : Bool) (s : ASt) : Prop := headP (askV S P v s) ∧ restP (askV S P v s)
end
section
variable {S : Sy} {P : Program} {f : FuncId} {s s' : ASt} {Q : AV → Tr AB → Nat → Prop}
theorem To.step (hok : S.Ok P) {v : Option Bool} (h : @stepE (S.hope P v) P (tabOf P) s = some s') (hn : All (needs S P v s)) (k : To S P f s' Q) : To S P f s Q := by
 intro w0 base fr cs w hr
 obtain ⟨fr1, cs1, w1, h1, h2⟩ := @stepE_sound P (tabOf P) w0 S.true_ hok.t hok.k hok.m base s s' fr cs w hr (step_yes h hn)
 obtain ⟨s2, fr2, cs2, w2, h3, h4, h5⟩ := k w0 base fr1 cs1 w1 h2
 exact ⟨s2, fr2, cs2, w2, h1.trans h3, h4, h5⟩
theorem To.segL (hok : S.Ok P) : ∀ (k : Nat) {s : ASt}, All (askL S P k s) → To S P f (seg S P k s) Q → To S P f s Q
 | 0, _, _, h => h
 | k + 1, s, ha, h => by
   unfold askL at ha
   unfold Sm.seg at h
   cases hs : @stepE (S.hope P none) P (tabOf P) s with
   | none => rw [hs] at h; exact h
   | some s' =>
     rw [hs] at h ha
     exact To.step hok hs (All.left ha) (To.segL hok k (All.right ha) h)
theorem To.run (hok : S.Ok P) (k : Nat) {C : Prop} (hC : asks S P k s = C) (hc : C) (h : To S P f (Sm.seg S P k s) Q) : To S P f s Q := To.segL hok k (conjL_all (show asks S P k s from hC.symm ▸ hc)) h
theorem To.next (hok : S.Ok P) {v : Bool} (ha : asksV S P v s) (k : To S P f (next S P v s) Q) : To S P f s Q := by
 unfold asksV at ha
 have hl : All (askV S P v s) ∧ askV S P v s ≠ [] := by
   cases hl : askV S P v s with
   | nil => rw [hl] at ha; exact ha.1.elim
   | cons C l => rw [hl] at ha; exact ⟨All.cons ha.1 (conjL_all ha.2), nofun⟩
 unfold askV at hl
 unfold Sm.next at k
 cases hs : @stepE (S.hope P (some v)) P (tabOf P) s with
 | none => rw [hs] at hl; exact absurd rfl hl.2
 | some s' =>
   rw [hs] at hl k
   exact To.step hok hs hl.1 k
theorem To.br (hok : S.Ok P) (b : Bool) {C : Prop} (h1 : asksV S P true s = (b = true ∧ C)) (h2 : asksV S P false s = (b = false ∧ C)) (hc : C) (k1 : b = true → To S P f (Sm.next S P true s) Q) (k2 : b = false → To S P f (Sm.next S P false s) Q) : To S P f s Q := by
 cases hb : b with
 | true => exact To.next hok (h1 ▸ ⟨hb, hc⟩) (k1 hb)
 | false => exact To.next hok (h2 ▸ ⟨hb, hc⟩) (k2 hb)
theorem To.yes (hok : S.Ok P) (b : Bool) (hb : b = true) {C : Prop} (h1 : asksV S P true s = (b = true ∧ C)) (hc : C) (k1 : To S P f (Sm.next S P true s) Q) : To S P f s Q := To.next hok (h1 ▸ ⟨hb, hc⟩) k1
theorem To.no (hok : S.Ok P) (b : Bool) (hb : b = false) {C : Prop} (h1 : asksV S P false s = (b = false ∧ C)) (hc : C) (k1 : To S P f (Sm.next S P false s) Q) : To S P f s Q := To.next hok (h1 ▸ ⟨hb, hc⟩) k1
theorem To.brd (hok : S.Ok P) (p : Prop) [Decidable p] {C : Prop} (h1 : asksV S P true s = (decide p = true ∧ C)) (h2 : asksV S P false s = (decide p = false ∧ C)) (hc : C) (k1 : p → To S P f (Sm.next S P true s) Q) (k2 : ¬ p → To S P f (Sm.next S P false s) Q) : To S P f s Q :=
 To.br hok (decide p) h1 h2 hc (fun h => k1 (of_decide_eq_true h)) (fun h => k2 (of_decide_eq_false h))
theorem To.brn (hok : S.Ok P) (p : Prop) [Decidable p] {C : Prop} (h1 : asksV S P true s = ((!decide p) = true ∧ C)) (h2 : asksV S P false s = ((!decide p) = false ∧ C)) (hc : C) (k1 : ¬ p → To S P f (Sm.next S P true s) Q) (k2 : p → To S P f (Sm.next S P false s) Q) : To S P f s Q :=
 To.br hok (!decide p) h1 h2 hc (fun h => k1 (by simpa using h)) (fun h => k2 (by simpa using h))
theorem To.yesd (hok : S.Ok P) (p : Prop) [Decidable p] (hp : p) {C : Prop} (h1 : asksV S P true s = (decide p = true ∧ C)) (hc : C) (k1 : To S P f (Sm.next S P true s) Q) : To S P f s Q := To.yes hok (decide p) (decide_eq_true hp) h1 hc k1
theorem To.nod (hok : S.Ok P) (p : Prop) [Decidable p] (hp : ¬ p) {C : Prop} (h1 : asksV S P false s = (decide p = false ∧ C)) (hc : C) (k1 : To S P f (Sm.next S P false s) Q) : To S P f s Q := To.no hok (decide p) (decide_eq_false hp) h1 hc k1
theorem To.non (hok : S.Ok P) (p : Prop) [Decidable p] (hp : p) {C : Prop} (h1 : asksV S P false s = ((!decide p) = false ∧ C)) (hc : C) (k1 : To S P f (Sm.next S P false s) Q) : To S P f s Q := To.no hok (!decide p) (by simp [hp]) h1 hc k1
theorem To.fin {x : AV} {H' : Tr AB} {n' : Nat} (h : finalF P (tabOf P) f s = some (x, H', n')) (hq : Q x H' n') : To S P f s Q := fun _ _ fr cs w hr => ⟨s, fr, cs, w, Steps.refl _ _, hr, x, H', n', h, hq⟩
theorem To.end (x : AV) (h : finalE P (tabOf P) f s = some x) (hq : Q x s.H s.n) : To S P f s Q := To.fin (by unfold finalF; rw [h]) hq
theorem To.mono {Q' : AV → Tr AB → Nat → Prop} (h : To S P f s Q) (hq : ∀ x H n, Q x H n → Q' x H n) : To S P f s Q' := fun w0 base fr cs w hr => by
 obtain ⟨s', fr', cs', w', h1, h2, x, H', n', h3, h4⟩ := h w0 base fr cs w hr
 exact ⟨s', fr', cs', w', h1, h2, x, H', n', h3, hq _ _ _ h4⟩
theorem To.calls (hok : S.Ok P) {args : List AV} {H : Tr AB} {n : Nat} {s0 : ASt} (h0 : startF (tabOf P) f args H n = some s0) (h : To S P f s0 Q) {w0 : Bs} {ρ : Env} {w : World} {vs : List Value} (hr : HR w0 ρ H n w) (hvs : VRs ρ args vs) :
   Calls P f vs.toArray w (fun e w' => ∃ x H' n' ρ' v, Q x H' n' ∧ e = .returned v ∧ VR ρ' x v ∧ HR w0 ρ' H' n' w') := by
 intro cs
 letI : Kx := S.true_
 unfold startF at h0
 cases hfn : tabOf P f with
 | none => simp [hfn] at h0
 | some fn =>
   cases hb : fn.body with
   | none => simp [hfn, hb] at h0
   | some body =>
     simp only [hfn, hb, Option.some.injEq] at h0
     have hP := hok.t.fn hfn
     have hstart : @SR S.true_ P w0 s0 (Frame.enter P f vs.toArray .normal) [] w := by
       subst h0
       refine ⟨ρ, hr, ⟨rfl, rfl, rfl, .nil, .inl ⟨rfl, rfl⟩, [], _, rfl, ?_, rfl, ?_⟩, Nat.le_refl _, .nil (fun i hi => by
         rcases hi with hi | hi
         · cases hni : w0.ρ i with
           | none => exact absurd hni hi
           | some b =>
             have := hr.le i b hni
             rcases Nat.lt_or_ge i n with h' | h'
             · exact h'
             · rw [(hr.top h').1] at this; cases this
         · exact (hr.kb hi).2.1)⟩
       · simp only [Frame.enter, hP, Option.bind_some, hb, Option.getD_some]
         exact .cons (.code _) .nil
       · have := argsT_TR hvs fn.ntmps
         simpa [Frame.enter, hP] using this
     obtain ⟨s, fr', cs', w', h1, ⟨ρ', hr', hf, hlo, hst⟩, x, H', n', hfin, hq⟩ := h w0 cs _ [] w hstart
     unfold finalF finalE at hfin
     split at hfin
     · rename_i y hfe
       simp only [Option.some.injEq, Prod.mk.injEq] at hfin
       obtain ⟨rfl, rfl, rfl⟩ := hfin
       split at hfe
       · rename_i g1 hcs hret hds hrg hfnE
         rw [hcs] at hst
         cases hst
         cases hqq : Nat.beq s.fr.fn f with
         | false => simp [hqq] at hfe
         | true =>
           simp only [hqq, cond_true] at hfe
           have hq' : s.fr.fn = f := by simpa using hqq
           cases hres : resA P s.fr.T s.H g1.results.toList with
           | none => simp [hres] at hfe
           | some l =>
             simp only [hres, Option.some.injEq] at hfe
             obtain ⟨front, rest, g2, g3, g4⟩ := hf.todo
             rw [hrg] at g4
             obtain ⟨v, hv, hrun⟩ := results_sound hr' g4.2 hres
             rw [hfe] at hv
             have hdsr := hf.ds
             rw [hds] at hdsr
             generalize hdf : fr'.defers = dfs at hdsr
             cases hdsr
             refine ⟨.returned v, w', fr', ⟨_, _, _, ρ', v, hq, rfl, hv, hr'⟩, h1, hf.fn.trans hq', ?_, hdf, hf.kind, g1, ?_, hrun⟩
             · rw [hf.mode, hret]; rfl
             · rw [hf.fn]; exact hok.t.fn hfnE
       · cases hfe
     · cases hfin
end
def intA : AV → Option (IntKind × Int)
 | .v (.int k n) => some (k, n)
 | .sy (.int k n) => some (k, n)
 | _ => none
theorem intA_sound {ρ : Env} {x : AV} {u : Value} {k : IntKind} {n : Int} (h : intA x = some (k, n)) (hx : VR ρ x u) : u = .int k n := by
 unfold intA at h
 split at h <;> simp at h <;> obtain ⟨rfl, rfl⟩ := h <;> cases hx <;> rfl
def txtA : AV → Option ByteArray
 | .v (.string s) => some s
 | .sy (.string s) => some s
 | _ => none
theorem txtA_sound {ρ : Env} {x : AV} {u : Value} {s : ByteArray} (h : txtA x = some s) (hx : VR ρ x u) : u = .string s := by
 unfold txtA at h
 split at h <;> simp at h <;> subst h <;> cases hx <;> rfl
structure fits (k : IntKind) (z : Int) : Prop where
 lo : k.min ≤ z
 hi : z ≤ k.max
theorem fits_wrap {k : IntKind} {z : Int} (h : fits k z) : k.wrap z = z := by
 obtain ⟨h1, h2⟩ := h
 cases k <;> simp [IntKind.min, IntKind.max, IntKind.signed, IntKind.bits] at h1 h2 <;> simp [IntKind.wrap, IntKind.signed, IntKind.bits] <;> omega
theorem fits_i64 {z : Int} (h1 : -9223372036854775808 ≤ z) (h2 : z ≤ 9223372036854775807) : fits .i64 z := ⟨h1, h2⟩
theorem fits_u64 {z : Int} (h1 : 0 ≤ z) (h2 : z ≤ 18446744073709551615) : fits .u64 z := ⟨h1, h2⟩
def arithS (op : BinOp) (k : IntKind) (a : Int) (kb : IntKind) (b : Int) : Option (AV × Prop) :=
 match op with
 | .add => cond (decide (k = kb)) (cond k.signed (some (.sy (.int k (a + b)), fits k (a + b))) (some (.sy (.int k (k.wrap (a + b))), True))) none
 | .sub => cond (decide (k = kb)) (cond k.signed (some (.sy (.int k (a - b)), fits k (a - b))) (some (.sy (.int k (k.wrap (a - b))), True))) none
 | .mul => cond (decide (k = kb)) (cond k.signed (some (.sy (.int k (a * b)), fits k (a * b))) (some (.sy (.int k (k.wrap (a * b))), True))) none
 | .quo => cond (decide (k = kb)) (some (.sy (.int k (a / b)), 0 ≤ a ∧ 0 < b ∧ fits k (a / b))) none
 | .rem => cond (decide (k = kb)) (some (.sy (.int k (a % b)), 0 ≤ a ∧ 0 < b)) none
 | .shl => some (.sy (.int k (k.wrap (a * 2 ^ (Nat.min b.toNat k.bits)))), 0 ≤ b)
 | .shr => some (.sy (.int k (a / 2 ^ (Nat.min b.toNat k.bits))), 0 ≤ b)
 | .and => cond (decide (k = kb)) (some (.sy (.int k (k.wrap ((BitVec.ofInt k.bits a &&& BitVec.ofInt k.bits b).toNat : Int))), True)) none
 | .or => cond (decide (k = kb)) (some (.sy (.int k (k.wrap ((BitVec.ofInt k.bits a ||| BitVec.ofInt k.bits b).toNat : Int))), True)) none
 | .xor => cond (decide (k = kb)) (some (.sy (.int k (k.wrap ((BitVec.ofInt k.bits a ^^^ BitVec.ofInt k.bits b).toNat : Int))), True)) none
 | _ => none
theorem arithS_sound {P : Program} {ρ : Env} {op : BinOp} {k kb : IntKind} {a b : Int} {x : AV} {C : Prop} (h : arithS op k a kb b = some (x, C)) (hc : C) (t : TypeId) (p q : Operand) (w : World) :
   ∃ v, VR ρ x v ∧ (do eqGuard op t p q (.int k a) (.int kb b); binOp op t (.int k a) (.int kb b) : Sem Value).run P w = .ok v w := by
 have run : ∀ {v : Value}, op ≠ .eql → op ≠ .neq → (binOp op t (.int k a) (.int kb b)) = pure v → (do eqGuard op t p q (.int k a) (.int kb b); binOp op t (.int k a) (.int kb b) : Sem Value).run P w = .ok v w := by
   intro v h1 h2 h3
   rw [h3]
   unfold eqGuard
   cases op <;> first | (exact absurd rfl h1) | (exact absurd rfl h2) | rfl
 have ne : (decide (k = kb)) = true → k = kb := of_decide_eq_true
 unfold arithS at h
 cases op <;> simp only at h <;> try (cases h; done)
 case add =>
   cases hk : decide (k = kb) with
   | false => rw [hk] at h; cases h
   | true =>
     obtain rfl := ne hk
     rw [hk, cond_true] at h
     cases hs : k.signed with
     | true => rw [hs] at h; simp only [cond_true, cond_false] at h; cases h; exact ⟨_, .sy _, run nofun nofun (by simp [binOp, Op.intArith, fits_wrap hc])⟩
     | false => rw [hs] at h; simp only [cond_true, cond_false] at h; cases h; exact ⟨_, .sy _, run nofun nofun (by simp [binOp, Op.intArith])⟩
 case sub =>
   cases hk : decide (k = kb) with
   | false => rw [hk] at h; cases h
   | true =>
     obtain rfl := ne hk
     rw [hk, cond_true] at h
     cases hs : k.signed with
     | true => rw [hs] at h; simp only [cond_true, cond_false] at h; cases h; exact ⟨_, .sy _, run nofun nofun (by simp [binOp, Op.intArith, fits_wrap hc])⟩
     | false => rw [hs] at h; simp only [cond_true, cond_false] at h; cases h; exact ⟨_, .sy _, run nofun nofun (by simp [binOp, Op.intArith])⟩
 case mul =>
   cases hk : decide (k = kb) with
   | false => rw [hk] at h; cases h
   | true =>
     obtain rfl := ne hk
     rw [hk, cond_true] at h
     cases hs : k.signed with
     | true => rw [hs] at h; simp only [cond_true, cond_false] at h; cases h; exact ⟨_, .sy _, run nofun nofun (by simp [binOp, Op.intArith, fits_wrap hc])⟩
     | false => rw [hs] at h; simp only [cond_true, cond_false] at h; cases h; exact ⟨_, .sy _, run nofun nofun (by simp [binOp, Op.intArith])⟩
 case quo =>
   cases hk : decide (k = kb) with
   | false => rw [hk] at h; cases h
   | true =>
     obtain rfl := ne hk
     rw [hk, cond_true] at h; cases h
     obtain ⟨h0, h1, h2⟩ := hc
     refine ⟨_, .sy _, run nofun nofun ?_⟩
     simp only [binOp, Op.intDiv, ne_eq, not_true_eq_false, if_false]
     rw [if_neg (by omega), Int.tdiv_eq_ediv_of_nonneg h0, fits_wrap h2]
 case rem =>
   cases hk : decide (k = kb) with
   | false => rw [hk] at h; cases h
   | true =>
     obtain rfl := ne hk
     rw [hk, cond_true] at h; cases h
     obtain ⟨h0, h1⟩ := hc
     refine ⟨_, .sy _, run nofun nofun ?_⟩
     simp only [binOp, Op.intDiv, ne_eq, not_true_eq_false, if_false]
     rw [if_neg (by omega), Int.tmod_eq_emod_of_nonneg h0]
 case shl =>
   cases h
   refine ⟨_, .sy _, run nofun nofun ?_⟩
   simp only [binOp, Op.shift]
   rw [if_neg (by omega)]
 case shr =>
   cases h
   refine ⟨_, .sy _, run nofun nofun ?_⟩
   simp only [binOp, Op.shift]
   rw [if_neg (by omega), Int.fdiv_eq_ediv_of_nonneg _ (Int.pow_nonneg (by decide))]
 all_goals
   cases hk : decide (k = kb) with
   | false => rw [hk] at h; cases h
   | true =>
     obtain rfl := ne hk
     rw [hk, cond_true] at h; cases h
     exact ⟨_, .sy _, run nofun nofun (by simp [binOp, Op.intBits])⟩
def cmpS (op : BinOp) (a b : Int) : Option Bool :=
 match op with
 | .eql => some (decide (a = b))
 | .neq => some (!decide (a = b))
 | .lss => some (decide (a < b))
 | .leq => some (decide (a ≤ b))
 | .gtr => some (decide (b < a))
 | .geq => some (decide (b ≤ a))
 | _ => none
def cmpT (op : BinOp) (a b : ByteArray) : Option Bool :=
 match op with
 | .eql => some (decide (a.data.toList = b.data.toList))
 | .neq => some (!decide (a.data.toList = b.data.toList))
 | .lss => some (Op.bytesLess a.data.toList b.data.toList)
 | .leq => some (Op.bytesLess a.data.toList b.data.toList || decide (a.data.toList = b.data.toList))
 | .gtr => some (!(Op.bytesLess a.data.toList b.data.toList || decide (a.data.toList = b.data.toList)))
 | .geq => some (!Op.bytesLess a.data.toList b.data.toList)
 | _ => none
def boolA : AV → Option Bool
 | .v (.bool b) => some b
 | .sy (.bool b) => some b
 | _ => none
def boolS : AV → Option Bool
 | .sy (.bool b) => some b
 | _ => none
theorem boolA_sound {ρ : Env} {x : AV} {u : Value} {b : Bool} (h : boolA x = some b) (hx : VR ρ x u) : u = .bool b := by
 unfold boolA at h
 split at h <;> simp at h <;> subst h <;> cases hx <;> rfl
theorem boolS_sound {ρ : Env} {x : AV} {u : Value} {b : Bool} (h : boolS x = some b) (hx : VR ρ x u) : u = .bool b := by
 unfold boolS at h
 split at h <;> simp at h
 subst h; cases hx; rfl
def testS (T : Tr AV) (o : Oper) : Option Bool :=
 match o.op with
 | .binOp op _ x y _ =>
   match intA (aev T x), intA (aev T y) with
   | some (k, a), some (kb, b) => cond (decide (k = kb)) (cmpS op a b) none
   | _, _ => match txtA (aev T x), txtA (aev T y) with
     | some a, some b => cmpT op a b
     | _, _ => none
 | .move x => boolS (aev T x)
 | .assign x => boolS (aev T x)
 | .unOp op _ x => match op, boolS (aev T x) with
   | .not, some b => some (!b)
   | _, _ => none
 | _ => none
theorem ba_list (a : ByteArray) : a.toList = a.data.toList := by
 have := ByteArray.toList_mk a.data.toList
 simpa using this
theorem testS_sound {P : Program} {ρ : Env} {T : Tr AV} {o : Oper} {b : Bool} {ev : Operand → Value} (h : testS T o = some b) (hev : ∀ y ∈ o.op.operands, VR ρ (aev T y) (ev y)) (w : World) : (execOp ev o).run P w = .ok (.value (.bool b)) w := by
 obtain ⟨dst, op, type, pos, after, guard⟩ := o
 cases op <;> simp only [testS] at h <;> try (cases h; done)
 case move x =>
   have hx := hev x (by simp [Op.operands])
   have e := boolS_sound h hx
   unfold execOp; simp only [e]; rfl
 case assign x =>
   have hx := hev x (by simp [Op.operands])
   have e := boolS_sound h hx
   unfold execOp; simp only [e]; rfl
 case unOp op t x =>
   have hx := hev x (by simp [Op.operands])
   split at h
   · rename_i hb
     cases h
     have e := boolS_sound hb hx
     unfold execOp; simp only [e, Sem.run_bind]; rfl
   · cases h
 rename_i op t x y yt
 have hx := hev x (by simp [Op.operands])
 have hy := hev y (by simp [Op.operands])
 have guard : ∀ {k kb : IntKind} {a b : Int}, (eqGuard op t x y (.int k a) (.int kb b)).run P w = .ok () w := fun {k kb a b} => by
   unfold eqGuard
   cases op <;> rfl
 have guardT : ∀ {a b : ByteArray}, (eqGuard op t x y (.string a) (.string b)).run P w = .ok () w := fun {a b} => by
   unfold eqGuard
   cases op <;> rfl
 split at h
 · rename_i k a kb b' ha hb
   have e1 := intA_sound ha hx
   have e2 := intA_sound hb hy
   cases hk : decide (k = kb) with
   | false => rw [hk] at h; cases h
   | true =>
     obtain rfl : k = kb := of_decide_eq_true hk
     rw [hk, cond_true] at h
     unfold execOp
     simp only [e1, e2, Sem.run_bind, guard, Result.andThen_ok]
     cases op <;> simp only [cmpS] at h <;> try (cases h; done)
     all_goals
       simp only [Option.some.injEq] at h
       subst h
       simp [binOp, Op.intCmp, bne]
     all_goals rfl
 · split at h
   · rename_i a b' ha hb
     have e1 := txtA_sound ha hx
     have e2 := txtA_sound hb hy
     unfold execOp
     simp only [e1, e2, Sem.run_bind, guardT, Result.andThen_ok]
     have beq : ∀ l m : List UInt8, (l == m) = decide (l = m) := fun l m => by rw [Bool.eq_iff_iff]; simp
     cases op <;> simp only [cmpT] at h <;> try (cases h; done)
     all_goals
       simp only [Option.some.injEq] at h
       subst h
       simp [binOp, Op.stringOp, ba_list, beq]
   · cases h
def convS (k : IntKind) (n : Int) : AV × Prop := match k with
 | .i64 => (.sy (.int k n), fits k n)
 | .u64 => (.sy (.int k n), fits k n)
 | _ => (.sy (.int k (k.wrap n)), True)
def lenS : AV → Option Nat
 | .by8 bs => some bs.length
 | .im _ n _ => some n
 | .ow _ n => some n
 | .ws _ _ n _ => some n
 | _ => none
theorem lenS_sound {ρ : Env} {x : AV} {u : Value} {n : Nat} (h : lenS x = some n) (hx : VR ρ x u) : ∃ a c, u = .slice a n c := by
 unfold lenS at h
 split at h <;> simp at h <;> subst h
 · cases hx with
   | by8 hw => exact ⟨_, _, by have := hw.len; simp at this; rw [this]⟩
 · cases hx; exact ⟨_, _, rfl⟩
 · cases hx <;> exact ⟨_, _, rfl⟩
 · cases hx <;> exact ⟨_, _, rfl⟩
def bndS (d : Nat) : Option AV → Option Int
 | none => some d
 | some x => match intA x with | some (_, n) => some n | none => none
def byA (bs : List UInt8) (k : Nat) : AV := .sy (.int .u8 ((bs.getD k 0).toNat : Int))
def symP (P : Program) (T : Tr AV) (o : Oper) : Option (AV × Prop) :=
 match o.op with
 | .binOp op _ x y _ => match intA (aev T x), intA (aev T y) with
   | some (k, a), some (kb, b) => arithS op k a kb b
   | _, _ => none
 | .unOp op _ x => match op, intA (aev T x) with
   | .neg, some (k, a) => arithS .sub k 0 k a
   | _, _ => none
 | .convert s d x => match P.underlying s, P.underlying d, aev T x with
   | some (.slice e), some .string, .by8 bs => match P.underlying e with
     | some (.int .u8) => some (.sy (.string (str bs)), True)
     | _ => none
   | some _, some (.int k), y => match intA y with
     | some (_, n) => some (convS k n)
     | none => none
   | _, _, _ => none
 | .call ⟨.builtin .len, args, ats⟩ => match args.toList, ats.toList with
   | [x], [t] => match P.underlying t with
     | some (.slice _) => match lenS (aev T x) with
       | some n => some (.sy (.int .i64 (n : Int)), True)
       | none => none
     | some .string => match txtA (aev T x) with
       | some s => some (.sy (.int .i64 (s.size : Int)), True)
       | none => none
     | _ => none
   | _, _ => none
 | .call ⟨.builtin .min, args, _⟩ => match args.toList with
   | [x, y] => match intA (aev T x), intA (aev T y) with
     | some (k, a), some (_, b) => some (.sy (.int k (min a b)), True)
     | _, _ => none
   | _ => none
 | .call ⟨.builtin .max, args, _⟩ => match args.toList with
   | [x, y] => match intA (aev T x), intA (aev T y) with
     | some (k, a), some (_, b) => some (.sy (.int k (max a b)), True)
     | _, _ => none
   | _ => none
 | .index t x i => match P.underlying t, txtA (aev T x), intA (aev T i) with
   | some .string, some s, some (_, n) => some (byA s.data.toList n.toNat, 0 ≤ n ∧ n < s.data.toList.length)
   | _, _, _ => none
 | .indexAddr t x i => match P.underlying t, intA (aev T i) with
   | some (.slice e), some (_, n) => match P.info? e, aev T x with
     | some ie, .by8 bs => cond (Nat.beq ie.size 1) (some (.ip [byA bs n.toNat], 0 ≤ n ∧ n < bs.length)) none
     | some ie, .im w m f => cond (Nat.beq ie.size w) (some (.ip (f n.toNat), 0 ≤ n ∧ n < m)) none
     | some ie, .ow j m => some (.pe j n.toNat ie.size 0, 0 ≤ n ∧ n < m)
     | some ie, .ws j o m w => cond (Nat.beq ie.size w) (some (.pe j (o + n.toNat) w 0, 0 ≤ n ∧ n < m)) none
     | _, _ => none
   | _, _ => none
 | .fieldAddr s x f => match P.underlying s with
   | some (.struct fs) => match fs[f]? with
     | some fd => match P.info? fd.type with
       | some ie => cond (Nat.beq ie.size 0) none (match aev T x with
         | .ip l => some (.ip (l.drop fd.offset), True)
         | .pe i r w j => some (.pe i r w (j + fd.offset), True)
         | _ => none)
       | none => none
     | none => none
   | _ => none
 | .load t x => match aev T x with
   | .ip (c :: l) => match partA P t (c :: l) 0 with | some y => some (y, True) | none => none
   | _ => none
 | .nilCheck x => match aev T x with
   | .ip l => some (.ip l, True)
   | .pe i r w j => some (.pe i r w j, True)
   | _ => none
 | .slice t x lo hi mx => match P.underlying t, mx with
   | some (.slice e), none => match P.info? e, lenS (aev T x) with
     | some ie, some n => match bndS 0 (lo.map (aev T)), bndS n (hi.map (aev T)) with
       | some l, some h => match aev T x with
         | .by8 bs => cond (Nat.beq ie.size 1) (some (.by8 ((bs.take h.toNat).drop l.toNat), 0 ≤ l ∧ l ≤ h ∧ h ≤ n)) none
         | .im w _ f => cond (Nat.beq ie.size w) (some (.im w (h.toNat - l.toNat) (fun r => f (r + l.toNat)), 0 ≤ l ∧ l ≤ h ∧ h ≤ n)) none
         | .ow j _ => some (.ws j l.toNat (h.toNat - l.toNat) ie.size, 0 ≤ l ∧ l ≤ h ∧ h ≤ n)
         | .ws j o _ w => cond (Nat.beq ie.size w) (some (.ws j (o + l.toNat) (h.toNat - l.toNat) w, 0 ≤ l ∧ l ≤ h ∧ h ≤ n)) none
         | _ => none
       | _, _ => none
     | _, _ => none
   | some .string, none => match txtA (aev T x) with
     | some s => match bndS 0 (lo.map (aev T)), bndS s.size (hi.map (aev T)) with
       | some l, some h => some (.sy (.string (str ((s.data.toList.take h.toNat).drop l.toNat))), 0 ≤ l ∧ l ≤ h ∧ h ≤ s.size)
       | _, _ => none
     | none => none
   | _, _ => none
 | _ => none
theorem fin_run {P : Program} {ρ : Env} {ev : Operand → Value} {o : Oper} {x : AV} {w : World} {s : Sem Value} (he : execOp ev o = (do pure (.value (← s)))) (h : ∃ v, VR ρ x v ∧ s.run P w = .ok v w) : ∃ v, VR ρ x v ∧ (execOp ev o).run P w = .ok (.value v) w := by
 obtain ⟨v, hv, hs⟩ := h
 exact ⟨v, hv, by rw [he]; simp [hs]⟩
theorem convS_sound {ρ : Env} {P : Program} {w : World} (k : IntKind) (n : Int) (hc : (convS k n).2) : ∃ v, VR ρ (convS k n).1 v ∧ (Conv.intToInt k n).run P w = .ok v w := by
 cases k <;> simp only [convS] at hc ⊢ <;> first | exact ⟨_, .sy _, rfl⟩ | exact ⟨_, .sy _, by simp [Conv.intToInt, fits_wrap hc]⟩
theorem run_lenSlice {P : Program} {t ty e : TypeId} (hu : P.underlying t = some (.slice e)) (a : Option Addr) (n c : Nat) (w : World) : (Builtin.len_ #[t] ty #[.slice a n c]).run P w = .ok (.int .i64 (n : Int)) w := by
 unfold Builtin.len_; simp [run_underlying hu, goInt]
theorem bare_VR {ρ : Env} : ∀ {x : AV} {u : Value}, VR0 ρ.im x u → VR ρ x u
 | _, _, .v x => .v x
 | _, _, .sy x => .sy x
 | _, _, .any u => .any u
 | _, _, .by8 k => .by8 k
 | _, _, .im k e => .im k e
 | _, _, .ip k e => .ip k e
 | _, _, .agg e => .agg (go e)
 | _, _, .ba bs => .ba bs
 | _, _, .ib k => .ib k
where go : ∀ {l : List AV} {vs : List Value}, VRs0 ρ.im l vs → VRs ρ l vs
 | _, _, .nil => .nil
 | _, _, .cons e t => .cons (bare_VR e) (go t)
theorem VRs0.drop {I : Im} {l : List AV} {vs : List Value} (h : VRs0 I l vs) (n : Nat) : VRs0 I (l.drop n) (vs.drop n) := by
 induction l generalizing vs n with
 | nil => cases h; simpa using VRs0.nil
 | cons y l ih => cases h with | cons e t => cases n with | zero => exact .cons e t | succ n => exact ih t n
theorem WinE.win {w0 : Bs} {ρ : Env} {H : Tr AB} {n : Nat} {w : World} (hr : HR w0 ρ H n w) {a : Option Addr} {m c : Nat} {xs : List Value} (h : WinE ρ.im a m c 1 xs) : Win w a m c xs :=
 ⟨by have := h.len; omega, h.cap, h.max, h.nil, fun ad hd j u hu => hr.imcell (h.cell ad hd j u hu)⟩
theorem bndS_sound {P : Program} {ρ : Env} {d : Nat} {x : Option AV} {u : Option Value} {z : Int} (h : bndS d x = some z) (hx : OR ρ x u) : (u = none ∧ z = d) ∨ ∃ k, u = some (.int k z) := by
 cases hx with
 | no => simp [bndS] at h; exact .inl ⟨rfl, h.symm⟩
 | yes e =>
   right
   simp only [bndS] at h
   split at h
   · rename_i k n hi
     cases h
     exact ⟨k, by rw [intA_sound hi e]⟩
   · cases h
theorem run_bounds {P : Program} {ρ : Env} {n c : Nat} {lo hi : Option AV} {lo' hi' : Option Value} {l h : Int} {w : World} (b : Bool) (hl : bndS 0 lo = some l) (hh : bndS n hi = some h) (h1 : OR ρ lo lo') (h2 : OR ρ hi hi') (h0 : 0 ≤ l) (hlh : l ≤ h) (hn : h ≤ n) (hc : n ≤ c) :
   (Instr.sliceBounds b n c lo' hi' none).run P w = .ok (l.toNat, h.toNat, c) w := by
 have eh : ∀ q : BoundsCode, h.toNat ≤ c ∧ ∀ k, (Instr.sliceBound (.int k h) c q).run P w = .ok h.toNat w := fun q => ⟨by omega, fun k => run_sliceBound w k h c q (by omega) (by omega)⟩
 have el : ∀ q : BoundsCode, ∀ k, (Instr.sliceBound (.int k l) h.toNat q).run P w = .ok l.toNat w := fun q k => run_sliceBound w k l h.toNat q h0 (by omega)
 rcases bndS_sound (P := P) hh h2 with ⟨rfl, rfl⟩ | ⟨k2, rfl⟩ <;> rcases bndS_sound (P := P) hl h1 with ⟨rfl, rfl⟩ | ⟨k1, rfl⟩
 · simp [Instr.sliceBounds]
 · have := el .sliceB k1
   simp only [Int.toNat_natCast] at this
   simp [Instr.sliceBounds, this]
 · simp [Instr.sliceBounds, (eh _).2]
 · simp [Instr.sliceBounds, (eh _).2, el]
theorem symP_sound {P : Program} {w0 : Bs} {ρ : Env} {H : Tr AB} {n : Nat} {w : World} {T : Tr AV} {o : Oper} {r : AV × Prop} {ev : Operand → Value} (h : symP P T o = some r) (hC : r.2) (hr : HR w0 ρ H n w) (hev : ∀ y ∈ o.op.operands, VR ρ (aev T y) (ev y)) :
   ∃ v, VR ρ r.1 v ∧ (execOp ev o).run P w = .ok (.value v) w := by
 obtain ⟨dst, op, type, pos, after, guard⟩ := o
 cases op <;> simp only [symP] at h <;> try (cases h; done)
 case binOp op t x y yt =>
   have hx := hev x (by simp [Op.operands])
   have hy := hev y (by simp [Op.operands])
   split at h
   · rename_i k a kb b ha hb
     obtain ⟨x', C⟩ := r
     refine fin_run (s := do eqGuard op t x y (ev x) (ev y); binOp op t (ev x) (ev y)) rfl ?_
     rw [intA_sound ha hx, intA_sound hb hy]
     exact arithS_sound h hC t x y w
   · cases h
 case unOp op t x =>
   have hx := hev x (by simp [Op.operands])
   split at h
   · rename_i k a ha
     obtain ⟨x', C⟩ := r
     refine fin_run (s := Op.unary .neg (ev x)) rfl ?_
     rw [intA_sound ha hx]
     obtain ⟨v, hv, hrun⟩ := arithS_sound (P := P) (ρ := ρ) h hC 0 (.const (.bool true)) (.const (.bool true)) w
     refine ⟨v, hv, ?_⟩
     simpa [Op.unary, eqGuard, binOp, Op.intArith] using hrun
   · cases h
 case convert s d x =>
   have hx := hev x (by simp [Op.operands])
   split at h
   · rename_i e bs hs hd hxe
     split at h
     · rename_i he
       cases h
       rw [hxe] at hx
       refine fin_run (s := convert s d (ev x)) rfl ?_
       generalize ev x = u at hx
       cases hx with
       | by8 hw =>
         exact ⟨_, .sy _, run_str (P := P) hs he hd (hw.win hr)⟩
     · cases h
   · rename_i hne sd k hs hd
     split at h
     · rename_i k' n hn
       cases h
       refine fin_run (s := convert s d (ev x)) rfl ?_
       rw [intA_sound hn hx]
       obtain ⟨v, hv, hrun⟩ := convS_sound (ρ := ρ) (P := P) (w := w) k n hC
       refine ⟨v, hv, ?_⟩
       rw [← hrun]
       cases sd <;> simp [convert, run_underlying hs, run_underlying hd]
     · cases h
   · cases h
 case call c =>
   obtain ⟨callee, args, ats⟩ := c
   cases callee <;> try simp only at h
   all_goals try (cases h; done)
   rename_i b
   have hex : execOp ev ⟨dst, .call ⟨.builtin b, args, ats⟩, type, pos, after, guard⟩ = builtin b ats type (args.map fun | .const _ => true | _ => false) (args.map ev) := rfl
   cases b <;> try simp only at h
   all_goals try (cases h; done)
   case len =>
     split at h
     · rename_i x t ha ht
       have ha' : args = #[x] := Array.toList_inj.1 ha
       have ht' : ats = #[t] := Array.toList_inj.1 ht
       subst ha' ht'
       have hx := hev x (by simp [Op.operands, Call.operands])
       refine fin_run (s := Builtin.len_ #[t] type #[ev x]) (by rw [hex]; simp [builtin]) ?_
       split at h
       · rename_i e hu
         split at h
         · rename_i n hn
           cases h
           obtain ⟨a, c, hu'⟩ := lenS_sound hn hx
           rw [hu']
           exact ⟨_, .sy _, run_lenSlice hu a n c w⟩
         · cases h
       · rename_i hu
         split at h
         · rename_i s hs
           cases h
           rw [txtA_sound hs hx]
           exact ⟨_, .sy _, by unfold Builtin.len_; simp [run_underlying hu, goInt]⟩
         · cases h
       · cases h
     · cases h
   case min =>
     split at h
     · rename_i x y ha
       have ha' : args = #[x, y] := Array.toList_inj.1 ha
       subst ha'
       split at h
       · rename_i k a kb b h1 h2
         cases h
         have hx := intA_sound h1 (hev x (by simp [Op.operands, Call.operands]))
         have hy := intA_sound h2 (hev y (by simp [Op.operands, Call.operands]))
         refine fin_run (s := Builtin.min_ ats type #[ev x, ev y]) (by rw [hex]; simp [builtin]) ⟨_, .sy _, ?_⟩
         rw [hx, hy]
         simp only [Builtin.min_, List.foldlM, Builtin.min2, Sem.run_bind, Sem.run_pure, Result.andThen_ok]
         congr 2
         rw [Int.min_def]
         split <;> split <;> omega
       · cases h
     · cases h
   case max =>
     split at h
     · rename_i x y ha
       have ha' : args = #[x, y] := Array.toList_inj.1 ha
       subst ha'
       split at h
       · rename_i k a kb b h1 h2
         cases h
         have hx := intA_sound h1 (hev x (by simp [Op.operands, Call.operands]))
         have hy := intA_sound h2 (hev y (by simp [Op.operands, Call.operands]))
         refine fin_run (s := Builtin.max_ ats type #[ev x, ev y]) (by rw [hex]; simp [builtin]) ⟨_, .sy _, ?_⟩
         rw [hx, hy]
         simp only [Builtin.max_, List.foldlM, Builtin.max2, Sem.run_bind, Sem.run_pure, Result.andThen_ok]
         congr 2
         rw [Int.max_def]
         split <;> split <;> omega
       · cases h
     · cases h
 case index t x i =>
   have hx := hev x (by simp [Op.operands])
   have hi := hev i (by simp [Op.operands])
   split at h
   · rename_i s k m hu hs hm
     cases h
     obtain ⟨h0, h1⟩ := hC
     refine fin_run (s := Instr.index t (ev x) (ev i)) rfl ⟨_, .sy _, ?_⟩
     rw [txtA_sound hs hx, intA_sound hm hi]
     have hlt : m.toNat < s.data.toList.length := by omega
     have hg : s[m.toNat]? = some (s.data.toList.getD m.toNat 0) := by
       have hlt' : m.toNat < s.size := by simpa using hlt
       rw [getElem?_pos s m.toNat hlt']
       simp [List.getD, List.getElem?_eq_getElem hlt]
       rfl
     unfold Instr.index
     simp [asIntOf, run_underlying hu, h0, hg]
   · cases h
 case indexAddr t x i =>
   have hx := hev x (by simp [Op.operands])
   have hi := hev i (by simp [Op.operands])
   refine fin_run (s := Instr.indexAt t (ev x) (ev i)) rfl ?_
   split at h
   · rename_i e k m hu hm
     rw [intA_sound hm hi]
     have run : ∀ (ad : Addr) (len c : Nat) (ie : TypeInfo), P.info? e = some ie → 0 ≤ m ∧ m < (len : Int) → (Instr.indexAt t (.slice (some ad) len c) (.int k m)).run P w = .ok (.pointer (some (ad.add (m.toNat * ie.size)))) w := by
       intro ad len c ie hie hm
       unfold Instr.indexAt
       simp [asIntOf, run_underlying hu, hm, run_sizeOf hie]
     split at h
     · rename_i ie bs hie hxe
       rw [hxe] at hx
       cases hsz : Nat.beq ie.size 1 with
       | false => rw [hsz] at h; cases h
       | true =>
         rw [hsz, cond_true] at h
         cases h
         have hsz' : ie.size = 1 := by simpa using hsz
         generalize ev x = u at hx
         cases hx with
         | @by8 _ a n' c hw =>
           have hl := hw.len
           simp at hl
           cases a with
           | none => have := hw.nil rfl; have := hw.cap; have := hC.2; have := hC.1; omega
           | some ad =>
             refine ⟨_, ?_, run ad n' c ie hie ⟨hC.1, by rw [← hl]; exact hC.2⟩⟩
             have hlt : m.toNat < bs.length := by have := hC.2; have := hC.1; omega
             refine .ip (vs := [byt (bs.getD m.toNat 0)]) (fun j u hu => ?_) (.cons (.sy _) .nil)
             have hj : j = 0 := by
               cases j with
               | zero => rfl
               | succ j => simp at hu
             subst hj
             simp at hu
             rw [add_zero, hsz', Nat.mul_one]
             refine hw.cell ad rfl m.toNat u ?_
             rw [← hu]
             simp [List.getElem?_eq_getElem hlt, List.getD]
     · rename_i ie wd n' f hie hxe
       rw [hxe] at hx
       cases hsz : Nat.beq ie.size wd with
       | false => rw [hsz] at h; cases h
       | true =>
         rw [hsz, cond_true] at h
         cases h
         have hsz' : ie.size = wd := by simpa using hsz
         generalize ev x = u at hx
         cases hx with
         | @im _ _ _ a c vs hw hf =>
           have hl := hw.len
           cases a with
           | none => have := hw.nil rfl; have := hw.cap; have := hC.2; have := hC.1; omega
           | some ad =>
             refine ⟨_, ?_, run ad n' c ie hie hC⟩
             have hlt : m.toNat < n' := by have := hC.2; have := hC.1; omega
             refine .ip (fun j u hu => ?_) (hf m.toNat hlt)
             rw [List.getElem?_take] at hu
             split at hu
             · rw [List.getElem?_drop] at hu
               rw [add_add, hsz']
               exact hw.cell ad rfl _ u hu
             · cases hu
     · rename_i ie j n' hie hxe
       cases h
       rw [hxe] at hx
       generalize ev x = u at hx
       cases hx with
       | ow _ hi' hn hc =>
         refine ⟨_, ?_, run _ n' _ ie hie hC⟩
         have := VR.pe (ρ := ρ) m.toNat ie.size 0 hi'
         rw [Nat.add_zero] at this
         rw [Addr.add_lit, Nat.zero_add]
         exact this
       | ow0 => have := hC.2; have := hC.1; omega
     · rename_i ie j o' n' wd hie hxe
       rw [hxe] at hx
       cases hsz : Nat.beq ie.size wd with
       | false => rw [hsz] at h; cases h
       | true =>
         rw [hsz, cond_true] at h
         cases h
         have hsz' : ie.size = wd := by simpa using hsz
         generalize ev x = u at hx
         cases hx with
         | ws _ _ _ _ hi' hn hc =>
           refine ⟨_, ?_, run _ n' _ ie hie hC⟩
           have := VR.pe (ρ := ρ) (o' + m.toNat) wd 0 hi'
           rw [Nat.add_zero, Nat.add_mul] at this
           rw [Addr.add_lit, hsz']
           exact this
         | ws0 => have := hC.2; have := hC.1; omega
     · cases h
   · cases h
 case fieldAddr s x f =>
   have hx := hev x (by simp [Op.operands])
   refine fin_run (s := Instr.fieldAt s (ev x) f) rfl ?_
   split at h
   · rename_i fs hu
     split at h
     · rename_i fd hf
       split at h
       · rename_i ie hie
         rw [beq_dec] at h
         by_cases hz : ie.size = 0
         · simp [hz] at h
         · simp only [hz, decide_false, cond_false] at h
           have run : ∀ ad : Addr, (Instr.fieldAt s (.pointer (some ad)) f).run P w = .ok (.pointer (some (ad.add fd.offset))) w := fun ad => by
             unfold Instr.fieldAt fieldPlace
             simp [run_underlying hu, hf, Instr.sureAddr, run_sizeOf hie, hz]
           split at h
           · rename_i l hxe
             cases h
             rw [hxe] at hx
             generalize ev x = u at hx
             cases hx with
             | @ip _ ad vs hc hl =>
               refine ⟨_, ?_, run ad⟩
               refine .ip (vs := vs.drop fd.offset) (fun j u hu => ?_) (hl.drop _)
               rw [List.getElem?_drop] at hu
               rw [add_add]
               exact hc _ u hu
           · rename_i i r wd j hxe
             cases h
             rw [hxe] at hx
             generalize ev x = u at hx
             cases hx with
             | pe _ _ _ hi =>
               refine ⟨_, ?_, run _⟩
               rw [Addr.add_lit, Nat.add_assoc]
               exact .pe _ _ _ hi
           · cases h
       · cases h
     · cases h
   · cases h
 case load t x =>
   have hx := hev x (by simp [Op.operands])
   refine fin_run (s := Instr.loadAt t (ev x)) rfl ?_
   split at h
   · rename_i c0 l hxe
     split at h
     · rename_i y hy
       cases h
       rw [hxe] at hx
       generalize ev x = u at hx
       cases hx with
       | @ip _ ad vs hc hl =>
         have hsp : ∀ {j : Nat} {u : Value}, vs[j]? = some u → w.cell? (ad.add j) = some u := fun hu => hr.imcell (hc _ _ hu)
         have hlv := bare_VR.go hl
         have hll := hlv.length
         obtain ⟨b, o', sp⟩ := ad
         have hspot : sp = none := by
           cases vs with
           | nil => simp at hll
           | cons v0 vs =>
             have := hsp (j := 0) (u := v0) rfl
             rw [add_zero] at this
             unfold World.cell? at this
             split at this
             · cases sp with
               | none => rfl
               | some q => simp at this
             · cases this
         subst hspot
         unfold partA at hy
         cases hd : P.underlying t with
         | none => simp [hd] at hy
         | some d =>
           simp only [hd] at hy
           cases hb : aggB d with
           | true =>
             simp only [hb, cond_true] at hy
             cases hi' : P.info? t with
             | none => simp [hi'] at hy
             | some inf =>
               simp only [hi'] at hy
               cases hc' : Nat.ble (0 + inf.size) (c0 :: l).length with
               | false => rw [hc'] at hy; cases hy
               | true =>
                 rw [hc', cond_true] at hy
                 cases hy
                 have hle : inf.size ≤ (c0 :: l).length := by have := Nat.le_of_ble_eq_true hc'; omega
                 refine ⟨_, .agg ((hlv.drop 0).take inf.size), ?_⟩
                 refine run_loadAt_mid w b o' t _ d (fun j u hu => ?_) hd (by cases d <;> simp_all [aggB]) (by simp only [hi', Option.map_some, List.drop_zero, List.length_take]; rw [Nat.min_eq_left (by omega)])
                 rw [List.getElem?_take] at hu
                 split at hu
                 · rw [List.getElem?_drop, Nat.zero_add] at hu
                   have := hsp hu
                   rwa [Addr.add_lit] at this
                 · cases hu
           | false =>
             simp only [hb, cond_false] at hy
             obtain ⟨v, hv', hx⟩ := hlv.get hy
             refine ⟨v, hx, ?_⟩
             have := hsp hv'
             rw [add_zero] at this
             unfold Instr.loadAt loadVar
             simp [Instr.sureAddr, run_isAgg hd, hb, this]
     · cases h
   · cases h
 case nilCheck x =>
   have hx := hev x (by simp [Op.operands])
   generalize hu : ev x = u at hx
   split at h
   · rename_i l hxe
     rw [hxe] at hx
     cases h
     cases hx with
     | ip e e' => exact ⟨_, .ip e e', by unfold execOp; simp [hu]⟩
   · rename_i i r wd j hxe
     rw [hxe] at hx
     cases h
     cases hx with
     | pe _ _ _ e => exact ⟨_, .pe _ _ _ e, by unfold execOp; simp [hu]⟩
   · cases h
 case slice t x lo hi mx =>
   have hx := hev x (by simp [Op.operands])
   have h1 : OR ρ (lo.map (aev T)) (lo.map ev) := OR.map_ev fun z hz => hev z (by subst hz; simp [Op.operands])
   have h2 : OR ρ (hi.map (aev T)) (hi.map ev) := OR.map_ev fun z hz => hev z (by subst hz; simp [Op.operands])
   refine fin_run (s := Instr.sliceAt t (ev x) (lo.map ev) (hi.map ev) (mx.map ev)) rfl ?_
   split at h
   · rename_i e hu
     split at h
     · rename_i ie n' hie hn
       split at h
       · rename_i l hh hl hhb
         have run : ∀ {a : Option Addr} {c : Nat}, n' ≤ c → 0 ≤ l ∧ l ≤ hh ∧ hh ≤ (n' : Int) → (Instr.sliceAt t (.slice a n' c) (lo.map ev) (hi.map ev) none).run P w = .ok (.slice (if c = l.toNat then a else a.map (·.add (l.toNat * ie.size))) (hh.toNat - l.toNat) (c - l.toNat)) w := by
           intro a c hc ⟨q1, q2, q3⟩
           unfold Instr.sliceAt Instr.slice
           simp only [Sem.run_bind, run_underlying hu, Result.andThen_ok, run_bounds true hl hhb h1 h2 q1 q2 q3 hc, run_sizeOf hie, Sem.run_pure]
         -- a part of what stays
         have part : ∀ {a : Option Addr} {c wd : Nat} {xs : List Value}, ie.size = wd → WinE ρ.im a n' c wd xs → 0 ≤ l ∧ l ≤ hh ∧ hh ≤ (n' : Int) → WinE ρ.im (if c = l.toNat then a else a.map (·.add (l.toNat * ie.size))) (hh.toNat - l.toNat) (c - l.toNat) wd ((xs.take (hh.toNat * wd)).drop (l.toNat * wd)) := by
           intro a c wd xs hsz hw ⟨q1, q2, q3⟩
           have hlen := hw.len
           have hcap := hw.cap
           have hmx := hw.max
           have hq : hh.toNat * wd ≤ n' * wd := Nat.mul_le_mul_right _ (by omega)
           refine ⟨?_, by omega, by omega, fun he => ?_, fun ad' had j u hu => ?_⟩
           · rw [List.length_drop, List.length_take, hlen, Nat.min_eq_left hq, Nat.sub_mul]
           · split at he
             · have := hw.nil he; omega
             · cases a with
               | none => have := hw.nil rfl; omega
               | some ad => cases he
           · rw [List.getElem?_drop, List.getElem?_take] at hu
             split at hu
             · rename_i hlt
               split at had
               · rename_i hcl
                 have : hh.toNat * wd ≤ l.toNat * wd := Nat.mul_le_mul_right _ (by omega)
                 omega
               · cases a with
                 | none => cases had
                 | some ad =>
                   cases had
                   rw [add_add, hsz]
                   exact hw.cell ad rfl _ u hu
             · cases hu
         simp only [Option.map_none]
         split at h
         · rename_i bs hxe
           rw [hxe] at hx
           cases hsz : Nat.beq ie.size 1 with
           | false => rw [hsz] at h; cases h
           | true =>
             rw [hsz, cond_true] at h
             cases h
             have hsz' : ie.size = 1 := by simpa using hsz
             generalize ev x = u at hx
             cases hx with
             | @by8 _ a n2 c hw =>
               obtain rfl : n2 = n' := by
                 rw [hxe] at hn
                 have := hw.len
                 simp [lenS] at hn this
                 omega
               refine ⟨_, ?_, run hw.cap hC⟩
               have := part hsz' hw hC
               refine .by8 ?_
               simpa [List.map_drop, List.map_take] using this
         · rename_i wd n2 f hxe
           rw [hxe] at hx
           cases hsz : Nat.beq ie.size wd with
           | false => rw [hsz] at h; cases h
           | true =>
             rw [hsz, cond_true] at h
             cases h
             have hsz' : ie.size = wd := by simpa using hsz
             generalize ev x = u at hx
             cases hx with
             | @im _ _ _ a c vs hw hf =>
               obtain rfl : n2 = n' := by
                 rw [hxe] at hn
                 simpa [lenS] using hn
               refine ⟨_, ?_, run hw.cap hC⟩
               refine .im (part hsz' hw hC) (fun r hr' => ?_)
               have hlt : r + l.toNat < n2 := by have := hC.2.2; omega
               have := hf (r + l.toNat) hlt
               have e : (((vs.take (hh.toNat * wd)).drop (l.toNat * wd)).drop (r * wd)).take wd = (vs.drop ((r + l.toNat) * wd)).take wd := by
                 have hq : (r + l.toNat + 1) * wd ≤ hh.toNat * wd := Nat.mul_le_mul_right _ (by omega)
                 rw [Nat.add_mul, Nat.one_mul] at hq
                 apply List.ext_getElem?
                 intro j
                 rw [List.getElem?_take, List.getElem?_take]
                 split
                 · rw [List.getElem?_drop, List.getElem?_drop, List.getElem?_take, List.getElem?_drop]
                   rw [Nat.add_mul] at hq ⊢
                   rw [if_pos (by omega)]
                   congr 1; omega
                 · rfl
               rw [e]
               exact this
         · rename_i j n2 hxe
           cases h
           rw [hxe] at hx
           have hnn : n2 = n' := by rw [hxe] at hn; simpa [lenS] using hn
           subst hnn
           generalize ev x = u at hx
           cases hx with
           | @ow _ b c _ hi' hcap hmx =>
             refine ⟨_, ?_, run hcap hC⟩
             by_cases hcl : c = l.toNat
             · have hz : hh.toNat - l.toNat = 0 := by have := hC.2.2; omega
               simp only [hz, hcl, if_true, Nat.sub_self]
               exact .ws0 _ _ _ _ _ (Nat.zero_le _) (fun e => by cases e)
             · simp only [hcl, if_false, Option.map_some, Addr.add_lit, Nat.zero_add]
               exact .ws _ _ _ _ hi' (by omega) (by omega)
           | ow0 =>
             refine ⟨_, ?_, run (Nat.le_refl 0) hC⟩
             have hl0 : l.toNat = 0 := by have := hC.2.2; have := hC.2.1; omega
             have hh0 : hh.toNat = 0 := by have := hC.2.2; omega
             simp only [hl0, hh0, if_true, Nat.sub_self]
             exact .ws0 _ _ _ _ _ (Nat.zero_le _) (fun _ => rfl)
         · rename_i j o' n2 wd hxe
           rw [hxe] at hx
           cases hsz : Nat.beq ie.size wd with
           | false => rw [hsz] at h; cases h
           | true =>
             rw [hsz, cond_true] at h
             cases h
             have hsz' : ie.size = wd := by simpa using hsz
             have hnn : n2 = n' := by rw [hxe] at hn; simpa [lenS] using hn
             subst hnn
             generalize ev x = u at hx
             cases hx with
             | @ws _ b d _ _ _ c hi' hcap hmx =>
               refine ⟨_, ?_, run hcap hC⟩
               by_cases hcl : c = l.toNat
               · have hz : hh.toNat - l.toNat = 0 := by have := hC.2.2; omega
                 simp only [hz, hcl, if_true, Nat.sub_self]
                 exact .ws0 _ _ _ _ _ (Nat.zero_le _) (fun e => by cases e)
               · simp only [hcl, if_false, Option.map_some, Addr.add_lit]
                 rw [hsz', ← Nat.add_mul]
                 exact .ws _ _ _ _ hi' (by omega) (by omega)
             | ws0 _ _ _ a c hmx ha =>
               refine ⟨_, ?_, run (Nat.zero_le c) hC⟩
               have hl0 : l.toNat = 0 := by have := hC.2.2; have := hC.2.1; omega
               have hh0 : hh.toNat = 0 := by have := hC.2.2; omega
               simp only [hl0, hh0, Nat.sub_zero, Nat.zero_mul]
               refine .ws0 _ _ _ _ _ hmx (fun e => ?_)
               split at e
               · exact ha e
               · cases a with
                 | none => exact ha rfl
                 | some ad => cases e
         · cases h
       · cases h
     · cases h
   · rename_i hu
     split at h
     · rename_i s hs
       split at h
       · rename_i l hh hl hhb
         cases h
         obtain ⟨q1, q2, q3⟩ := hC
         refine ⟨_, .sy _, ?_⟩
         rw [txtA_sound hs hx]
         unfold Instr.sliceAt Instr.slice
         simp only [Option.map_none, Sem.run_bind, run_underlying hu, Result.andThen_ok, Option.isSome_none, Bool.false_eq_true, if_false, run_bounds false hl hhb h1 h2 q1 q2 q3 (Nat.le_refl _), Sem.run_pure]
         congr 2
         apply ByteArray.ext
         rw [ByteArray.data_extract]
         apply Array.toList_inj.1
         simp [str, List.extract_eq_take_drop, List.drop_take]
       · cases h
     · cases h
   · cases h
section
variable {w0 : Bs} {w w' : World} {ρ : Env} {H : Tr AB} {n : Nat}
theorem HR.putX (h : HR w0 ρ H n w) {F : Nat → Nat → Prop} (hF : Foot w0 ρ H w F) {i b c : Nat} {B : AB} {x : Ob} (hi : ρ i = some (b, c)) (hB : H.get i = some B) (hl : B.live = true) {F' : Nat → Prop} {J : Im} (hf : Fr (F i) w w') (hrep : x.rep J w' b c F') (hb : F' b)
   (hF' : ∀ k, F' k → (F i k ∨ w.heap.size ≤ k) ∧ k < w'.heap.size) (hJ : ρ.im.le J) (hJn : ∀ k d, J k = some d → (ρ.im k = some d ∨ w.heap.size ≤ k) ∧ ¬ F' k) (hJw : ∀ k d, J k = some d → ∃ T fz, w'.heap[k]? = some (.cells d T fz)) :
   HR w0 ⟨ρ.nm, J⟩ (tput H i (.obj x)) n w' ∧ Ext ρ ⟨ρ.nm, J⟩ H (tput H i (.obj x)) n n := by
 have hle : ρ.le ⟨ρ.nm, J⟩ := ⟨fun _ _ h => h, hJ⟩
 have sep : ∀ {j k : Nat} {p : Nat × Nat} {C : AB}, j ≠ i → ρ j = some p → H.get j = some C → C.live = true → F j k → ¬ F i k := fun hj h1 h2 h3 h4 h5 => hj (hF.apart h1 hi h2 hB h3 hl h4 h5)
 have same : ∀ {j k : Nat} {p : Nat × Nat} {C : AB}, j ≠ i → ρ j = some p → H.get j = some C → C.live = true → F j k → w'.heap[k]? = w.heap[k]? := fun hj h1 h2 h3 h4 => hf.block _ (hF.there h1 h2 h3 h4).2.1 (sep hj h1 h2 h3 h4)
 have get : ∀ {j : Nat} {C : AB}, (tput H i (.obj x)).get j = some C → (j = i ∧ C = .obj x) ∨ (j ≠ i ∧ H.get j = some C) := fun {j C} hq => by
   rw [get_tput] at hq
   split at hq
   · rename_i e; cases hq; exact .inl ⟨e, rfl⟩
   · rename_i e; exact .inr ⟨e, hq⟩
 refine ⟨⟨fun {j b' c' C} h1 h2 => ?_, ⟨fun j k => if j = i then F' k else F j k, fun {j b' c' C} h1 h2 h3 => ?_, fun {j b' c' y} h1 h2 => ?_, fun {j l k p q C D} h1 h2 h3 h4 h5 h6 h7 h8 => ?_, fun {j k p C} h1 h2 h3 h4 => ?_⟩, fun {j} hj => ⟨(h.top hj).1, ?_⟩, fun {j b' c'} h1 => ⟨(h.base h1).1, Nat.lt_of_lt_of_le (h.base h1).2 hf.size⟩, h.fr.trans hf (fun k hk => (hF.there hi hB hl hk).1), Env.le_trans h.le hle, fun {k d} h1 => hJw k d h1, fun {k d} h1 => (hJn k d h1).1.elim h.imn fun q => .inr (.inr (Nat.le_trans h.fr.size q)), fun {j} hk => ⟨(h.kb hk).1, (h.kb hk).2.1, fun T l => by rw [get_tput, if_neg (fun e => by subst e; rw [(h.kb hk).1] at hi; cases hi)]; exact (h.kb hk).2.2 T l⟩⟩, ⟨hle, fun _ => rfl, fun {j} _ hn => Keeps.of ?_, Nat.le_refl _⟩⟩
 · rcases get h2 with ⟨rfl, rfl⟩ | ⟨hj, h3⟩
   · rw [hi] at h1; cases h1
     have := (hF' b hb).2
     exact ⟨w'.heap[b], by simp [this], trivial⟩
   · obtain ⟨o, ho, hbr⟩ := h.blk h1 h3
     cases hlv : C.live with
     | true => exact ⟨o, (same hj h1 h3 hlv (hF.one h1 h3 hlv).1).trans ho, hbr.mono hle⟩
     | false =>
       have hlt := Nat.lt_of_lt_of_le (h.base h1).2 hf.size
       refine ⟨w'.heap[b'], by simp [hlt], ?_⟩
       cases C <;> first | (cases hlv; done) | trivial
 · rcases get h2 with ⟨rfl, rfl⟩ | ⟨hj, h4⟩
   · rw [hi] at h1; cases h1
     simp only [if_true]
     exact ⟨hb, fun e => by cases e⟩
   · simp only [if_neg hj]; exact hF.one h1 h4 h3
 · rcases get h2 with ⟨rfl, e⟩ | ⟨hj, h4⟩
   · cases e
     rw [hi] at h1; cases h1
     simp only [if_true]
     exact hrep
   · simp only [if_neg hj]
     exact Ob.rep_im hJ (Ob.rep_st (hF.obj h1 h4) (fun k hk => same hj h1 h4 rfl hk))
 · rcases get h3 with ⟨rfl, rfl⟩ | ⟨hj, g3⟩
   · rcases get h4 with ⟨rfl, rfl⟩ | ⟨hj', g4⟩
     · rfl
     · exfalso
       simp only [if_true] at h7
       simp only [if_neg hj'] at h8
       rcases (hF' k h7).1 with h9 | h9
       · exact sep hj' h2 g4 h6 h8 h9
       · have := (hF.there h2 g4 h6 h8).2.1; omega
   · rcases get h4 with ⟨rfl, rfl⟩ | ⟨hj', g4⟩
     · exfalso
       simp only [if_true] at h8
       simp only [if_neg hj] at h7
       rcases (hF' k h8).1 with h9 | h9
       · exact sep hj h1 g3 h5 h7 h9
       · have := (hF.there h1 g3 h5 h7).2.1; omega
     · simp only [if_neg hj] at h7
       simp only [if_neg hj'] at h8
       exact hF.apart h1 h2 g3 g4 h5 h6 h7 h8
 · rcases get h2 with ⟨rfl, rfl⟩ | ⟨hj, g2⟩
   · simp only [if_true] at h4
     obtain ⟨h5, h6⟩ := hF' k h4
     refine ⟨?_, h6, ?_⟩
     · rcases h5 with h5 | h5
       · exact (hF.there hi hB hl h5).1
       · exact .inr (Nat.le_trans h.fr.size h5)
     · cases hk : J k with
       | none => exact hk
       | some d => exact absurd h4 (hJn k d hk).2
   · simp only [if_neg hj] at h4
     obtain ⟨h5, h6, h7⟩ := hF.there h1 g2 h3 h4
     refine ⟨h5, Nat.lt_of_lt_of_le h6 hf.size, ?_⟩
     cases hk : J k with
     | none => exact hk
     | some d =>
       rcases (hJn k d hk).1 with h8 | h8
       · rw [h7] at h8; cases h8
       · omega
 · rw [get_tput, if_neg (fun e => by subst e; rw [(h.top hj).1] at hi; cases hi)]; exact (h.top hj).2
 · rw [get_tput, if_neg (fun e => by subst e; rw [show ρ j = none from hn] at hi; cases hi)]
theorem HR.putO (h : HR w0 ρ H n w) {F : Nat → Nat → Prop} (hF : Foot w0 ρ H w F) {i b c : Nat} {B : AB} {x : Ob} (hi : ρ i = some (b, c)) (hB : H.get i = some B) (hl : B.live = true) {F' : Nat → Prop} (hf : Fr (F i) w w') (hrep : x.rep ρ.im w' b c F') (hb : F' b)
   (hF' : ∀ k, F' k → (F i k ∨ w.heap.size ≤ k) ∧ k < w'.heap.size) : HR w0 ρ (tput H i (.obj x)) n w' ∧ Ext ρ ρ H (tput H i (.obj x)) n n := by
 refine h.putX hF hi hB hl (J := ρ.im) hf hrep hb hF' (fun _ _ h => h) (fun k d hk => ⟨.inl hk, fun hk' => ?_⟩) (fun k d hk => ?_)
 · rcases (hF' k hk').1 with h1 | h1
   · have := (hF.there hi hB hl h1).2.2; rw [hk] at this; cases this
   · have := h.imlt hk; omega
 · obtain ⟨T, fz, h1⟩ := h.im hk
   refine ⟨T, fz, (hf.block k (h.imlt hk) fun hk' => ?_).trans h1⟩
   have := (hF.there hi hB hl hk').2.2; rw [hk] at this; cases this
theorem HR.put1 (h : HR w0 ρ H n w) {i b c : Nat} {B : AB} {x : Ob} (hi : ρ i = some (b, c)) (hB : H.get i = some B) (hl : B.live = true) (h1 : B.isObj = true → ∃ F : Nat → Nat → Prop, Foot w0 ρ H w F ∧ ∀ k, F i k → k = b) (hf : Fr (fun k => k = b) w w') (hrep : x.rep ρ.im w' b c (fun k => k = b)) :
   HR w0 ρ (tput H i (.obj x)) n w' ∧ Ext ρ ρ H (tput H i (.obj x)) n n := by
 obtain ⟨F, hF, h2⟩ : ∃ F : Nat → Nat → Prop, Foot w0 ρ H w F ∧ ∀ k, F i k → k = b := by
   cases ho : B.isObj with
   | true => exact h1 ho
   | false =>
     obtain ⟨F, hF⟩ := h.foot
     exact ⟨F, hF, (hF.one hi hB hl).2 ho⟩
 have hFb := (hF.one hi hB hl).1
 refine h.putO hF hi hB hl (hf.mono fun k hk => ?_) hrep rfl (fun k hk => ?_)
 · subst hk; exact hFb
 · subst hk; exact ⟨.inl hFb, Nat.lt_of_lt_of_le (hF.there hi hB hl hFb).2.1 hf.size⟩
theorem HR.obj (h : HR w0 ρ H n w) {i b c : Nat} {x : Ob} (hi : ρ i = some (b, c)) (hB : H.get i = some (.obj x)) : ∃ F : Nat → Nat → Prop, Foot w0 ρ H w F ∧ x.rep ρ.im w b c (F i) ∧ F i b := by
 obtain ⟨F, hF⟩ := h.foot
 exact ⟨F, hF, hF.obj hi hB, (hF.one hi hB rfl).1⟩
theorem HR.newX (h : HR w0 ρ H n w) {g c : Nat} {x : Ob} {F' : Nat → Prop} (hf : Fr No w w') (hrep : x.rep ρ.im w' g c F') (hg : F' g) (hF' : ∀ k, F' k → w.heap.size ≤ k ∧ k < w'.heap.size) :
   HR w0 (ρ.set n (g, c)) (tput H n (.obj x)) (n + 1) w' ∧ Ext ρ (ρ.set n (g, c)) H (tput H n (.obj x)) n (n + 1) := by
 have hn := (h.top (Nat.le_refl n)).1
 have hle : ρ.le (ρ.set n (g, c)) := Env.le_set hn _
 have h0 := h.old hf
 obtain ⟨F, hF⟩ := h0.foot
 obtain ⟨G, hG⟩ := h.foot
 have get : ∀ {j : Nat} {C : AB}, (tput H n (.obj x)).get j = some C → (j = n ∧ C = .obj x) ∨ (j ≠ n ∧ H.get j = some C) := fun {j C} hq => by
   rw [get_tput] at hq
   split at hq
   · rename_i e; cases hq; exact .inl ⟨e, rfl⟩
   · rename_i e; exact .inr ⟨e, hq⟩
 have nm : ∀ {j : Nat} {p : Nat × Nat}, (ρ.set n (g, c)) j = some p → j ≠ n → ρ j = some p := fun {j p} h1 h2 => by rwa [Env.set_at, if_neg h2] at h1
 refine ⟨⟨fun {j b' c' C} h1 h2 => ?_, ⟨fun j k => if j = n then F' k else G j k, fun {j b' c' C} h1 h2 h3 => ?_, fun {j b' c' y} h1 h2 => ?_, fun {j l k p q C D} h1 h2 h3 h4 h5 h6 h7 h8 => ?_, fun {j k p C} h1 h2 h3 h4 => ?_⟩, fun {j} hj => ⟨?_, ?_⟩, fun {j b' c'} h1 => ?_, h0.fr, Env.le_trans h.le hle, fun {k d} h1 => h0.im h1, h.imn, fun {j} hk => ⟨by rw [Env.set_at, if_neg (Nat.ne_of_lt (h.kb hk).2.1)]; exact (h.kb hk).1, Nat.lt_succ_of_lt (h.kb hk).2.1, fun T l => by rw [get_tput, if_neg (Nat.ne_of_lt (h.kb hk).2.1)]; exact (h.kb hk).2.2 T l⟩⟩, ⟨hle, fun {j} hj => by rw [Env.set_at, if_neg (by omega)], fun {j} hj _ => Keeps.of (by rw [get_tput, if_neg (by omega)]), Nat.le_succ _⟩⟩
 · rcases get h2 with ⟨rfl, rfl⟩ | ⟨hj, h3⟩
   · rw [Env.set_same] at h1; cases h1
     have := (hF' g hg).2
     exact ⟨w'.heap[g], by simp [this], trivial⟩
   · obtain ⟨o, ho, hbr⟩ := h0.blk (nm h1 hj) h3
     exact ⟨o, ho, hbr.mono hle⟩
 · rcases get h2 with ⟨rfl, rfl⟩ | ⟨hj, h4⟩
   · rw [Env.set_same] at h1; cases h1
     simp only [if_true]
     exact ⟨hg, fun e => by cases e⟩
   · simp only [if_neg hj]; exact hG.one (nm h1 hj) h4 h3
 · rcases get h2 with ⟨rfl, e⟩ | ⟨hj, h4⟩
   · cases e
     rw [Env.set_same] at h1; cases h1
     simp only [if_true]
     exact hrep
   · simp only [if_neg hj]
     exact Ob.rep_st (hG.obj (nm h1 hj) h4) (fun k hk => hf.block k (hG.there (nm h1 hj) h4 rfl hk).2.1 (No.no _))
 · rcases get h3 with ⟨rfl, rfl⟩ | ⟨hj, g3⟩
   · rcases get h4 with ⟨rfl, rfl⟩ | ⟨hj', g4⟩
     · rfl
     · exfalso
       simp only [if_true] at h7
       simp only [if_neg hj'] at h8
       have := (hF' k h7).1
       have := (hG.there (nm h2 hj') g4 h6 h8).2.1; omega
   · rcases get h4 with ⟨rfl, rfl⟩ | ⟨hj', g4⟩
     · exfalso
       simp only [if_true] at h8
       simp only [if_neg hj] at h7
       have := (hF' k h8).1
       have := (hG.there (nm h1 hj) g3 h5 h7).2.1; omega
     · simp only [if_neg hj] at h7
       simp only [if_neg hj'] at h8
       exact hG.apart (nm h1 hj) (nm h2 hj') g3 g4 h5 h6 h7 h8
 · rcases get h2 with ⟨rfl, rfl⟩ | ⟨hj, g2⟩
   · simp only [if_true] at h4
     obtain ⟨h5, h6⟩ := hF' k h4
     refine ⟨.inr (Nat.le_trans h.fr.size h5), h6, ?_⟩
     cases hk : ρ.im k with
     | none => exact hk
     | some d => have := h.imlt hk; omega
   · simp only [if_neg hj] at h4
     obtain ⟨h5, h6, h7⟩ := hG.there (nm h1 hj) g2 h3 h4
     exact ⟨h5, Nat.lt_of_lt_of_le h6 hf.size, h7⟩
 · rw [Env.set_at, if_neg (by omega)]; exact (h.top (by omega)).1
 · rw [get_tput, if_neg (by omega)]; exact (h.top (by omega)).2
 · by_cases hj : j = n
   · subst hj
     rw [Env.set_same] at h1; cases h1
     have := hF' g hg
     exact ⟨.inr (Nat.le_trans h.fr.size this.1), this.2⟩
   · exact h0.base (nm h1 hj)
end
/-! Rows, laid flat. -/
section flat
variable {α : Type} {k : Nat}
theorem flat_len : ∀ {ll : List (List α)}, (∀ l ∈ ll, l.length = k) → ll.flatten.length = ll.length * k
 | [], _ => by simp
 | a :: t, h => by
   rw [List.flatten_cons, List.length_append, h a (by simp), flat_len (fun l hl => h l (by simp [hl])), List.length_cons, Nat.succ_mul]; omega
theorem flat_row : ∀ {ll : List (List α)} {r : Nat}, (∀ l ∈ ll, l.length = k) → r < ll.length → (ll.flatten.drop (r * k)).take k = ll.getD r []
 | [], r, _, h => by simp at h
 | a :: t, 0, h, _ => by
   have := h a (by simp)
   simp [List.take_append_of_le_length (Nat.le_of_eq this.symm), this ▸ List.take_length]
 | a :: t, r + 1, h, hr => by
   have ha := h a (by simp)
   rw [List.flatten_cons, List.drop_append, List.drop_of_length_le (by rw [ha, Nat.succ_mul]; omega), List.nil_append, ha, show (r + 1) * k - k = r * k by rw [Nat.succ_mul]; omega]
   rw [flat_row (fun l hl => h l (by simp [hl])) (by simpa using hr)]
   simp
theorem flat_splice : ∀ {ll : List (List α)} {r j : Nat} {xs : List α}, (∀ l ∈ ll, l.length = k) → r < ll.length → j + xs.length ≤ k →
   ll.flatten.take (r * k + j) ++ xs ++ ll.flatten.drop (r * k + j + xs.length) = (ll.set r ((ll.getD r []).take j ++ xs ++ (ll.getD r []).drop (j + xs.length))).flatten
 | [], r, j, xs, _, h, _ => by simp at h
 | a :: t, 0, j, xs, h, _, hj => by
   have ha := h a (by simp)
   simp only [Nat.zero_mul, Nat.zero_add, List.flatten_cons, List.set_cons_zero, List.getD_cons_zero]
   rw [List.take_append_of_le_length (by omega), List.drop_append_of_le_length (by omega)]
   simp
 | a :: t, r + 1, j, xs, h, hr, hj => by
   have ha := h a (by simp)
   have hk : (r + 1) * k = k + r * k := by rw [Nat.succ_mul]; omega
   simp only [List.flatten_cons, List.set_cons_succ, List.getD_cons_succ]
   rw [← flat_splice (fun l hl => h l (by simp [hl])) (by simpa using hr) hj, List.take_append, List.drop_append, List.take_of_length_le (by omega), List.drop_of_length_le (by omega), ha]
   rw [show (r + 1) * k + j - k = r * k + j by omega, show (r + 1) * k + j + xs.length - k = r * k + j + xs.length by omega]
   simp
end flat
theorem set_rows {k : Nat} {ll : List (List UInt8)} (h : ∀ l ∈ ll, l.length = k) {r : Nat} {bs : List UInt8} (hb : bs.length = k) : ∀ l ∈ ll.set r bs, l.length = k := fun l hl => by
 rcases List.mem_or_eq_of_mem_set hl with h1 | h1
 · exact h l h1
 · rw [h1]; exact hb
/-! Maps. -/
def getM : List (Int × List UInt8) → Int → Option (List UInt8)
 | [], _ => none
 | p :: m, z => if p.1 = z then some p.2 else getM m z
def putM : List (Int × List UInt8) → Int → List UInt8 → List (Int × List UInt8)
 | [], z, bs => [(z, bs)]
 | p :: m, z, bs => if p.1 = z then (z, bs) :: m else p :: putM m z bs
theorem findNow_int {z : Int} : ∀ {es : List MapEntry} {m : List (Int × List UInt8)} (i : Nat), es.map (fun e => (e.key, e.val)) = m.map (fun p => (iv p.1, bav p.2)) →
   (getM m z = none ∧ Instr.findNow (.int .i64) (iv z) es i = some none ∧ (∀ e ∈ es, e.key ≠ iv z) ∧ ∀ bs, putM m z bs = m ++ [(z, bs)]) ∨
   (∃ j bs0, getM m z = some bs0 ∧ Instr.findNow (.int .i64) (iv z) es i = some (some (i + j, bav bs0)) ∧ (es[j]?).map (·.key) = some (iv z) ∧ ∀ bs, (putM m z bs).map (fun p => (iv p.1, bav p.2)) = (es.modify j fun e => { e with key := iv z, val := bav bs }).map (fun e => (e.key, e.val)))
 | [], m, i, h => by
   cases m with
   | nil => exact .inl ⟨rfl, rfl, by simp, fun _ => rfl⟩
   | cons p m => simp at h
 | e :: es, m, i, h => by
   cases m with
   | nil => simp at h
   | cons p m =>
     simp only [List.map_cons, List.cons.injEq, Prod.mk.injEq] at h
     obtain ⟨⟨h1, h2⟩, h3⟩ := h
     by_cases hz : p.1 = z
     · right
       refine ⟨0, p.2, by simp [getM, hz], ?_, ?_, fun bs => ?_⟩
       · simp [Instr.findNow, Instr.sameNow, h1, h2, hz, iv]
       · simp [h1, hz]
       · simp [putM, hz, h3]
     · have hs : Instr.sameNow (.int .i64) (iv z) e.key = some false := by
         rw [h1]
         simp only [Instr.sameNow, iv, if_true]
         congr 1
         simpa using fun e => hz e.symm
       rcases findNow_int (z := z) (i + 1) h3 with ⟨g1, g2, g3, g4⟩ | ⟨j, bs0, g1, g2, g3, g4⟩
       · refine .inl ⟨by simp [getM, hz, g1], by simp [Instr.findNow, hs, g2], fun e' he' => ?_, fun bs => by simp [putM, hz, g4 bs]⟩
         rcases List.mem_cons.1 he' with rfl | he'
         · rw [h1]; intro e; apply hz; simpa [iv] using e
         · exact g3 e' he'
       · refine .inr ⟨j + 1, bs0, by simp [getM, hz, g1], ?_, ?_, fun bs => ?_⟩
         · simp [Instr.findNow, hs, g2]; omega
         · simpa using g3
         · simp [putM, hz, g4 bs, h1, h2]
def zeroBs : Value → Option (List UInt8)
 | .agg cs => cond (cs.toList.all fun v => match v with | .int .u8 z => decide (z = 0) | _ => false) (some (List.replicate cs.toList.length 0)) none
 | _ => none
theorem zeroBs_eq {v : Value} {bs : List UInt8} (h : zeroBs v = some bs) : v = bav bs := by
 unfold zeroBs at h
 split at h
 · rename_i cs
   cases hc : (cs.toList.all fun v => match v with | .int .u8 z => decide (z = 0) | _ => false) with
   | false => rw [hc] at h; cases h
   | true =>
     rw [hc, cond_true, Option.some.injEq] at h
     subst h
     unfold bav
     congr 1
     apply Array.toList_inj.1
     rw [List.all_eq_true] at hc
     have : ∀ l : List Value, (∀ v ∈ l, (match v with | .int .u8 z => decide (z = 0) | _ => false) = true) → l = (List.replicate l.length (0 : UInt8)).map byt := by
       intro l
       induction l with
       | nil => intro _; rfl
       | cons a l ih =>
         intro ha
         have h1 := ha a (by simp)
         split at h1
         · rename_i z
           have : z = 0 := by simpa using h1
           subst this
           rw [List.length_cons, List.replicate_succ, List.map_cons, ← ih fun v hv => ha v (by simp [hv])]
           rfl
         · cases h1
     simpa using this cs.toList hc
 · cases h
theorem bav_cells (bs : List UInt8) : (bav bs).cells.toList = bs.map byt := by simp [bav, Value.cells]
/-! Reads. -/
def symRd (T : Tr AV) (o : Oper) : Option (TypeId × AV) :=
 match o.op with
 | .load t a => match aev T a with
   | .pe i r w j => some (t, .pe i r w j)
   | _ => none
 | _ => none
def arrAt (x : AV) (H : Tr AB) : Option (List UInt8 × Nat) :=
 match x with
 | .ptr i o => match H.get i with
   | some (.obj (.arr bs)) => cond (Nat.beq o 0) (some (bs, bs.length)) none
   | _ => none
 | _ => none
def symR (P : Program) (t : TypeId) (q : AV) (H : Tr AB) : Option (AV × Prop) :=
 match q with
 | .pe i r w j => match H.get i with
   | some (.obj (.rows k ll)) => match P.underlying t, P.info? t with
     | some d, some inf => cond (aggB d && Nat.beq inf.size k && Nat.beq w k && Nat.beq j 0) (some (.ba (ll.getD r []), r < ll.length)) none
     | _, _ => none
   | some (.rw _ w' n f) => cond (Nat.beq w w') (match partA P t (f r) j with | some y => some (y, r < n) | none => none) none
   | _ => none
 | .ptr i o => match H.get i with
   | some (.obj (.arr bs)) => match P.underlying t, P.info? t with
     | some d, some inf => cond (aggB d && Nat.beq o 0) (some (.ba bs, bs.length = inf.size)) none
     | _, _ => none
   | _ => none
 | .agg [.mp i, kx] => match intA kx, H.get i, P.underlying (t / 2) with
   | some (.i64, z), some (.obj (.wmap mm)), some (.map kt et) => match P.underlying kt, P.info? et with
     | some (.int .i64), some inf => match inf.zero with
       | some zv => match zeroBs zv with
         | some zs => some (cond (Nat.beq (t % 2) 1) (.tup [.ba ((getM mm z).getD zs), .sy (.bool (getM mm z).isSome)]) (.ba ((getM mm z).getD zs)), True)
         | none => none
       | none => none
     | _, _ => none
   | _, _, _ => none
 | _ => none
theorem run_loadRow {P : Program} {w : World} {b o : Nat} {t : TypeId} {d : TypeDesc} {inf : TypeInfo} {L cs : List Value} {T : TypeId} {fz : Nat × Nat} (hb : w.heap[b]? = some (.cells L.toArray T fz)) (hd : P.underlying t = some d) (ha : aggB d = true) (hi : P.info? t = some inf)
   (hle : o + inf.size ≤ L.length) (hcs : (L.drop o).take inf.size = cs) : (Instr.loadAt t (.pointer (some ⟨b, o, none⟩))).run P w = .ok (.agg cs.toArray) w := by
 subst hcs
 have := cells_range hb (o := o) (k := inf.size) hle
 exact run_loadAt_mid w b o t _ d this hd (by cases d <;> simp_all [aggB]) (by simp [hi]; omega)
theorem symR_sound {P : Program} {w0 : Bs} {ρ : Env} {H : Tr AB} {n : Nat} {w : World} {T : Tr AV} {o : Oper} {t : TypeId} {q : AV} {r : AV × Prop} {ev : Operand → Value} (h : rdOf T o = some (t, q) ∨ (rdOf T o = none ∧ symRd T o = some (t, q))) (hx : symR P t q H = some r) (hC : r.2) (hr : HR w0 ρ H n w) (hev : ∀ y ∈ o.op.operands, VR ρ (aev T y) (ev y)) :
   ∃ v, VR ρ r.1 v ∧ (execOp ev o).run P w = .ok (.value v) w := by
 obtain ⟨dst, op, type, pos, after, guard⟩ := o
 unfold symR at hx
 split at hx
 · -- a place in rows
   rename_i i rr ww j
   have hop : ∃ a, op = .load t a ∧ aev T a = .pe i rr ww j := by
     rcases h with h | ⟨_, h⟩
     · unfold rdOf at h
       simp only at h
       split at h
       · split at h <;> cases h
       · cases hbl : Nat.blt _ 65536 <;> rw [hbl] at h <;> cases h
       · cases h
       · cases h
     · unfold symRd at h
       simp only at h
       split at h
       · split at h
         · rename_i ha; cases h; exact ⟨_, rfl, ha⟩
         · cases h
       · cases h
   obtain ⟨a, rfl, ha⟩ := hop
   have he := hev a (by simp [Op.operands])
   rw [ha] at he
   generalize hev' : ev a = u at he
   cases he with
   | @pe _ b c _ _ _ hi =>
     have fin : ∀ {v : Value}, (Instr.loadAt t (.pointer (some ⟨b, rr * ww + j, none⟩))).run P w = .ok v w → (execOp ev ⟨dst, .load t a, type, pos, after, guard⟩).run P w = .ok (.value v) w := by
       intro v hv
       unfold execOp
       simp only [hev', Sem.run_bind, hv, Result.andThen_ok, Sem.run_pure]
     split at hx
     · rename_i k ll hB
       split at hx
       · rename_i d inf hd hinf
         cases hc : (aggB d && Nat.beq inf.size k && Nat.beq ww k && Nat.beq j 0) with
         | false => rw [hc] at hx; cases hx
         | true =>
           rw [hc, cond_true, Option.some.injEq] at hx
           simp only [Bool.and_eq_true, Nat.beq_eq] at hc
           obtain ⟨⟨⟨h1, h2⟩, rfl⟩, rfl⟩ := hc
           subst hx
           obtain ⟨F, hF, ⟨hFi, T', fz, sp, hb, hz, hk⟩, _⟩ := hr.obj hi hB
           have hl := flat_len hk
           have hlt : rr < ll.length := hC
           have hle : rr * ww + ww ≤ ll.length * ww := by
             have := Nat.mul_le_mul_right ww (Nat.succ_le_of_lt hlt)
             rw [Nat.succ_mul] at this; exact this
           refine ⟨bav (ll.getD rr []), .ba _, fin ?_⟩
           rw [Nat.add_zero]
           refine run_loadRow hb hd h1 hinf (by rw [List.length_append, List.length_map, hl, h2]; omega) ?_
           rw [h2, List.drop_append_of_le_length (by rw [List.length_map, hl]; omega), List.take_append_of_le_length (by rw [List.length_drop, List.length_map, hl]; omega), ← List.map_drop, ← List.map_take, flat_row hk hlt]
       · cases hx
     · rename_i T' w' m f hB
       rw [beq_dec] at hx
       by_cases hw : ww = w'
       · subst hw
         simp only [decide_true, cond_true] at hx
         cases hp : partA P t (f rr) j with
         | none => rw [hp] at hx; cases hx
         | some y =>
           rw [hp] at hx
           simp only [Option.some.injEq] at hx
           subst hx
           have hlt : rr < m := hC
           obtain ⟨ob, ho, vs, sp, rfl, h1, h2, h3, h4, h5⟩ := hr.blk hi hB
           have hrow0 := h5 rr hlt
           have hrow : VRs ρ (f rr) ((vs.drop (rr * ww)).take ww) := bare_VR.go hrow0
           have hlen := hrow.length
           have hle : rr * ww + ww ≤ vs.length := by
             have := Nat.mul_le_mul_right ww (Nat.succ_le_of_lt hlt)
             rw [Nat.succ_mul] at this; omega
           have hrl : ((vs.drop (rr * ww)).take ww).length = ww := by simp; omega
           unfold partA at hp
           cases hd : P.underlying t with
           | none => simp [hd] at hp
           | some d =>
             simp only [hd] at hp
             cases hb : aggB d with
             | true =>
               simp only [hb, cond_true] at hp
               cases hi' : P.info? t with
               | none => simp [hi'] at hp
               | some inf =>
                 simp only [hi'] at hp
                 cases hc : Nat.ble (j + inf.size) (f rr).length with
                 | false => simp [hc] at hp
                 | true =>
                   simp only [hc, cond_true, Option.some.injEq] at hp
                   subst hp
                   have hle' : j + inf.size ≤ (f rr).length := Nat.le_of_ble_eq_true hc
                   refine ⟨_, .agg ((hrow.drop j).take inf.size), fin ?_⟩
                   refine run_loadRow ho hd hb hi' (by simp; omega) ?_
                   rw [List.drop_append_of_le_length (by omega), List.take_append_of_le_length (by simp; omega), ← List.drop_drop]
                   rw [List.drop_take, List.take_take, Nat.min_eq_left (by omega)]
             | false =>
               simp only [hb, cond_false] at hp
               obtain ⟨v, hv', hxv⟩ := hrow.get hp
               refine ⟨v, hxv, fin ?_⟩
               have hj : j < ww := by
                 have := (List.getElem?_eq_some_iff.1 hv').1
                 omega
               have : w.cell? ⟨b, rr * ww + j, none⟩ = some v := by
                 rw [cells_cell ho, List.getElem?_append_left (by omega)]
                 rw [List.getElem?_take, if_pos hj, List.getElem?_drop] at hv'
                 exact hv'
               unfold Instr.loadAt loadVar
               simp [Instr.sureAddr, run_isAgg hd, hb, this]
       · simp [hw] at hx
     · cases hx
 · rename_i i oo
   have hop : ∃ a, op = .load t a ∧ aev T a = .ptr i oo := by
     rcases h with h | ⟨_, h⟩
     · unfold rdOf at h
       simp only at h
       split at h
       · split at h
         · rename_i ha; cases h; exact ⟨_, rfl, ha⟩
         · cases h
       · cases hbl : Nat.blt _ 65536 <;> rw [hbl] at h <;> cases h
       · cases h
       · cases h
     · unfold symRd at h
       simp only at h
       split at h
       · split at h <;> cases h
       · cases h
   obtain ⟨a, rfl, ha⟩ := hop
   have he := hev a (by simp [Op.operands])
   rw [ha] at he
   generalize hev' : ev a = u at he
   split at hx
   · rename_i bs hB
     split at hx
     · rename_i d inf hd hinf
       cases hc : (aggB d && Nat.beq oo 0) with
       | false => rw [hc] at hx; cases hx
       | true =>
         rw [hc, cond_true, Option.some.injEq] at hx
         simp only [Bool.and_eq_true, Nat.beq_eq] at hc
         obtain ⟨h1, rfl⟩ := hc
         subst hx
         cases he with
         | @ptr _ b c _ hi =>
           obtain ⟨F, hF, ⟨hFi, T', fz, hb, hz⟩, _⟩ := hr.obj hi hB
           refine ⟨bav bs, .ba _, ?_⟩
           have hC' : bs.length = inf.size := hC
           have := run_loadRow (o := 0) (cs := bs.map byt) hb hd h1 hinf (by simp [hC']) (by rw [List.drop_zero, ← hC', ← List.length_map (f := byt), List.take_length])
           unfold execOp
           simp only [hev', Sem.run_bind, this, Result.andThen_ok, Sem.run_pure]
           rfl
     · cases hx
   · cases hx
 · rename_i i kx
   have hop : ∃ m k ok, op = .lookup (t / 2) m k ok ∧ aev T m = .mp i ∧ aev T k = kx ∧ Nat.beq (t % 2) 1 = ok := by
     rcases h with h | ⟨_, h⟩
     · unfold rdOf at h
       simp only at h
       split at h
       · split at h <;> cases h
       · cases hbl : Nat.blt _ 65536 <;> rw [hbl] at h <;> cases h
       · rename_i t' m k ok
         simp only [Option.some.injEq, Prod.mk.injEq, AV.agg.injEq, List.cons.injEq, and_true] at h
         obtain ⟨rfl, h1, h2⟩ := h
         exact ⟨m, k, ok, by rw [rd_two], h1, h2, rd_ok _ _⟩
       · cases h
     · unfold symRd at h
       simp only at h
       split at h
       · split at h <;> cases h
       · cases h
   obtain ⟨m, k, ok, rfl, hm, hk, hok⟩ := hop
   have hem := hev m (by simp [Op.operands])
   have hek := hev k (by simp [Op.operands])
   rw [hm] at hem
   rw [hk] at hek
   split at hx
   · rename_i z mm kt et hz hB hu
     have e1 := intA_sound hz hek
     split at hx
     · rename_i inf hkt hinf
       split at hx
       · rename_i zv hzero
         split at hx
         · rename_i zs hzs
           simp only [Option.some.injEq] at hx
           subst hx
           generalize hmv : ev m = mu at hem
           cases hem with
           | @mp _ b c hi =>
             obtain ⟨F, hF, ⟨hFi, es, clock, hb, hst, hes⟩, _⟩ := hr.obj hi hB
             have hck : ∀ e : Bool, (Instr.checkKey e 10000 kt (.int .i64 z)).run P w = .ok () w := fun e => by
               unfold Instr.checkKey; simp [run_underlying hkt]
             have hzv := zeroBs_eq hzs
             have key : (Instr.lookup (t / 2) (.map (some b)) (.int .i64 z) ok).run P w = .ok (if ok then .tuple #[bav ((getM mm z).getD zs), .bool (getM mm z).isSome] else bav ((getM mm z).getD zs)) w := by
               unfold Instr.lookup
               simp only [Sem.run_bind, run_underlying hu, Result.andThen_ok, MapKept.run_getObj_map hb, Sem.run_pure, hck]
               rcases findNow_int (z := z) 0 hes with ⟨g1, g2, _⟩ | ⟨j, bs0, g1, g2, _⟩
               · rw [MapKept.run_findKey hkt (show Instr.findNow (.int .i64) (.int .i64 z) es.toList 0 = some none from g2), g1]
                 simp [run_zeroValue hinf hzero, hzv]
               · rw [MapKept.run_findKey hkt (show Instr.findNow (.int .i64) (.int .i64 z) es.toList 0 = some (some (0 + j, bav bs0)) from g2), g1]
                 simp
             have hex : (execOp ev ⟨dst, .lookup (t / 2) m k ok, type, pos, after, guard⟩).run P w = .ok (.value (if ok then .tuple #[bav ((getM mm z).getD zs), .bool (getM mm z).isSome] else bav ((getM mm z).getD zs))) w := by
               unfold execOp
               simp only [hmv, e1, Sem.run_bind, key, Result.andThen_ok, Sem.run_pure]
             refine ⟨_, ?_, hex⟩
             rw [hok]
             cases ok with
             | true => exact .tup (.cons (.ba _) (.cons (.sy _) .nil))
             | false => exact .ba _
         · cases hx
       · cases hx
     · cases hx
   · cases hx
 · cases hx
/-! Operations that only reckon. -/
def symP2 (P : Program) (T : Tr AV) (o : Oper) : Option (AV × Prop) :=
 match o.op with
 | .sliceToArrayPointer arr x => match P.underlying arr, aev T x with
   | some (.array n _), .by8 bs => cond (Nat.ble 1 n) (some (.ib bs, n ≤ bs.length)) none
   | _, _ => none
 | .load t x => match aev T x with
   | .ib bs => match P.underlying t, P.info? t with
     | some d, some inf => cond (aggB d) (some (.ba (bs.take inf.size), inf.size ≤ bs.length)) none
     | _, _ => none
   | _ => none
 | .nilCheck x => match aev T x with
   | .ib bs => some (.ib bs, True)
   | _ => none
 | .slice t x none hi none => match P.underlying t with
   | some (.array n e) => match P.info? e, bndS n (hi.map (aev T)) with
     | some ie, some h => cond (Nat.beq ie.size 1 && Nat.ble 1 n && Nat.ble n 1073741824) (match aev T x with
       | .pe i r w j => some (.pw i r w j h.toNat n, 0 ≤ h ∧ h ≤ n)
       | .ptr i o => some (.pw i 0 0 o h.toNat n, 0 ≤ h ∧ h ≤ n)
       | _ => none) none
     | _, _ => none
   | _ => none
 | .call ⟨.builtin .len, args, ats⟩ => match args.toList, ats.toList with
   | [x], [t] => match P.underlying t, aev T x with
     | some (.slice _), .pw _ _ _ _ n _ => some (.sy (.int .i64 (n : Int)), True)
     | _, _ => none
   | _, _ => none
 | _ => none
theorem symP2_sound {P : Program} {w0 : Bs} {ρ : Env} {H : Tr AB} {n : Nat} {w : World} {T : Tr AV} {o : Oper} {r : AV × Prop} {ev : Operand → Value} (h : symP2 P T o = some r) (hC : r.2) (hr : HR w0 ρ H n w) (hev : ∀ y ∈ o.op.operands, VR ρ (aev T y) (ev y)) :
   ∃ v, VR ρ r.1 v ∧ (execOp ev o).run P w = .ok (.value v) w := by
 obtain ⟨dst, op, type, pos, after, guard⟩ := o
 unfold symP2 at h
 split at h
 · rename_i arr x hop
   simp only at hop
   subst hop
   have hx := hev x (by simp [Op.operands])
   split at h
   · rename_i m e bs hu ha
     rw [ha] at hx
     cases hb : Nat.ble 1 m with
     | false => rw [hb] at h; cases h
     | true =>
       rw [hb] at h
       cases h
       have h1 : 1 ≤ m := Nat.le_of_ble_eq_true hb
       have hC' : m ≤ bs.length := hC
       generalize hxv : ev x = u at hx
       cases hx with
       | @by8 _ a k c hw =>
         have hl := hw.len
         simp at hl
         cases a with
         | none => have h3 := hw.nil rfl; have h4 := hw.cap; omega
         | some ad =>
           refine ⟨.pointer (some ad), .ib (fun j u hu => hw.cell ad rfl j u hu), ?_⟩
           unfold execOp Instr.arrayAt
           simp only [hxv, Sem.run_bind, run_underlying hu, Result.andThen_ok]
           rw [if_neg (by omega)]
           rfl
   · cases h
 · rename_i t x hop
   simp only at hop
   subst hop
   have hx := hev x (by simp [Op.operands])
   split at h
   · rename_i bs ha
     rw [ha] at hx
     split at h
     · rename_i d inf hd hinf
       cases hb : aggB d with
       | false => rw [hb] at h; cases h
       | true =>
         rw [hb] at h
         cases h
         have hC' : inf.size ≤ bs.length := hC
         generalize hxv : ev x = u at hx
         cases hx with
         | @ib _ ad hc =>
           refine ⟨bav (bs.take inf.size), .ba _, ?_⟩
           have hcell : ∀ j v, ((bs.take inf.size).map byt)[j]? = some v → w.cell? (ad.add j) = some v := fun j v hj => by
             refine hr.imcell (hc j v ?_)
             rw [List.map_take, List.getElem?_take] at hj
             split at hj
             · exact hj
             · cases hj
           have hl := run_loadCells_list (P := P) w ad _ hcell
           have hlen : ((bs.take inf.size).map byt).length = inf.size := by simp; omega
           rw [hlen] at hl
           have : (loadVar t ad).run P w = .ok (bav (bs.take inf.size)) w := by
             unfold loadVar
             simp only [Sem.run_bind, run_isAgg hd, hb, Result.andThen_ok, if_true, run_sizeOf hinf, hl, Sem.run_pure]
             rfl
           unfold execOp Instr.loadAt
           simp only [hxv, Instr.sureAddr, Sem.run_bind, Sem.run_pure, Result.andThen_ok, this]
     · cases h
   · cases h
 · rename_i x hop
   simp only at hop
   subst hop
   have hx := hev x (by simp [Op.operands])
   split at h
   · rename_i bs ha
     rw [ha] at hx
     cases h
     generalize hxv : ev x = u at hx
     cases hx with
     | ib hc => exact ⟨_, .ib hc, by unfold execOp; simp [hxv]⟩
   · cases h
 · rename_i t x hi hop
   simp only at hop
   subst hop
   have hx := hev x (by simp [Op.operands])
   have ho : OR ρ (hi.map (aev T)) (hi.map ev) := OR.map_ev fun y hy => hev y (by subst hy; simp [Op.operands])
   split at h
   · rename_i m e hu
     split at h
     · rename_i ie hh hie hbn
       cases hb : (Nat.beq ie.size 1 && Nat.ble 1 m && Nat.ble m 1073741824) with
       | false => rw [hb] at h; cases h
       | true =>
         rw [hb, cond_true] at h
         simp only [Bool.and_eq_true, Nat.beq_eq, Nat.ble_eq] at hb
         obtain ⟨⟨h1, h2⟩, h3⟩ := hb
         have fin : ∀ {b o : Nat}, ev x = .pointer (some ⟨b, o, none⟩) → 0 ≤ hh → hh ≤ (m : Int) → (execOp ev ⟨dst, .slice t x none hi none, type, pos, after, guard⟩).run P w = .ok (.value (.slice (some ⟨b, o, none⟩) hh.toNat m)) w := by
           intro b o hxv h0 hm
           have hbd : ∀ w : World, (Instr.sliceBounds false m m none (hi.map ev) none).run P w = .ok (0, hh.toNat, m) w := fun w => by
             obtain hs := run_bounds (P := P) (ρ := ρ) (n := m) (c := m) (lo := none) (lo' := none) (w := w) false (l := 0) (h := hh) rfl hbn .no ho (Int.le_refl _) h0 hm (Nat.le_refl _)
             simpa using hs
           unfold execOp Instr.sliceAt
           simp only [hxv, Option.map_none, Sem.run_bind, run_underlying hu, Result.andThen_ok, Instr.sureAddr, Sem.run_pure, hbd, run_sizeOf hie]
           rw [if_neg (by omega)]
           simp [Addr.add_zero']
         split at h
         · rename_i i r ww j ha
           cases h
           rw [ha] at hx
           generalize hxv : ev x = u at hx
           cases hx with
           | pe _ _ _ hi' =>
             have hC' : 0 ≤ hh ∧ hh ≤ (m : Int) := hC
             refine ⟨_, .pw r ww j hh.toNat m hi' ⟨by omega, by simp only [maxLen]; omega⟩, fin hxv hC'.1 hC'.2⟩
         · rename_i i o ha
           cases h
           rw [ha] at hx
           generalize hxv : ev x = u at hx
           cases hx with
           | ptr _ hi' =>
             have hC' : 0 ≤ hh ∧ hh ≤ (m : Int) := hC
             have := VR.pw (ρ := ρ) 0 0 o hh.toNat m hi' ⟨by omega, by simp only [maxLen]; omega⟩
             rw [Nat.mul_zero, Nat.zero_add] at this
             exact ⟨_, this, fin hxv hC'.1 hC'.2⟩
         · cases h
     · cases h
   · cases h
 · rename_i args ats hop
   simp only at hop
   subst hop
   split at h
   · rename_i x t ha ht
     have ha' : args = #[x] := Array.toList_inj.1 ha
     have ht' : ats = #[t] := Array.toList_inj.1 ht
     subst ha' ht'
     have hx := hev x (by simp [Op.operands, Call.operands])
     split at h
     · rename_i e i r ww j m k hu hax
       cases h
       rw [hax] at hx
       generalize hxv : ev x = u at hx
       cases hx with
       | pw =>
         refine ⟨_, .sy _, ?_⟩
         have hex : execOp ev ⟨dst, .call ⟨.builtin .len, #[x], #[t]⟩, type, pos, after, guard⟩ = builtin .len #[t] type (#[x].map fun | .const _ => true | _ => false) (#[x].map ev) := rfl
         rw [hex]
         simp [builtin, hxv, run_lenSlice hu]
     · cases h
   · cases h
 · cases h
/-! Bytes, wherever they lie. -/
def bsrc (x : AV) (H : Tr AB) : Option (List UInt8 × Prop) :=
 match x with
 | .by8 bs => some (bs, True)
 | .v (.slice none 0 0) => some ([], True)
 | .pw i r ww j n _ => match H.get i with
   | some (.obj (.arr bs)) => cond (Nat.beq r 0) (some ((bs.drop j).take n, j + n ≤ bs.length)) none
   | some (.obj (.rows k ll)) => cond (Nat.beq ww k) (some (((ll.getD r []).drop j).take n, r < ll.length ∧ j + n ≤ k)) none
   | _ => none
 | .sl i o n c => match H.get i with
   | some (.obj (.arr bs)) => cond (Nat.ble n c && Nat.ble c 1073741824) (some ((bs.drop o).take n, o + n ≤ bs.length)) none
   | _ => none
 | .ow i n => match H.get i with
   | some (.bb _ bs) => some (bs.take n, n ≤ bs.length)
   | _ => none
 | _ => none
theorem win_block {w : World} {b o n c : Nat} {L : List Value} {T : TypeId} {fz : Nat × Nat} (hb : w.heap[b]? = some (.cells L.toArray T fz)) (h : o + n ≤ L.length) (hc : n ≤ c) (hm : c ≤ maxLen) : Win w (some ⟨b, o, none⟩) n c ((L.drop o).take n) :=
 ⟨by simp; omega, hc, hm, fun e => (by cases e), fun ad had j u hu => by
   cases had
   rw [Addr.add_lit]
   exact cells_range hb h j u hu⟩
theorem bsrc_sound {w0 : Bs} {ρ : Env} {H : Tr AB} {n : Nat} {w : World} (hr : HR w0 ρ H n w) {x : AV} {u : Value} {r : List UInt8 × Prop} (h : bsrc x H = some r) (hC : r.2) (hx : VR ρ x u) : ∃ a c, u = .slice a r.1.length c ∧ Win w a r.1.length c (r.1.map byt) := by
 unfold bsrc at h
 split at h
 · cases h
   cases hx with
   | by8 hw => exact ⟨_, _, by have := hw.len; simp at this; rw [this], by have := hw.len; simp at this; rw [this]; exact hw.win hr⟩
 · cases h; cases hx; exact ⟨none, 0, rfl, Win.nilw w⟩
 · rename_i i rr ww j m k
   cases hx with
   | @pw _ b c _ _ _ _ _ hi hn =>
     split at h
     · rename_i bs hB
       rw [beq_dec] at h
       by_cases h0 : rr = 0
       · subst h0
         simp only [decide_true, cond_true, Option.some.injEq] at h
         subst h
         have hC' : j + m ≤ bs.length := hC
         obtain ⟨F, hF, ⟨_, T, fz, hb, hz⟩, _⟩ := hr.obj hi hB
         have hl : ((bs.drop j).take m).length = m := by simp; omega
         refine ⟨_, _, by rw [hl], ?_⟩
         rw [hl]
         have := win_block (o := j) (n := m) hb (by simpa using hC') hn.1 hn.2
         rw [Nat.zero_mul, Nat.zero_add]
         rwa [← List.map_drop, ← List.map_take] at this
       · simp [h0] at h
     · rename_i kk ll hB
       rw [beq_dec] at h
       by_cases h0 : ww = kk
       · subst h0
         simp only [decide_true, cond_true, Option.some.injEq] at h
         subst h
         obtain ⟨hC1, hC2⟩ : rr < ll.length ∧ j + m ≤ ww := hC
         obtain ⟨F, hF, ⟨_, T, fz, sp, hb, hz, hk⟩, _⟩ := hr.obj hi hB
         have hrow := flat_row hk hC1
         have hfl := flat_len hk
         have hrl : (ll.getD rr []).length = ww := by
           have := hk (ll.getD rr []) (by rw [List.getD_eq_getElem?_getD, List.getElem?_eq_getElem hC1]; simp)
           exact this
         have hle : rr * ww + ww ≤ ll.length * ww := by
           have := Nat.mul_le_mul_right ww (Nat.succ_le_of_lt hC1)
           rw [Nat.succ_mul] at this; exact this
         have hl : (((ll.getD rr []).drop j).take m).length = m := by rw [List.length_take, List.length_drop, hrl]; omega
         refine ⟨_, _, by rw [hl], ?_⟩
         rw [hl]
         have := win_block (o := rr * ww + j) (n := m) hb (by rw [List.length_append, List.length_map, hfl]; omega) hn.1 hn.2
         rw [List.drop_append_of_le_length (by rw [List.length_map, hfl]; omega), List.take_append_of_le_length (by rw [List.length_drop, List.length_map, hfl]; omega), ← List.map_drop, ← List.map_take] at this
         rw [← hrow, List.drop_take, List.take_take, Nat.min_eq_left (by omega), List.drop_drop]
         exact this
       · simp [h0] at h
     · cases h
 · rename_i i o m c'
   cases hx with
   | @sl _ b d _ _ _ hi =>
     split at h
     · rename_i bs hB
       cases hq : (Nat.ble m c' && Nat.ble c' 1073741824) with
       | false => rw [hq] at h; cases h
       | true =>
         rw [hq, cond_true, Option.some.injEq] at h
         subst h
         simp only [Bool.and_eq_true, Nat.ble_eq] at hq
         have hC' : o + m ≤ bs.length := hC
         obtain ⟨F, hF, ⟨_, T, fz, hb, hz⟩, _⟩ := hr.obj hi hB
         have hl : ((bs.drop o).take m).length = m := by simp; omega
         refine ⟨_, _, by rw [hl], ?_⟩
         rw [hl]
         have := win_block (o := o) (n := m) hb (by simpa using hC') hq.1 (by simp only [maxLen]; omega)
         rwa [← List.map_drop, ← List.map_take] at this
     · cases h
 · rename_i i m
   split at h
   · rename_i T bs hB
     cases h
     have hC' : m ≤ bs.length := hC
     have hl : (bs.take m).length = m := by simp; omega
     cases hx with
     | @ow _ b c _ hi hn hc =>
       obtain ⟨ob, ho, sp, rfl, h1, h2⟩ := hr.blk hi hB
       refine ⟨_, _, by rw [hl], ?_⟩
       rw [hl]
       have := win_block (o := 0) (n := m) ho (by simp; omega) hn hc
       rw [List.drop_zero, List.take_append_of_le_length (by simpa using hC'), ← List.map_take] at this
       exact this
     | ow0 =>
       refine ⟨none, 0, by simp, ?_⟩
       simp
       exact Win.nilw w
   · cases h
 · cases h
end Go.Proofs.Ytnfdknnbaebagaa.Sm
