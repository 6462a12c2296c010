/-
  Texts of this claim, laid together: Ea, Eb, Ec, Ed, Ee, Heap, Ef, Eg, Eu, Eh.
-/
import Derived.Control
import Derived.Orders
import Derived.KernelRfl
import Derived.Laws.Slices
import Derived.WalkKit
import Derived.Laws.Tables
import Derived.Test.YtlmpjdionndncaaGreatDoorRows
import Derived.WalkSpells
import Derived.WalkLawsBesides
import Derived.Deep.MidRow
import Derived.Deep.AppendSrc
import Derived.Laws.RangeString
import Derived.MapKept
import Derived.WideKeyRuns
import Derived.Carry
import Derived.Laws.IdiomStrings
import Derived.Laws.BytesArg
import Derived.Laws.Cover3
import Derived.RangeFuncRecord

namespace Go.Proofs.YtlmpjdionndncaaGreatDoor.Ev
open Go
noncomputable section
inductive Tr (α : Type) where
 | e
 | n (l : Tr α) (x : Option α) (r : Tr α)
/-! The tree's three words are told by the recursors themselves: the kernel unfolds the less. -/
namespace Tr
variable {α : Type}
def get (t : Tr α) : Nat → Option α :=
 Tr.rec (fun _ => none) (fun _ x _ gl gr k => Bool.rec (Bool.rec (gr (Nat.sub (Nat.div k 2) 1)) (gl (Nat.div k 2)) (Nat.beq (Nat.mod k 2) 1)) x (Nat.beq k 0)) t
theorem rec_cond {β : Type} (b : Bool) (x y : β) : (Bool.rec y x b : β) = cond b x y := by cases b <;> rfl
theorem get_e (k : Nat) : (Tr.e : Tr α).get k = none := rfl
theorem get_n (l : Tr α) (x : Option α) (r : Tr α) (k : Nat) : (Tr.n l x r).get k = cond (Nat.beq k 0) x (cond (Nat.beq (k % 2) 1) (get l (k / 2)) (get r (k / 2 - 1))) := by
 rw [← rec_cond, ← rec_cond]; rfl
def fresh (f : Nat) : Nat → α → Tr α :=
 Nat.rec (fun _ _ => .e) (fun _ ih k v => Bool.rec (Bool.rec (.n .e none (ih (Nat.sub (Nat.div k 2) 1) v)) (.n (ih (Nat.div k 2) v) none .e) (Nat.beq (Nat.mod k 2) 1)) (.n .e (some v) .e) (Nat.beq k 0)) f
theorem fresh_s (f k : Nat) (v : α) : fresh (f + 1) k v = cond (Nat.beq k 0) (.n .e (some v) .e) (cond (Nat.beq (k % 2) 1) (.n (fresh f (k / 2) v) none .e) (.n .e none (fresh f (k / 2 - 1) v))) := by
 rw [← rec_cond, ← rec_cond]; rfl
def put (t : Tr α) : Nat → α → Tr α :=
 Tr.rec (fun k v => fresh (Nat.succ k) k v) (fun l x r pl pr k v => Bool.rec (Bool.rec (.n l x (pr (Nat.sub (Nat.div k 2) 1) v)) (.n (pl (Nat.div k 2) v) x r) (Nat.beq (Nat.mod k 2) 1)) (.n l (some v) r) (Nat.beq k 0)) t
theorem put_e (k : Nat) (v : α) : put .e k v = fresh (k + 1) k v := rfl
theorem put_n (l : Tr α) (x : Option α) (r : Tr α) (k : Nat) (v : α) : put (.n l x r) k v = cond (Nat.beq k 0) (.n l (some v) r) (cond (Nat.beq (k % 2) 1) (.n (put l (k / 2) v) x r) (.n l x (put r (k / 2 - 1) v))) := by
 rw [← rec_cond, ← rec_cond]; rfl
theorem beq_dec (a b : Nat) : Nat.beq a b = decide (a = b) := by
 rw [Bool.eq_iff_iff]; simp [Nat.beq_eq]
theorem get_fresh : ∀ (f k : Nat) (v : α) (j : Nat), k < f → (fresh f k v).get j = if j = k then some v else none := by
 intro f
 induction f with
 | zero => intro k v j h; omega
 | succ f ih =>
   intro k v j h
   rw [fresh_s]
   by_cases hk : k = 0
   · subst hk
     by_cases hj : j = 0 <;> simp [get_n, get_e, beq_dec, hj]
   · by_cases hm : k % 2 = 1
     · have h1 : k / 2 < f := by omega
       simp only [beq_dec, hk, hm, decide_true, decide_false, cond_true, cond_false, get_n, get_e]
       by_cases hj : j = 0
       · simp [hj, Ne.symm hk]
       · by_cases hn : j % 2 = 1
         · simp only [hj, hn, decide_true, decide_false, cond_true, cond_false, ih _ _ _ h1]
           by_cases e : j = k
           · simp [e]
           · simp [e, show ¬ j / 2 = k / 2 by omega]
         · have : ¬ j = k := by intro e; subst e; exact hn hm
           simp [hj, hn, this]
     · have h1 : k / 2 - 1 < f := by omega
       simp only [beq_dec, hk, hm, decide_false, cond_false, get_n, get_e]
       by_cases hj : j = 0
       · simp [hj, Ne.symm hk]
       · by_cases hn : j % 2 = 1
         · have : ¬ j = k := by intro e; subst e; exact hm hn
           simp [hj, hn, this]
         · simp only [hj, hn, decide_false, cond_false, ih _ _ _ h1]
           by_cases e : j = k
           · simp [e]
           · simp [e, show ¬ j / 2 - 1 = k / 2 - 1 by omega]
theorem get_put : ∀ (t : Tr α) (k : Nat) (v : α) (j : Nat), (put t k v).get j = if j = k then some v else t.get j := by
 intro t
 induction t with
 | e => intro k v j; rw [put_e, get_fresh _ _ _ _ (Nat.lt_succ_self k), get_e]
 | n l x r ihl ihr =>
   intro k v j
   rw [put_n]
   by_cases hk : k = 0
   · subst hk
     by_cases hj : j = 0 <;> simp [get_n, beq_dec, hj]
   · by_cases hm : k % 2 = 1
     · simp only [beq_dec, hk, hm, decide_true, decide_false, cond_true, cond_false, get_n]
       by_cases hj : j = 0
       · simp [hj, Ne.symm hk]
       · by_cases hn : j % 2 = 1
         · simp only [hj, hn, decide_true, decide_false, cond_true, cond_false, ihl]
           by_cases e : j = k
           · simp [e]
           · simp [e, show ¬ j / 2 = k / 2 by omega]
         · have : ¬ j = k := by intro e; subst e; exact hn hm
           simp [hj, hn, this]
     · simp only [beq_dec, hk, hm, decide_false, cond_false, get_n]
       by_cases hj : j = 0
       · simp [hj, Ne.symm hk]
       · by_cases hn : j % 2 = 1
         · have : ¬ j = k := by intro e; subst e; exact hm hn
           simp [hj, hn, this]
         · simp only [hj, hn, decide_false, cond_false, ihr]
           by_cases e : j = k
           · simp [e]
           · simp [e, show ¬ j / 2 - 1 = k / 2 - 1 by omega]
end Tr
inductive Pa where
 | o
 | l (p : Pa)
 | r (p : Pa)
def Pa.of : Nat → Nat → Pa
 | 0, _ => .o
 | f + 1, k => cond (Nat.beq k 0) .o (cond (Nat.beq (k % 2) 1) (.l (Pa.of f (k / 2))) (.r (Pa.of f (k / 2 - 1))))
namespace Tr
variable {α : Type}
def getP (p : Pa) : Tr α → Option α :=
 Pa.rec (fun t => Tr.rec none (fun _ x _ _ _ => x) t) (fun _ ih t => Tr.rec none (fun l _ _ _ _ => ih l) t) (fun _ ih t => Tr.rec none (fun _ _ r _ _ => ih r) t) p
def putP (p : Pa) : Tr α → α → Tr α :=
 Pa.rec (fun t v => Tr.rec (.n .e (some v) .e) (fun l _ r _ _ => .n l (some v) r) t) (fun _ ih t v => Tr.rec (.n (ih .e v) none .e) (fun l x r _ _ => .n (ih l v) x r) t) (fun _ ih t v => Tr.rec (.n .e none (ih .e v)) (fun l x r _ _ => .n l x (ih r v)) t) p
theorem getP_o (t : Tr α) : getP .o t = match t with | .e => none | .n _ x _ => x := by cases t <;> rfl
theorem getP_l (p : Pa) (t : Tr α) : getP (.l p) t = match t with | .e => none | .n l _ _ => getP p l := by cases t <;> rfl
theorem getP_r (p : Pa) (t : Tr α) : getP (.r p) t = match t with | .e => none | .n _ _ r => getP p r := by cases t <;> rfl
theorem putP_o (t : Tr α) (v : α) : putP .o t v = match t with | .e => .n .e (some v) .e | .n l _ r => .n l (some v) r := by cases t <;> rfl
theorem putP_l (p : Pa) (t : Tr α) (v : α) : putP (.l p) t v = match t with | .e => .n (putP p .e v) none .e | .n l x r => .n (putP p l v) x r := by cases t <;> rfl
theorem putP_r (p : Pa) (t : Tr α) (v : α) : putP (.r p) t v = match t with | .e => .n .e none (putP p .e v) | .n l x r => .n l x (putP p r v) := by cases t <;> rfl
end Tr
namespace Tr
variable {α : Type}
def getPD (d : α) (p : Pa) : Tr α → α :=
 Pa.rec (fun t => Tr.rec d (fun _ x _ _ _ => Option.rec d (fun y => y) x) t) (fun _ ih t => Tr.rec d (fun l _ _ _ _ => ih l) t) (fun _ ih t => Tr.rec d (fun _ _ r _ _ => ih r) t) p
theorem getPD_eq (d : α) : ∀ (p : Pa) (t : Tr α), getPD d p t = match getP p t with | some x => x | none => d
 | .o, t => by cases t with | e => rfl | n l x r => cases x <;> rfl
 | .l p, t => by cases t with | e => rfl | n l x r => exact getPD_eq d p l
 | .r p, t => by cases t with | e => rfl | n l x r => exact getPD_eq d p r
theorem getP_of : ∀ (f : Nat) (t : Tr α) (k : Nat), k < f → getP (Pa.of f k) t = t.get k := by
 intro f
 induction f with
 | zero => intro t k h; omega
 | succ f ih =>
   intro t k h
   unfold Pa.of
   by_cases hk : k = 0
   · subst hk
     simp only [beq_dec, decide_true, cond_true, getP_o]
     cases t <;> simp [get_e, get_n, beq_dec]
   · by_cases hm : k % 2 = 1
     · simp only [beq_dec, hk, hm, decide_true, decide_false, cond_true, cond_false, getP_l]
       cases t with
       | e => simp [get_e]
       | n l x r => simp only [get_n, beq_dec, hk, hm, decide_true, decide_false, cond_true, cond_false]; exact ih l _ (by omega)
     · simp only [beq_dec, hk, hm, decide_false, cond_false, getP_r]
       cases t with
       | e => simp [get_e]
       | n l x r => simp only [get_n, beq_dec, hk, hm, decide_false, cond_false]; exact ih r _ (by omega)
theorem putP_get : ∀ (f : Nat) (t : Tr α) (k : Nat) (v : α), k < f → putP (Pa.of f k) t v = put t k v := by
 intro f
 induction f with
 | zero => intro t k v h; omega
 | succ f ih =>
   intro t k v h
   have hfr : ∀ (f1 f2 k : Nat), k < f1 → k < f2 → fresh f1 k v = fresh f2 k v := by
     intro f1
     induction f1 with
     | zero => intro f2 k h; omega
     | succ f1 ih1 =>
       intro f2 k h1 h2
       cases f2 with
       | zero => omega
       | succ f2 =>
         rw [fresh_s, fresh_s]
         by_cases hk : k = 0
         · subst hk; simp [beq_dec]
         · simp only [beq_dec, hk, decide_false, cond_false]
           rw [ih1 f2 (k / 2) (by omega) (by omega), ih1 f2 (k / 2 - 1) (by omega) (by omega)]
   unfold Pa.of
   by_cases hk : k = 0
   · subst hk
     simp only [beq_dec, decide_true, cond_true, putP_o]
     cases t with
     | e => simp [put_e, fresh_s, beq_dec]
     | n l x r => simp [put_n, beq_dec]
   · by_cases hm : k % 2 = 1
     · simp only [beq_dec, hk, hm, decide_true, decide_false, cond_true, cond_false, putP_l]
       cases t with
       | e =>
         simp only [put_e, fresh_s, beq_dec, hk, hm, decide_true, decide_false, cond_true, cond_false]
         rw [ih .e (k / 2) v (by omega), put_e, hfr _ k (k / 2) (by omega) (by omega)]
       | n l x r => simp only [put_n, beq_dec, hk, hm, decide_true, decide_false, cond_true, cond_false]; rw [ih l _ v (by omega)]
     · simp only [beq_dec, hk, hm, decide_false, cond_false, putP_r]
       cases t with
       | e =>
         simp only [put_e, fresh_s, beq_dec, hk, hm, decide_false, cond_false]
         rw [ih .e (k / 2 - 1) v (by omega), put_e, hfr _ k (k / 2 - 1) (by omega) (by omega)]
       | n l x r => simp only [put_n, beq_dec, hk, hm, decide_false, cond_false]; rw [ih r _ v (by omega)]
end Tr
section lists
variable {α : Type}
def nthA (l : List α) : Nat → Option α := List.rec (fun _ => none) (fun x _ ih k => Nat.rec (some x) (fun j _ => ih j) k) l
theorem nthA_eq : ∀ (l : List α) (k : Nat), nthA l k = l[k]?
 | [], _ => rfl
 | _ :: _, 0 => rfl
 | _ :: l, k + 1 => by rw [List.getElem?_cons_succ]; exact nthA_eq l k
def takeR (l : List α) : Nat → Option (List α) := List.rec (fun n => Nat.rec (some []) (fun _ _ => none) n) (fun x _ ih n => Nat.rec (some []) (fun j _ => Option.rec none (fun m => some (x :: m)) (ih j)) n) l
def cutR (l : List α) : Nat → Nat → Option (List α) := List.rec (fun k n => Nat.rec (takeR [] n) (fun _ _ => none) k) (fun x t ih k n => Nat.rec (takeR (x :: t) n) (fun j _ => ih j n) k) l
theorem takeR_eq : ∀ (l : List α) (n : Nat), takeR l n = cond (Nat.ble n l.length) (some (l.take n)) none
 | [], 0 => rfl
 | [], n + 1 => rfl
 | x :: l, 0 => rfl
 | x :: l, n + 1 => by
   have h : takeR (x :: l) (n + 1) = Option.rec none (fun m => some (x :: m)) (takeR l n) := rfl
   rw [h, takeR_eq l n]
   have : Nat.ble (n + 1) (x :: l).length = Nat.ble n l.length := rfl
   rw [this]
   cases Nat.ble n l.length <;> rfl
theorem cutR_eq : ∀ (l : List α) (k n : Nat), cutR l k n = cond (Nat.ble (k + n) l.length) (some ((l.drop k).take n)) none
 | [], 0, n => by
   have : cutR ([] : List α) 0 n = takeR [] n := rfl
   rw [this, takeR_eq, Nat.zero_add]; rfl
 | [], k + 1, n => by
   have h1 : Nat.ble (k + 1 + n) ([] : List α).length = false := by
     rw [Bool.eq_false_iff, Ne, Nat.ble_eq]; simp
   rw [h1]; rfl
 | x :: l, 0, n => by
   have : cutR (x :: l) 0 n = takeR (x :: l) n := rfl
   rw [this, takeR_eq, Nat.zero_add]; rfl
 | x :: l, k + 1, n => by
   have h1 : cutR (x :: l) (k + 1) n = cutR l k n := rfl
   rw [h1, cutR_eq l k n]
   have : Nat.ble (k + 1 + n) (x :: l).length = Nat.ble (k + n) l.length := by
     rw [Bool.eq_iff_iff, Nat.ble_eq, Nat.ble_eq, List.length_cons]; omega
   rw [this]; rfl
def ovrR (c : List α) : List α → List α := List.rec (fun l => l) (fun y _ ih l => y :: ih (List.rec [] (fun _ t _ => t) l)) c
theorem ovrR_eq : ∀ (c l : List α), ovrR c l = c ++ l.drop c.length
 | [], l => rfl
 | y :: c, [] => by
   have h : ovrR (y :: c) [] = y :: ovrR c [] := rfl
   rw [h, ovrR_eq c []]; simp
 | y :: c, x :: l => by
   have h : ovrR (y :: c) (x :: l) = y :: ovrR c l := rfl
   rw [h, ovrR_eq c l]; rfl
def splR (c l : List α) : Nat → List α := List.rec (fun _ => c) (fun x t ih o => Nat.rec (ovrR c (x :: t)) (fun j _ => x :: ih j) o) l
theorem splR_eq (c : List α) : ∀ (l : List α) (o : Nat), splR c l o = l.take o ++ c ++ l.drop (o + c.length)
 | [], o => by
   have h : splR c [] o = c := rfl
   rw [h]; simp
 | x :: l, 0 => by
   have h : splR c (x :: l) 0 = ovrR c (x :: l) := rfl
   rw [h, ovrR_eq]; simp
 | x :: l, o + 1 => by
   have h : splR c (x :: l) (o + 1) = x :: splR c l o := rfl
   rw [h, splR_eq c l o, Nat.add_right_comm]; rfl
def longR (l : List α) : Nat → Bool := List.rec (fun n => Nat.rec true (fun _ _ => false) n) (fun _ _ ih n => Nat.rec true (fun j _ => ih j) n) l
theorem longR_eq : ∀ (l : List α) (n : Nat), longR l n = Nat.ble n l.length
 | [], 0 => rfl
 | [], _ + 1 => rfl
 | _ :: _, 0 => rfl
 | x :: l, n + 1 => by
   have h : longR (x :: l) (n + 1) = longR l n := rfl
   rw [h, longR_eq l n]; rfl
end lists
def eqU (a : List UInt8) : List UInt8 → Bool :=
 List.rec (fun l => List.rec true (fun _ _ _ => false) l) (fun x _ ih l => List.rec false (fun y r _ => Bool.rec false (ih r) (Nat.beq x.1.1.1 y.1.1.1)) l) a
theorem u8_ext {x y : UInt8} (h : x.1.1.1 = y.1.1.1) : x = y := by
 obtain ⟨⟨⟨a, ha⟩⟩⟩ := x
 obtain ⟨⟨⟨b, hb⟩⟩⟩ := y
 simp only at h
 subst h; rfl
theorem eqU_eq : ∀ (a b : List UInt8), eqU a b = decide (a = b)
 | [], [] => by simp [eqU]
 | [], _ :: _ => by simp [eqU]
 | _ :: _, [] => by simp [eqU]
 | x :: a, y :: b => by
   have e : eqU (x :: a) (y :: b) = Bool.rec false (eqU a b) (Nat.beq x.1.1.1 y.1.1.1) := rfl
   rw [e, eqU_eq a b]
   cases h : Nat.beq x.1.1.1 y.1.1.1 with
   | true =>
     have h := u8_ext (Nat.eq_of_beq_eq_true h)
     subst h
     simp
   | false =>
     have h : x ≠ y := fun e => by subst e; rw [Nat.beq_refl] at h; cases h
     simp [h]
inductive AV where
 | v (x : Value)
 | ptr (i o : Nat)
 | sl (i o n c : Nat)
 | su (i o n k q : Nat)
 | se
 | s0
 | mp (i : Nat)
 | agg (l : List AV)
 | tup (l : List AV)
 | fn (f : Fn) (l m : List AV)
 | yl (i : Nat)
 | ifc (t : TypeId) (x : AV)
abbrev Env := Nat → Option (Nat × Nat)
mutual
inductive VR (ρ : Env) : AV → Value → Prop
 | v (x : Value) : VR ρ (.v x) x
 | ptr {i b c : Nat} (o : Nat) (h : ρ i = some (b, c)) : VR ρ (.ptr i o) (.pointer (some ⟨b, o, none⟩))
 | sl {i b d : Nat} (o n c : Nat) (h : ρ i = some (b, d)) : VR ρ (.sl i o n c) (.slice (some ⟨b, o, none⟩) n c)
 | su {i b c : Nat} (o n k q : Nat) (h : ρ i = some (b, c)) (hn : n ≤ q ∧ q ≤ c - k) : VR ρ (.su i o n k q) (.slice (some ⟨b, o, none⟩) n (c - k))
 | se (a : Addr) (c : Nat) : VR ρ .se (.slice (some a) 0 c)
 | s0 (a : Option Addr) (c : Nat) : VR ρ .s0 (.slice a 0 c)
 | mp {i b c : Nat} (h : ρ i = some (b, c)) : VR ρ (.mp i) (.map (some b))
 | agg {l : List AV} {vs : List Value} (h : VRs ρ l vs) : VR ρ (.agg l) (.agg vs.toArray)
 | tup {l : List AV} {vs : List Value} (h : VRs ρ l vs) : VR ρ (.tup l) (.tuple vs.toArray)
 | fn (f : Fn) {l m : List AV} {vs us : List Value} (h : VRs ρ l vs) (h' : VRs ρ m us) : VR ρ (.fn f l m) (.func f vs.toArray us.toArray)
 | yl {i b c : Nat} (h : ρ i = some (b, c)) : VR ρ (.yl i) (.func (.yield b) #[] #[])
 | ifc (t : TypeId) {x : AV} {u : Value} (h : VR ρ x u) : VR ρ (.ifc t x) (.iface t u)
inductive VRs (ρ : Env) : List AV → List Value → Prop
 | nil : VRs ρ [] []
 | cons {x : AV} {u : Value} {l : List AV} {vs : List Value} (h : VR ρ x u) (t : VRs ρ l vs) : VRs ρ (x :: l) (u :: vs)
end
def Env.le (ρ ρ' : Env) : Prop := ∀ i b, ρ i = some b → ρ' i = some b
theorem Env.le_refl (ρ : Env) : ρ.le ρ := fun _ _ h => h
theorem Env.le_trans {ρ ρ' ρ'' : Env} (h : ρ.le ρ') (k : ρ'.le ρ'') : ρ.le ρ'' := fun i b e => k i b (h i b e)
mutual
theorem VR.mono {ρ ρ' : Env} (h : ρ.le ρ') : ∀ {x : AV} {u : Value}, VR ρ x u → VR ρ' x u
 | _, _, .v x => .v x
 | _, _, .ptr o e => .ptr o (h _ _ e)
 | _, _, .sl o n c e => .sl o n c (h _ _ e)
 | _, _, .su o n k q e hn => .su o n k q (h _ _ e) hn
 | _, _, .se a c => .se a c
 | _, _, .s0 a c => .s0 a c
 | _, _, .mp e => .mp (h _ _ e)
 | _, _, .agg e => .agg (VRs.mono h e)
 | _, _, .tup e => .tup (VRs.mono h e)
 | _, _, .fn f e e' => .fn f (VRs.mono h e) (VRs.mono h e')
 | _, _, .yl e => .yl (h _ _ e)
 | _, _, .ifc t e => .ifc t (VR.mono h e)
theorem VRs.mono {ρ ρ' : Env} (h : ρ.le ρ') : ∀ {l : List AV} {vs : List Value}, VRs ρ l vs → VRs ρ' l vs
 | _, _, .nil => .nil
 | _, _, .cons e t => .cons (VR.mono h e) (VRs.mono h t)
end
namespace VRs
variable {ρ : Env}
theorem length {l : List AV} {vs : List Value} (h : VRs ρ l vs) : l.length = vs.length := by
 induction l generalizing vs with
 | nil => cases h; rfl
 | cons x l ih => cases h with | cons _ t => simp [ih t]
theorem get {l : List AV} {vs : List Value} (h : VRs ρ l vs) {k : Nat} {x : AV} (hx : l[k]? = some x) : ∃ u, vs[k]? = some u ∧ VR ρ x u := by
 induction l generalizing vs k with
 | nil => simp at hx
 | cons y l ih =>
   cases h with
   | cons e t =>
     cases k with
     | zero => simp at hx; subst hx; exact ⟨_, rfl, e⟩
     | succ k => simpa using ih t (by simpa using hx)
theorem append {l m : List AV} {vs us : List Value} (h : VRs ρ l vs) (k : VRs ρ m us) : VRs ρ (l ++ m) (vs ++ us) := by
 induction l generalizing vs with
 | nil => cases h; simpa using k
 | cons y l ih => cases h with | cons e t => exact .cons e (ih t)
theorem take {l : List AV} {vs : List Value} (h : VRs ρ l vs) (n : Nat) : VRs ρ (l.take n) (vs.take n) := by
 induction l generalizing vs n with
 | nil => cases h; simpa using VRs.nil
 | cons y l ih => cases h with | cons e t => cases n with | zero => exact .nil | succ n => exact .cons e (ih t n)
theorem drop {l : List AV} {vs : List Value} (h : VRs ρ l vs) (n : Nat) : VRs ρ (l.drop n) (vs.drop n) := by
 induction l generalizing vs n with
 | nil => cases h; simpa using VRs.nil
 | cons y l ih => cases h with | cons e t => cases n with | zero => exact .cons e t | succ n => exact ih t n
theorem of_vals : ∀ l : List Value, VRs ρ (l.map .v) l
 | [] => .nil
 | x :: l => .cons (.v x) (of_vals l)
end VRs
def ofV : Value → AV
 | .agg cs => .agg (cs.toList.map .v)
 | .tuple vs => .tup (vs.toList.map .v)
 | x => .v x
theorem ofV_VR {ρ : Env} : ∀ x : Value, VR ρ (ofV x) x := by
 intro x
 cases x <;> first | exact .v _ | (simpa [ofV] using VR.agg (VRs.of_vals _)) | (simpa [ofV] using VR.tup (VRs.of_vals _))
mutual
def AV.val? : AV → Option Value
 | .v x => some x
 | .agg l => match vals? l with | some vs => some (.agg vs.toArray) | none => none
 | .tup l => match vals? l with | some vs => some (.tuple vs.toArray) | none => none
 | .ifc t x => match x.val? with | some u => some (.iface t u) | none => none
 | _ => none
def vals? : List AV → Option (List Value)
 | [] => some []
 | x :: l => match x.val? with
   | some u => match vals? l with | some vs => some (u :: vs) | none => none
   | none => none
end
mutual
theorem AV.val?_VR {ρ : Env} : ∀ {x : AV} {u v : Value}, x.val? = some u → VR ρ x v → v = u
 | .v x, u, v, h, k => by cases k; simpa [AV.val?] using h
 | .agg l, u, v, h, k => by
   cases k with
   | agg e =>
     simp only [AV.val?] at h
     split at h <;> simp at h
     rename_i vs hvs
     rw [← h, vals?_VR hvs e]
 | .tup l, u, v, h, k => by
   cases k with
   | tup e =>
     simp only [AV.val?] at h
     split at h <;> simp at h
     rename_i vs hvs
     rw [← h, vals?_VR hvs e]
 | .ifc t x, u, v, h, k => by
   cases k with
   | ifc _ e =>
     simp only [AV.val?] at h
     cases hx : x.val? with
     | none => rw [hx] at h; cases h
     | some y => rw [hx] at h; simp only [Option.some.injEq] at h; rw [← h, AV.val?_VR hx e]
 | .ptr .., _, _, h, _ => by simp [AV.val?] at h
 | .sl .., _, _, h, _ => by simp [AV.val?] at h
 | .su .., _, _, h, _ => by simp [AV.val?] at h
 | .se, _, _, h, _ => by simp [AV.val?] at h
 | .s0, _, _, h, _ => by simp [AV.val?] at h
 | .mp .., _, _, h, _ => by simp [AV.val?] at h
 | .fn .., _, _, h, _ => by simp [AV.val?] at h
 | .yl .., _, _, h, _ => by simp [AV.val?] at h
theorem vals?_VR {ρ : Env} : ∀ {l : List AV} {us vs : List Value}, vals? l = some us → VRs ρ l vs → vs = us
 | [], us, vs, h, k => by cases k; simpa [vals?] using h
 | x :: l, us, vs, h, k => by
   cases k with
   | cons e t =>
     simp only [vals?] at h
     cases hx : x.val? with
     | none => rw [hx] at h; cases h
     | some y =>
       rw [hx] at h
       cases hl : vals? l with
       | none => rw [hl] at h; cases h
       | some ys => rw [hl] at h; simp only [Option.some.injEq] at h; rw [← h, AV.val?_VR hx e, vals?_VR hl t]
end
def AV.cells : AV → List AV
 | .agg l => l
 | .v (.agg cs) => cs.toList.map .v
 | x => [x]
theorem VR.cells {ρ : Env} {x : AV} {u : Value} (h : VR ρ x u) : VRs ρ x.cells u.cells.toList := by
 cases h with
 | v =>
   cases u
   case agg cs => exact VRs.of_vals _
   all_goals exact .cons (.v _) .nil
 | agg e => exact e
 | ptr _ e => exact .cons (.ptr _ e) .nil
 | sl _ _ _ e => exact .cons (.sl _ _ _ e) .nil
 | su _ _ _ _ e hn => exact .cons (.su _ _ _ _ e hn) .nil
 | se a c => exact .cons (.se a c) .nil
 | s0 a c => exact .cons (.s0 a c) .nil
 | mp e => exact .cons (.mp e) .nil
 | tup e => exact .cons (.tup e) .nil
 | fn _ e e' => exact .cons (.fn _ e e') .nil
 | yl e => exact .cons (.yl e) .nil
 | ifc _ e => exact .cons (.ifc _ e) .nil
def At (T : Tr AV) (s : Nat) : AV := match T.get s with | some x => x | none => .v undef
def TR (ρ : Env) (n : Nat) (T : Tr AV) (ts : Array Value) : Prop := ts.size = n ∧ ∀ s, VR ρ (At T s) (ts.getD s undef)
def aev (T : Tr AV) : Operand → AV
 | .tmp t => At T t
 | .const x => ofV x
 | .global g => .v (.pointer (some ⟨g, 0, none⟩))
 | .func f => .fn (.func f) [] []
end
noncomputable section
section basics
variable {P : Program} {w : World}
theorem run_underlying {t : TypeId} {d : TypeDesc} (h : P.underlying t = some d) : (underlying t).run P w = .ok d w := by
 unfold underlying; simp [h]
theorem run_typeInfo {t : TypeId} {i : TypeInfo} (h : P.info? t = some i) : (typeInfo t).run P w = .ok i w := by
 unfold typeInfo; simp [h]
theorem run_sizeOf {t : TypeId} {i : TypeInfo} (h : P.info? t = some i) : (sizeOf t).run P w = .ok i.size w := by
 unfold sizeOf; simp [run_typeInfo h]
theorem run_zeroValue {t : TypeId} {i : TypeInfo} {z : Value} (h : P.info? t = some i) (hz : i.zero = some z) : (zeroValue t).run P w = .ok z w := by
 unfold zeroValue; simp [run_typeInfo h, hz]
def aggB (d : TypeDesc) : Bool := match d with | .struct _ => true | .array _ _ => true | _ => false
theorem run_isAgg {t : TypeId} {d : TypeDesc} (h : P.underlying t = some d) : (isAgg t).run P w = .ok (aggB d) w := by
 unfold isAgg; simp [run_underlying h]; cases d <;> rfl
end basics
def pureRun (P : Program) {α : Type} : Sem α → Option α
 | .pure a => some a
 | .program k => pureRun P (k P)
 | _ => none
theorem pureRun_run {P : Program} {α : Type} : ∀ {s : Sem α} {a : α} (w : World), pureRun P s = some a → s.run P w = .ok a w
 | .pure a, b, w, h => by simp [pureRun] at h; subst h; rfl
 | .program k, b, w, h => by
   have := pureRun_run (s := k P) w (by simpa [pureRun] using h)
   simpa [Sem.run] using this
 | .load .., _, _, h => by simp [pureRun] at h
 | .store .., _, _, h => by simp [pureRun] at h
 | .new .., _, _, h => by simp [pureRun] at h
 | .shape .., _, _, h => by simp [pureRun] at h
 | .freeze .., _, _, h => by simp [pureRun] at h
 | .frozen .., _, _, h => by simp [pureRun] at h
 | .getObj .., _, _, h => by simp [pureRun] at h
 | .setObj .., _, _, h => by simp [pureRun] at h
 | .choose .., _, _, h => by simp [pureRun] at h
 | .sys .., _, _, h => by simp [pureRun] at h
 | .mark .., _, _, h => by simp [pureRun] at h
 | .halt .., _, _, h => by simp [pureRun] at h
inductive Rp where
 | leaf (l : List AV)
 | rep (x : AV) (n : Nat)
 | node (n : Nat) (a b : Rp)
namespace Rp
def len : Rp → Nat
 | leaf l => l.length
 | rep _ n => n
 | node n _ b => Nat.add n (len b)
def at_ : Rp → Nat → AV
 | leaf l, k => (match nthA l k with | some x => x | none => .v undef)
 | rep x n, k => cond (Nat.ble (Nat.succ k) n) x (.v undef)
 | node n a b, k => cond (Nat.ble (Nat.succ k) n) (at_ a k) (at_ b (Nat.sub k n))
def toList (r : Rp) : List AV := (List.range r.len).map r.at_
def nth (r : Rp) (k : Nat) : Option AV := cond (Nat.ble (Nat.succ k) r.len) (some (r.at_ k)) none
theorem length_toList (r : Rp) : r.toList.length = r.len := by simp [toList]
theorem get_toList (r : Rp) (k : Nat) : r.toList[k]? = if k < r.len then some (r.at_ k) else none := by
 unfold toList
 rw [List.getElem?_map]
 by_cases h : k < r.len
 · rw [List.getElem?_range h, if_pos h]; rfl
 · rw [List.getElem?_eq_none (by simpa using h), if_neg h]; rfl
theorem ble_lt (a b : Nat) : Nat.ble (Nat.succ a) b = decide (a < b) := by
 rw [Bool.eq_iff_iff, Nat.ble_eq, decide_eq_true_eq]; exact Iff.rfl
theorem nth_eq (r : Rp) (k : Nat) : r.nth k = r.toList[k]? := by
 rw [get_toList, nth, ble_lt]
 by_cases h : k < r.len <;> simp [h]
theorem at_leaf (l : List AV) (k : Nat) : (leaf l).at_ k = l.getD k (.v undef) := by
 simp only [at_, nthA_eq, List.getD_eq_getElem?_getD]
 cases l[k]? <;> rfl
theorem at_node (n : Nat) (a b : Rp) (k : Nat) : (node n a b).at_ k = if k < n then a.at_ k else b.at_ (k - n) := by
 simp only [at_, ble_lt]
 by_cases h : k < n <;> simp [h]
theorem at_rep (x : AV) (n k : Nat) : (rep x n).at_ k = if k < n then x else .v undef := by
 simp only [at_, ble_lt]
 by_cases h : k < n <;> simp [h]
theorem toList_leaf (l : List AV) : (leaf l).toList = l := by
 apply List.ext_getElem?
 intro k
 rw [get_toList, at_leaf, List.getD_eq_getElem?_getD]
 show (if k < l.length then _ else _) = _
 by_cases h : k < l.length
 · rw [if_pos h, List.getElem?_eq_getElem h]; rfl
 · rw [if_neg h, List.getElem?_eq_none (by omega)]
theorem toList_ext {r : Rp} {l : List AV} (h1 : r.len = l.length) (h2 : ∀ k, k < l.length → r.at_ k = l.getD k (.v undef)) : r.toList = l := by
 apply List.ext_getElem?
 intro k
 rw [get_toList, h1]
 by_cases h : k < l.length
 · rw [if_pos h, h2 k h, List.getD_eq_getElem?_getD, List.getElem?_eq_getElem h]; rfl
 · rw [if_neg h, List.getElem?_eq_none (by omega)]
/-! Some of them. -/
def tell (r : Rp) : Nat → Nat → List AV
 | _, 0 => []
 | k, m + 1 => r.at_ k :: tell r (k + 1) m
def reps (x : AV) : Nat → List AV
 | 0 => []
 | n + 1 => x :: reps x n
def cut : Rp → Nat → Nat → List AV
 | leaf l, o, m => (match cutR l o m with | some c => c | none => tell (leaf l) o m)
 | rep x n, o, m => cond (Nat.ble (Nat.add o m) n) (reps x m) (tell (rep x n) o m)
 | node n a b, o, m => cond (Nat.ble (Nat.add o m) n) (cut a o m) (cond (Nat.ble n o) (cut b (Nat.sub o n) m) (cut a o (Nat.sub n o) ++ cut b 0 (Nat.sub m (Nat.sub n o))))
theorem tell_length (r : Rp) : ∀ (k m : Nat), (tell r k m).length = m
 | _, 0 => rfl
 | k, m + 1 => by simp [tell, tell_length r (k + 1) m]
theorem tell_get (r : Rp) : ∀ (k m j : Nat), (tell r k m)[j]? = if j < m then some (r.at_ (k + j)) else none
 | _, 0, j => by simp [tell]
 | k, m + 1, 0 => by simp [tell]
 | k, m + 1, j + 1 => by
   simp only [tell, List.getElem?_cons_succ, tell_get r (k + 1) m j]
   by_cases h : j < m
   · rw [if_pos h, if_pos (by omega)]; congr 2; omega
   · rw [if_neg h, if_neg (by omega)]
theorem reps_get (x : AV) : ∀ (n j : Nat), (reps x n)[j]? = if j < n then some x else none
 | 0, j => by simp [reps]
 | n + 1, 0 => by simp [reps]
 | n + 1, j + 1 => by
   simp only [reps, List.getElem?_cons_succ, reps_get x n j]
   by_cases h : j < n
   · rw [if_pos h, if_pos (by omega)]
   · rw [if_neg h, if_neg (by omega)]
theorem tell_eq {r : Rp} {k m : Nat} {l : List AV} (h : ∀ j, l[j]? = if j < m then some (r.at_ (k + j)) else none) : l = tell r k m := by
 apply List.ext_getElem?; intro j; rw [h j, tell_get]
theorem cut_tell : ∀ (r : Rp) (o m : Nat), r.cut o m = tell r o m
 | leaf l, o, m => by
   unfold cut
   split
   · rename_i c hc
     rw [cutR_eq] at hc
     cases hb : Nat.ble (o + m) l.length with
     | false => simp [hb] at hc
     | true =>
       simp only [hb, cond_true, Option.some.injEq] at hc
       rw [Nat.ble_eq] at hb
       subst hc
       apply tell_eq
       intro j
       rw [List.getElem?_take, List.getElem?_drop, at_leaf, List.getD_eq_getElem?_getD]
       by_cases hj : j < m
       · rw [if_pos hj, if_pos hj, List.getElem?_eq_getElem (by omega)]; rfl
       · rw [if_neg hj, if_neg hj]
   · rfl
 | rep x n, o, m => by
   unfold cut
   cases hb : Nat.ble (Nat.add o m) n with
   | false => rfl
   | true =>
     rw [Nat.ble_eq] at hb
     have hb : o + m ≤ n := hb
     rw [cond_true]
     apply tell_eq
     intro j
     rw [reps_get, at_rep]
     by_cases hj : j < m
     · rw [if_pos hj, if_pos hj, if_pos (by omega)]
     · rw [if_neg hj, if_neg hj]
 | node n a b, o, m => by
   unfold cut
   rw [cut_tell a, cut_tell a, cut_tell b, cut_tell b]
   apply tell_eq
   intro j
   cases hb : Nat.ble (Nat.add o m) n with
   | true =>
     rw [Nat.ble_eq] at hb
     have hb : o + m ≤ n := hb
     rw [cond_true, tell_get, at_node]
     by_cases hj : j < m
     · rw [if_pos hj, if_pos hj, if_pos (by omega)]
     · rw [if_neg hj, if_neg hj]
   | false =>
     rw [cond_false]
     have hb' : ¬ (o + m ≤ n) := fun h => by
       have : Nat.ble (Nat.add o m) n = true := Nat.ble_eq_true_of_le h
       rw [hb] at this; cases this
     cases hd : Nat.ble n o with
     | true =>
       rw [Nat.ble_eq] at hd
       rw [cond_true, tell_get, at_node]
       by_cases hj : j < m
       · rw [if_pos hj, if_pos hj, if_neg (by omega)]
         congr 2
         show o - n + j = o + j - n
         omega
       · rw [if_neg hj, if_neg hj]
     | false =>
       rw [cond_false]
       have hd' : ¬ (n ≤ o) := fun h => by
         have : Nat.ble n o = true := Nat.ble_eq_true_of_le h
         rw [hd] at this; cases this
       rw [List.getElem?_append, tell_length, tell_get, tell_get, at_node]
       have e1 : Nat.sub n o = n - o := rfl
       rw [e1]
       have e2 : Nat.sub m (n - o) = m - (n - o) := rfl
       rw [e2]
       by_cases hj : j < n - o
       · rw [if_pos hj, if_pos hj, if_pos (by omega), if_pos (by omega)]
       · rw [if_neg hj]
         by_cases hm : j < m
         · rw [if_pos (by omega), if_pos hm, if_neg (by omega)]
           congr 2
           omega
         · rw [if_neg (by omega), if_neg hm]
theorem cut_eq (r : Rp) (o m : Nat) (h : o + m ≤ r.toList.length) : r.cut o m = (r.toList.drop o).take m := by
 rw [cut_tell]
 symm
 apply tell_eq
 intro j
 rw [length_toList] at h
 rw [List.getElem?_take, List.getElem?_drop, get_toList]
 by_cases hj : j < m
 · rw [if_pos hj, if_pos (by omega), if_pos hj]
 · rw [if_neg hj, if_neg hj]
/-! Written over. -/
def padTo (n : Nat) (l : List AV) : List AV := cond (longR l n) l (l ++ reps (.v undef) (n - l.length))
def splL (c l : List AV) (o : Nat) : Rp := leaf (splR c (padTo (o + c.length) l) o)
def splZ (x : AV) : Nat → Nat → Nat → List AV → Rp
 | 0, n, o, c => splL c (reps x n) o
 | f + 1, n, o, c => cond (Nat.ble n 32) (splL c (reps x n) o) <|
   cond (Nat.ble (Nat.add o c.length) (Nat.div n 2)) (node (Nat.div n 2) (splZ x f (Nat.div n 2) o c) (rep x (Nat.sub n (Nat.div n 2)))) <|
   cond (Nat.ble (Nat.div n 2) o) (node (Nat.div n 2) (rep x (Nat.div n 2)) (splZ x f (Nat.sub n (Nat.div n 2)) (Nat.sub o (Nat.div n 2)) c)) <|
   node (Nat.div n 2) (splZ x f (Nat.div n 2) o (c.take (Nat.sub (Nat.div n 2) o))) (splZ x f (Nat.sub n (Nat.div n 2)) 0 (c.drop (Nat.sub (Nat.div n 2) o)))
def spl : Rp → Nat → List AV → Rp
 | leaf l, o, c => splL c l o
 | rep x n, o, c => splZ x 40 n o c
 | node n a b, o, c => cond (Nat.ble (Nat.add o c.length) n) (node n (spl a o c) b) <|
   cond (Nat.ble n o) (node n a (spl b (Nat.sub o n) c)) <|
   node n (spl a o (c.take (Nat.sub n o))) (spl b 0 (c.drop (Nat.sub n o)))
def SplAt (r s : Rp) (o : Nat) (c : List AV) : Prop := (∀ k, s.at_ k = if o ≤ k ∧ k < o + c.length then c.getD (k - o) (.v undef) else r.at_ k) ∧ (o + c.length ≤ r.len → s.len = r.len)
theorem reps_length (x : AV) : ∀ n, (reps x n).length = n
 | 0 => rfl
 | n + 1 => by simp [reps, reps_length x n]
theorem padTo_spec (n : Nat) (l : List AV) : n ≤ (padTo n l).length ∧ (n ≤ l.length → padTo n l = l) ∧ ∀ k, (padTo n l).getD k (.v undef) = l.getD k (.v undef) := by
 unfold padTo
 rw [longR_eq]
 cases hb : Nat.ble n l.length with
 | true =>
   rw [Nat.ble_eq] at hb
   exact ⟨hb, fun _ => rfl, fun _ => rfl⟩
 | false =>
   have hb' : ¬ (n ≤ l.length) := fun h => by
     have : Nat.ble n l.length = true := Nat.ble_eq_true_of_le h
     rw [hb] at this; cases this
   refine ⟨?_, fun h => absurd h hb', fun k => ?_⟩
   · rw [cond_false, List.length_append, reps_length]; omega
   · rw [cond_false, List.getD_eq_getElem?_getD, List.getD_eq_getElem?_getD, List.getElem?_append]
     by_cases hk : k < l.length
     · rw [if_pos hk]
     · rw [if_neg hk, reps_get, List.getElem?_eq_none (by omega)]
       split <;> rfl
theorem splL_at (c l : List AV) (o : Nat) : SplAt (leaf l) (splL c l o) o c := by
 obtain ⟨h1, h2, h3⟩ := padTo_spec (o + c.length) l
 unfold splL
 refine ⟨fun k => ?_, fun h => ?_⟩
 · rw [at_leaf, at_leaf, splR_eq, List.getD_eq_getElem?_getD, List.append_assoc, List.getElem?_append, List.length_take]
   rw [Nat.min_eq_left (by omega)]
   by_cases hk : k < o
   · rw [if_pos hk, if_neg (by omega), List.getElem?_take, if_pos hk, ← List.getD_eq_getElem?_getD, h3]
   · rw [if_neg hk, List.getElem?_append]
     by_cases hc : k - o < c.length
     · rw [if_pos hc, if_pos (by omega), List.getD_eq_getElem?_getD]
     · rw [if_neg hc, if_neg (by omega), List.getElem?_drop, ← h3 k, List.getD_eq_getElem?_getD]
       congr 2; omega
 · simp only [len] at h ⊢
   rw [h2 h, splR_eq]; simp; omega
theorem reps_at (x : AV) (n k : Nat) : (leaf (reps x n)).at_ k = (rep x n).at_ k := by
 rw [at_leaf, at_rep, List.getD_eq_getElem?_getD, reps_get]
 split <;> rfl
theorem SplAt.rep {x : AV} {n o : Nat} {c : List AV} {s : Rp} (h : SplAt (leaf (reps x n)) s o c) : SplAt (rep x n) s o c :=
 ⟨fun k => by rw [h.1 k, reps_at], fun h' => by rw [h.2 (by simpa [len, reps_length] using h')]; simp [len, reps_length]⟩
theorem SplAt.left {r a a' b : Rp} {n o : Nat} {c : List AV} (hr : ∀ k, r.at_ k = (node n a b).at_ k) (hl : r.len = n + b.len) (h : SplAt a a' o c) (ho : o + c.length ≤ n) : SplAt r (node n a' b) o c := by
 refine ⟨fun k => ?_, fun _ => hl.symm⟩
 rw [hr, at_node, at_node, h.1 k]
 by_cases hk : k < n
 · rw [if_pos hk, if_pos hk]
 · rw [if_neg hk, if_neg hk, if_neg (by omega)]
theorem SplAt.right {r a b b' : Rp} {n o : Nat} {c : List AV} (hr : ∀ k, r.at_ k = (node n a b).at_ k) (hl : r.len = n + b.len) (h : SplAt b b' (o - n) c) (ho : n ≤ o) : SplAt r (node n a b') o c := by
 refine ⟨fun k => ?_, fun h' => ?_⟩
 · rw [hr, at_node, at_node, h.1 (k - n)]
   by_cases hk : k < n
   · rw [if_pos hk, if_neg (by omega), if_pos hk]
   · rw [if_neg hk, if_neg hk]
     by_cases hc : o ≤ k ∧ k < o + c.length
     · rw [if_pos hc, if_pos (by omega)]; congr 1; omega
     · rw [if_neg hc, if_neg (by omega)]
 · show n + b'.len = r.len
   rw [h.2 (by omega), hl]
theorem SplAt.both {r a a' b b' : Rp} {n o : Nat} {c : List AV} (hr : ∀ k, r.at_ k = (node n a b).at_ k) (hl : r.len = n + b.len) (h : SplAt a a' o (c.take (n - o))) (h' : SplAt b b' 0 (c.drop (n - o))) (h1 : o < n) (h2 : n < o + c.length) : SplAt r (node n a' b') o c := by
 have e1 : (c.take (n - o)).length = n - o := by rw [List.length_take]; omega
 have e2 : (c.drop (n - o)).length = c.length - (n - o) := List.length_drop
 refine ⟨fun k => ?_, fun h3 => ?_⟩
 · rw [hr, at_node, at_node, h.1 k, h'.1 (k - n), e1, e2]
   by_cases hk : k < n
   · rw [if_pos hk, if_pos hk]
     by_cases ho : o ≤ k
     · rw [if_pos (by omega), if_pos (by omega), List.getD_eq_getElem?_getD, List.getD_eq_getElem?_getD, List.getElem?_take, if_pos (by omega)]
     · rw [if_neg (by omega), if_neg (by omega)]
   · rw [if_neg hk, if_neg hk]
     by_cases hc : k < o + c.length
     · rw [if_pos (by omega), if_pos (by omega), List.getD_eq_getElem?_getD, List.getD_eq_getElem?_getD, List.getElem?_drop]
       congr 2; omega
     · rw [if_neg (by omega), if_neg (by omega)]
 · show n + b'.len = r.len
   rw [h'.2 (by omega), hl]
theorem ble_not {a b : Nat} (h : Nat.ble a b = false) : b < a := by
 rcases Nat.lt_or_ge b a with h' | h'
 · exact h'
 · rw [Nat.ble_eq_true_of_le h'] at h; cases h
theorem splZ_at (x : AV) : ∀ (f n o : Nat) (c : List AV), SplAt (rep x n) (splZ x f n o c) o c
 | 0, n, o, c => (splL_at c _ o).rep
 | f + 1, n, o, c => by
   unfold splZ
   have hr : ∀ k, (rep x n).at_ k = (node (n / 2) (rep x (n / 2)) (rep x (n - n / 2))).at_ k := fun k => by
     rw [at_node, at_rep, at_rep, at_rep]
     by_cases h1 : k < n / 2
     · rw [if_pos h1, if_pos h1, if_pos (by omega)]
     · rw [if_neg h1]
       by_cases h2 : k < n
       · rw [if_pos h2, if_pos (by omega)]
       · rw [if_neg h2, if_neg (by omega)]
   have hl : (rep x n).len = n / 2 + (rep x (n - n / 2)).len := by simp only [len]; omega
   cases h0 : Nat.ble n 32 with
   | true => exact (splL_at c _ o).rep
   | false =>
   rw [cond_false]
   cases h1 : Nat.ble (Nat.add o c.length) (Nat.div n 2) with
   | true =>
     rw [Nat.ble_eq] at h1
     exact SplAt.left hr hl (splZ_at x f _ o c) h1
   | false =>
   rw [cond_false]
   cases h2 : Nat.ble (Nat.div n 2) o with
   | true =>
     rw [Nat.ble_eq] at h2
     exact SplAt.right hr hl (splZ_at x f _ _ c) h2
   | false => exact SplAt.both hr hl (splZ_at x f _ _ _) (splZ_at x f _ _ _) (ble_not h2) (ble_not h1)
theorem spl_at : ∀ (r : Rp) (o : Nat) (c : List AV), SplAt r (r.spl o c) o c
 | leaf l, o, c => splL_at c l o
 | rep x n, o, c => splZ_at x 40 n o c
 | node n a b, o, c => by
   unfold spl
   cases h1 : Nat.ble (Nat.add o c.length) n with
   | true =>
     rw [Nat.ble_eq] at h1
     exact SplAt.left (fun _ => rfl) rfl (spl_at a o c) h1
   | false =>
   rw [cond_false]
   cases h2 : Nat.ble n o with
   | true =>
     rw [Nat.ble_eq] at h2
     exact SplAt.right (fun _ => rfl) rfl (spl_at b _ c) h2
   | false => exact SplAt.both (fun _ => rfl) rfl (spl_at a _ _) (spl_at b _ _) (ble_not h2) (ble_not h1)
theorem spl_eq (r : Rp) (o : Nat) (c : List AV) (h : o + c.length ≤ r.toList.length) : (r.spl o c).toList = r.toList.take o ++ c ++ r.toList.drop (o + c.length) := by
 obtain ⟨h1, h2⟩ := spl_at r o c
 rw [length_toList] at h
 have hl := length_toList r
 refine toList_ext (by rw [h2 h]; simp [hl]; omega) fun k hk => ?_
 have hk' : k < r.len := by simp [hl] at hk; omega
 rw [h1 k]
 simp only [List.getD_eq_getElem?_getD]
 rw [List.append_assoc, List.getElem?_append, List.length_take, Nat.min_eq_left (by omega)]
 by_cases ho : k < o
 · rw [if_pos ho, if_neg (by omega), List.getElem?_take, if_pos ho, get_toList, if_pos hk']; rfl
 · rw [if_neg ho, List.getElem?_append]
   by_cases hc : k - o < c.length
   · rw [if_pos hc, if_pos (by omega)]
   · rw [if_neg hc, if_neg (by omega), List.getElem?_drop, get_toList, if_pos (by omega)]
     show r.at_ k = r.at_ (o + c.length + (k - o - c.length))
     congr 1; omega
/-! More behind them. -/
def app : Rp → List AV → Rp
 | leaf l, c => cond (longR l 16) (node l.length (leaf l) (leaf c)) (leaf (l ++ c))
 | rep x n, c => node n (rep x n) (leaf c)
 | node n a b, c => cond (Nat.ble (Nat.succ b.len) n) (node n a (app b c)) (node (Nat.add n b.len) (node n a b) (leaf c))
theorem app_at : ∀ (r : Rp) (c : List AV), (r.app c).len = r.len + c.length ∧ ∀ k, (r.app c).at_ k = if k < r.len then r.at_ k else c.getD (k - r.len) (.v undef)
 | leaf l, c => by
   unfold app
   cases longR l 16 with
   | true =>
     rw [cond_true]
     exact ⟨rfl, fun k => by rw [at_node, at_leaf c]; rfl⟩
   | false =>
     rw [cond_false]
     refine ⟨by simp [len], fun k => ?_⟩
     have hlen : (leaf l).len = l.length := rfl
     rw [at_leaf, at_leaf, hlen, List.getD_eq_getElem?_getD, List.getElem?_append]
     by_cases h : k < l.length
     · rw [if_pos h, if_pos h, List.getD_eq_getElem?_getD]
     · rw [if_neg h, if_neg h, List.getD_eq_getElem?_getD]
 | rep x n, c => by
   unfold app
   exact ⟨rfl, fun k => by rw [at_node, at_leaf c]; rfl⟩
 | node n a b, c => by
   unfold app
   obtain ⟨h1, h2⟩ := app_at b c
   cases h : Nat.ble (Nat.succ b.len) n with
   | true =>
     rw [cond_true]
     refine ⟨?_, fun k => ?_⟩
     · show n + (b.app c).len = n + b.len + c.length
       rw [h1]; omega
     · have hlen : (node n a b).len = n + b.len := rfl
       rw [at_node, at_node, h2, hlen]
       by_cases hk : k < n
       · rw [if_pos hk, if_pos hk, if_pos (by omega)]
       · rw [if_neg hk, if_neg hk]
         by_cases hb : k < n + b.len
         · rw [if_pos hb, if_pos (by omega)]
         · rw [if_neg hb, if_neg (by omega)]
           congr 1; omega
   | false =>
     rw [cond_false]
     refine ⟨rfl, fun k => ?_⟩
     have hlen : (node n a b).len = n + b.len := rfl
     have e : Nat.add n b.len = n + b.len := rfl
     rw [e, at_node (n + b.len), hlen, at_leaf]
theorem app_eq (r : Rp) (c : List AV) : (r.app c).toList = r.toList ++ c := by
 obtain ⟨h1, h2⟩ := app_at r c
 have hl := length_toList r
 refine toList_ext (by rw [h1]; simp [hl]) fun k hk => ?_
 rw [h2]
 simp only [List.getD_eq_getElem?_getD]
 rw [List.getElem?_append, hl]
 by_cases h : k < r.len
 · rw [if_pos h, if_pos h, get_toList, if_pos h]; rfl
 · rw [if_neg h, if_neg h]
def grow (r : Rp) (m : Nat) (c : List AV) : Rp := cond (Nat.beq m r.len) (r.app c) (leaf (r.cut 0 m ++ c))
theorem grow_eq (r : Rp) (m : Nat) (c : List AV) (h : m ≤ r.toList.length) : (r.grow m c).toList = r.toList.take m ++ c := by
 unfold grow
 cases hb : Nat.beq m r.len with
 | true =>
   have hb : m = r.len := by simpa using hb
   rw [cond_true, app_eq, hb, ← length_toList, List.take_length]
 | false => rw [cond_false, toList_leaf, cut_eq r 0 m (by omega), List.drop_zero]
def long (r : Rp) (n : Nat) : Bool := Nat.ble n r.len
theorem long_eq (r : Rp) (n : Nat) : r.long n = Nat.ble n r.toList.length := by rw [length_toList]; rfl
end Rp
def partA (P : Program) (t : TypeId) (l : List AV) (off : Nat) : Option AV :=
 match P.underlying t with
 | some d => cond (aggB d) (match P.info? t with | some i => (match cutR l off i.size with | some m => some (.agg m) | none => none) | none => none) (nthA l off)
 | none => none
theorem partA_old (P : Program) (t : TypeId) (l : List AV) (off : Nat) : partA P t l off = match P.underlying t with
   | some d => cond (aggB d) (match P.info? t with | some i => cond (Nat.ble (off + i.size) l.length) (some (.agg ((l.drop off).take i.size))) none | none => none) (l[off]?)
   | none => none := by
 unfold partA
 cases P.underlying t with
 | none => rfl
 | some d =>
   simp only [nthA_eq]
   cases P.info? t with
   | none => rfl
   | some i =>
     simp only [cutR_eq]
     cases Nat.ble (off + i.size) l.length <;> rfl
theorem partA_sound {P : Program} {ρ : Env} {t : TypeId} {l : List AV} {vs : List Value} {off : Nat} {x : AV} (h : partA P t l off = some x) (hv : VRs ρ l vs) :
   ∃ u, VR ρ x u ∧ ∀ w, (part t vs.toArray off).run P w = .ok u w := by
 rw [partA_old] at h
 cases hd : P.underlying t with
 | none => simp [hd] at h
 | some d =>
   simp only [hd] at h
   cases hb : aggB d with
   | true =>
     simp only [hb, cond_true] at h
     cases hi : P.info? t with
     | none => simp [hi] at h
     | some i =>
       simp only [hi] at h
       cases hc : Nat.ble (off + i.size) l.length with
       | false => simp [hc] at h
       | true =>
         simp [hc] at h
         subst h
         refine ⟨_, .agg ((hv.drop off).take i.size), fun w => ?_⟩
         unfold part
         simp [run_isAgg hd, hb, run_sizeOf hi, List.extract_eq_take_drop]
   | false =>
     simp only [hb, cond_false] at h
     obtain ⟨u, hu, hx⟩ := hv.get h
     refine ⟨u, hx, fun w => ?_⟩
     unfold part
     simp [run_isAgg hd, hb, hu]
def partR (P : Program) (t : TypeId) (r : Rp) (off : Nat) : Option AV :=
 match P.underlying t with
 | some d => cond (aggB d) (match P.info? t with | some i => cond (r.long (off + i.size)) (some (.agg (r.cut off i.size))) none | none => none) (r.nth off)
 | none => none
theorem partR_eq (P : Program) (t : TypeId) (r : Rp) (off : Nat) : partR P t r off = partA P t r.toList off := by
 rw [partA_old]
 unfold partR
 cases P.underlying t with
 | none => rfl
 | some d =>
   simp only [Rp.nth_eq]
   cases P.info? t with
   | none => rfl
   | some i =>
     simp only [Rp.long_eq]
     cases h : Nat.ble (off + i.size) r.toList.length with
     | false => rfl
     | true => rw [Rp.cut_eq r off i.size (Nat.le_of_ble_eq_true h)]
def fillA (place : Nat → Option (Nat × Nat)) (cells : List AV) : List (Nat × AV) → Option (List AV)
 | [] => some cells
 | (i, x) :: rest =>
   match place i with
   | none => none
   | some (off, size) =>
     let c := x.cells
     cond (Nat.beq c.length size && Nat.ble (off + c.length) cells.length) (fillA place (cells.take off ++ c ++ cells.drop (off + c.length)) rest) none
theorem setAll (l c : List Value) : ∀ (off : Nat), off + c.length ≤ l.length → (c.toArray.zipIdx.foldl (fun cs (p : Value × Nat) => cs.setIfInBounds (off + p.2) p.1) l.toArray).toList = l.take off ++ c ++ l.drop (off + c.length) := by
 intro off h
 suffices H : ∀ (c : List Value) (k : Nat) (l : List Value), off + k + c.length ≤ l.length → ((c.zipIdx k).foldl (fun (cs : Array Value) (p : Value × Nat) => cs.setIfInBounds (off + p.2) p.1) l.toArray).toList = l.take (off + k) ++ c ++ l.drop (off + k + c.length) by
   have := H c 0 l (by simpa using h)
   simpa using this
 intro c
 induction c with
 | nil => intro k l h; simp
 | cons x c ih =>
   intro k l h
   simp only [List.zipIdx_cons, List.foldl_cons, List.setIfInBounds_toArray]
   have h' : off + (k + 1) + c.length ≤ (l.set (off + k) x).length := by simp at h ⊢; omega
   rw [ih (k + 1) (l.set (off + k) x) h']
   have e1 : (l.set (off + k) x).take (off + (k + 1)) = l.take (off + k) ++ [x] := by
     have hlt : off + k < l.length := by simp at h; omega
     rw [show off + (k + 1) = off + k + 1 by omega, List.take_succ_eq_append_getElem (by simpa using hlt), List.take_set_of_le (Nat.le_refl _)]
     simp
   have e2 : (l.set (off + k) x).drop (off + (k + 1) + c.length) = l.drop (off + k + (x :: c).length) := by
     rw [List.drop_set_of_lt (by omega)]
     congr 1
     simp; omega
   rw [e1, e2]
   simp
theorem fillA_sound {ρ : Env} {place : Nat → Option (Nat × Nat)} : ∀ {ps : List (Nat × AV)} {qs : List (Nat × Value)} {l r : List AV} {vs : List Value}, fillA place l ps = some r → VRs ρ l vs →
   qs.map Prod.fst = ps.map Prod.fst → VRs ρ (ps.map Prod.snd) (qs.map Prod.snd) → ∃ us, VRs ρ r us ∧ Instr.fill place vs.toArray qs = some us.toArray := by
 intro ps
 induction ps with
 | nil =>
   intro qs l r vs h hv hq _
   cases qs with
   | nil => simp [fillA] at h; subst h; exact ⟨vs, hv, rfl⟩
   | cons => simp at hq
 | cons p ps ih =>
   intro qs l r vs h hv hq hr
   obtain ⟨i, x⟩ := p
   cases qs with
   | nil => simp at hq
   | cons q qs =>
     obtain ⟨j, u⟩ := q
     simp only [List.map_cons, List.cons.injEq] at hq
     obtain ⟨rfl, hq⟩ := hq
     simp only [List.map_cons] at hr
     cases hr with
     | cons hx hr =>
       simp only [fillA] at h
       cases hp : place j with
       | none => simp [hp] at h
       | some os =>
         obtain ⟨off, size⟩ := os
         simp only [hp] at h
         cases hc : (Nat.beq x.cells.length size && Nat.ble (off + x.cells.length) l.length) with
         | false => simp [hc] at h
         | true =>
           simp only [hc, cond_true] at h
           simp only [Bool.and_eq_true, Nat.beq_eq, Nat.ble_eq] at hc
           have hxc := hx.cells
           have hlc := hxc.length
           have hl := hv.length
           have hv' : VRs ρ (l.take off ++ x.cells ++ l.drop (off + x.cells.length)) (vs.take off ++ u.cells.toList ++ vs.drop (off + u.cells.toList.length)) := by
             rw [hlc]; exact ((hv.take off).append hxc).append (hv.drop _)
           obtain ⟨us, h1, h2⟩ := ih h hv' hq hr
           refine ⟨us, h1, ?_⟩
           have hsz : u.cells.size = size := by rw [← Array.length_toList, ← hlc]; exact hc.1
           have hle : off + u.cells.toList.length ≤ vs.length := by rw [← hlc, ← hl]; exact hc.2
           simp only [Instr.fill, hp, hsz]
           rw [if_neg (by simp; rw [← hsz, ← Array.length_toList]; exact hle)]
           rw [← h2]
           congr 1
           have := setAll vs u.cells.toList off hle
           rw [← this]
def buildA (P : Program) (t : TypeId) (ps : List (Nat × AV)) : Option AV :=
 match P.info? t, P.underlying t with
 | some it, some (.array _ e) =>
   match it.zero, P.info? e with
   | some z, some ie => (fillA (fun i => some (i * ie.size, ie.size)) (ofV z).cells ps).map .agg
   | _, _ => none
 | some it, some (.struct fields) =>
   match it.zero, fields.toList.mapM (fun f => (P.info? f.type).map fun i => (f.offset, i.size)) with
   | some z, some places => (fillA (fun i => places[i]?) (ofV z).cells ps).map .agg
   | _, _ => none
 | _, _ => none
theorem buildA_sound {P : Program} {ρ : Env} {t : TypeId} {ps : List (Nat × AV)} {qs : Array (Nat × Value)} {x : AV} (h : buildA P t ps = some x)
   (hq : qs.toList.map Prod.fst = ps.map Prod.fst) (hr : VRs ρ (ps.map Prod.snd) (qs.toList.map Prod.snd)) : ∃ u, VR ρ x u ∧ ∀ w, (Instr.build t qs).run P w = .ok u w := by
 unfold buildA at h
 cases hit : P.info? t with
 | none => simp [hit] at h
 | some it =>
   cases hu : P.underlying t with
   | none => simp [hit, hu] at h
   | some d =>
     cases d <;> try (simp [hit, hu] at h; done)
     case array n e =>
       cases hz : it.zero with
       | none => simp [hit, hu, hz] at h
       | some z =>
         cases hie : P.info? e with
         | none => simp [hit, hu, hz, hie] at h
         | some ie =>
           simp only [hit, hu, hz, hie, Option.map_eq_some_iff] at h
           obtain ⟨r, h, rfl⟩ := h
           obtain ⟨us, h1, h2⟩ := fillA_sound h (ofV_VR (ρ := ρ) z).cells hq hr
           refine ⟨_, .agg h1, fun w => run_build w t qs _ ?_⟩
           simpa [Program.built, hit, hu, hz, hie] using h2
     case struct fields =>
       cases hz : it.zero with
       | none => simp [hit, hu, hz] at h
       | some z =>
         cases hp : fields.toList.mapM (fun f => (P.info? f.type).map fun i => (f.offset, i.size)) with
         | none => simp [hit, hu, hz, hp] at h
         | some places =>
           simp only [hit, hu, hz, hp, Option.map_eq_some_iff] at h
           obtain ⟨r, h, rfl⟩ := h
           obtain ⟨us, h1, h2⟩ := fillA_sound h (ofV_VR (ρ := ρ) z).cells hq hr
           refine ⟨_, .agg h1, fun w => run_build w t qs _ ?_⟩
           simpa [Program.built, hit, hu, hz, hp] using h2
def bndA (y : Nat) : AV → Option Nat
 | .v (.int _ i) => cond (decide (0 ≤ i) && decide (i ≤ y)) (some i.toNat) none
 | _ => none
theorem bndA_sound {P : Program} {ρ : Env} {y : Nat} {x : AV} {u : Value} {r : Nat} (h : bndA y x = some r) (hx : VR ρ x u) : r ≤ y ∧ ∀ c w, (Instr.sliceBound u y c).run P w = .ok r w := by
 unfold bndA at h
 split at h
 · rename_i k i
   cases hx
   cases hc : (decide (0 ≤ i) && decide (i ≤ y)) with
   | false => simp [hc] at h
   | true =>
     simp only [hc, cond_true, Option.some.injEq] at h
     simp only [Bool.and_eq_true, decide_eq_true_eq] at hc
     subst h
     exact ⟨by omega, fun c w => run_sliceBound w k i y c hc.1 hc.2⟩
 · cases h
def optA (y d : Nat) : Option AV → Option Nat
 | none => some d
 | some x => bndA y x
inductive OR (ρ : Env) : Option AV → Option Value → Prop
 | no : OR ρ none none
 | yes {x : AV} {u : Value} (h : VR ρ x u) : OR ρ (some x) (some u)
def boundsA (len cap : Nat) (lo hi mx : Option AV) : Option (Nat × Nat × Nat) :=
 match mx with
 | none => match optA cap len hi with
   | some h => match optA h 0 lo with
     | some l => some (l, h, cap)
     | none => none
   | none => none
 | some x => match bndA cap x, hi with
   | some m, some y => match bndA m y with
     | some h => match optA h 0 lo with
       | some l => some (l, h, m)
       | none => none
     | none => none
   | _, _ => none
theorem boundsA_sound {P : Program} {ρ : Env} {len cap : Nat} {lo hi mx : Option AV} {lo' hi' mx' : Option Value} {r : Nat × Nat × Nat} (h : boundsA len cap lo hi mx = some r)
   (h1 : OR ρ lo lo') (h2 : OR ρ hi hi') (h3 : OR ρ mx mx') (b : Bool) : (∀ w, (Instr.sliceBounds b len cap lo' hi' mx').run P w = .ok r w) ∧ (mx = none → r.2.2 = cap) ∧ (len ≤ cap → r.1 ≤ r.2.1 ∧ r.2.1 ≤ r.2.2 ∧ r.2.2 ≤ cap) := by
 unfold boundsA at h
 cases h3 with
 | no =>
   cases h2 with
   | no =>
     simp only [optA] at h
     cases h1 with
     | no => simp at h; subst h; exact ⟨fun w => by simp [Instr.sliceBounds], fun _ => rfl, fun h => ⟨by simp, h, Nat.le_refl _⟩⟩
     | @yes z v hz =>
       simp only at h
       cases hl : bndA len z with
       | none => simp [hl] at h
       | some lv =>
         simp [hl] at h; subst h
         have e1 := bndA_sound (P := P) hl hz
         exact ⟨fun w => by simp [Instr.sliceBounds, e1.2], fun _ => rfl, fun h => ⟨e1.1, h, Nat.le_refl _⟩⟩
   | @yes y u hy =>
     simp only [optA] at h
     cases hh : bndA cap y with
     | none => simp [hh] at h
     | some hv =>
       simp only [hh] at h
       have e2 := bndA_sound (P := P) hh hy
       cases h1 with
       | no => simp at h; subst h; exact ⟨fun w => by simp [Instr.sliceBounds, e2.2], fun _ => rfl, fun h => ⟨by simp, e2.1, Nat.le_refl _⟩⟩
       | @yes z v hz =>
         simp only at h
         cases hl : bndA hv z with
         | none => simp [hl] at h
         | some lv =>
           simp [hl] at h; subst h
           have e1 := bndA_sound (P := P) hl hz
           exact ⟨fun w => by simp [Instr.sliceBounds, e1.2, e2.2], fun _ => rfl, fun h => ⟨e1.1, e2.1, Nat.le_refl _⟩⟩
 | @yes x u hx =>
   cases hm : bndA cap x with
   | none => simp [hm] at h
   | some m =>
     have e3 := bndA_sound (P := P) hm hx
     cases h2 with
     | no => simp [hm] at h
     | @yes y v hy =>
       simp only [hm] at h
       cases hh : bndA m y with
       | none => simp [hh] at h
       | some hv =>
         simp only [hh] at h
         have e2 := bndA_sound (P := P) hh hy
         cases h1 with
         | no => simp [optA] at h; subst h; exact ⟨fun w => by simp [Instr.sliceBounds, e2.2, e3.2], fun h => by simp at h, fun h => ⟨by simp, e2.1, e3.1⟩⟩
         | @yes z v hz =>
           simp only [optA] at h
           cases hl : bndA hv z with
           | none => simp [hl] at h
           | some lv =>
             simp [hl] at h; subst h
             have e1 := bndA_sound (P := P) hl hz
             exact ⟨fun w => by simp [Instr.sliceBounds, e1.2, e2.2, e3.2], fun h => by simp at h, fun h => ⟨e1.1, e2.1, e3.1⟩⟩
end
noncomputable section
theorem bndA_mono {y y' r : Nat} {x : AV} (h : bndA y x = some r) (hy : y ≤ y') : bndA y' x = some r := by
 unfold bndA at *
 split at h
 · rename_i k i
   cases hc : (decide (0 ≤ i) && decide (i ≤ (y : Int))) with
   | false => simp [hc] at h
   | true =>
     have hc' : (decide (0 ≤ i) && decide (i ≤ (y' : Int))) = true := by
       simp only [Bool.and_eq_true, decide_eq_true_eq] at hc ⊢; omega
     simp only [hc', hc, cond_true] at h ⊢; exact h
 · cases h
theorem boundsA_in {n q l h m : Nat} {lo hi mx : Option AV} (hb : boundsA n q lo hi mx = some (l, h, m)) (hn : n ≤ q) : l ≤ h ∧ h ≤ q ∧ (mx.isNone = true → m = q) ∧ h ≤ m ∧ m ≤ q := by
 have bl : ∀ {y r : Nat} {x : AV}, bndA y x = some r → r ≤ y := fun {y r x} h => by
   unfold bndA at h
   split at h
   · rename_i k i
     cases hc : (decide (0 ≤ i) && decide (i ≤ (y : Int))) with
     | false => simp [hc] at h
     | true =>
       simp only [hc, cond_true, Option.some.injEq] at h
       simp only [Bool.and_eq_true, decide_eq_true_eq] at hc
       omega
   · cases h
 have ol : ∀ {y d r : Nat} {x : Option AV}, optA y d x = some r → d ≤ y → r ≤ y := fun {y d r x} h hd => by
   cases x with
   | none => simp [optA] at h; omega
   | some x => exact bl (by simpa [optA] using h)
 unfold boundsA at hb
 cases mx with
 | none =>
   simp only at hb
   cases hh : optA q n hi with
   | none => simp [hh] at hb
   | some hv =>
     simp only [hh] at hb
     cases hl : optA hv 0 lo with
     | none => simp [hl] at hb
     | some lv =>
       simp only [hl, Option.some.injEq, Prod.mk.injEq] at hb
       obtain ⟨rfl, rfl, rfl⟩ := hb
       exact ⟨ol hl (Nat.zero_le _), ol hh hn, fun _ => rfl, ol hh hn, Nat.le_refl _⟩
 | some x =>
   simp only at hb
   cases hm : bndA q x with
   | none => simp [hm] at hb
   | some mv =>
     cases hi with
     | none => simp [hm] at hb
     | some y =>
       simp only [hm] at hb
       cases hh : bndA mv y with
       | none => simp [hh] at hb
       | some hv =>
         simp only [hh] at hb
         cases hl : optA hv 0 lo with
         | none => simp [hl] at hb
         | some lv =>
           simp only [hl, Option.some.injEq, Prod.mk.injEq] at hb
           obtain ⟨rfl, rfl, rfl⟩ := hb
           exact ⟨ol hl (Nat.zero_le _), Nat.le_trans (bl hh) (bl hm), fun h => by simp at h, bl hh, bl hm⟩
theorem boundsA_mono {n q c l h m : Nat} {lo hi mx : Option AV} (hb : boundsA n q lo hi mx = some (l, h, m)) (hn : n ≤ q) (hc : q ≤ c) :
   boundsA n c lo hi mx = some (l, h, if mx.isNone then c else m) ∧ l ≤ h ∧ h ≤ q ∧ (mx.isNone = true → m = q) ∧ h ≤ m ∧ m ≤ q := by
 refine ⟨?_, boundsA_in hb hn⟩
 unfold boundsA at hb ⊢
 cases mx with
 | none =>
   dsimp only at hb ⊢
   have hopt : ∀ {r}, optA q n hi = some r → optA c n hi = some r := fun {r} h => by
     cases hi with
     | none => exact h
     | some y => exact bndA_mono h hc
   cases hh : optA q n hi with
   | none => simp [hh] at hb
   | some hv =>
     rw [hopt hh]
     simp only [hh] at hb
     dsimp only
     cases hl : optA hv 0 lo with
     | none => simp [hl] at hb
     | some lv => simp only [hl, Option.some.injEq, Prod.mk.injEq] at hb ⊢; simp [hb]
 | some x =>
   cases hm : bndA q x with
   | none => simp [hm] at hb
   | some mv =>
     dsimp only
     rw [bndA_mono hm hc]
     simp only [hm] at hb
     simp only [Option.isNone_some, Bool.false_eq_true, if_false]
     exact hb
def vopt : Option AV → Option (Option Value)
 | none => some none
 | some x => match x.val? with | some u => some (some u) | none => none
theorem vopt_sound {ρ : Env} {x : Option AV} {u : Option Value} {r : Option Value} (h : vopt x = some r) (hx : OR ρ x u) : u = r := by
 cases hx with
 | no => simpa [vopt] using h
 | yes e =>
   rename_i y v
   simp only [vopt] at h
   cases hv : y.val? with
   | none => rw [hv] at h; cases h
   | some z => rw [hv] at h; simp at h; rw [← h, AV.val?_VR hv e]
def sliceA (P : Program) (t : TypeId) (x : AV) (lo hi mx : Option AV) : Option AV :=
 match P.underlying t with
 | some (.array n e) =>
   match x, P.info? e, boundsA n n lo hi mx with
   | .ptr i o, some ie, some (l, h, m) => some (.sl i (cond (Nat.beq m l) o (o + l * ie.size)) (h - l) (m - l))
   | _, _, _ => none
 | some (.slice e) =>
   match x, P.info? e with
   | .sl i o n c, some ie =>
     match boundsA n c lo hi mx with
     | some (l, h, m) => some (.sl i (cond (Nat.beq m l) o (o + l * ie.size)) (h - l) (m - l))
     | none => none
   | .su i o n k q, some ie =>
     match boundsA n q lo hi mx with
     | some (l, h, m) =>
       match mx with
       | none => cond (Nat.beq l 0) (some (.su i o h k q)) (cond (Nat.blt l q) (some (.su i (o + l * ie.size) (h - l) (k + l) (q - l))) (some .se))
       | some _ => some (.sl i (cond (Nat.beq m l) o (o + l * ie.size)) (h - l) (m - l))
     | none => none
   | .se, some _ =>
     match mx, boundsA 0 0 lo hi none with
     | none, some _ => some .se
     | _, _ => none
   | .v (.slice none 0 0), some _ =>
     match boundsA 0 0 lo hi mx with
     | some _ => some (.v (.slice none 0 0))
     | none => none
   | _, _ => none
 | some .string =>
   match x, vopt lo, vopt hi, vopt mx with
   | .v u, some a, some b, some c => (pureRun P (Instr.sliceAt t u a b c)).map ofV
   | _, _, _, _ => none
 | _ => none
theorem beq_dec (a b : Nat) : Nat.beq a b = decide (a = b) := by rw [Bool.eq_iff_iff]; simp [Nat.beq_eq]
theorem cond_addr (b o m l k : Nat) : (if m = l then (⟨b, o, none⟩ : Addr) else (⟨b, o, none⟩ : Addr).add (l * k)) = ⟨b, cond (Nat.beq m l) o (o + l * k), none⟩ := by
 rw [beq_dec]
 by_cases h : m = l <;> simp [h, Addr.add_lit]
theorem sliceA_sound {P : Program} {ρ : Env} {t : TypeId} {x y : AV} {lo hi mx : Option AV} {u : Value} {lo' hi' mx' : Option Value} (h : sliceA P t x lo hi mx = some y)
   (hx : VR ρ x u) (h1 : OR ρ lo lo') (h2 : OR ρ hi hi') (h3 : OR ρ mx mx') : ∃ v, VR ρ y v ∧ ∀ w, (Instr.sliceAt t u lo' hi' mx').run P w = .ok v w := by
 unfold sliceA at h
 split at h
 · rename_i n e hu
   split at h
   · rename_i i o ie l hh m hie hb
     cases hx with
     | ptr _ hi' =>
       simp only [Option.some.injEq] at h
       subst h
       have hr := (boundsA_sound (P := P) hb h1 h2 h3 false).1
       refine ⟨_, .sl _ _ _ hi', fun w => ?_⟩
       unfold Instr.sliceAt
       simp only [Sem.run_bind, run_underlying hu, Result.andThen_ok, Instr.sureAddr, Sem.run_pure, hr, run_sizeOf hie]
       rw [cond_addr]
   · cases h
 · rename_i e hu
   have hat : Instr.sliceAt t u lo' hi' mx' = (do match ← underlying t with
     | .array n elem =>
       let a ← Instr.sureAddr u
       let (l, h, m) ← Instr.sliceBounds false n n lo' hi' mx'
       let size ← sizeOf elem
       pure (.slice (some (if m = l then a else a.add (l * size))) (h - l) (m - l))
     | _ => Instr.slice t u lo' hi' mx') := rfl
   have key : ∀ {bs : Option Addr} {n c : Nat} {ie : TypeInfo} {r : Nat × Nat × Nat}, P.info? e = some ie → u = .slice bs n c → (∀ w, (Instr.sliceBounds true n c lo' hi' mx').run P w = .ok r w) →
       ∀ w, (Instr.sliceAt t u lo' hi' mx').run P w = .ok (.slice (if r.2.2 = r.1 then bs else bs.map (·.add (r.1 * ie.size))) (r.2.1 - r.1) (r.2.2 - r.1)) w := by
     intro bs n c ie r hie hue hr w
     subst hue
     obtain ⟨l, hh, m⟩ := r
     rw [hat]
     unfold Instr.slice
     simp only [Sem.run_bind, run_underlying hu, Result.andThen_ok, hr, run_sizeOf hie, Sem.run_pure]
   split at h
   · rename_i i o n c ie hie
     split at h
     · rename_i l hh m hb
       simp only [Option.some.injEq] at h
       subst h
       cases hx with
       | sl _ _ _ hi' =>
         have hr := (boundsA_sound (P := P) hb h1 h2 h3 true).1
         refine ⟨_, .sl _ _ _ hi', fun w => ?_⟩
         rw [key hie rfl hr w]
         simp only [Option.map_some, ← cond_addr]
         by_cases e : m = l <;> simp [e]
     · cases h
   · rename_i i o n k q ie hie
     split at h
     · rename_i l hh m hb
       cases hx with
       | @su _ b c _ _ _ _ hi' hn =>
         obtain ⟨hb', hlh, hhn, hmn, hhm, hmn'⟩ := boundsA_mono hb hn.1 hn.2
         have hr := (boundsA_sound (P := P) hb' h1 h2 h3 true).1
         have hk := key hie rfl hr
         split at h
         · simp only [Option.isNone_none, if_true] at hk
           rw [beq_dec] at h
           by_cases hl : l = 0
           · subst hl
             simp at h
             subst h
             refine ⟨_, .su o hh k q hi' ⟨by omega, by omega⟩, fun w => ?_⟩
             rw [hk w]
             simp [Addr.add_zero']
           · simp only [hl, decide_false, cond_false] at h
             cases hln : Nat.blt l q with
             | true =>
               simp only [hln, cond_true, Option.some.injEq] at h
               have hlt : l < q := by simpa [Nat.blt_eq] using hln
               subst h
               refine ⟨_, .su (o + l * ie.size) (hh - l) (k + l) (q - l) hi' ⟨by omega, by omega⟩, fun w => ?_⟩
               rw [hk w]
               have hne : ¬ (c - k = l) := by omega
               simp [hne, Addr.add_lit, Nat.sub_sub]
             | false =>
               simp only [hln, cond_false, Option.some.injEq] at h
               have hge : q ≤ l := by
                 have : ¬ l < q := by intro hlt; have := Nat.blt_eq.symm ▸ hlt; rw [hln] at this; cases this
                 omega
               subst h
               have hz : hh - l = 0 := by omega
               refine ⟨.slice (some (if c - k = l then ⟨b, o, none⟩ else (⟨b, o, none⟩ : Addr).add (l * ie.size))) 0 (c - k - l), .se _ _, fun w => ?_⟩
               rw [hk w]
               simp only [hz, Option.map_some]
               by_cases e : c - k = l <;> simp [e]
         · simp only [Option.isNone_some, Bool.false_eq_true, if_false] at hk
           simp only [Option.some.injEq] at h
           subst h
           refine ⟨_, .sl _ _ _ hi', fun w => ?_⟩
           rw [hk w]
           simp only [Option.map_some, ← cond_addr]
           by_cases e : m = l <;> simp [e]
     · cases h
   · rename_i ie hie
     split at h
     · rename_i r hb
       simp only [Option.some.injEq] at h
       subst h
       cases hx with
       | se a c =>
         cases h3
         obtain ⟨l, hh, m⟩ := r
         obtain ⟨hb', hlh, hhn, hmn, hhm, hmn'⟩ := boundsA_mono hb (Nat.le_refl 0) (Nat.zero_le c)
         have hr := (boundsA_sound (P := P) hb' h1 h2 .no true).1
         obtain rfl : l = 0 := by omega
         obtain rfl : hh = 0 := by omega
         refine ⟨.slice (some a) 0 c, .se _ _, fun w => ?_⟩
         rw [key hie rfl hr w]
         simp [Addr.add_zero']
     · cases h
   · rename_i ie hie
     split at h
     · rename_i r hb
       simp only [Option.some.injEq] at h
       subst h
       cases hx
       obtain ⟨l, hh, m⟩ := r
       obtain ⟨_, hlh, hhn, hmn, hhm, hmn'⟩ := boundsA_mono hb (Nat.le_refl 0) (Nat.le_refl 0)
       have hr := (boundsA_sound (P := P) hb h1 h2 h3 true).1
       obtain rfl : l = 0 := by omega
       obtain rfl : hh = 0 := by omega
       obtain rfl : m = 0 := by omega
       refine ⟨_, .v _, fun w => ?_⟩
       rw [key hie rfl hr w]
       simp
     · cases h
   · cases h
 · rename_i hu
   split at h
   · rename_i u' a b c ha hb hc
     cases hx
     obtain rfl := vopt_sound ha h1
     obtain rfl := vopt_sound hb h2
     obtain rfl := vopt_sound hc h3
     simp only [Option.map_eq_some_iff] at h
     obtain ⟨v, hv, rfl⟩ := h
     exact ⟨v, ofV_VR v, fun w => pureRun_run w hv⟩
   · cases h
 · cases h
end
noncomputable section
def fieldA (P : Program) (t : TypeId) (x : AV) (f : Nat) : Option AV :=
 match P.underlying t, x with
 | some (.struct fs), .agg l => match fs[f]? with | some fd => partA P fd.type l fd.offset | none => none
 | _, _ => none
theorem fieldA_sound {P : Program} {ρ : Env} {t : TypeId} {x y : AV} {f : Nat} {u : Value} (h : fieldA P t x f = some y) (hx : VR ρ x u) : ∃ v, VR ρ y v ∧ ∀ w, (Instr.field t u f).run P w = .ok v w := by
 unfold fieldA at h
 split at h
 · rename_i fs l hu
   split at h
   · rename_i fd hf
     cases hx with
     | agg e =>
       obtain ⟨v, hv, hr⟩ := partA_sound h e
       refine ⟨v, hv, fun w => ?_⟩
       unfold Instr.field
       simp [run_underlying hu, hf, asAgg, hr]
   · cases h
 · cases h
def indexA (P : Program) (t : TypeId) (x i : AV) : Option AV :=
 match i, x with
 | .v (.int _ n), .agg l =>
   match P.underlying t with
   | some (.array len e) => cond (decide (0 ≤ n) && decide (n < len)) (match P.info? e with | some ie => partA P e l (n.toNat * ie.size) | none => none) none
   | _ => none
 | .v (.int k n), .v (.string s) => (pureRun P (Instr.index t (.string s) (.int k n))).map ofV
 | _, _ => none
theorem indexA_sound {P : Program} {ρ : Env} {t : TypeId} {x i y : AV} {u j : Value} (h : indexA P t x i = some y) (hx : VR ρ x u) (hi : VR ρ i j) : ∃ v, VR ρ y v ∧ ∀ w, (Instr.index t u j).run P w = .ok v w := by
 unfold indexA at h
 split at h
 · rename_i k n l
   split at h
   · rename_i len e hu
     cases hc : (decide (0 ≤ n) && decide (n < (len : Int))) with
     | false => simp [hc] at h
     | true =>
       simp only [hc, cond_true] at h
       simp only [Bool.and_eq_true, decide_eq_true_eq] at hc
       split at h
       · rename_i ie hie
         cases hx with
         | agg el =>
           cases hi
           obtain ⟨v, hv, hr⟩ := partA_sound h el
           refine ⟨v, hv, fun w => ?_⟩
           unfold Instr.index
           simp [asIntOf, run_underlying hu, hc, run_sizeOf hie, hr]
       · cases h
   · cases h
 · rename_i k n s
   cases hx; cases hi
   simp only [Option.map_eq_some_iff] at h
   obtain ⟨v, hv, rfl⟩ := h
   exact ⟨v, ofV_VR v, fun w => pureRun_run w hv⟩
 · cases h
def fieldAddrA (P : Program) (s : TypeId) (x : AV) (f : Nat) : Option AV :=
 match P.underlying s, x with
 | some (.struct fs), .ptr i o => match fs[f]? with
   | some fd => match P.info? fd.type with
     | some ie => cond (Nat.beq ie.size 0) none (some (.ptr i (o + fd.offset)))
     | none => none
   | none => none
 | _, _ => none
theorem fieldAddrA_sound {P : Program} {ρ : Env} {t : TypeId} {x y : AV} {f : Nat} {u : Value} (h : fieldAddrA P t x f = some y) (hx : VR ρ x u) : ∃ v, VR ρ y v ∧ ∀ w, (Instr.fieldAt t u f).run P w = .ok v w := by
 unfold fieldAddrA at h
 split at h
 · rename_i fs i o hu
   split at h
   · rename_i fd hf
     split at h
     · rename_i ie hie
       rw [beq_dec] at h
       by_cases hz : ie.size = 0
       · simp [hz] at h
       · simp only [hz, decide_false, cond_false, Option.some.injEq] at h
         subst h
         cases hx with
         | ptr _ e =>
           refine ⟨_, .ptr _ e, fun w => ?_⟩
           unfold Instr.fieldAt fieldPlace
           simp [run_underlying hu, hf, Instr.sureAddr, run_sizeOf hie, hz, Addr.add_lit]
     · cases h
   · cases h
 · cases h
def indexAddrA (P : Program) (t : TypeId) (x i : AV) : Option AV :=
 match i, P.underlying t with
 | .v (.int _ n), some (.array len e) =>
   match x, P.info? e with
   | .ptr j o, some ie => cond (decide (0 ≤ n) && decide (n < len)) (some (.ptr j (o + n.toNat * ie.size))) none
   | _, _ => none
 | .v (.int _ n), some (.slice e) =>
   match x, P.info? e with
   | .sl j o len _, some ie => cond (decide (0 ≤ n) && decide (n < len)) (some (.ptr j (o + n.toNat * ie.size))) none
   | .su j o len _ _, some ie => cond (decide (0 ≤ n) && decide (n < len)) (some (.ptr j (o + n.toNat * ie.size))) none
   | _, _ => none
 | _, _ => none
theorem indexAddrA_sound {P : Program} {ρ : Env} {t : TypeId} {x i y : AV} {u j : Value} (h : indexAddrA P t x i = some y) (hx : VR ρ x u) (hi : VR ρ i j) : ∃ v, VR ρ y v ∧ ∀ w, (Instr.indexAt t u j).run P w = .ok v w := by
 unfold indexAddrA at h
 split at h
 · rename_i k n len e hu
   cases hi
   split at h
   · rename_i i' o ie hie
     cases hc : (decide (0 ≤ n) && decide (n < (len : Int))) with
     | false => simp [hc] at h
     | true =>
       simp only [hc, cond_true, Option.some.injEq] at h
       simp only [Bool.and_eq_true, decide_eq_true_eq] at hc
       subst h
       cases hx with
       | ptr _ e' =>
         refine ⟨_, .ptr _ e', fun w => ?_⟩
         unfold Instr.indexAt
         simp [asIntOf, run_underlying hu, Instr.sureAddr, hc, run_sizeOf hie, Addr.add_lit]
   · cases h
 · rename_i k n e hu
   cases hi
   split at h
   · rename_i i' o len c ie hie
     cases hc : (decide (0 ≤ n) && decide (n < (len : Int))) with
     | false => simp [hc] at h
     | true =>
       simp only [hc, cond_true, Option.some.injEq] at h
       simp only [Bool.and_eq_true, decide_eq_true_eq] at hc
       subst h
       cases hx with
       | sl _ _ _ e' =>
         refine ⟨_, .ptr _ e', fun w => ?_⟩
         unfold Instr.indexAt
         simp [asIntOf, run_underlying hu, hc, run_sizeOf hie, Addr.add_lit]
   · rename_i i' o len c q ie hie
     cases hc : (decide (0 ≤ n) && decide (n < (len : Int))) with
     | false => simp [hc] at h
     | true =>
       simp only [hc, cond_true, Option.some.injEq] at h
       simp only [Bool.and_eq_true, decide_eq_true_eq] at hc
       subst h
       cases hx with
       | su _ _ _ _ e' _ =>
         refine ⟨_, .ptr _ e', fun w => ?_⟩
         unfold Instr.indexAt
         simp [asIntOf, run_underlying hu, hc, run_sizeOf hie, Addr.add_lit]
   · cases h
 · cases h
def nilA : AV → Option (Nat × Bool)
 | .v (.pointer none) => some (0, true)
 | .v (.slice none _ _) => some (1, true)
 | .v (.map none) => some (2, true)
 | .v .nilFunc => some (3, true)
 | .v .nilIface => some (4, true)
 | .ptr _ _ => some (0, false)
 | .sl .. => some (1, false)
 | .su .. => some (1, false)
 | .se => some (1, false)
 | .mp _ => some (2, false)
 | .fn .. => some (3, false)
 | .yl _ => some (3, false)
 | .ifc .. => some (4, false)
 | _ => none
def kindA : TypeDesc → Option Nat
 | .pointer _ => some 0
 | .slice _ => some 1
 | .map .. => some 2
 | .func .. => some 3
 | .interface _ => some 4
 | _ => none
def kNo : IntKind → Nat | .i8 => 0 | .i16 => 1 | .i32 => 2 | .i64 => 3 | .u8 => 4 | .u16 => 5 | .u32 => 6 | .u64 => 7
theorem kNo_inj {a b : IntKind} (h : Nat.beq (kNo a) (kNo b) = true) : a = b := by cases a <;> cases b <;> first | rfl | (simp [kNo] at h)
def limK : IntKind → Nat | .i8 => 128 | .i16 => 32768 | .i32 => 2147483648 | .i64 => 9223372036854775808 | .u8 => 256 | .u16 => 65536 | .u32 => 4294967296 | .u64 => 18446744073709551616
theorem wrap_lim {k : IntKind} {n : Nat} (h : Nat.blt n (limK k) = true) : k.wrap (n : Int) = n := by
 rw [Nat.blt_eq] at h
 cases k <;> simp only [limK] at h <;> simp only [IntKind.wrap, IntKind.bits, IntKind.signed] <;> simp <;> omega
def keepK (k : IntKind) (n : Nat) : Option Value := cond (Nat.blt n (limK k)) (some (.int k (.ofNat n))) none
theorem keepK_eq {k : IntKind} {n : Nat} {r : Value} (h : keepK k n = some r) : r = .int k (k.wrap (n : Int)) := by
 unfold keepK at h
 cases hb : Nat.blt n (limK k) with
 | false => simp [hb] at h
 | true =>
   simp only [hb, cond_true, Option.some.injEq] at h
   rw [wrap_lim hb, ← h]; rfl
def natOp (op : BinOp) (k : IntKind) (m n : Nat) : Option Value :=
 match op with
 | .add => keepK k (Nat.add m n)
 | .sub => cond (Nat.ble n m) (keepK k (Nat.sub m n)) none
 | .mul => keepK k (Nat.mul m n)
 | .quo => cond (Nat.beq n 0) none (keepK k (Nat.div m n))
 | .rem => cond (Nat.beq n 0) none (some (.int k (.ofNat (Nat.mod m n))))
 | .eql => some (.bool (Nat.beq m n))
 | .neq => some (.bool (cond (Nat.beq m n) false true))
 | .lss => some (.bool (Nat.blt m n))
 | .leq => some (.bool (Nat.ble m n))
 | .gtr => some (.bool (Nat.blt n m))
 | .geq => some (.bool (Nat.ble n m))
 | _ => none
theorem natOp_eq {P : Program} {op : BinOp} {t : TypeId} {x y : Operand} {k : IntKind} {m n : Nat} {r : Value} (h : natOp op k m n = some r) (w : World) :
   (do eqGuard op t x y (.int k (.ofNat m)) (.int k (.ofNat n)); binOp op t (.int k (.ofNat m)) (.int k (.ofNat n)) : Sem Value).run P w = .ok r w := by
 have hg : ∀ op, (eqGuard op t x y (.int k (.ofNat m)) (.int k (.ofNat n))).run P w = .ok () w := by
   intro op; unfold eqGuard; cases op <;> rfl
 simp only [Sem.run_bind, hg, Result.andThen_ok]
 cases op <;> simp only [natOp] at h <;> try (cases h; done)
 case add => 
   rw [keepK_eq h]; unfold binOp; simp [Op.intArith]
 case sub => 
   cases hb : Nat.ble n m with
   | false => simp [hb] at h
   | true =>
     simp only [hb, cond_true] at h
     rw [Nat.ble_eq] at hb
     rw [keepK_eq h]; unfold binOp; simp [Op.intArith, Int.ofNat_sub hb]
 case mul => rw [keepK_eq h]; unfold binOp; simp [Op.intArith]
 case quo =>
   cases hb : Nat.beq n 0 with
   | true => simp [hb] at h
   | false =>
     simp only [hb, cond_false] at h
     have hn : n ≠ 0 := fun e => by subst e; cases hb
     rw [keepK_eq h]; unfold binOp; simp [Op.intDiv, hn]; rfl
 case rem =>
   cases hb : Nat.beq n 0 with
   | true => simp [hb] at h
   | false =>
     simp only [hb, cond_false, Option.some.injEq] at h
     have hn : n ≠ 0 := fun e => by subst e; cases hb
     rw [← h]; unfold binOp; simp [Op.intDiv, hn]; rfl
 all_goals
   simp only [Option.some.injEq] at h
   rw [← h]; unfold binOp; simp [Op.intCmp]
   rw [Bool.eq_iff_iff]; simp [Nat.beq_eq, Nat.blt_eq, Nat.ble_eq, ← Bool.not_eq_true]
 all_goals omega
def intB (op : BinOp) (a b : AV) : Option Value :=
 match a with
 | .v (.int k (.ofNat m)) => (match b with
   | .v (.int k' (.ofNat n)) => cond (Nat.beq (kNo k) (kNo k')) (natOp op k m n) none
   | _ => none)
 | _ => none
theorem intB_sound {P : Program} {ρ : Env} {op : BinOp} {t : TypeId} {x y : Operand} {a b : AV} {r u v : Value} (h : intB op a b = some r) (hx : VR ρ a u) (hy : VR ρ b v) (w : World) :
   (do eqGuard op t x y u v; binOp op t u v : Sem Value).run P w = .ok r w := by
 unfold intB at h
 split at h
 · rename_i k m
   split at h
   · rename_i k' n
     cases hx; cases hy
     cases hc : Nat.beq (kNo k) (kNo k') with
     | false => simp [hc] at h
     | true =>
       simp only [hc, cond_true] at h
       obtain rfl := kNo_inj hc
       exact natOp_eq h w
   · cases h
 · cases h
def binG (P : Program) (op : BinOp) (t : TypeId) (x y : Operand) (a b : AV) : Option AV :=
 match a.val?, b.val? with
 | some u, some v => (pureRun P (do eqGuard op t x y u v; binOp op t u v)).map ofV
 | _, _ =>
   match nilA a, nilA b, (P.underlying t).bind kindA with
   | some (j, m), some (k, n), some q =>
     cond (Nat.beq j k && Nat.beq k q && xor m n) (match op with | .eql => some (.v (.bool false)) | .neq => some (.v (.bool true)) | _ => none) none
   | _, _, _ => none
theorem equal_unfold (t : TypeId) (u v : Value) : Op.equal t u v = Op.equalIn (9999 + 1) t u v := rfl
theorem equal_nil {P : Program} {ρ : Env} {t : TypeId} {a b : AV} {u v : Value} {k : Nat} {m n : Bool} {d : TypeDesc} (hu : P.underlying t = some d) (hk : kindA d = some k)
   (ha : nilA a = some (k, m)) (hb : nilA b = some (k, n)) (hmn : xor m n = true) (hx : VR ρ a u) (hy : VR ρ b v) :
   (∀ w, (Op.equal t u v).run P w = .ok false w) ∧ (∀ op x y w, (eqGuard op t x y u v).run P w = .ok () w) ∧ (∀ op w, (op = .eql ∨ op = .neq) → (binOp op t u v).run P w = .ok (.bool (match op with | .neq => true | _ => false)) w) := by
 have key : (∃ ad, u = .pointer (some ad) ∧ v = .pointer none ∧ ∃ e, d = .pointer e) ∨ (∃ ad, u = .pointer none ∧ v = .pointer (some ad) ∧ ∃ e, d = .pointer e) ∨
     (∃ ad l c l' c', u = .slice (some ad) l c ∧ v = .slice none l' c' ∧ ∃ e, d = .slice e) ∨ (∃ ad l c l' c', u = .slice none l' c' ∧ v = .slice (some ad) l c ∧ ∃ e, d = .slice e) ∨
     (∃ r, u = .map (some r) ∧ v = .map none ∧ ∃ e f, d = .map e f) ∨ (∃ r, u = .map none ∧ v = .map (some r) ∧ ∃ e f, d = .map e f) ∨
     (∃ f x y, u = .func f x y ∧ v = .nilFunc ∧ ∃ e g h, d = .func e g h) ∨ (∃ f x y, u = .nilFunc ∧ v = .func f x y ∧ ∃ e g h, d = .func e g h) ∨
     (∃ s x, u = .iface s x ∧ v = .nilIface ∧ ∃ e, d = .interface e) ∨ (∃ s x, u = .nilIface ∧ v = .iface s x ∧ ∃ e, d = .interface e) := by
   unfold nilA at ha hb
   cases d <;> simp [kindA] at hk <;> subst hk
   all_goals
     split at ha <;> simp at ha <;> subst ha <;> split at hb <;> simp at hb <;> subst hb <;> simp at hmn <;> cases hx <;> cases hy <;> simp
 have he : ∀ w, (Op.equal t u v).run P w = .ok false w := by
   intro w
   rw [equal_unfold]
   unfold Op.equalIn
   simp only [Sem.run_bind, run_underlying hu, Result.andThen_ok]
   rcases key with ⟨ad, rfl, rfl, e, rfl⟩ | ⟨ad, rfl, rfl, e, rfl⟩ | ⟨ad, l, c, l', c', rfl, rfl, e, rfl⟩ | ⟨ad, l, c, l', c', rfl, rfl, e, rfl⟩ | ⟨r, rfl, rfl, e, f, rfl⟩ | ⟨r, rfl, rfl, e, f, rfl⟩ |
   ⟨f, x, y, rfl, rfl, e, g, h, rfl⟩ | ⟨f, x, y, rfl, rfl, e, g, h, rfl⟩ | ⟨s, x, rfl, rfl, e, rfl⟩ | ⟨s, x, rfl, rfl, e, rfl⟩
   all_goals rfl
 have hg : ∀ op x y w, (eqGuard op t x y u v).run P w = .ok () w := by
   intro op x y w
   rcases key with ⟨ad, rfl, rfl, e, rfl⟩ | ⟨ad, rfl, rfl, e, rfl⟩ | ⟨ad, l, c, l', c', rfl, rfl, e, rfl⟩ | ⟨ad, l, c, l', c', rfl, rfl, e, rfl⟩ | ⟨r, rfl, rfl, e, f, rfl⟩ | ⟨r, rfl, rfl, e, f, rfl⟩ |
   ⟨f, x, y, rfl, rfl, e, g, h, rfl⟩ | ⟨f, x, y, rfl, rfl, e, g, h, rfl⟩ | ⟨s, x, rfl, rfl, e, rfl⟩ | ⟨s, x, rfl, rfl, e, rfl⟩
   all_goals
     unfold eqGuard
     cases op <;> rfl
 refine ⟨he, hg, fun op w ho => ?_⟩
 rcases ho with rfl | rfl
 · rcases key with ⟨ad, rfl, rfl, e, rfl⟩ | ⟨ad, rfl, rfl, e, rfl⟩ | ⟨ad, l, c, l', c', rfl, rfl, e, rfl⟩ | ⟨ad, l, c, l', c', rfl, rfl, e, rfl⟩ | ⟨r, rfl, rfl, e, f, rfl⟩ | ⟨r, rfl, rfl, e, f, rfl⟩ |
   ⟨f, x, y, rfl, rfl, e, g, h, rfl⟩ | ⟨f, x, y, rfl, rfl, e, g, h, rfl⟩ | ⟨s, x, rfl, rfl, e, rfl⟩ | ⟨s, x, rfl, rfl, e, rfl⟩
   all_goals
     show (do pure (Value.bool (← Op.equal t _ _)) : Sem Value).run P w = _
     simp only [Sem.run_bind, he, Result.andThen_ok, Sem.run_pure]
 · rcases key with ⟨ad, rfl, rfl, e, rfl⟩ | ⟨ad, rfl, rfl, e, rfl⟩ | ⟨ad, l, c, l', c', rfl, rfl, e, rfl⟩ | ⟨ad, l, c, l', c', rfl, rfl, e, rfl⟩ | ⟨r, rfl, rfl, e, f, rfl⟩ | ⟨r, rfl, rfl, e, f, rfl⟩ |
   ⟨f, x, y, rfl, rfl, e, g, h, rfl⟩ | ⟨f, x, y, rfl, rfl, e, g, h, rfl⟩ | ⟨s, x, rfl, rfl, e, rfl⟩ | ⟨s, x, rfl, rfl, e, rfl⟩
   all_goals
     show (do pure (Value.bool (!(← Op.equal t _ _))) : Sem Value).run P w = _
     simp only [Sem.run_bind, he, Result.andThen_ok, Sem.run_pure, Bool.not_false]
theorem binG_sound {P : Program} {ρ : Env} {op : BinOp} {t : TypeId} {x y : Operand} {a b z : AV} {u v : Value} (h : binG P op t x y a b = some z) (hx : VR ρ a u) (hy : VR ρ b v) :
   ∃ r, VR ρ z r ∧ ∀ w, (do eqGuard op t x y u v; binOp op t u v : Sem Value).run P w = .ok r w := by
 unfold binG at h
 split at h
 · rename_i u' v' hu hv
   obtain rfl := AV.val?_VR hu hx
   obtain rfl := AV.val?_VR hv hy
   simp only [Option.map_eq_some_iff] at h
   obtain ⟨r, hr, rfl⟩ := h
   exact ⟨r, ofV_VR r, fun w => pureRun_run w hr⟩
 · split at h
   · rename_i j m k n q ha hb hq
     cases hc : (Nat.beq j k && Nat.beq k q && xor m n) with
     | false => simp [hc] at h
     | true =>
       simp only [hc, cond_true] at h
       simp only [Bool.and_eq_true, Nat.beq_eq] at hc
       obtain ⟨⟨rfl, rfl⟩, hmn⟩ := hc
       simp only [Option.bind_eq_some_iff] at hq
       obtain ⟨d, hd, hk⟩ := hq
       obtain ⟨h1, h2, h3⟩ := equal_nil hd hk ha hb hmn hx hy
       split at h
       · simp at h; subst h
         exact ⟨_, .v _, fun w => by simp [h2, h3 .eql w (.inl rfl)]⟩
       · simp at h; subst h
         exact ⟨_, .v _, fun w => by simp [h2, h3 .neq w (.inr rfl)]⟩
       · cases h
   · cases h
def strB (op : BinOp) (a b : AV) : Option Value :=
 match a with
 | .v (.string x) => (match b with
   | .v (.string y) => (match op with
     | .eql => some (.bool (eqU x.data.toList y.data.toList))
     | .neq => some (.bool (cond (eqU x.data.toList y.data.toList) false true))
     | _ => none)
   | _ => none)
 | _ => none
theorem bytes_eq (x y : ByteArray) : eqU x.data.toList y.data.toList = (x.toList == y.toList) := by
 have e : ∀ z : ByteArray, z.toList = z.data.toList := fun z => ByteArray.toList_mk z.data.toList
 rw [eqU_eq, e, e, Bool.eq_iff_iff, decide_eq_true_eq, beq_iff_eq]
theorem strB_sound {P : Program} {ρ : Env} {op : BinOp} {t : TypeId} {x y : Operand} {a b : AV} {r u v : Value} (h : strB op a b = some r) (hx : VR ρ a u) (hy : VR ρ b v) (w : World) :
   (do eqGuard op t x y u v; binOp op t u v : Sem Value).run P w = .ok r w := by
 unfold strB at h
 split at h
 · rename_i p
   split at h
   · rename_i q
     cases hx; cases hy
     have hg : ∀ op, (eqGuard op t x y (.string p) (.string q)).run P w = .ok () w := by
       intro op; unfold eqGuard; cases op <;> rfl
     simp only [Sem.run_bind, hg, Result.andThen_ok]
     split at h
     · cases h
       rw [bytes_eq]; unfold binOp; simp [Op.stringOp]
     · cases h
       rw [bytes_eq]; unfold binOp; simp only [Op.stringOp]
       cases p.toList == q.toList <;> rfl
     · cases h
   · cases h
 · cases h
def binA (P : Program) (op : BinOp) (t : TypeId) (x y : Operand) (a b : AV) : Option AV :=
 match intB op a b with
 | some r => some (.v r)
 | none => match strB op a b with
   | some r => some (.v r)
   | none => binG P op t x y a b
theorem binA_sound {P : Program} {ρ : Env} {op : BinOp} {t : TypeId} {x y : Operand} {a b z : AV} {u v : Value} (h : binA P op t x y a b = some z) (hx : VR ρ a u) (hy : VR ρ b v) :
   ∃ r, VR ρ z r ∧ ∀ w, (do eqGuard op t x y u v; binOp op t u v : Sem Value).run P w = .ok r w := by
 unfold binA at h
 split at h
 · rename_i r hr
   cases h
   exact ⟨r, .v r, fun w => intB_sound hr hx hy w⟩
 · split at h
   · rename_i r hr
     cases h
     exact ⟨r, .v r, fun w => strB_sound hr hx hy w⟩
   · exact binG_sound h hx hy
end
noncomputable section
def lenA (P : Program) (t : TypeId) (x : AV) : Option AV :=
 match x with
 | .sl _ _ n _ => match P.underlying t with | some (.slice _) => some (.v (.int .i64 n)) | _ => none
 | .su _ _ n _ _ => match P.underlying t with | some (.slice _) => some (.v (.int .i64 n)) | _ => none
 | .se => match P.underlying t with | some (.slice _) => some (.v (.int .i64 0)) | _ => none
 | .v u => (pureRun P (Builtin.len_ #[t] t #[u])).map ofV
 | .agg _ => match P.underlying t with | some (.array n _) => some (.v (.int .i64 n)) | _ => none
 | _ => none
theorem len_ty {t ty : TypeId} {u : Value} : Builtin.len_ #[t] ty #[u] = Builtin.len_ #[t] t #[u] := rfl
theorem lenA_sound {P : Program} {ρ : Env} {t ty : TypeId} {x y : AV} {u : Value} (h : lenA P t x = some y) (hx : VR ρ x u) : ∃ r, VR ρ y r ∧ ∀ w, (Builtin.len_ #[t] ty #[u]).run P w = .ok r w := by
 unfold lenA at h
 split at h
 · split at h
   · rename_i hu
     simp at h; subst h
     cases hx
     exact ⟨_, .v _, fun w => by unfold Builtin.len_; simp [run_underlying hu, goInt]⟩
   · cases h
 · split at h
   · rename_i hu
     simp at h; subst h
     cases hx
     exact ⟨_, .v _, fun w => by unfold Builtin.len_; simp [run_underlying hu, goInt]⟩
   · cases h
 · split at h
   · rename_i hu
     simp at h; subst h
     cases hx
     exact ⟨_, .v _, fun w => by unfold Builtin.len_; simp [run_underlying hu, goInt]⟩
   · cases h
 · cases hx
   simp only [Option.map_eq_some_iff] at h
   obtain ⟨v, hv, rfl⟩ := h
   exact ⟨v, ofV_VR v, fun w => by rw [len_ty]; exact pureRun_run w hv⟩
 · split at h
   · rename_i hu
     simp at h; subst h
     cases hx
     exact ⟨_, .v _, fun w => by unfold Builtin.len_; simp [run_underlying hu, goInt]⟩
   · cases h
 · cases h
def capA (P : Program) (t : TypeId) (x : AV) : Option AV :=
 match x with
 | .sl _ _ _ c => match P.underlying t with | some (.slice _) => some (.v (.int .i64 c)) | _ => none
 | .v u => (pureRun P (Builtin.cap_ #[t] t #[u])).map ofV
 | _ => none
theorem cap_ty {t ty : TypeId} {u : Value} : Builtin.cap_ #[t] ty #[u] = Builtin.cap_ #[t] t #[u] := rfl
theorem capA_sound {P : Program} {ρ : Env} {t ty : TypeId} {x y : AV} {u : Value} (h : capA P t x = some y) (hx : VR ρ x u) : ∃ r, VR ρ y r ∧ ∀ w, (Builtin.cap_ #[t] ty #[u]).run P w = .ok r w := by
 unfold capA at h
 split at h
 · split at h
   · rename_i hu
     simp at h; subst h
     cases hx
     exact ⟨_, .v _, fun w => by unfold Builtin.cap_; simp [run_underlying hu, goInt]⟩
   · cases h
 · cases hx
   simp only [Option.map_eq_some_iff] at h
   obtain ⟨v, hv, rfl⟩ := h
   exact ⟨v, ofV_VR v, fun w => by rw [cap_ty]; exact pureRun_run w hv⟩
 · cases h
def unG (P : Program) (op : UnOp) (x : AV) : Option AV := match x.val? with | some u => (pureRun P (Op.unary op u)).map ofV | none => none
def unA (P : Program) (op : UnOp) (x : AV) : Option AV :=
 match x with
 | .v (.bool b) => (match op with | .not => some (.v (.bool (cond b false true))) | _ => unG P op x)
 | _ => unG P op x
theorem unG_sound {P : Program} {ρ : Env} {op : UnOp} {x y : AV} {u : Value} (h : unG P op x = some y) (hx : VR ρ x u) : ∃ v, VR ρ y v ∧ ∀ w, (Op.unary op u).run P w = .ok v w := by
 unfold unG at h
 split at h
 · rename_i u' hu
   obtain rfl := AV.val?_VR hu hx
   simp only [Option.map_eq_some_iff] at h
   obtain ⟨r, hr, rfl⟩ := h
   exact ⟨r, ofV_VR r, fun w => pureRun_run w hr⟩
 · cases h
theorem unA_sound {P : Program} {ρ : Env} {op : UnOp} {x y : AV} {u : Value} (h : unA P op x = some y) (hx : VR ρ x u) : ∃ v, VR ρ y v ∧ ∀ w, (Op.unary op u).run P w = .ok v w := by
 unfold unA at h
 split at h
 · split at h
   · cases h; cases hx
     rename_i b
     exact ⟨_, .v _, fun w => by cases b <;> rfl⟩
   · exact unG_sound h hx
 · exact unG_sound h hx
def convG (P : Program) (s d : TypeId) (x : AV) : Option AV := match x.val? with | some u => (pureRun P (convert s d u)).map ofV | none => none
def convN (P : Program) (s d : TypeId) (x : AV) : Option Value :=
 match x with
 | .v (.int _ (.ofNat n)) => (match P.underlying d with
   | some (.int k) => (match P.underlying s with | some _ => keepK k n | none => none)
   | _ => none)
 | _ => none
def convA (P : Program) (s d : TypeId) (x : AV) : Option AV := match convN P s d x with | some r => some (.v r) | none => convG P s d x
theorem convA_sound {P : Program} {ρ : Env} {s d : TypeId} {x y : AV} {u : Value} (h : convA P s d x = some y) (hx : VR ρ x u) : ∃ v, VR ρ y v ∧ ∀ w, (convert s d u).run P w = .ok v w := by
 unfold convA at h
 split at h
 · rename_i r hr
   cases h
   unfold convN at hr
   split at hr
   · rename_i k0 n
     split at hr
     · rename_i k hd
       split at hr
       · rename_i ds hs
         cases hx
         refine ⟨_, .v _, fun w => ?_⟩
         rw [keepK_eq hr]
         unfold convert
         simp [run_underlying hd, run_underlying hs, Conv.intToInt]
       · cases hr
     · cases hr
   · cases hr
 · unfold convG at h
   split at h
   · rename_i u' hu
     obtain rfl := AV.val?_VR hu hx
     simp only [Option.map_eq_some_iff] at h
     obtain ⟨r, hr, rfl⟩ := h
     exact ⟨r, ofV_VR r, fun w => pureRun_run w hr⟩
   · cases h
def aopP (P : Program) (T : Tr AV) (o : Oper) : Option AV :=
 match o.op with
 | .move x => some (aev T x)
 | .assign x => some (aev T x)
 | .pick c a b => match aev T c with | .v (.bool t) => some (cond t (aev T a) (aev T b)) | _ => none
 | .extract x i => match aev T x with | .tup l => l[i]? | _ => none
 | .field t x f => fieldA P t (aev T x) f
 | .index t x i => indexA P t (aev T x) (aev T i)
 | .nilCheck x => match aev T x with | .ptr i o => some (.ptr i o) | .fn (.func g) l m => some (.fn (.func g) l m) | .ifc t y => some (.ifc t y) | _ => none
 | .binOp op t x y _ => binA P op t x y (aev T x) (aev T y)
 | .unOp op _ x => unA P op (aev T x)
 | .convert s d x => convA P s d (aev T x)
 | .makeInterface t x => match P.underlying t with | some (.interface _) => none | some _ => some (.ifc t (aev T x)) | none => none
 | .makeFunc fn first cap => some (.fn fn (first.toList.map (aev T)) (cap.toList.map (aev T)))
 | .fieldAddr s x f => fieldAddrA P s (aev T x) f
 | .indexAddr t x i => indexAddrA P t (aev T x) (aev T i)
 | .slice t x lo hi mx => sliceA P t (aev T x) (lo.map (aev T)) (hi.map (aev T)) (mx.map (aev T))
 | .build t ps => buildA P t (ps.toList.map fun p => (p.1, aev T p.2))
 | .call ⟨.builtin b, args, ats⟩ =>
   match b, args.toList, ats.toList with
   | .len, [x], [t] => lenA P t (aev T x)
   | .cap, [x], [t] => capA P t (aev T x)
   | .min, l, _ => match vals? (l.map (aev T)) with | some us => (pureRun P (Builtin.min_ ats o.type us.toArray)).map ofV | none => none
   | .max, l, _ => match vals? (l.map (aev T)) with | some us => (pureRun P (Builtin.max_ ats o.type us.toArray)).map ofV | none => none
   | _, _, _ => none
 | _ => none
theorem VRs.map_ev {ρ : Env} {T : Tr AV} {ev : Operand → Value} : ∀ {l : List Operand}, (∀ y ∈ l, VR ρ (aev T y) (ev y)) → VRs ρ (l.map (aev T)) (l.map ev)
 | [], _ => .nil
 | y :: l, h => .cons (h y (by simp)) (map_ev fun z hz => h z (by simp [hz]))
theorem OR.map_ev {ρ : Env} {T : Tr AV} {ev : Operand → Value} {x : Option Operand} (h : ∀ y, x = some y → VR ρ (aev T y) (ev y)) : OR ρ (x.map (aev T)) (x.map ev) := by
 cases x with
 | none => exact .no
 | some y => exact .yes (h y rfl)
theorem arrmap {α β : Type} (f : α → β) (l : Array α) : (l.toList.map f).toArray = l.map f := Array.toList_inj.1 (by simp)
theorem aopP_sound {P : Program} {ρ : Env} {T : Tr AV} {o : Oper} {x : AV} {ev : Operand → Value} (h : aopP P T o = some x) (hev : ∀ y ∈ o.op.operands, VR ρ (aev T y) (ev y)) :
   ∃ v, VR ρ x v ∧ ∀ w, (execOp ev o).run P w = .ok (.value v) w := by
 obtain ⟨dst, op, type, pos, after, guard⟩ := o
 have fin : ∀ {s : Sem Value} {x : AV}, (∃ v, VR ρ x v ∧ ∀ w, s.run P w = .ok v w) → execOp ev ⟨dst, op, type, pos, after, guard⟩ = (do pure (.value (← s))) → ∃ v, VR ρ x v ∧ ∀ w, (execOp ev ⟨dst, op, type, pos, after, guard⟩).run P w = .ok (.value v) w := by
   rintro s x ⟨v, hv, hs⟩ he
   exact ⟨v, hv, fun w => by rw [he]; simp [hs w]⟩
 cases op <;> simp only [aopP] at h <;> try (cases h; done)
 case move y =>
   simp at h; subst h
   exact ⟨_, hev y (by simp [Op.operands]), fun w => rfl⟩
 case assign y =>
   simp at h; subst h
   exact ⟨_, hev y (by simp [Op.operands]), fun w => rfl⟩
 case pick c a b =>
   have hc := hev c (by simp [Op.operands])
   have ha := hev a (by simp [Op.operands])
   have hb := hev b (by simp [Op.operands])
   split at h
   · rename_i t hct
     rw [hct] at hc
     cases hcv : ev c with
     | bool q =>
       rw [hcv] at hc
       cases hc
       simp at h; subst h
       refine ⟨if t then ev a else ev b, ?_, fun w => ?_⟩
       · cases t <;> simpa
       · unfold execOp; simp [hcv, asBool]
     | _ => rw [hcv] at hc; cases hc
   · cases h
 case extract y i =>
   have hy := hev y (by simp [Op.operands])
   split at h
   · rename_i l hl
     rw [hl] at hy
     generalize hu : ev y = u at hy
     cases hy with
     | tup e =>
       obtain ⟨u, hu', hx⟩ := e.get h
       refine ⟨u, hx, fun w => ?_⟩
       unfold execOp
       simp [hu, Instr.extract, hu']
   · cases h
 case field t y f => exact fin (fieldA_sound h (hev y (by simp [Op.operands]))) rfl
 case index t y i => exact fin (indexA_sound h (hev y (by simp [Op.operands])) (hev i (by simp [Op.operands]))) rfl
 case fieldAddr t y f => exact fin (fieldAddrA_sound h (hev y (by simp [Op.operands]))) rfl
 case indexAddr t y i => exact fin (indexAddrA_sound h (hev y (by simp [Op.operands])) (hev i (by simp [Op.operands]))) rfl
 case binOp op t y z yt => exact fin (binA_sound h (hev y (by simp [Op.operands])) (hev z (by simp [Op.operands]))) rfl
 case slice t y lo hi mx =>
   refine fin (sliceA_sound h (hev y (by simp [Op.operands])) (OR.map_ev fun z hz => hev z ?_) (OR.map_ev fun z hz => hev z ?_) (OR.map_ev fun z hz => hev z ?_)) rfl
   all_goals (subst hz; simp [Op.operands])
 case build t ps =>
   refine fin (buildA_sound (qs := ps.map fun p => (p.1, ev p.2)) h (by simp) ?_) rfl
   have : VRs ρ ((ps.toList.map Prod.snd).map (aev T)) ((ps.toList.map Prod.snd).map ev) := VRs.map_ev fun y hy => hev y (by simp [Op.operands] at hy ⊢; exact hy)
   simpa [Function.comp_def] using this
 case nilCheck y =>
   have hy := hev y (by simp [Op.operands])
   generalize hu : ev y = u at hy
   split at h
   · rename_i i o hl
     rw [hl] at hy
     simp at h; subst h
     cases hy with
     | ptr _ e => exact ⟨_, .ptr _ e, fun w => by unfold execOp; simp [hu]⟩
   · rename_i g l m hl
     rw [hl] at hy
     simp at h; subst h
     cases hy with
     | fn _ e e' => exact ⟨_, .fn _ e e', fun w => by unfold execOp; simp [hu]⟩
   · rename_i t z hl
     rw [hl] at hy
     simp at h; subst h
     cases hy with
     | ifc _ e => exact ⟨_, .ifc _ e, fun w => by unfold execOp; simp [hu]⟩
   · cases h
 case unOp op t y => exact fin (unA_sound h (hev y (by simp [Op.operands]))) rfl
 case convert s d y => exact fin (convA_sound h (hev y (by simp [Op.operands]))) rfl
 case makeInterface t y =>
   have hy := hev y (by simp [Op.operands])
   split at h
   · cases h
   · rename_i d hni hd
     simp at h; subst h
     refine fin ⟨_, .ifc t hy, fun w => ?_⟩ rfl
     unfold Instr.makeInterface
     simp only [Sem.run_bind, run_underlying hd, Result.andThen_ok]
     rfl
   · cases h
 case makeFunc fn first cap =>
   simp at h; subst h
   have h1 : VRs ρ (first.toList.map (aev T)) (first.toList.map ev) := VRs.map_ev fun y hy => hev y (by simp [Op.operands]; exact .inl (by simpa using hy))
   have h2 : VRs ρ (cap.toList.map (aev T)) (cap.toList.map ev) := VRs.map_ev fun y hy => hev y (by simp [Op.operands]; exact .inr (by simpa using hy))
   refine fin (s := Instr.makeFunc fn (first.map ev) (cap.map ev)) ⟨_, .fn fn h1 h2, fun w => ?_⟩ rfl
   unfold Instr.makeFunc
   simp only [arrmap, Sem.run_pure]
 case call c =>
   obtain ⟨callee, args, ats⟩ := c
   cases callee <;> simp only at h <;> try (cases h; done)
   rename_i b
   have hex : execOp ev ⟨dst, .call ⟨.builtin b, args, ats⟩, type, pos, after, guard⟩ = builtin b ats type (args.map fun | .const _ => true | _ => false) (args.map ev) := rfl
   have harg : VRs ρ (args.toList.map (aev T)) (args.toList.map ev) := VRs.map_ev fun y hy => hev y (by simp [Op.operands, Call.operands]; simpa using hy)
   split at h
   · rename_i y t ha ht
     have ha' : args = #[y] := Array.toList_inj.1 ha
     have ht' : ats = #[t] := Array.toList_inj.1 ht
     subst ha' ht'
     exact fin (lenA_sound (ty := type) h (hev y (by simp [Op.operands, Call.operands]))) (by rw [hex]; simp [builtin])
   · rename_i y t ha ht
     have ha' : args = #[y] := Array.toList_inj.1 ha
     have ht' : ats = #[t] := Array.toList_inj.1 ht
     subst ha' ht'
     exact fin (capA_sound (ty := type) h (hev y (by simp [Op.operands, Call.operands]))) (by rw [hex]; simp [builtin])
   · split at h
     · rename_i us hus
       have := vals?_VR hus harg
       simp only [Option.map_eq_some_iff] at h
       obtain ⟨r, hr, rfl⟩ := h
       exact fin ⟨r, ofV_VR r, fun w => pureRun_run w hr⟩ (by rw [hex, ← this, arrmap]; simp only [builtin])
     · cases h
   · split at h
     · rename_i us hus
       have := vals?_VR hus harg
       simp only [Option.map_eq_some_iff] at h
       obtain ⟨r, hr, rfl⟩ := h
       exact fin ⟨r, ofV_VR r, fun w => pureRun_run w hr⟩ (by rw [hex, ← this, arrmap]; simp only [builtin])
     · cases h
   · cases h
end
end Go.Proofs.YtlmpjdionndncaaGreatDoor.Ev
namespace Go.Proofs.YtlmpjdionndncaaGreatDoor
open Go.RowKit
def Blk (w : World) (b : Nat) (T : TypeId) (l : List Value) : Prop := w.heap[b]? = some (.cells l.toArray T (0, 0))
structure Fr (S : Nat → Prop) (w w' : World) : Prop where
 os : w'.os = w.os
 tape : w'.tape = w.tape
 output : w'.output = w.output
 size : w.heap.size ≤ w'.heap.size
 block : ∀ k, k < w.heap.size → ¬ S k → w'.heap[k]? = w.heap[k]?
def No : Nat → Prop := fun _ => False
theorem No.no (k : Nat) : ¬ No k := fun h => h
theorem Fr.refl (S : Nat → Prop) (w : World) : Fr S w w := ⟨rfl, rfl, rfl, Nat.le_refl _, fun _ _ _ => rfl⟩
theorem Fr.trans {S S' : Nat → Prop} {a b c : World} (h : Fr S a b) (k : Fr S' b c) (hs : ∀ x, S' x → S x ∨ a.heap.size ≤ x) : Fr S a c :=
 ⟨k.os.trans h.os, k.tape.trans h.tape, k.output.trans h.output, Nat.le_trans h.size k.size, fun i hi hn =>
   (k.block i (Nat.lt_of_lt_of_le hi h.size) (fun hx => (hs i hx).elim hn (fun q => by omega))).trans (h.block i hi hn)⟩
theorem Fr.mono {S S' : Nat → Prop} {a b : World} (h : Fr S a b) (hs : ∀ x, S x → S' x) : Fr S' a b :=
 ⟨h.os, h.tape, h.output, h.size, fun i hi hn => h.block i hi (fun hx => hn (hs i hx))⟩
theorem Fr.alloc {S : Nat → Prop} {a w : World} (h : Fr S a w) (o : Obj) : Fr S a (w.alloc o) :=
 h.trans (S' := S) ⟨rfl, rfl, rfl, by simp, fun k hk _ => Below.heap_alloc _ _ _ hk⟩ (fun _ hx => .inl hx)
theorem Fr.drew {S : Nat → Prop} {a w : World} (h : Fr S a w) : Fr S a w.drew := ⟨h.os, h.tape, h.output, h.size, h.block⟩
theorem Fr.drewN {S : Nat → Prop} {a w : World} (h : Fr S a w) (n : Nat) : Fr S a (w.drewN n) := ⟨h.os, h.tape, h.output, h.size, h.block⟩
theorem Fr.setCell {S : Nat → Prop} {a w : World} (h : Fr S a w) {p : Addr} (hp : S p.block ∨ a.heap.size ≤ p.block) (u : Value) : Fr S a (w.setCell p u) :=
 h.trans (S' := fun k => k = p.block) ⟨rfl, rfl, rfl, by simp [World.setCell], fun k _ hn => Below.heap_setCell _ _ _ _ hn⟩ (fun _ hx => by subst hx; exact hp)
theorem Fr.grown {S : Nat → Prop} {a w w' : World} {row : Option Nat} (h : Fr S a w) (hg : w.grownBy w' row) (hr : ∀ k, row = some k → S k ∨ a.heap.size ≤ k) : Fr S a w' :=
 h.trans (S' := fun k => row = some k) ⟨hg.os, hg.tape, hg.output, hg.size, fun k hk hn => hg.block k hk (fun e => hn e.symm)⟩ (fun _ hx => hr _ hx)
theorem Fr.setRow {S : Nat → Prop} {a w : World} (h : Fr S a w) {g : Nat} (hp : S g ∨ a.heap.size ≤ g) (l : Array Value) : Fr S a (w.setRow g l) :=
 h.trans (S' := fun k => k = g) ⟨rfl, rfl, rfl, by simp [World.setRow], fun k _ hn => setRow_other w g k _ hn⟩ (fun _ hx => by subst hx; exact hp)
theorem Fr.heap {S : Nat → Prop} {w w' : World} (h : Fr S w w') {k : Nat} (hk : k < w.heap.size) (hn : ¬ S k) : w'.heap[k]? = w.heap[k]? := h.block k hk hn
theorem Fr.cell {S : Nat → Prop} {w w' : World} (h : Fr S w w') {p : Addr} (hk : p.block < w.heap.size) (hn : ¬ S p.block) : w'.cell? p = w.cell? p := World.cell?_of_block (w := w) (h.block _ hk hn)
theorem Fr.below {w w' : World} (h : Fr No w w') : Below w.heap.size w w' := ⟨h.os, h.tape, h.output, h.size, fun k hk => h.block k hk (No.no k)⟩
theorem Fr.of_below {w w' : World} (h : Below w.heap.size w w') : Fr No w w' := ⟨h.os, h.tape, h.output, h.size, fun k hk _ => h.block k hk⟩
section
variable {w w' : World} {b : Nat} {T : TypeId} {l : List Value}
theorem Blk.lt (h : Blk w b T l) : b < w.heap.size := (Array.getElem?_eq_some_iff.1 h).1
theorem Blk.cell (h : Blk w b T l) {j : Nat} {v : Value} (hj : l[j]? = some v) : w.cell? ⟨b, j, none⟩ = some v := by
 have := cell_of_row w b j l.toArray T (0, 0) h
 rw [this]; simpa using hj
theorem Blk.free (h : Blk w b T l) (j : Nat) : w.frozen? ⟨b, j, none⟩ = false := by
 have h' : w.heap[b]? = some (.cells l.toArray T (0, 0)) := h
 simp [World.frozen?, h']
theorem Blk.inj {T' : TypeId} {l' : List Value} (h : Blk w b T l) (h' : Blk w b T' l') : T = T' ∧ l = l' := by
 have e := h.symm.trans h'
 simp at e
 exact ⟨e.2, e.1⟩
theorem Blk.alloc (h : Blk w b T l) (o : Obj) : Blk (w.alloc o) b T l := (Below.heap_alloc w o b h.lt).trans h
theorem Blk.drew (h : Blk w b T l) : Blk w.drew b T l := h
theorem Blk.new (w : World) (T : TypeId) (l : List Value) : Blk (w.alloc (.cells l.toArray T)) w.heap.size T l := heap_alloc_new w _
theorem Blk.fr {S : Nat → Prop} (h : Blk w b T l) (hf : Fr S w w') (hn : ¬ S b) : Blk w' b T l := (hf.block b h.lt hn).trans h
theorem Blk.other (h : Blk w b T l) {a : Addr} (hn : b ≠ a.block) (v : Value) : Blk (w.setCell a v) b T l := (Below.heap_setCell w a v b hn).trans h
theorem Blk.set (h : Blk w b T l) (j : Nat) (v : Value) : Blk (w.setCell ⟨b, j, none⟩ v) b T (l.set j v) := by
 have h' : w.heap[b]? = some (.cells l.toArray T (0, 0)) := h
 have hb := h.lt
 unfold Blk
 simp only [World.setCell, Array.getElem?_modify]
 rw [h']
 simp
theorem Blk.setRow (h : Blk w b T l) (l' : List Value) : Blk (w.setRow b l'.toArray) b T l' := setRow_heap w b l.toArray l'.toArray T (0, 0) h
end
abbrev Own (w : World) (T : TypeId) (size : Nat) (v : Value) (n : Nat) (xs : List Value) : Prop := w.ownsRow 0 T size v n xs
theorem Own.blk {w : World} {T : TypeId} {size : Nat} {g n cap : Nat} {xs : List Value} (h : Own w T size (.slice (some ⟨g, 0, none⟩) n cap) n xs) :
   ∃ sp, Blk w g T (xs ++ sp) ∧ xs.length = n * size ∧ (xs ++ sp).length = cap * size ∧ n ≤ cap ∧ cap ≤ maxLen := by
 obtain ⟨h1, h2⟩ := h
 rcases h2 with ⟨h2, _⟩ | ⟨g', cap', cur, hv, _, hh, hn, hc, hs, ht⟩
 · cases h2
 · cases hv
   refine ⟨cur.toList.drop (n * size), ?_, h1, ?_, hn, hc⟩
   · unfold Blk
     rw [← ht, List.take_append_drop, Array.toArray_toList]
     exact hh
   · rw [← ht, List.take_append_drop]
     simpa using hs
theorem Own.of_blk {w : World} {T : TypeId} {size : Nat} {g n cap : Nat} {xs sp : List Value} (h : Blk w g T (xs ++ sp)) (h1 : xs.length = n * size) (h2 : (xs ++ sp).length = cap * size) (h3 : n ≤ cap) (h4 : cap ≤ maxLen) :
   Own w T size (.slice (some ⟨g, 0, none⟩) n cap) n xs := by
 refine ⟨h1, .inr ⟨g, cap, (xs ++ sp).toArray, rfl, Nat.zero_le _, h, h3, h4, by simpa using h2, ?_⟩⟩
 simp [← h1]
theorem Own.nil_inv {w : World} {T : TypeId} {size n : Nat} {xs : List Value} (h : Own w T size (.slice none 0 0) n xs) : n = 0 ∧ xs = [] := by
 obtain ⟨h1, h2⟩ := h
 rcases h2 with ⟨_, h2⟩ | ⟨g', cap', cur, hv, _⟩
 · subst h2; exact ⟨rfl, List.eq_nil_of_length_eq_zero (by simpa using h1)⟩
 · cases hv
theorem Own.cases {w : World} {T : TypeId} {size n : Nat} {v : Value} {xs : List Value} (h : Own w T size v n xs) :
   (v = .slice none 0 0 ∧ n = 0 ∧ xs = []) ∨ ∃ g cap, v = .slice (some ⟨g, 0, none⟩) n cap := by
 rcases h.2 with ⟨h2, h3⟩ | ⟨g', cap', cur, hv, _⟩
 · subst h2; exact .inl ⟨rfl, h.nil_inv⟩
 · exact .inr ⟨g', cap', hv⟩
theorem Own.fr {S : Nat → Prop} {w w' : World} {T : TypeId} {size n : Nat} {v : Value} {xs : List Value} (h : Own w T size v n xs) (hf : Fr S w w') (hn : ∀ k, v.ownBlock = some k → ¬ S k) : Own w' T size v n xs := by
 refine ⟨h.1, ?_⟩
 rcases h.2 with h2 | ⟨g, cap, cur, hv, hb, hg, r⟩
 · exact .inl h2
 · refine .inr ⟨g, cap, cur, hv, hb, ?_, r⟩
   rw [hf.block g (Array.getElem?_eq_some_iff.1 hg).1 (hn g (by rw [hv]; rfl))]
   exact hg
theorem Fr.thn {S : Nat → Prop} {a b c : World} (h : Fr S a b) (k : Fr No b c) : Fr S a c := h.trans k (fun _ hx => hx.elim)
theorem Fr.no_any {S : Nat → Prop} {a b : World} (h : Fr No a b) : Fr S a b := h.mono (fun _ hx => hx.elim)
theorem Own.weak {w : World} {B : Nat} {T : TypeId} {size n : Nat} {v : Value} {xs : List Value} (h : w.ownsRow B T size v n xs) : Own w T size v n xs := by
 refine ⟨h.1, ?_⟩
 rcases h.2 with h2 | ⟨g, cap, cur, hv, _, r⟩
 · exact .inl h2
 · exact .inr ⟨g, cap, cur, hv, Nat.zero_le _, r⟩
theorem Own.other {w : World} {T : TypeId} {size n : Nat} {v : Value} {xs : List Value} (h : Own w T size v n xs) {p : Addr} (hp : v.ownBlock ≠ some p.block) (u : Value) : Own (w.setCell p u) T size v n xs :=
 h.fr (S := fun k => k = p.block) ((Fr.refl (fun k => k = p.block) w).setCell (.inl rfl) u) (fun k hk e => hp (by rw [hk, e]))
theorem Own.drew {w : World} {T : TypeId} {size n : Nat} {v : Value} {xs : List Value} (h : Own w T size v n xs) : Own w.drew T size v n xs := h.fr ((Fr.refl No _).drew) (fun _ _ => No.no _)
theorem Own.lt {w : World} {T : TypeId} {size n : Nat} {v : Value} {xs : List Value} (h : Own w T size v n xs) {k : Nat} (hk : v.ownBlock = some k) : k < w.heap.size := (World.ownsRow.lt h k hk).2
theorem splice_step (l : List Value) (o : Nat) (v : Value) (vs : List Value) (h : o + (vs.length + 1) ≤ l.length) :
   (l.set o v).take (o + 1) ++ vs ++ (l.set o v).drop (o + 1 + vs.length) = l.take o ++ (v :: vs) ++ l.drop (o + (v :: vs).length) := by
 have e1 : (l.set o v).take (o + 1) = l.take o ++ [v] := by
   rw [List.take_succ_eq_append_getElem (by simp; omega), List.take_set_of_le (Nat.le_refl _)]
   simp
 have e2 : (l.set o v).drop (o + 1 + vs.length) = l.drop (o + (v :: vs).length) := by
   rw [List.drop_set_of_lt (by omega)]
   congr 1
   simp; omega
 rw [e1, e2]
 simp
theorem Own.alloc {w : World} {T : TypeId} {size n : Nat} {v : Value} {xs : List Value} (h : Own w T size v n xs) (o : Obj) : Own (w.alloc o) T size v n xs := h.fr ((Fr.refl No _).alloc o) (fun _ _ => No.no _)
def AtOr (w : World) (v v' : Value) : Prop := ∀ k, v'.ownBlock = some k → v.ownBlock = some k ∨ w.heap.size ≤ k
theorem AtOr.refl (w : World) (v : Value) : AtOr w v v := fun _ h => .inl h
theorem AtOr.trans {w w' : World} {v v' v'' : Value} (h : AtOr w v v') (h' : AtOr w' v' v'') (hs : w.heap.size ≤ w'.heap.size) : AtOr w v v'' := fun k hk => (h' k hk).elim (h k) (fun q => .inr (Nat.le_trans hs q))
theorem Blk.neOwn {w : World} {b : Nat} {T T' : TypeId} {l xs : List Value} {size n : Nat} {v : Value} (h : Blk w b T l) (h' : Own w T' size v n xs) (hT : T ≠ T') : ∀ k, v.ownBlock = some k → k ≠ b := by
 intro k hk e
 subst e
 rcases h'.cases with ⟨rfl, _⟩ | ⟨g, c, rfl⟩
 · simp [Value.ownBlock] at hk
 · simp [Value.ownBlock] at hk
   subst hk
   obtain ⟨sp, hB, _⟩ := h'.blk
   exact hT (h.inj hB).1
structure Appended (w : World) (T : TypeId) (size : Nat) (v : Value) (n m : Nat) (l : List Value) (v' : Value) (w' : World) : Prop where
 own : Own w' T size v' (n + m) l
 fr : Fr (fun k => v.ownBlock = some k) w w'
 blk : v'.ownBlock = v.ownBlock ∨ ∃ k, v'.ownBlock = some k ∧ w.heap.size ≤ k
 isNil : v' = .slice none 0 0 ↔ v = .slice none 0 0 ∧ m = 0
theorem Appended.some {w w' : World} {T size n m : Nat} {v v' : Value} {l : List Value} (h : Appended w T size v n m l v' w') (hm : 0 < n + m) : ∃ g c, v' = .slice (some ⟨g, 0, none⟩) (n + m) c := by
 rcases h.own.cases with ⟨_, h, _⟩ | h
 · omega
 · exact h
theorem Appended.atOr {w w0 w' : World} {T size n m : Nat} {v v' : Value} {l : List Value} (h : Appended w T size v n m l v' w') (hs : w0.heap.size ≤ w.heap.size) : AtOr w0 v v' := by
 intro k hk
 rcases h.blk with e | ⟨k', e, hk'⟩
 · exact .inl (by rw [← e]; exact hk)
 · rw [e] at hk; cases hk; exact .inr (Nat.le_trans hs hk')
section
variable {P : Program} (w : World)
theorem run_app (t ty e : TypeId) (i : TypeInfo) (z : Value) (size bytes : Nat) (ht : P.underlying t = some (.slice e)) (hi : P.info? e = some i) (hz : i.zero = some z)
   (hsize : i.size = size) (hby : i.bytes = bytes) (hzs : z.cells.size = size)
   (v : Value) (n : Nat) (xs : List Value) (hown : Own w e size v n xs)
   (a : Addr) (m c : Nat) (news : List Value) (hl : news.length = m * size) (hnews : ∀ j u, news[j]? = some u → w.cell? (a.add j) = some u) (h1 : ∀ u ∈ news, u.oneCell' = true)
   (hm : n + m ≤ maxLen) (hbytes : (n + m) * bytes ≤ 140737488355328) :
   ∃ v' w', (Builtin.append_ #[t, t] ty #[v, .slice (some a) m c]).run P w = .ok v' w' ∧ Appended w e size v n m (xs ++ news) v' w' := by
 subst hsize
 subst hby
 have hsmall : n + m ≤ 9223372036854775807 := by simp only [maxLen] at hm; omega
 have grown : ∀ (old : Nat), old < n + m → 
     Blk (w.drew.alloc (.cells (xs.toArray ++ news.toArray ++ Builtin.zeroCells z.cells (grownCap w (n + m) old e - (n + m))) e)) w.heap.size e ((xs ++ news) ++ (Builtin.zeroCells z.cells (grownCap w (n + m) old e - (n + m))).toList) := by
   intro old ho
   have h := Blk.new w.drew e ((xs ++ news) ++ (Builtin.zeroCells z.cells (grownCap w (n + m) old e - (n + m))).toList)
   have e1 : ((xs ++ news) ++ (Builtin.zeroCells z.cells (grownCap w (n + m) old e - (n + m))).toList).toArray = xs.toArray ++ news.toArray ++ Builtin.zeroCells z.cells (grownCap w (n + m) old e - (n + m)) := by
     apply Array.ext'
     simp
   rw [e1] at h
   exact h
 have own : ∀ (old : Nat), old < n + m → 
     Own (w.drew.alloc (.cells (xs.toArray ++ news.toArray ++ Builtin.zeroCells z.cells (grownCap w (n + m) old e - (n + m))) e)) e i.size (.slice (some ⟨w.heap.size, 0, none⟩) (n + m) (grownCap w (n + m) old e)) (n + m) (xs ++ news) := by
   intro old ho
   have hge := grownCap_ge w (n + m) old e
   refine Own.of_blk (grown old ho) (by rw [List.length_append, hown.1, hl, Nat.add_mul]) ?_ hge (grownCap_le_maxLen w _ old e hm)
   rw [List.length_append, List.length_append, hown.1, hl, Array.length_toList, size_zeroCells, hzs, ← Nat.add_mul, ← Nat.add_mul]
   congr 1
   omega
 have fr : ∀ o, Fr (fun k => v.ownBlock = some k) w (w.drew.alloc o) := fun o => ((Fr.refl _ w).drew).alloc o
 rcases hown.cases with ⟨rfl, rfl, rfl⟩ | ⟨g, cap, rfl⟩
 · by_cases h0 : m = 0
   · subst h0
     have hn : news = [] := List.eq_nil_of_length_eq_zero (by simpa using hl)
     subst hn
     refine ⟨.slice none 0 0, w, ?_, ⟨hown, Fr.refl _ _, .inl rfl, by simp⟩⟩
     simp [Builtin.append_, run_underlying ht, sizeOf, typeInfo, hi, Builtin.lenOf, Builtin.firstCells, loadCells, loadCellsFrom]
   · have hr := run_append_nil (P := P) w t ty e i z ht hi hz a m c news hl hnews (by omega) (by omega) (by have hb := hbytes; simp only [Nat.zero_add] at hb; omega)
     have hg := own 0 (by omega)
     simp only [Nat.zero_add, List.nil_append, Array.empty_append] at hg
     refine ⟨_, _, hr, ⟨by simpa using hg, fr _, .inr ⟨_, rfl, Nat.le_refl _⟩, by simp [h0]⟩⟩
 · obtain ⟨sp, hB, hx1, hx2, hn, hc⟩ := hown.blk
   by_cases hroom : n + m ≤ cap
   · have hfit : n * i.size + news.length ≤ (xs ++ sp).length := by rw [hx2, hl, ← Nat.add_mul]; exact Nat.mul_le_mul_right _ hroom
     have hr := run_append_room (P := P) w t ty e i ht hi g n cap (xs ++ sp).toArray hB a m c news hl hnews h1 hroom (by simpa using hfit)
     refine ⟨_, _, hr, ⟨?_, (Fr.refl (fun k => (Value.slice (some ⟨g, 0, none⟩) n cap).ownBlock = some k) w).setRow (g := g) (.inl rfl) _, .inl rfl, by simp⟩⟩
     have e1 : (((xs ++ sp).toArray.toList.take (n * i.size) ++ news ++ (xs ++ sp).toArray.toList.drop (n * i.size + news.length)) : List Value) = (xs ++ news) ++ sp.drop news.length := by
       rw [← hx1]
       simp [List.drop_append]
     rw [e1]
     refine Own.of_blk (hB.setRow _) (by rw [List.length_append, hx1, hl, Nat.add_mul]) ?_ hroom hc
     rw [← hx2]
     simp at hfit ⊢
     omega
   · have hr := run_append_grow (P := P) w t ty e i z ht hi hz ⟨g, 0, none⟩ n cap xs hx1 (hown.cells (g := g) rfl) a m c news hl hnews (by omega) (by omega) (growslice_fits (by omega) hbytes)
     refine ⟨_, _, hr, ⟨own cap (by omega), fr _, .inr ⟨_, rfl, Nat.le_refl _⟩, by simp⟩⟩
theorem wp_app {o : Oper} {a : Act} {K : Act → World → Prop} {Q : Exit → Act → World → Prop} (s x : Operand) (t : TypeId)
   (ho : o.op = .call { callee := .builtin .append, args := #[s, x], argTypes := #[t, t] })
   (e : TypeId) (i : TypeInfo) (z : Value) (size bytes : Nat) (ht : P.underlying t = some (.slice e)) (hi : P.info? e = some i) (hz : i.zero = some z)
   (hsize : i.size = size) (hby : i.bytes = bytes) (hzs : z.cells.size = size)
   (v : Value) (n : Nat) (xs : List Value) (hs : a.eval s = v) (hown : Own w e size v n xs)
   (ad : Addr) (m c : Nat) (news : List Value) (hx : a.eval x = .slice (some ad) m c) (hl : news.length = m * size) (hnews : ∀ j u, news[j]? = some u → w.cell? (ad.add j) = some u) (h1 : ∀ u ∈ news, u.oneCell' = true)
   (hm : n + m ≤ maxLen) (hbytes : (n + m) * bytes ≤ 140737488355328)
   (h : ∀ v' w', Appended w e size v n m (xs ++ news) v' w' → K (a.put o.dst v') w') : o.wp P a w K Q := by
 obtain ⟨v', w', hr, h2⟩ := run_app (P := P) w t o.type e i z size bytes ht hi hz hsize hby hzs v n xs hown ad m c news hl hnews h1 hm hbytes
 unfold Oper.wp execOp
 simp only [ho, resolve, invoke, builtin, Sem.run_bind, Sem.run_pure, Result.andThen_ok, List.map_toArray, List.map_cons, List.map_nil, hs, hx, hr]
 exact h v' w' h2
theorem step_app {ops : Array Oper} {o : Oper} {a : Act} {K : Act → World → Prop} {Q : Exit → Act → World → Prop} {E : Prop} (hgd : o.guard = none) (s x : Operand) (t : TypeId)
   (ho : o.op = .call { callee := .builtin .append, args := #[s, x], argTypes := #[t, t] })
   (e : TypeId) (i : TypeInfo) (z : Value) (size bytes : Nat) (ht : P.underlying t = some (.slice e)) (hi : P.info? e = some i) (hz : i.zero = some z)
   (hsize : i.size = size) (hby : i.bytes = bytes) (hzs : z.cells.size = size)
   (v : Value) (n : Nat) (xs : List Value) (hs : a.eval s = v) (hown : Own w e size v n xs)
   (ad : Addr) (m c : Nat) (news : List Value) (hx : a.eval x = .slice (some ad) m c) (hl : news.length = m * size) (hnews : ∀ j u, news[j]? = some u → w.cell? (ad.add j) = some u) (h1 : ∀ u ∈ news, u.oneCell' = true)
   (hm : n + m ≤ maxLen) (hbytes : (n + m) * bytes ≤ 140737488355328)
   (h : ∀ v' w', Appended w e size v n m (xs ++ news) v' w' → K (a.put o.dst v') w') :
   if Region.wanted o (yielded ops a.tmps) = true then Oper.wp P o a w K Q else E := by
 have hw : Region.wanted o (yielded ops a.tmps) = true := by simp [Region.wanted, hgd]
 rw [if_pos hw]
 exact wp_app w s x t ho e i z size bytes ht hi hz hsize hby hzs v n xs hs hown ad m c news hx hl hnews h1 hm hbytes h
end
end Go.Proofs.YtlmpjdionndncaaGreatDoor
namespace Go.Proofs.YtlmpjdionndncaaGreatDoor.Ev
open Go Go.RowKit
noncomputable section
def tput {α : Type} (t : Tr α) (k : Nat) (v : α) : Tr α := Tr.put t k v
theorem get_tput {α : Type} (t : Tr α) (k : Nat) (v : α) (j : Nat) : (tput t k v).get j = if j = k then some v else t.get j := Tr.get_put _ _ _ _
inductive AB where
 | mem (T : TypeId) (z : Option Nat) (l : Rp)
 | loop (st : LoopState) (pd : Option Code) (fn : FuncId) (nt : Nat) (T : Tr AV) (ps : List Tmp) (asg bd : Code) (d : Nat)
 | dfd (b : Bool)
 | map (l : List (Value × AV × Nat)) (c : Nat)
 | sit (s : ByteArray) (pos : Nat)
 | dead
def AB.live : AB → Bool
 | .dead => false
 | _ => true
def unfrozen (fz : Nat × Nat) (n : Nat) : Prop := fz = (0, 0) ∨ n ≤ fz.1
theorem unfrozen_zero (n : Nat) : unfrozen (0, 0) n := .inl rfl
inductive ERs (ρ : Env) : List (Value × AV × Nat) → List MapEntry → Prop
 | nil : ERs ρ [] []
 | cons {k u : Value} {x : AV} {b : Nat} {l : List (Value × AV × Nat)} {m : List MapEntry} (h : VR ρ x u) (t : ERs ρ l m) : ERs ρ ((k, x, b) :: l) (⟨k, u, b⟩ :: m)
theorem ERs.mono {ρ ρ' : Env} (hl : ρ.le ρ') {l : List (Value × AV × Nat)} {m : List MapEntry} (h : ERs ρ l m) : ERs ρ' l m := by
 induction h with
 | nil => exact .nil
 | cons h _ ih => exact .cons (h.mono hl) ih
def BR (ρ : Env) (c : Nat) : AB → Obj → Prop
 | .mem T z l, o => ∃ vs sp fz, VRs ρ l.toList vs ∧ o = .cells (vs ++ sp).toArray T fz ∧ unfrozen fz (vs ++ sp).length ∧ (match z with | none => sp = [] | some k => (vs ++ sp).length = c * k ∧ c ≤ maxLen)
 | .loop st pd fn nt T ps asg bd d, o => ∃ ts db dc, TR ρ nt T ts ∧ ρ d = some (db, dc) ∧ o = .loop { state := st, pending := pd, fn := fn, tmps := ts, params := ps.toArray, assign := asg, body := bd, defers := db }
 | .dfd b, o => o = .deferred (if b then some [] else none)
 | .map l k, o => ∃ m, ERs ρ l m ∧ o = .map m.toArray k
 | .sit s p, o => o = .stringIter s p
 | .dead, _ => True
theorem TR.mono {ρ ρ' : Env} {n : Nat} {T : Tr AV} {ts : Array Value} (h : TR ρ n T ts) (hl : ρ.le ρ') : TR ρ' n T ts := ⟨h.1, fun s => (h.2 s).mono hl⟩
theorem BR.mono {ρ ρ' : Env} {c : Nat} {B : AB} {o : Obj} (h : BR ρ c B o) (hl : ρ.le ρ') : BR ρ' c B o := by
 cases B with
 | mem T z l => obtain ⟨vs, sp, fz, h1, h2⟩ := h; exact ⟨vs, sp, fz, h1.mono hl, h2⟩
 | loop => obtain ⟨ts, db, dc, h1, h2, h3⟩ := h; exact ⟨ts, db, dc, h1.mono hl, hl _ _ h2, h3⟩
 | dfd => exact h
 | map => obtain ⟨m, h1, h2⟩ := h; exact ⟨m, h1.mono hl, h2⟩
 | sit => exact h
 | dead => exact h
structure Bs where
 w : World
 S : Nat → Prop
 ρ : Env
structure HR (w0 : Bs) (ρ : Env) (H : Tr AB) (n : Nat) (w : World) : Prop where
 blk : ∀ {i b c : Nat} {B : AB}, ρ i = some (b, c) → H.get i = some B → ∃ o, w.heap[b]? = some o ∧ BR ρ c B o
 inj : ∀ {i j b c d : Nat} {B C : AB}, ρ i = some (b, c) → ρ j = some (b, d) → H.get i = some B → H.get j = some C → B.live = true → C.live = true → i = j
 top : ∀ {i : Nat}, n ≤ i → ρ i = none ∧ H.get i = none
 base : ∀ {i b c : Nat}, ρ i = some (b, c) → (w0.S b ∨ w0.w.heap.size ≤ b) ∧ b < w.heap.size
 fr : Fr w0.S w0.w w
 le : w0.ρ.le ρ
structure Ext (ρ ρ' : Env) (H H' : Tr AB) (n n' : Nat) : Prop where
 le : ρ.le ρ'
 old : ∀ {i}, i < n → ρ' i = ρ i
 keep : ∀ {i}, i < n → ρ i = none → H'.get i = H.get i
 nn : n ≤ n'
theorem Ext.refl (ρ : Env) (H : Tr AB) (n : Nat) : Ext ρ ρ H H n n := ⟨ρ.le_refl, fun _ => rfl, fun _ _ => rfl, Nat.le_refl _⟩
theorem Ext.trans {ρ ρ' ρ'' : Env} {H H' H'' : Tr AB} {n n' n'' : Nat} (h : Ext ρ ρ' H H' n n') (k : Ext ρ' ρ'' H' H'' n' n'') : Ext ρ ρ'' H H'' n n'' :=
 ⟨Env.le_trans h.le k.le, fun hi => (k.old (Nat.lt_of_lt_of_le hi h.nn)).trans (h.old hi), fun hi hn => (k.keep (Nat.lt_of_lt_of_le hi h.nn) ((h.old hi).trans hn)).trans (h.keep hi hn), Nat.le_trans h.nn k.nn⟩
def Env.set (ρ : Env) (i : Nat) (b : Nat × Nat) : Env := fun j => if j = i then some b else ρ j
theorem Env.set_same (ρ : Env) (i : Nat) (b : Nat × Nat) : (ρ.set i b) i = some b := by simp [Env.set]
theorem Env.le_set {ρ : Env} {i : Nat} (h : ρ i = none) (b : Nat × Nat) : ρ.le (ρ.set i b) := fun j c hj => by
 unfold Env.set
 split
 · rename_i e; subst e; rw [h] at hj; cases hj
 · exact hj
section
variable {w0 : Bs} {w : World} {ρ : Env} {H : Tr AB} {n : Nat}
theorem HR.same (h : HR w0 ρ H n w) {w' : World} (hh : w'.heap = w.heap) (hf : Fr No w w') : HR w0 ρ H n w' :=
 ⟨fun h1 h2 => by rw [hh]; exact h.blk h1 h2, h.inj, h.top, fun h1 => by rw [hh]; exact h.base h1, h.fr.thn hf, h.le⟩
theorem HR.name (h : HR w0 ρ H n w) {i c : Nat} {B : AB} {o : Obj} (hi : i < n) (hn : ρ i = none) (hB : H.get i = some B) (hb : BR (ρ.set i (w.heap.size, c)) c B o) :
   HR w0 (ρ.set i (w.heap.size, c)) H n (w.alloc o) := by
 have hle : ρ.le (ρ.set i (w.heap.size, c)) := Env.le_set hn _
 refine ⟨fun {j b d C} h1 h2 => ?_, fun {j k b d e C D} h1 h2 h3 h4 h5 h6 => ?_, fun {j} hj => ?_, fun {j b d} h1 => ?_, h.fr.alloc o, Env.le_trans h.le hle⟩
 · unfold Env.set at h1
   split at h1
   · rename_i e
     subst e
     cases h1
     rw [hB] at h2; cases h2
     exact ⟨o, heap_alloc_new w o, hb⟩
   · obtain ⟨o', h3, h4⟩ := h.blk h1 h2
     exact ⟨o', (Below.heap_alloc _ _ _ (h.base h1).2).trans h3, h4.mono hle⟩
 · unfold Env.set at h1 h2
   split at h1 <;> split at h2
   · rename_i e e'; rw [e, e']
   · cases h1; exact absurd (h.base h2).2 (Nat.lt_irrefl _)
   · cases h2; exact absurd (h.base h1).2 (Nat.lt_irrefl _)
   · exact h.inj h1 h2 h3 h4 h5 h6
 · refine ⟨?_, (h.top hj).2⟩
   unfold Env.set
   rw [if_neg (by omega)]
   exact (h.top hj).1
 · unfold Env.set at h1
   split at h1
   · cases h1; exact ⟨.inr h.fr.size, by simp⟩
   · have := h.base h1; exact ⟨this.1, by have := this.2; simp; omega⟩
theorem HR.put (h : HR w0 ρ H n w) (B : AB) : HR w0 ρ (tput H n B) (n + 1) w := by
 refine ⟨fun {j b d C} h1 h2 => ?_, fun {j k b d e C D} h1 h2 h3 h4 h5 h6 => ?_, fun {j} hj => ?_, h.base, h.fr, h.le⟩
 · rw [get_tput] at h2
   split at h2
   · rename_i e; subst e; rw [(h.top (Nat.le_refl _)).1] at h1; cases h1
   · exact h.blk h1 h2
 · rw [get_tput] at h3 h4
   split at h3
   · rename_i e; subst e; rw [(h.top (Nat.le_refl _)).1] at h1; cases h1
   · split at h4
     · rename_i e; subst e; rw [(h.top (Nat.le_refl _)).1] at h2; cases h2
     · exact h.inj h1 h2 h3 h4 h5 h6
 · rw [get_tput, if_neg (by omega)]
   exact h.top (by omega)
theorem HR.alloc (h : HR w0 ρ H n w) {c : Nat} {B : AB} {o : Obj} (hb : BR (ρ.set n (w.heap.size, c)) c B o) :
   HR w0 (ρ.set n (w.heap.size, c)) (tput H n B) (n + 1) (w.alloc o) :=
 (h.put B).name (Nat.lt_succ_self _) (h.top (Nat.le_refl _)).1 (by rw [get_tput]; simp) hb
theorem Ext.put (_h : HR w0 ρ H n w) (B : AB) : Ext ρ ρ H (tput H n B) n (n + 1) :=
 ⟨ρ.le_refl, fun _ => rfl, fun {i} hi _ => by rw [get_tput, if_neg (by omega)], Nat.le_succ _⟩
theorem Ext.alloc (h : HR w0 ρ H n w) (B : AB) (b : Nat × Nat) : Ext ρ (ρ.set n b) H (tput H n B) n (n + 1) :=
 ⟨Env.le_set (h.top (Nat.le_refl _)).1 _, fun {i} hi => by unfold Env.set; rw [if_neg (by omega)], fun {i} hi _ => by rw [get_tput, if_neg (by omega)], Nat.le_succ _⟩
theorem HR.write (h : HR w0 ρ H n w) {i b c : Nat} {B B' : AB} {o : Obj} {w' : World} (hi : ρ i = some (b, c)) (hB : H.get i = some B) (hl : B.live = true) (ho : w'.heap[b]? = some o) (hb : BR ρ c B' o)
   (hf : Fr (fun k => k = b) w w') : HR w0 ρ (tput H i B') n w' := by
 have hin : i < n := by
   rcases Nat.lt_or_ge i n with h' | h'
   · exact h'
   · rw [(h.top h').1] at hi; cases hi
 refine ⟨fun {j b' d C} h1 h2 => ?_, fun {j k b' d e C D} h1 h2 h3 h4 h5 h6 => ?_, fun {j} hj => ?_, fun {j b' d} h1 => ?_, ?_, h.le⟩
 · rw [get_tput] at h2
   split at h2
   · rename_i e; subst e
     rw [hi] at h1; cases h1; cases h2
     exact ⟨o, ho, hb⟩
   · rename_i e
     by_cases hbb : b' = b
     · subst hbb
       cases hC : C.live with
       | true => exact absurd (h.inj h1 hi h2 hB hC hl) e
       | false =>
         cases C <;> simp [AB.live] at hC
         exact ⟨o, ho, trivial⟩
     · obtain ⟨o', h3, h4⟩ := h.blk h1 h2
       exact ⟨o', (hf.block _ (h.base h1).2 hbb).trans h3, h4⟩
 · rw [get_tput] at h3 h4
   split at h3 <;> split at h4
   · rename_i e e'; rw [e, e']
   · rename_i e e'; subst e; exact h.inj h1 h2 hB h4 hl h6
   · rename_i e e'; subst e'; exact h.inj h1 h2 h3 hB h5 hl
   · exact h.inj h1 h2 h3 h4 h5 h6
 · rw [get_tput, if_neg (by omega)]
   exact h.top hj
 · have := h.base h1; exact ⟨this.1, Nat.lt_of_lt_of_le this.2 hf.size⟩
 · refine ⟨hf.os.trans h.fr.os, hf.tape.trans h.fr.tape, hf.output.trans h.fr.output, Nat.le_trans h.fr.size hf.size, fun k hk hnS => ?_⟩
   have hkb : k ≠ b := fun e => by
     rcases (h.base hi).1 with q | q
     · exact hnS (by rw [e]; exact q)
     · omega
   exact (hf.block k (Nat.lt_of_lt_of_le hk h.fr.size) hkb).trans (h.fr.block k hk hnS)
theorem Ext.write {i : Nat} {b : Nat × Nat} (hi : ρ i = some b) (B : AB) : Ext ρ ρ H (tput H i B) n n :=
 ⟨ρ.le_refl, fun _ => rfl, fun {j} _ hj => by rw [get_tput, if_neg (fun e => by subst e; rw [hi] at hj; cases hj)], Nat.le_refl _⟩
end
theorem HR.congr {w0 : Bs} {w : World} {ρ : Env} {H H' : Tr AB} {n : Nat} (h : HR w0 ρ H n w) (hg : ∀ j, H'.get j = H.get j) : HR w0 ρ H' n w :=
 ⟨fun h1 h2 => h.blk h1 (by rwa [hg] at h2), fun h1 h2 h3 h4 => h.inj h1 h2 (by rwa [hg] at h3) (by rwa [hg] at h4), fun hi => ⟨(h.top hi).1, by rw [hg]; exact (h.top hi).2⟩, h.base, h.fr, h.le⟩
theorem HR.touch {w0 : Bs} {w w' : World} {ρ : Env} {H : Tr AB} {n i b c : Nat} {B : AB} {o : Obj} (h : HR w0 ρ H n w) (hi : ρ i = some (b, c)) (hB : H.get i = some B) (hl : B.live = true) (ho : w'.heap[b]? = some o) (hb : BR ρ c B o)
   (hf : Fr (fun k => k = b) w w') : HR w0 ρ H n w' :=
 (h.write hi hB hl ho hb hf).congr fun j => by
   rw [get_tput]
   split
   · rename_i e; rw [e]; exact hB
   · rfl
theorem HR.old {w0 : Bs} {w w' : World} {ρ : Env} {H : Tr AB} {n : Nat} (h : HR w0 ρ H n w) (hf : Fr No w w') : HR w0 ρ H n w' :=
 ⟨fun h1 h2 => by
   obtain ⟨o, h3, h4⟩ := h.blk h1 h2
   exact ⟨o, (hf.block _ (h.base h1).2 (No.no _)).trans h3, h4⟩, h.inj, h.top, fun h1 => ⟨(h.base h1).1, Nat.lt_of_lt_of_le (h.base h1).2 hf.size⟩, h.fr.thn hf, h.le⟩
/-! Cells of a block. -/
section
variable {w : World} {b : Nat} {T : TypeId} {L : List Value} {fz : Nat × Nat}
theorem cells_cell (hb : w.heap[b]? = some (.cells L.toArray T fz)) (j : Nat) : w.cell? ⟨b, j, none⟩ = L[j]? := by
 simp [World.cell?, hb]
theorem cells_range (hb : w.heap[b]? = some (.cells L.toArray T fz)) {o k : Nat} (_h : o + k ≤ L.length) : w.rangeAt b o ((L.drop o).take k) := fun j v hv => by
 rw [cells_cell hb]
 have hj : j < k := by
   rcases Nat.lt_or_ge j k with h' | h'
   · exact h'
   · rw [List.getElem?_eq_none (by simp; omega)] at hv; cases hv
 rw [List.getElem?_take, if_pos hj, List.getElem?_drop] at hv
 exact hv
theorem cells_there (hb : w.heap[b]? = some (.cells L.toArray T fz)) (hz : unfrozen fz L.length) {o k : Nat} (h : o + k ≤ L.length) : w.there b o k := fun j hj => by
 refine ⟨by rw [cells_cell hb]; simp; omega, ?_⟩
 rcases hz with rfl | hz
 · simp [World.frozen?, hb]
 · obtain ⟨lo, hi⟩ := fz
   have hz' : L.length ≤ lo := hz
   simp [World.frozen?, hb]
   omega
theorem cells_setCell (hb : w.heap[b]? = some (.cells L.toArray T fz)) (j : Nat) (v : Value) : (w.setCell ⟨b, j, none⟩ v).heap[b]? = some (.cells (L.set j v).toArray T fz) := by
 unfold World.setCell
 rw [Array.getElem?_modify]
 simp [hb]
theorem cells_setCells : ∀ (vs : List Value) {w : World} {L : List Value} (o : Nat), w.heap[b]? = some (.cells L.toArray T fz) → o + vs.length ≤ L.length →
   (w.setCells b o vs).heap[b]? = some (.cells (L.take o ++ vs ++ L.drop (o + vs.length)).toArray T fz)
 | [], w, L, o, hb, _ => by simpa [World.setCells] using hb
 | v :: vs, w, L, o, hb, h => by
   have := cells_setCells vs (o + 1) (cells_setCell hb o v) (by simp at h ⊢; omega)
   rw [World.setCells, this, splice_step _ _ _ _ (by simpa using h)]
theorem fr_setCells : ∀ (vs : List Value) (w : World) (o : Nat), Fr (fun k => k = b) w (w.setCells b o vs)
 | [], w, o => Fr.refl _ _
 | v :: vs, w, o => by
   rw [World.setCells]
   exact ((Fr.refl (fun k => k = b) w).setCell (p := ⟨b, o, none⟩) (.inl rfl) v).trans (fr_setCells vs _ (o + 1)) (fun _ hx => .inl hx)
end
def oneA : AV → Bool
 | .agg _ => false
 | .tup _ => false
 | .v x => x.oneCell'
 | _ => true
theorem oneA_VR {ρ : Env} {x : AV} {u : Value} (h : oneA x = true) (hx : VR ρ x u) : u.oneCell' = true := by
 cases hx <;> first | exact h | rfl | (simp [oneA] at h)
theorem oneA_VRs {ρ : Env} : ∀ {l : List AV} {vs : List Value}, l.all oneA = true → VRs ρ l vs → ∀ v ∈ vs, v.oneCell' = true
 | [], _, _, h => by cases h; simp
 | x :: l, _, ha, h => by
   cases h with
   | cons e t =>
     simp only [List.all_cons, Bool.and_eq_true] at ha
     intro v hv
     cases hv with
     | head => exact oneA_VR ha.1 e
     | tail _ hv => exact oneA_VRs ha.2 t v hv
def loadA (P : Program) (t : TypeId) (x : AV) (H : Tr AB) : Option AV :=
 match x with
 | .ptr i o => match H.get i with
   | some (.mem _ _ l) => partR P t l o
   | _ => none
 | _ => none
theorem loadA_sound {P : Program} {w0 : Bs} {w : World} {ρ : Env} {H : Tr AB} {n : Nat} (hr : HR w0 ρ H n w) {t : TypeId} {x y : AV} {u : Value} (h : loadA P t x H = some y) (hx : VR ρ x u) :
   ∃ v, VR ρ y v ∧ (Instr.loadAt t u).run P w = .ok v w := by
 unfold loadA at h
 split at h
 · rename_i i o
   cases hx with
   | ptr _ hi =>
     rename_i b c
     split at h
     · rename_i T z l hB
       obtain ⟨ob, ho, vs, sp, fz, hv, rfl, hz, _⟩ := hr.blk hi hB
       have hlen := hv.length
       rw [partR_eq, partA_old] at h
       cases hd : P.underlying t with
       | none => simp [hd] at h
       | some d =>
         simp only [hd] at h
         cases hb : aggB d with
         | true =>
           simp only [hb, cond_true] at h
           cases hi' : P.info? t with
           | none => simp [hi'] at h
           | some inf =>
             simp only [hi'] at h
             cases hc : Nat.ble (o + inf.size) l.toList.length with
             | false => simp [hc] at h
             | true =>
               simp only [hc, cond_true, Option.some.injEq] at h
               subst h
               have hle : o + inf.size ≤ l.toList.length := Nat.le_of_ble_eq_true hc
               refine ⟨_, .agg ((hv.drop o).take inf.size), ?_⟩
               have hcs : w.rangeAt b o ((vs.drop o).take inf.size) := by
                 have := cells_range ho (o := o) (k := inf.size) (by simp; omega)
                 rwa [List.drop_append_of_le_length (by omega), List.take_append_of_le_length (by simp; omega)] at this
               refine run_loadAt_mid w b o t _ d hcs hd (by cases d <;> simp_all [aggB]) (by simp [hi']; omega)
         | false =>
           simp only [hb, cond_false] at h
           obtain ⟨v, hv', hx⟩ := hv.get h
           refine ⟨v, hx, ?_⟩
           have : w.cell? ⟨b, o, none⟩ = some v := by
             rw [cells_cell ho, List.getElem?_append_left (List.getElem?_eq_some_iff.1 hv').1]; exact hv'
           unfold Instr.loadAt loadVar
           simp [Instr.sureAddr, run_isAgg hd, hb, this]
     · cases h
 · cases h
def storeA (P : Program) (t : TypeId) (x v : AV) (H : Tr AB) : Option (Tr AB) :=
 match x with
 | .ptr i o => match H.get i with
   | some (.mem T z l) =>
     let c := v.cells
     match P.info? t with
     | some inf => cond (Nat.beq c.length inf.size && l.long (o + c.length) && c.all oneA) (some (tput H i (.mem T z (l.spl o c)))) none
     | none => none
   | _ => none
 | _ => none
theorem HR.splice {w0 : Bs} {w : World} {ρ : Env} {H : Tr AB} {n : Nat} (hr : HR w0 ρ H n w) {i b c o : Nat} {T : TypeId} {z : Option Nat} {l : Rp} {cs : List AV} {us : List Value} (hi : ρ i = some (b, c)) (hB : H.get i = some (.mem T z l))
   (hle : o + cs.length ≤ l.toList.length) (hc : VRs ρ cs us) : w.there b o us.length ∧ HR w0 ρ (tput H i (.mem T z (l.spl o cs))) n (w.setCells b o us) := by
 obtain ⟨ob, ho, vs, sp, fz, hv, rfl, hz, hs⟩ := hr.blk hi hB
 have hlen := hv.length
 have hcl := hc.length
 refine ⟨cells_there ho hz (by simp; omega), ?_⟩
 refine hr.write hi hB rfl (cells_setCells us o ho (by simp; omega)) ⟨vs.take o ++ us ++ vs.drop (o + us.length), sp, fz, ?_, ?_, ?_, ?_⟩ (fr_setCells us w o)
 · rw [Rp.spl_eq l o cs hle, hcl]
   exact ((hv.take o).append hc).append (hv.drop _)
 · rw [List.take_append_of_le_length (by omega), List.drop_append_of_le_length (by omega)]
   simp
 · have : (vs.take o ++ us ++ vs.drop (o + us.length) ++ sp).length = (vs ++ sp).length := by simp; omega
   rw [this]; exact hz
 · cases z with
   | none => exact hs
   | some k =>
     have : (vs.take o ++ us ++ vs.drop (o + us.length) ++ sp).length = (vs ++ sp).length := by simp; omega
     simp only [this]; exact hs
theorem storeA_sound {P : Program} {w0 : Bs} {w : World} {ρ : Env} {H H' : Tr AB} {n : Nat} (hr : HR w0 ρ H n w) {t : TypeId} {x v : AV} {u a : Value} (h : storeA P t x v H = some H') (hx : VR ρ x u) (hv : VR ρ v a) :
   ∃ w', (Instr.storeAt t u a).run P w = .ok () w' ∧ HR w0 ρ H' n w' ∧ Ext ρ ρ H H' n n := by
 unfold storeA at h
 simp only [Rp.long_eq] at h
 split at h
 · rename_i i o
   cases hx with
   | ptr _ hi =>
     rename_i b c
     split at h
     · rename_i T z l hB
       split at h
       · rename_i inf hinf
         cases hc : (Nat.beq v.cells.length inf.size && Nat.ble (o + v.cells.length) l.toList.length && v.cells.all oneA) with
         | false => simp [hc] at h
         | true =>
           simp only [hc, cond_true, Option.some.injEq] at h
           simp only [Bool.and_eq_true, Nat.beq_eq, Nat.ble_eq] at hc
           subst h
           have hvc := hv.cells
           obtain ⟨ht, hr'⟩ := hr.splice hi hB hc.1.2 hvc
           refine ⟨_, ?_, hr', Ext.write hi _⟩
           have := run_storeVar_mid (P := P) w b o t a.cells (by simpa using ht) (by simp [hinf, ← hc.1.1, hvc.length]) (by
             rw [Array.all_eq_true_iff_forall_mem]
             intro q hq
             exact oneA_VRs hc.2 hvc q (by simpa using hq))
           unfold Instr.storeAt
           simp only [Instr.sureAddr, Sem.run_bind, Sem.run_pure, Result.andThen_ok]
           have e : storeVar t ⟨b, o, none⟩ a = storeVar t ⟨b, o, none⟩ (.agg a.cells) := by unfold storeVar; rfl
           rw [e, this]
       · cases h
     · cases h
 · cases h
end
noncomputable section
def zerosA (z : List AV) : Nat → List AV
 | 0 => []
 | n + 1 => z ++ zerosA z n
theorem zerosA_length (z : List AV) : ∀ n, (zerosA z n).length = n * z.length
 | 0 => by simp [zerosA]
 | n + 1 => by simp [zerosA, zerosA_length z n, Nat.succ_mul, Nat.add_comm]
def zerosV (z : List Value) : Nat → List Value
 | 0 => []
 | n + 1 => z ++ zerosV z n
theorem zeros_VR {ρ : Env} {z : List AV} {zs : List Value} (h : VRs ρ z zs) : ∀ n, VRs ρ (zerosA z n) (zerosV zs n)
 | 0 => .nil
 | n + 1 => h.append (zeros_VR h n)
theorem zerosV_get (z : List Value) : ∀ (n j : Nat), j < n * z.length → (zerosV z n)[j]? = z[j % z.length]?
 | 0, j, h => by simp at h
 | n + 1, j, h => by
   unfold zerosV
   by_cases hj : j < z.length
   · rw [List.getElem?_append_left hj, Nat.mod_eq_of_lt hj]
   · rw [List.getElem?_append_right (by omega), zerosV_get z n (j - z.length) (by rw [Nat.succ_mul] at h; omega)]
     congr 1
     conv => rhs; rw [show j = (j - z.length) + z.length by omega]
     simp
theorem zerosV_length (z : List Value) : ∀ n, (zerosV z n).length = n * z.length
 | 0 => by simp [zerosV]
 | n + 1 => by simp [zerosV, zerosV_length z n, Nat.succ_mul, Nat.add_comm]
theorem range_zeros (z : Array Value) (n : Nat) : (Array.range (n * z.size)).map (fun i => z[i % z.size]!) = (zerosV z.toList n).toArray := by
 apply Array.ext'
 apply List.ext_getElem?
 intro j
 simp only [Array.toList_map, Array.toList_range, List.getElem?_map]
 by_cases hj : j < n * z.size
 · rw [List.getElem?_range hj, zerosV_get _ _ _ (by simpa using hj)]
   have hz : 0 < z.size := Nat.pos_of_ne_zero (fun e => by rw [e] at hj; simp at hj)
   have hm : j % z.size < z.size := Nat.mod_lt _ hz
   simp [hm]
 · rw [List.getElem?_eq_none (by simp; omega), List.getElem?_eq_none (by rw [zerosV_length]; simp; omega)]
   rfl
theorem zeroCells_eq (z : Array Value) (n : Nat) : Builtin.zeroCells z n = (zerosV z.toList n).toArray := range_zeros z n
inductive NewV where
 | ptr
 | sl (n c : Nat)
def NewV.av (i : Nat) : NewV → AV
 | .ptr => .ptr i 0
 | .sl n c => .sl i 0 n c
def NewV.val (b : Nat) : NewV → Value
 | .ptr => .pointer (some ⟨b, 0, none⟩)
 | .sl n c => .slice (some ⟨b, 0, none⟩) n c
theorem NewV.VR {ρ : Env} {i b c : Nat} (h : ρ i = some (b, c)) (k : NewV) : VR ρ (k.av i) (k.val b) := by
 cases k with
 | ptr => exact .ptr _ h
 | sl n c => exact .sl _ _ _ h
theorem leafVR {ρ : Env} {l : List AV} {vs : List Value} (h : VRs ρ l vs) : VRs ρ (Rp.leaf l).toList vs := by rw [Rp.toList_leaf]; exact h
theorem reps_zeros (x : AV) : ∀ n, Rp.reps x n = zerosA [x] n
 | 0 => rfl
 | n + 1 => by simp [Rp.reps, zerosA, reps_zeros x n]
def noughtK (k : IntKind) : AV → Bool
 | .v (.int k' (.ofNat m)) => cond (Nat.beq m 0) (Nat.beq (kNo k') (kNo k)) false
 | _ => false
theorem noughtK_eq {k : IntKind} {x : AV} (h : noughtK k x = true) : x = .v (.int k (.ofNat 0)) := by
 unfold noughtK at h
 split at h
 · rename_i k' m
   cases hm : Nat.beq m 0 with
   | false => simp [hm] at h
   | true =>
     simp only [hm, cond_true] at h
     rw [kNo_inj h, Nat.eq_of_beq_eq_true hm]
 · cases h
theorem reps_same {x : AV} : ∀ {l : List AV}, (∀ y ∈ l, y = x) → l = Rp.reps x l.length
 | [], _ => rfl
 | y :: l, h => by
   rw [h y (by simp)]
   simp only [List.length_cons, Rp.reps]
   rw [← reps_same fun z hz => h z (by simp [hz])]
theorem zerosA_reps (x : AV) (m : Nat) : ∀ n, zerosA (Rp.reps x m) n = Rp.reps x (n * m)
 | 0 => by simp [zerosA, Rp.reps]
 | n + 1 => by
   have h : ∀ a b, Rp.reps x a ++ Rp.reps x b = Rp.reps x (a + b) := fun a b => by
     induction a with
     | zero => simp [Rp.reps]
     | succ a ih => rw [Nat.add_right_comm]; simp [Rp.reps, ih]
   simp only [zerosA, zerosA_reps x m n]
   rw [h, Nat.add_mul, Nat.one_mul, Nat.add_comm]
def zrp (z : List AV) (n : Nat) : Rp := match z with
 | [x] => .rep x n
 | .v (.int k (.ofNat 0)) :: r => cond (r.all (noughtK k)) (.rep (.v (.int k (.ofNat 0))) (Nat.mul n (Nat.add r.length 1))) (.leaf (zerosA (.v (.int k (.ofNat 0)) :: r) n))
 | _ => .leaf (zerosA z n)
theorem toList_rep (x : AV) (n : Nat) : (Rp.rep x n).toList = Rp.reps x n := by
 apply List.ext_getElem?
 intro k
 rw [Rp.get_toList, Rp.reps_get, Rp.at_rep]
 show (if k < n then _ else _) = _
 by_cases h : k < n <;> simp [h]
theorem zrp_eq (z : List AV) (n : Nat) : (zrp z n).toList = zerosA z n := by
 unfold zrp
 split
 · rw [toList_rep, ← reps_zeros]
 · rename_i k r _
   cases h : r.all (noughtK k) with
   | false => exact Rp.toList_leaf _
   | true =>
     rw [cond_true, toList_rep]
     rw [List.all_eq_true] at h
     have e : (AV.v (.int k (.ofNat 0)) :: r) = Rp.reps (.v (.int k (.ofNat 0))) (r.length + 1) := by
       simp only [Rp.reps]
       rw [← reps_same fun y hy => noughtK_eq (h y hy)]
     rw [e, zerosA_reps]; rfl
 · exact Rp.toList_leaf _
def aopN (P : Program) (T : Tr AV) (o : Oper) : Option (TypeId × Rp × NewV) :=
 match o.op with
 | .alloc t => match P.info? t with
   | some i => match i.zero with
     | some z => some (t, .leaf (ofV z).cells, .ptr)
     | none => none
   | none => none
 | .box t x => some (t, .leaf (aev T x).cells, .ptr)
 | .buildSlice t len ps =>
   match P.underlying t with
   | some (.slice e) => match P.info? e with
     | some i => cond (Nat.beq len 0) (match ps.toList with | [] => some (e, .leaf [], .sl 0 0) | _ => none) <| match i.zero with
       | some z =>
         let zc := (ofV z).cells
         cond (Nat.beq zc.length i.size && Nat.ble 1 (len * i.size) && Nat.ble (len * i.size) 16777216)
           (match fillA (fun j => some (j * i.size, i.size)) (zerosA zc len) (ps.toList.map fun p => (p.1, aev T p.2)) with
            | some l => some (e, .leaf l, .sl len len)
            | none => none) none
       | none => none
     | none => none
   | _ => none
 | .makeSlice t l c =>
   match aev T l, aev T c, P.underlying t with
   | .v (.int _ n), .v (.int _ m), some (.slice e) => match P.info? e with
     | some i => match i.zero with
       | some z =>
         let zc := (ofV z).cells
         cond (Nat.beq zc.length i.size && Nat.ble 1 i.size && decide (0 ≤ n) && decide (n ≤ m) && decide (m ≤ 1073741824) && Nat.ble i.bytes 65536)
           (some (e, zrp zc m.toNat, .sl n.toNat m.toNat)) none
       | none => none
     | none => none
   | _, _, _ => none
 | _ => none
theorem aopN_sound {P : Program} {ρ : Env} {T : Tr AV} {o : Oper} {e : TypeId} {l : Rp} {k : NewV} {ev : Operand → Value} (h : aopN P T o = some (e, l, k)) (hev : ∀ y ∈ o.op.operands, VR ρ (aev T y) (ev y)) :
   ∃ vs, VRs ρ l.toList vs ∧ ∀ w, (execOp ev o).run P w = .ok (.value (k.val w.heap.size)) (w.alloc (.cells vs.toArray e)) := by
 obtain ⟨dst, op, type, pos, after, guard⟩ := o
 cases op <;> simp only [aopN] at h <;> try (cases h; done)
 case alloc t =>
   split at h
   · rename_i i hi
     split at h
     · rename_i z hz
       simp only [Option.some.injEq, Prod.mk.injEq] at h
       obtain ⟨rfl, rfl, rfl⟩ := h
       refine ⟨_, leafVR (ofV_VR z).cells, fun w => ?_⟩
       unfold execOp Instr.alloc
       simp [run_zeroValue hi hz, newVar, newRow, NewV.val]
     · cases h
   · cases h
 case box t x =>
   simp only [Option.some.injEq, Prod.mk.injEq] at h
   obtain ⟨rfl, rfl, rfl⟩ := h
   refine ⟨_, leafVR (hev x (by simp [Op.operands])).cells, fun w => ?_⟩
   unfold execOp Instr.box
   simp [newVar, newRow, NewV.val]
 case buildSlice t len ps =>
   split at h
   · rename_i el hu
     split at h
     · rename_i i hi
       rw [beq_dec] at h
       by_cases hl0 : len = 0
       · subst hl0
         simp only [decide_true, cond_true] at h
         split at h
         · rename_i hps
           simp only [Option.some.injEq, Prod.mk.injEq] at h
           obtain ⟨rfl, rfl, rfl⟩ := h
           have hps' : ps = #[] := Array.toList_inj.1 hps
           subst hps'
           refine ⟨[], leafVR .nil, fun w => ?_⟩
           have hr0 : Array.range 0 = (#[] : Array Nat) := Array.toList_inj.1 (by simp)
           unfold execOp Instr.buildSlice
           simp [run_underlying hu, run_sizeOf hi, hr0, Instr.fill, newRow, NewV.val]
         · cases h
       simp only [hl0, decide_false, cond_false] at h
       split at h
       · rename_i z hz
         have hzc := (ofV_VR (ρ := ρ) z).cells
         cases hc : (Nat.beq (ofV z).cells.length i.size && Nat.ble 1 (len * i.size) && Nat.ble (len * i.size) 16777216) with
         | false => simp [hc] at h
         | true =>
           simp only [hc, cond_true] at h
           simp only [Bool.and_eq_true, Nat.beq_eq, Nat.ble_eq] at hc
           split at h
           · rename_i r hr
             simp only [Option.some.injEq, Prod.mk.injEq] at h
             obtain ⟨rfl, rfl, rfl⟩ := h
             have hq : VRs ρ ((ps.toList.map fun p => (p.1, aev T p.2)).map Prod.snd) ((ps.toList.map fun p => (p.1, ev p.2)).map Prod.snd) := by
               have : VRs ρ ((ps.toList.map Prod.snd).map (aev T)) ((ps.toList.map Prod.snd).map ev) := VRs.map_ev fun y hy => hev y (by simp [Op.operands] at hy ⊢; exact hy)
               simpa [Function.comp_def] using this
             obtain ⟨us, h1, h2⟩ := fillA_sound (qs := ps.toList.map fun p => (p.1, ev p.2)) hr (zeros_VR hzc len) (by simp) hq
             refine ⟨us, leafVR h1, fun w => ?_⟩
             have hsz : z.cells.size = i.size := by rw [← hc.1.1, hzc.length]; simp
             have hne : ¬ (len = 0 ∨ i.size = 0) := by
               intro h0
               have : len * i.size = 0 := by rcases h0 with h0 | h0 <;> simp [h0]
               omega
             have hz' := range_zeros z.cells len
             rw [hsz] at hz'
             unfold execOp Instr.buildSlice
             simp only [Sem.run_bind, run_underlying hu, Result.andThen_ok, run_sizeOf hi]
             rw [if_neg (by omega)]
             simp only [Sem.run_pure]
             rw [if_neg (by omega)]
             simp only [Sem.run_bind, Sem.run_pure, Result.andThen_ok, run_zeroValue hi hz, hsz, hz']
             have h2' : Instr.fill (fun j => some (j * i.size, i.size)) (zerosV z.cells.toList len).toArray (ps.map fun p => (p.1, ev p.2)).toList = some us.toArray := by
               rw [← h2]; congr 1; simp
             rw [h2']
             simp [newRow, NewV.val]
           · cases h
       · cases h
     · cases h
   · cases h
 case makeSlice t ln cp =>
   have hl := hev ln (by simp [Op.operands])
   have hcp := hev cp (by simp [Op.operands])
   split at h
   · rename_i k1 nn k2 mm el e1 e2 hu
     rw [e1] at hl
     rw [e2] at hcp
     generalize hlv : ev ln = lv at hl
     generalize hcv : ev cp = cv at hcp
     cases hl
     cases hcp
     split at h
     · rename_i i hi
       split at h
       · rename_i z hz
         have hzc := (ofV_VR (ρ := ρ) z).cells
         cases hc : (Nat.beq (ofV z).cells.length i.size && Nat.ble 1 i.size && decide (0 ≤ nn) && decide (nn ≤ mm) && decide (mm ≤ 1073741824) && Nat.ble i.bytes 65536) with
         | false => simp [hc] at h
         | true =>
           simp only [hc, cond_true, Option.some.injEq, Prod.mk.injEq] at h
           simp only [Bool.and_eq_true, Nat.beq_eq, Nat.ble_eq, decide_eq_true_eq] at hc
           obtain ⟨⟨⟨⟨⟨hc1, hc2⟩, hc3⟩, hc4⟩, hc5⟩, hc6⟩ := hc
           obtain ⟨rfl, rfl, rfl⟩ := h
           refine ⟨_, (zrp_eq _ _).symm ▸ zeros_VR hzc _, fun w => ?_⟩
           have hsz : z.cells.size = i.size := by rw [← hc1, hzc.length]; simp
           have w1 : IntKind.i64.wrap nn = nn := IntWalk.i64_in _ ⟨by omega, by omega⟩
           have w2 : IntKind.i64.wrap mm = mm := IntWalk.i64_in _ ⟨by omega, by omega⟩
           have hb : (i.bytes : Int) * mm ≤ 281474976710656 := by
             have h1 : (i.bytes : Int) * mm ≤ 65536 * mm := Int.mul_le_mul_of_nonneg_right (by omega) (by omega)
             omega
           have hz' := range_zeros z.cells mm.toNat
           rw [hsz] at hz'
           have hn0 : ¬ (mm < 0) := by omega
           have hn1 : ¬ (nn < 0) := by omega
           have hn2 : ¬ (mm < nn) := by omega
           have hn3 : ¬ ((281474976710656 : Int) < (i.bytes : Int) * mm) := by omega
           unfold execOp Instr.makeSlice
           have hd : (decide (mm < 0) || decide ((i.bytes : Int) * mm > 2 ^ 48) || decide (nn < 0) || decide (nn > mm)) = false := by
             simp [hn0, hn1, hn2, hn3]
           simp only [Sem.run_bind, run_underlying hu, Result.andThen_ok, hlv, hcv, asInt, asIntOf, Sem.run_pure, run_typeInfo hi, w1, w2]
           rw [if_neg (by rw [hd]; simp)]
           by_cases hm0 : mm.toNat * i.size = 0
           · have h0 : mm.toNat = 0 := by rcases Nat.mul_eq_zero.1 hm0 with h | h <;> omega
             have hr0 : Array.range 0 = (#[] : Array Nat) := Array.toList_inj.1 (by simp)
             simp [run_sizeOf hi, h0, zerosV, newRow, NewV.val, hr0]
           · simp only [Sem.run_bind, run_askRoom, Result.andThen_ok, run_sizeOf hi, if_neg hm0, run_zeroValue hi hz, Sem.run_pure, hsz, hz']
             simp [newRow, NewV.val]
       · cases h
     · cases h
   · cases h
def srcA (P : Program) (tx : TypeId) (k : Nat) (x : AV) (H : Tr AB) : Option (Nat × List AV) :=
 match P.underlying tx with
 | some (.slice _) =>
   match x with
   | .v (.slice none 0 _) => some (0, [])
   | .se => some (0, [])
   | .sl i o n _ => match H.get i with
     | some (.mem _ _ l) => cond (l.long (o + n * k)) (some (n, l.cut o (n * k))) none
     | _ => none
   | .su i o n _ _ => match H.get i with
     | some (.mem _ _ l) => cond (l.long (o + n * k)) (some (n, l.cut o (n * k))) none
     | _ => none
   | _ => none
 | some .string =>
   match x with
   | .v (.string s) => cond (Nat.beq k 1) (some (s.size, (byteCells s).map .v)) none
   | _ => none
 | _ => none
theorem srcA_sound {P : Program} {w0 : Bs} {w : World} {ρ : Env} {H : Tr AB} {n : Nat} (hr : HR w0 ρ H n w) {tx : TypeId} {k m : Nat} {x : AV} {news : List AV} {u : Value} (h : srcA P tx k x H = some (m, news)) (hx : VR ρ x u) (h1 : news.all oneA = true) :
   ∃ us, VRs ρ news us ∧ Src P k tx u m us w := by
 have part : ∀ {i o nn c b : Nat} {e : TypeId} {T : TypeId} {z : Option Nat} {l : Rp} {cc : Nat}, P.underlying tx = some (.slice e) → ρ i = some (b, cc) → H.get i = some (.mem T z l) →
     (cond (l.long (o + nn * k)) (some (nn, l.cut o (nn * k))) none = some (m, news)) → ∃ us, VRs ρ news us ∧ Src P k tx (.slice (some ⟨b, o, none⟩) nn c) m us w := by
   intro i o nn c b e T z l cc hu hi hB h
   rw [Rp.long_eq] at h
   cases hc : Nat.ble (o + nn * k) l.toList.length with
   | false => simp [hc] at h
   | true =>
     simp only [hc, cond_true, Option.some.injEq, Prod.mk.injEq] at h
     obtain ⟨rfl, rfl⟩ := h
     have hle : o + nn * k ≤ l.toList.length := Nat.le_of_ble_eq_true hc
     rw [Rp.cut_eq l o (nn * k) hle] at h1 ⊢
     obtain ⟨ob, ho, vs, sp, fz, hv, rfl, hz, _⟩ := hr.blk hi hB
     have hlen := hv.length
     have hn := (hv.drop o).take (nn * k)
     have hcs : w.rangeAt b o ((vs.drop o).take (nn * k)) := by
       have := cells_range ho (o := o) (k := nn * k) (by simp; omega)
       rwa [List.drop_append_of_le_length (by omega), List.take_append_of_le_length (by simp; omega)] at this
     exact ⟨_, hn, Src.ofSlice w hu _ _ _ _ (by simp; omega) (fun j u hu => by rw [Addr.add_mid]; exact hcs j u hu) (oneA_VRs h1 hn)⟩
 unfold srcA at h
 split at h
 · rename_i e hu
   split at h
   · cases hx
     simp only [Option.some.injEq, Prod.mk.injEq] at h
     obtain ⟨rfl, rfl⟩ := h
     exact ⟨[], .nil, Src.ofNil w hu _⟩
   · cases hx
     simp only [Option.some.injEq, Prod.mk.injEq] at h
     obtain ⟨rfl, rfl⟩ := h
     exact ⟨[], .nil, Src.ofSlice w hu _ _ _ _ (by simp) (by simp) (by simp)⟩
   · cases hx with
     | sl _ _ _ hi =>
       split at h
       · rename_i hB; exact part hu hi hB h
       · cases h
   · cases hx with
     | su _ _ _ _ hi hn =>
       split at h
       · rename_i hB; exact part hu hi hB h
       · cases h
   · cases h
 · rename_i hu
   split at h
   · rename_i s
     cases hx
     rw [beq_dec] at h
     by_cases hk : k = 1
     · subst hk
       simp only [decide_true, cond_true, Option.some.injEq, Prod.mk.injEq] at h
       obtain ⟨rfl, rfl⟩ := h
       exact ⟨_, VRs.of_vals _, Src.ofString w hu s⟩
     · simp [hk] at h
   · cases h
 · cases h
def srcZ (P : Program) (tx : TypeId) (k : Nat) (z : Value) (x : AV) (H : Tr AB) : Option (Nat × List AV) :=
 match srcA P tx k x H with
 | some r => some r
 | none => match P.underlying tx, x with
   | some (.int _), .v (.int _ m) => cond (decide (0 ≤ m) && decide (m ≤ 1048576)) (some (m.toNat, zerosA (ofV z).cells m.toNat)) none
   | _, _ => none
structure SrcX (P : Program) (t tx ty e : TypeId) (inf : TypeInfo) (z xu : Value) (m : Nat) (us : List Value) (w : World) : Prop where
 newsLen : us.length = m * inf.size
 nil : m = 0 → (Builtin.append_ #[t, tx] ty #[.slice none 0 0, xu]).run P w = .ok (.slice none 0 0) w
 room : ∀ (b off sLen sCap : Nat), sLen + m ≤ sCap → (∀ j, j < us.length → (w.cell? ⟨b, off + sLen * inf.size + j, none⟩).isSome = true) → (∀ j, j < us.length → w.frozen? ⟨b, off + sLen * inf.size + j, none⟩ = false) →
   (Builtin.append_ #[t, tx] ty #[.slice (some ⟨b, off, none⟩) sLen sCap, xu]).run P w = .ok (.slice (some ⟨b, off, none⟩) (sLen + m) sCap) (w.setCells b (off + sLen * inf.size) us)
 grow : ∀ (base : Option Addr) (sLen sCap : Nat) (olds : List Value), (Builtin.firstCells inf.size sLen (.slice base sLen sCap)).run P w.drew = .ok olds.toArray w.drew → sCap < sLen + m → ((sLen + m : Nat) : Int) ≤ 9223372036854775807 → Builtin.nextslicecap (sLen + m) sCap * inf.bytes ≤ 281474976710656 →
   (Builtin.append_ #[t, tx] ty #[.slice base sLen sCap, xu]).run P w =
     .ok (.slice (some ⟨w.heap.size, 0, none⟩) (sLen + m) (grownCap w (sLen + m) sCap e))
       (w.drew.alloc (.cells ((olds ++ us).toArray ++ Builtin.zeroCells z.cells (grownCap w (sLen + m) sCap e - (sLen + m))) e))
theorem wrap_small {m : Nat} (h : m ≤ 1048576) : IntKind.i64.wrap (m : Int) = (m : Int) := by
 have e : IntKind.i64.wrap (m : Int) = (m : Int) := by
   simp [IntKind.wrap, IntKind.signed, IntKind.bits]
   omega
 exact e
theorem SrcX.ofMake {P : Program} {t tx ty e : TypeId} {inf : TypeInfo} {z : Value} {w : World} {k k' : IntKind} {m : Nat} (hu : P.underlying t = some (.slice e)) (hinf : P.info? e = some inf) (hz : inf.zero = some z) (hk : P.underlying tx = some (.int k)) (hm : m ≤ 1048576) (h1 : 1 ≤ inf.size)
   (hzs : z.cells.size = inf.size) (hby : inf.bytes ≤ 4096) (hone : ∀ u ∈ zerosV z.cells.toList m, u.oneCell' = true) : SrcX P t tx ty e inf z (.int k' m) m (zerosV z.cells.toList m) w := by
 have hw := wrap_small hm
 have hl : ¬ ((m : Int) < 0) := by omega
 have hb : ¬ (281474976710656 < (m : Int) * (inf.bytes : Int)) := by
   have : m * inf.bytes ≤ 1048576 * 4096 := Nat.mul_le_mul hm hby
   have h2 : (m : Int) * (inf.bytes : Int) = ((m * inf.bytes : Nat) : Int) := by simp
   rw [h2]; omega
 have hzc : Builtin.zeroCells z.cells m = (zerosV z.cells.toList m).toArray := zeroCells_eq _ _
 have happ : ∀ w' : World, ((if m * inf.size = 0 then pure #[] else do pure (Builtin.zeroCells (← zeroValue e).cells m) : Sem (Array Value))).run P w' = .ok (zerosV z.cells.toList m).toArray w' := by
   intro w'
   by_cases h0 : m * inf.size = 0
   · have hm0 : m = 0 := by
       rcases Nat.mul_eq_zero.1 h0 with h | h
       · exact h
       · omega
     subst hm0
     simp [zerosV]
   · rw [if_neg h0]
     simp [run_zeroValue hinf hz, hzc]
 have hlen : (zerosV z.cells.toList m).length = m * inf.size := by rw [zerosV_length, Array.length_toList, hzs]
 refine ⟨hlen, fun h0 => ?_, fun b off sLen sCap hroom hc hf => ?_, fun base sLen sCap olds hold hg h63 hfit => ?_⟩
 · subst h0
   simp [Builtin.append_, run_underlying hu, run_underlying hk, sizeOf, run_typeInfo hinf, asInt, asIntOf, IntKind.wrap, IntKind.signed, IntKind.bits]
 · have hst := run_storeCells_cells (P := P) b (off + sLen * inf.size) (zerosV z.cells.toList m) 0 w (by simpa using hc) (by simpa using hf) hone
   simp only [Nat.add_zero] at hst
   by_cases h0 : m * inf.size = 0
   · have hm0 : m = 0 := by
       rcases Nat.mul_eq_zero.1 h0 with h | h
       · exact h
       · omega
     subst hm0
     simp only [zerosV] at hst
     simp at hroom
     simp [Builtin.append_, run_underlying hu, run_underlying hk, sizeOf, run_typeInfo hinf, asInt, asIntOf, IntKind.wrap, IntKind.signed, IntKind.bits, hroom, Addr.add_lit, hst, zerosV]
   · simp [Builtin.append_, run_underlying hu, run_underlying hk, sizeOf, run_typeInfo hinf, asInt, asIntOf, hw, hl, hb, hroom, h0, run_zeroValue hinf hz, hzc, Addr.add_lit, hst]
 · have hn : ¬ (sLen + m ≤ sCap) := by omega
   have h63' : ¬ (9223372036854775807 < ((sLen : Int) + (m : Int))) := by omega
   have h48' : ¬ (281474976710656 < Builtin.nextslicecap (sLen + m) sCap * inf.bytes) := by omega
   by_cases h0 : m * inf.size = 0
   · have hm0 : m = 0 := by
       rcases Nat.mul_eq_zero.1 h0 with h | h
       · exact h
       · omega
     subst hm0
     simp only [Nat.add_zero, Int.natCast_zero, Int.add_zero] at hn h63' h48' hold hg ⊢
     simp [Builtin.append_, run_underlying hu, run_underlying hk, sizeOf, typeInfo, zeroValue, hinf, hz, asInt, asIntOf, IntKind.wrap, IntKind.signed, IntKind.bits, hn, h63', h48', Question.forced, hold, newRow, grownCap, zerosV]
   · simp [Builtin.append_, run_underlying hu, run_underlying hk, sizeOf, typeInfo, zeroValue, hinf, hz, asInt, asIntOf, hw, hl, hb, hn, h63', h48', Question.forced, h0, hzc, hold, newRow, grownCap]
     congr 2
     apply Array.ext'
     simp [List.append_assoc]
theorem SrcX.ofSrc {P : Program} {t tx ty e : TypeId} {inf : TypeInfo} {z xu : Value} {m : Nat} {us : List Value} {w : World} (hu : P.underlying t = some (.slice e)) (hinf : P.info? e = some inf) (hz : inf.zero = some z) (hSrc : Src P inf.size tx xu m us w) : SrcX P t tx ty e inf z xu m us w :=
 ⟨hSrc.newsLen, fun h0 => by
     subst h0
     have hnil : us = [] := List.eq_nil_of_length_eq_zero (by have := hSrc.newsLen; simpa using this)
     have hcl := hSrc.cells
     rw [hnil] at hcl
     rcases hSrc.kind with ⟨e', hk⟩ | hk <;> simp [Builtin.append_, run_underlying hu, run_underlying hk, sizeOf, run_typeInfo hinf, hSrc.len, hcl],
   fun b off sLen sCap h1 h2 h3 => run_append_room_src (P := P) w t tx ty e inf hu hinf b off sLen sCap xu m us hSrc h1 h2 h3,
   fun base sLen sCap olds h1 h2 h3 h4 => run_append_grow_src (P := P) w t tx ty e inf z hu hinf hz base sLen sCap olds h1 xu m us hSrc h2 h3 h4⟩
theorem srcZ_sound {P : Program} {w0 : Bs} {w : World} {ρ : Env} {H : Tr AB} {n : Nat} (hr : HR w0 ρ H n w) {t tx ty e : TypeId} {inf : TypeInfo} {z : Value} (hu : P.underlying t = some (.slice e)) (hinf : P.info? e = some inf) (hz : inf.zero = some z) (h1 : 1 ≤ inf.size) (hzs : z.cells.size = inf.size) (hby : inf.bytes ≤ 4096)
   {m : Nat} {x : AV} {news : List AV} {u : Value} (h : srcZ P tx inf.size z x H = some (m, news)) (hx : VR ρ x u) (hone : news.all oneA = true) : ∃ us, VRs ρ news us ∧ SrcX P t tx ty e inf z u m us w := by
 unfold srcZ at h
 split at h
 · rename_i r hs
   cases h
   obtain ⟨us, h2, h3⟩ := srcA_sound hr hs hx hone
   exact ⟨us, h2, SrcX.ofSrc hu hinf hz h3⟩
 · split at h
   · rename_i k k' mz hk _
     cases hc : (decide (0 ≤ mz) && decide (mz ≤ 1048576)) with
     | false => rw [hc] at h; cases h
     | true =>
       rw [hc, cond_true] at h
       simp only [Bool.and_eq_true, decide_eq_true_eq] at hc
       simp only [Option.some.injEq, Prod.mk.injEq] at h
       obtain ⟨rfl, rfl⟩ := h
       cases hx
       have hv : VRs ρ (zerosA (ofV z).cells mz.toNat) (zerosV z.cells.toList mz.toNat) := zeros_VR (ofV_VR z).cells _
       have e1 : mz = ((mz.toNat : Nat) : Int) := by omega
       refine ⟨_, hv, ?_⟩
       have := SrcX.ofMake (ty := ty) (w := w) (k' := k') (m := mz.toNat) hu hinf hz hk (by omega) h1 hzs hby (oneA_VRs hone hv)
       rw [← e1] at this
       exact this
   · cases h
def appendA (P : Program) (t tx : TypeId) (s x : AV) (H : Tr AB) (n : Nat) : Option (AV × Tr AB × Nat) :=
 match P.underlying t with
 | some (.slice e) =>
   match P.info? e with
   | some inf =>
     let k := inf.size
     match inf.zero, (match inf.zero with | some z => srcZ P tx k z x H | none => none) with
     | some z, some (m, news) =>
       cond (Nat.ble 1 k && Nat.beq (ofV z).cells.length k && news.all oneA && Nat.ble m 1073741824 && Nat.ble inf.bytes 4096)
         (match s with
          | .v (.slice none 0 0) => cond (Nat.beq m 0) (some (s, H, n)) (some (.su n 0 m 0 m, tput H n (.mem e (some k) (.leaf news)), n + 1))
          | .sl i o len c =>
            match H.get i with
            | some (.mem T zz l) =>
              cond (Nat.ble len 1073741824 && Nat.ble c 1073741824 && l.long (o + len * k))
                (cond (Nat.ble (len + m) c)
                  (cond (l.long (o + len * k + news.length)) (some (.sl i o (len + m) c, tput H i (.mem T zz (l.spl (o + len * k) news)), n)) none)
                  (some (.su n 0 (len + m) 0 (len + m), tput H n (.mem e (some k) (.leaf (l.cut o (len * k) ++ news))), n + 1))) none
            | _ => none
          | .su i o len kk q =>
            match H.get i with
            | some (.mem T (some zz) l) =>
              cond (Nat.ble (len + m) q && l.long (o + len * k + news.length))
               (some (.su i o (len + m) kk q, tput H i (.mem T (some zz) (l.spl (o + len * k) news)), n)) <|
              cond (Nat.beq o 0 && Nat.beq kk 0 && Nat.beq T e && Nat.beq zz k && Nat.ble len 1073741824 && l.long (len * k))
                (some (.su n 0 (len + m) 0 (len + m), tput (tput H i .dead) n (.mem e (some k) (l.grow (len * k) news)), n + 1)) none
            | _ => none
          | _ => none) none
     | _, _ => none
   | none => none
 | _ => none
theorem Src.firstOlds {P : Program} {w : World} {w0 : Bs} {ρ : Env} {H : Tr AB} {n i b c o len k : Nat} {T : TypeId} {z : Option Nat} {l : Rp} (hr : HR w0 ρ H n w) (hi : ρ i = some (b, c)) (hB : H.get i = some (.mem T z l)) (hle : o + len * k ≤ l.toList.length) (cap : Nat) :
   ∃ olds, VRs ρ ((l.toList.drop o).take (len * k)) olds ∧ (Builtin.firstCells k len (.slice (some ⟨b, o, none⟩) len cap)).run P w.drew = .ok olds.toArray w.drew := by
 obtain ⟨ob, ho, vs, sp, fz, hv, rfl, hz, _⟩ := hr.blk hi hB
 have hlen := hv.length
 have hn := (hv.drop o).take (len * k)
 have hcs : w.rangeAt b o ((vs.drop o).take (len * k)) := by
   have := cells_range ho (o := o) (k := len * k) (by simp; omega)
   rwa [List.drop_append_of_le_length (by omega), List.take_append_of_le_length (by simp; omega)] at this
 exact ⟨_, hn, run_firstCells_some w.drew k len _ len cap _ (by simp; omega) (fun j u hu => by rw [Addr.add_mid]; simpa using hcs j u hu)⟩
theorem HR.grown {w : World} {w0 : Bs} {ρ : Env} {H : Tr AB} {n : Nat} (hr : HR w0 ρ H n w) {e : TypeId} {k need cap : Nat} {l : Rp} {vs : List Value} {z : Array Value} (hv : VRs ρ l.toList vs) (hz : z.size = k) (hl : l.toList.length = need * k) (hc : need ≤ cap) (hmx : cap ≤ maxLen) :
   HR w0 (ρ.set n (w.heap.size, cap)) (tput H n (.mem e (some k) l)) (n + 1) (w.drew.alloc (.cells (vs.toArray ++ Builtin.zeroCells z (cap - need)) e)) := by
 have hr' : HR w0 ρ H n w.drew := hr.same rfl (Fr.refl No w).drew
 refine hr'.alloc (c := cap) (B := .mem e (some k) l) ⟨vs, zerosV z.toList (cap - need), (0, 0), ?_, ?_, unfrozen_zero _, ?_⟩
 · exact hv.mono (Env.le_set (hr.top (Nat.le_refl _)).1 _)
 · rw [zeroCells_eq]; simp
 · have := hv.length
   simp only [List.length_append, zerosV_length, Array.length_toList, hz]
   refine ⟨?_, hmx⟩
   rw [← this, hl, ← Nat.add_mul]
   congr 1; omega
set_option maxHeartbeats 2000000 in
theorem appendA_sound {P : Program} {w0 : Bs} {w : World} {ρ : Env} {H H' : Tr AB} {n n' : Nat} (hr : HR w0 ρ H n w) {t tx ty : TypeId} {s x y : AV} {su xu : Value} (h : appendA P t tx s x H n = some (y, H', n')) (hs : VR ρ s su) (hx : VR ρ x xu) :
   ∃ ρ' v w', (Builtin.append_ #[t, tx] ty #[su, xu]).run P w = .ok v w' ∧ VR ρ' y v ∧ HR w0 ρ' H' n' w' ∧ Ext ρ ρ' H H' n n' := by
 unfold appendA at h
 simp only [Rp.long_eq] at h
 split at h
 · rename_i e hu
   split at h
   · rename_i inf hinf
     cases hz : inf.zero with
     | none => simp [hz] at h
     | some z =>
     cases hsrc : srcZ P tx inf.size z x H with
     | none => simp [hz, hsrc] at h
     | some mn =>
       obtain ⟨m, news⟩ := mn
       simp only [hz, hsrc] at h
       cases hc : (Nat.ble 1 inf.size && Nat.beq (ofV z).cells.length inf.size && news.all oneA && Nat.ble m 1073741824 && Nat.ble inf.bytes 4096) with
       | false => simp [hc] at h
       | true =>
         simp only [hc, cond_true] at h
         simp only [Bool.and_eq_true, Nat.beq_eq, Nat.ble_eq] at hc
         obtain ⟨⟨⟨⟨hk1, hzl⟩, hone⟩, hm⟩, hby⟩ := hc
         have hzs : z.cells.size = inf.size := by rw [← hzl, ((ofV_VR (ρ := ρ) z).cells).length]; simp
         obtain ⟨us, hus, hSrc⟩ := srcZ_sound (ty := ty) hr hu hinf hz hk1 hzs hby hsrc hx hone
         have hnl : news.length = m * inf.size := hus.length.trans hSrc.newsLen
         have hfit : ∀ {need cap : Nat}, cap < need → need ≤ 2147483648 → Builtin.nextslicecap need cap * inf.bytes ≤ 281474976710656 := fun {need cap} h1 h2 =>
           growslice_fits h1 (by
             have : need * inf.bytes ≤ 2147483648 * 4096 := Nat.mul_le_mul h2 hby
             omega)
         have hnew : ∀ (need cap : Nat), need ≤ grownCap w need cap e := fun need cap => grownCap_ge w need cap e
         have grow : ∀ {base : Option Addr} {len cap : Nat} {olds : List AV} {R : Rp} {ovs : List Value}, R.toList = olds ++ news → VRs ρ olds ovs → olds.length = len * inf.size → (Builtin.firstCells inf.size len (.slice base len cap)).run P w.drew = .ok ovs.toArray w.drew →
             cap < len + m → len + m ≤ 2147483648 → ∃ ρ' v w', (Builtin.append_ #[t, tx] ty #[.slice base len cap, xu]).run P w = .ok v w' ∧ VR ρ' (.su n 0 (len + m) 0 (len + m)) v ∧
               HR w0 ρ' (tput H n (.mem e (some inf.size) R)) (n + 1) w' ∧ Ext ρ ρ' H (tput H n (.mem e (some inf.size) R)) n (n + 1) := by
           intro base len cap olds R ovs hR ho hol hold hg hle
           have hrun := hSrc.grow base len cap ovs hold hg (by omega) (hfit hg hle)
           have hgr := hr.grown (e := e) (k := inf.size) (need := len + m) (cap := grownCap w (len + m) cap e) (l := R) (by rw [hR]; exact ho.append hus) hzs (by rw [hR, List.length_append, hol, hnl, Nat.add_mul]) (hnew _ _) (grownCap_le_maxLen w _ cap e (by unfold maxLen; omega))
           exact ⟨_, _, _, hrun, by simpa using VR.su (ρ := ρ.set n (w.heap.size, grownCap w (len + m) cap e)) 0 (len + m) 0 (len + m) (Env.set_same _ _ _) ⟨Nat.le_refl _, by have := hnew (len + m) cap; omega⟩, hgr, Ext.alloc hr _ _⟩
         split at h
         · cases hs
           rw [beq_dec] at h
           by_cases hm0 : m = 0
           · subst hm0
             simp only [decide_true, cond_true, Option.some.injEq, Prod.mk.injEq] at h
             obtain ⟨rfl, rfl, rfl⟩ := h
             exact ⟨ρ, _, w, hSrc.nil rfl, .v _, hr, Ext.refl _ _ _⟩
           · simp only [hm0, decide_false, cond_false, Option.some.injEq, Prod.mk.injEq] at h
             obtain ⟨rfl, rfl, rfl⟩ := h
             have := grow (base := none) (len := 0) (cap := 0) (olds := []) (R := .leaf news) (Rp.toList_leaf _) VRs.nil (by simp) (by simp [Builtin.firstCells]) (by omega) (by omega)
             simpa using this
         · rename_i i o len c
           split at h
           · rename_i T zz l hB
             cases hc : (Nat.ble len 1073741824 && Nat.ble c 1073741824 && Nat.ble (o + len * inf.size) l.toList.length) with
             | false => simp [hc] at h
             | true =>
               simp only [hc, cond_true] at h
               simp only [Bool.and_eq_true, Nat.ble_eq] at hc
               cases hs with
               | @sl _ b d _ _ _ hi =>
                 cases hroom : Nat.ble (len + m) c with
                 | true =>
                   simp only [hroom, cond_true] at h
                   cases hfits : Nat.ble (o + len * inf.size + news.length) l.toList.length with
                   | false => simp [hfits] at h
                   | true =>
                     simp only [hfits, cond_true, Option.some.injEq, Prod.mk.injEq] at h
                     obtain ⟨rfl, rfl, rfl⟩ := h
                     obtain ⟨ht, hr'⟩ := hr.splice hi hB (Nat.le_of_ble_eq_true hfits) hus
                     have hrun := hSrc.room b o len c (Nat.le_of_ble_eq_true hroom) (fun j hj => (ht j hj).1) (fun j hj => (ht j hj).2)
                     exact ⟨ρ, _, _, hrun, .sl _ _ _ hi, hr', Ext.write hi _⟩
                 | false =>
                   simp only [hroom, cond_false, Option.some.injEq, Prod.mk.injEq] at h
                   obtain ⟨rfl, rfl, rfl⟩ := h
                   have hlt : c < len + m := by
                     rcases Nat.lt_or_ge c (len + m) with h' | h'
                     · exact h'
                     · rw [Nat.ble_eq_true_of_le h'] at hroom; cases hroom
                   obtain ⟨olds, ho, hold⟩ := Src.firstOlds (P := P) (k := inf.size) hr hi hB hc.2 c
                   rw [Rp.cut_eq l o _ hc.2]
                   exact grow (Rp.toList_leaf _) ho (by simp; omega) hold hlt (by omega)
           · cases h
         · rename_i i o len kk q
           split at h
           · rename_i T zz l hB
             cases hq : (Nat.ble (len + m) q && Nat.ble (o + len * inf.size + news.length) l.toList.length) with
             | true =>
               simp only [hq, cond_true, Option.some.injEq, Prod.mk.injEq] at h
               simp only [Bool.and_eq_true, Nat.ble_eq] at hq
               obtain ⟨rfl, rfl, rfl⟩ := h
               cases hs with
               | @su _ b d _ _ _ _ hi hn =>
                 obtain ⟨ht, hr'⟩ := hr.splice hi hB hq.2 hus
                 have hrun := hSrc.room b o len (d - kk) (by omega) (fun j hj => (ht j hj).1) (fun j hj => (ht j hj).2)
                 exact ⟨ρ, _, _, hrun, .su _ _ _ _ hi ⟨hq.1, hn.2⟩, hr', Ext.write hi _⟩
             | false =>
             simp only [hq, cond_false] at h
             cases hc : (Nat.beq o 0 && Nat.beq kk 0 && Nat.beq T e && Nat.beq zz inf.size && Nat.ble len 1073741824 && Nat.ble (len * inf.size) l.toList.length) with
             | false => simp [hc] at h
             | true =>
               simp only [hc, cond_true, Option.some.injEq, Prod.mk.injEq] at h
               simp only [Bool.and_eq_true, Nat.beq_eq, Nat.ble_eq] at hc
               obtain ⟨⟨⟨⟨⟨rfl, rfl⟩, rfl⟩, rfl⟩, hlen⟩, hle⟩ := hc
               obtain ⟨rfl, rfl, rfl⟩ := h
               cases hs with
               | @su _ b d _ _ _ _ hi hn =>
                 have hin : i < n := by
                   rcases Nat.lt_or_ge i n with h' | h'
                   · exact h'
                   · rw [(hr.top h').1] at hi; cases hi
                 have hdead : HR w0 ρ (tput H i .dead) n w := by
                   obtain ⟨ob, ho, hb⟩ := hr.blk hi hB
                   exact hr.write hi hB rfl ho trivial (Fr.refl _ _)
                 by_cases hroom : len + m ≤ d - 0
                 · obtain ⟨ob, ho, vs, sp, fz, hv, rfl, hz', hs'⟩ := hr.blk hi hB
                   have hvl := hv.length
                   simp only at hs'
                   have hfit' : 0 + len * inf.size + us.length ≤ (vs ++ sp).length := by
                     rw [hs'.1, hSrc.newsLen, Nat.zero_add, ← Nat.add_mul]
                     exact Nat.mul_le_mul_right _ (by omega)
                   have ht := cells_there ho hz' hfit'
                   have hrun := hSrc.room b 0 len (d - 0) hroom (fun j hj => (ht j hj).1) (fun j hj => (ht j hj).2)
                   have hset := cells_setCells us (0 + len * inf.size) ho hfit'
                   refine ⟨ρ.set n (b, d), _, _, hrun, VR.su 0 _ 0 _ (Env.set_same _ _ _) ⟨Nat.le_refl _, hroom⟩, ?_, ?_⟩
                   · have hle' : ρ.le (ρ.set n (b, d)) := Env.le_set (hr.top (Nat.le_refl _)).1 _
                     have hfr := fr_setCells (b := b) us w (0 + len * inf.size)
                     have hd2 : HR w0 ρ (tput H i .dead) n (w.setCells b (0 + len * inf.size) us) := by
                       have := hr.write (B' := .dead) hi hB rfl hset trivial hfr
                       exact this
                     have hp := hd2.put (.mem T (some inf.size) (l.grow (len * inf.size) news))
                     refine ⟨fun {j b' d' C} h1 h2 => ?_, fun {j k b' d' e' C D} h1 h2 h3 h4 h5 h6 => ?_, fun {j} hj => ?_, fun {j b' d'} h1 => ?_, hp.fr, Env.le_trans hp.le hle'⟩
                     · unfold Env.set at h1
                       split at h1
                       · rename_i ej
                         subst ej
                         cases h1
                         rw [get_tput, if_pos rfl] at h2
                         cases h2
                         refine ⟨_, hset, vs.take (len * inf.size) ++ us, (vs ++ sp).drop (len * inf.size + us.length), fz, ?_, ?_, ?_, ?_⟩
                         · rw [Rp.grow_eq _ _ _ hle]; exact ((hv.take _).append hus).mono hle'
                         · simp only [Nat.zero_add]
                           rw [List.take_append_of_le_length (by omega)]
                         · have : (vs.take (len * inf.size) ++ us ++ (vs ++ sp).drop (len * inf.size + us.length)).length = (vs ++ sp).length := by
                             simp at hfit' ⊢; omega
                           rw [this]; exact hz'
                         · have : (vs.take (len * inf.size) ++ us ++ (vs ++ sp).drop (len * inf.size + us.length)).length = (vs ++ sp).length := by
                             simp at hfit' ⊢; omega
                           simp only [this]; exact hs'
                       · obtain ⟨o', h3, h4⟩ := hp.blk h1 h2
                         exact ⟨o', h3, h4.mono hle'⟩
                     · have aux : ∀ {j b' d' : Nat} {C : AB}, ρ j = some (b, d') → (tput (tput H i .dead) n (.mem T (some inf.size) (l.grow (len * inf.size) news))).get j = some C → C.live = true → j ≠ n → False := by
                         intro j b' d' C q1 q2 q3 q4
                         rw [get_tput, if_neg q4, get_tput] at q2
                         split at q2
                         · cases q2; cases q3
                         · rename_i hji
                           exact hji (hr.inj q1 hi q2 hB q3 rfl)
                       unfold Env.set at h1 h2
                       split at h1 <;> split at h2
                       · rename_i e1 e2; rw [e1, e2]
                       · rename_i e1 e2; cases h1; exact (aux (b' := 0) h2 h4 h6 e2).elim
                       · rename_i e1 e2; cases h2; exact (aux (b' := 0) h1 h3 h5 e1).elim
                       · exact hp.inj h1 h2 h3 h4 h5 h6
                     · have := hp.top hj
                       refine ⟨?_, this.2⟩
                       unfold Env.set
                       rw [if_neg (by omega)]
                       exact this.1
                     · unfold Env.set at h1
                       split at h1
                       · cases h1; exact hd2.base hi
                       · exact hp.base h1
                   · exact ⟨Env.le_set (hr.top (Nat.le_refl _)).1 _, fun {j} hj => by unfold Env.set; rw [if_neg (by omega)], fun {j} hj hn => by
                       rw [get_tput, if_neg (by omega), get_tput, if_neg (fun ej => by subst ej; rw [hi] at hn; cases hn)], Nat.le_succ _⟩
                 · obtain ⟨olds, ho, hold⟩ := Src.firstOlds (P := P) (k := inf.size) (o := 0) (len := len) hr hi hB (by omega) (d - 0)
                   obtain ⟨ρ', v, w', g1, g2, g3, g4⟩ := grow (R := l.grow (len * inf.size) news) (by rw [Rp.grow_eq _ _ _ hle]; simp) ho (by simp; omega) hold (by omega) (by omega)
                   refine ⟨ρ', v, w', g1, g2, ?_, ?_⟩
                   · have hi' := g4.le _ _ hi
                     have hB' : (tput H n (.mem T (some inf.size) (l.grow (len * inf.size) news))).get i = some (.mem T (some inf.size) l) := by
                       rw [get_tput, if_neg (by omega)]; exact hB
                     obtain ⟨ob, hob, hbr⟩ := g3.blk hi' hB'
                     have hw := g3.write (B' := .dead) hi' hB' rfl hob trivial (Fr.refl _ _)
                     have hcomm : ∀ j, (tput (tput H i .dead) n (.mem T (some inf.size) (l.grow (len * inf.size) news))).get j = (tput (tput H n (.mem T (some inf.size) (l.grow (len * inf.size) news))) i .dead).get j := by
                       intro j
                       simp only [get_tput]
                       by_cases e1 : j = n
                       · have e3 : ¬ j = i := by omega
                         simp [e1, show ¬ n = i by omega]
                       · by_cases e2 : j = i
                         · subst e2; simp [e1]
                         · simp [e1, e2]
                     exact ⟨fun q1 q2 => hw.blk q1 (by rwa [hcomm] at q2), fun q1 q2 q3 q4 => hw.inj q1 q2 (by rwa [hcomm] at q3) (by rwa [hcomm] at q4), fun q => by rw [hcomm]; exact hw.top q, hw.base, hw.fr, hw.le⟩
                   · exact ⟨g4.le, g4.old, fun {j} hj hn => by
                       rw [get_tput, if_neg (by omega), get_tput, if_neg (fun ej => by subst ej; rw [hi] at hn; cases hn)], g4.nn⟩
           · cases h
         · cases h
   · cases h
 · cases h
end
noncomputable section
theorem fr_put (w : World) (b : Nat) (o : Obj) : Fr (fun k => k = b) w { w with heap := w.heap.setIfInBounds b o } := ⟨rfl, rfl, rfl, by simp, fun k _ hn => by simp [Ne.symm hn]⟩
theorem ERs.length {ρ : Env} {l : List (Value × AV × Nat)} {m : List MapEntry} (h : ERs ρ l m) : l.length = m.length := by
 induction h with
 | nil => rfl
 | cons _ _ ih => simp [ih]
theorem ERs.get {ρ : Env} {l : List (Value × AV × Nat)} {m : List MapEntry} (h : ERs ρ l m) : ∀ {i : Nat} {k : Value} {x : AV} {b : Nat}, l[i]? = some (k, x, b) → ∃ u, m[i]? = some ⟨k, u, b⟩ ∧ VR ρ x u := by
 induction h with
 | nil => intro i k x b h; simp at h
 | cons hx _ ih =>
   intro i k x b h
   cases i with
   | zero => simp at h; obtain ⟨rfl, rfl, rfl⟩ := h; exact ⟨_, rfl, hx⟩
   | succ i => simpa using ih (by simpa using h)
theorem ERs.snoc {ρ : Env} {l : List (Value × AV × Nat)} {m : List MapEntry} (h : ERs ρ l m) {k u : Value} {x : AV} {b : Nat} (hx : VR ρ x u) : ERs ρ (l ++ [(k, x, b)]) (m ++ [⟨k, u, b⟩]) := by
 induction h with
 | nil => exact .cons hx .nil
 | cons h1 _ ih => exact .cons h1 ih
def modA (k : Value) (x : AV) : Nat → List (Value × AV × Nat) → List (Value × AV × Nat)
 | _, [] => []
 | 0, e :: l => (k, x, e.2.2) :: l
 | i + 1, e :: l => e :: modA k x i l
theorem ERs.modify {ρ : Env} {l : List (Value × AV × Nat)} {m : List MapEntry} (h : ERs ρ l m) {k u : Value} {x : AV} (hx : VR ρ x u) : ∀ i, ERs ρ (modA k x i l) (m.modify i fun e => { e with key := k, val := u }) := by
 induction h with
 | nil => intro i; cases i <;> exact .nil
 | cons h1 t ih =>
   intro i
   cases i with
   | zero => exact .cons hx t
   | succ i => exact .cons h1 (ih i)
def findA (kind : TypeDesc) (k : Value) : List (Value × AV × Nat) → Nat → Option (Option (Nat × AV))
 | [], _ => some none
 | e :: es, i => match Instr.sameNow kind k e.1 with
   | some b => cond b (some (some (i, e.2.1))) (findA kind k es (i + 1))
   | none => none
theorem findA_sound {ρ : Env} {kind : TypeDesc} {k : Value} {l : List (Value × AV × Nat)} {m : List MapEntry} (h : ERs ρ l m) : ∀ {i : Nat} {r}, findA kind k l i = some r →
   (r = none ∧ Instr.findNow kind k m i = some none) ∨ (∃ j x u, r = some (j, x) ∧ VR ρ x u ∧ Instr.findNow kind k m i = some (some (j, u))) := by
 induction h with
 | nil => intro i r h; simp [findA] at h; subst h; exact .inl ⟨rfl, rfl⟩
 | @cons k' u x b l m hx t ih =>
   intro i r h
   simp only [findA] at h
   cases hs : Instr.sameNow kind k k' with
   | none => simp [hs] at h
   | some q =>
     simp only [hs] at h
     cases q with
     | true =>
       simp at h; subst h
       exact .inr ⟨i, x, u, rfl, hx, by simp [Instr.findNow, hs]⟩
     | false =>
       simp only [cond_false] at h
       rcases ih h with ⟨h1, h2⟩ | ⟨j, x', u', h1, h2, h3⟩
       · exact .inl ⟨h1, by simp [Instr.findNow, hs, h2]⟩
       · exact .inr ⟨j, x', u', h1, h2, by simp [Instr.findNow, hs, h3]⟩
def askA (P : Program) (kt : TypeId) (k : Value) : List (Value × AV × Nat) → Nat → Option (Option (Nat × AV))
 | [], _ => some none
 | e :: es, i => match pureRun P (Op.equal kt k e.1) with
   | some b => cond b (some (some (i, e.2.1))) (askA P kt k es (i + 1))
   | none => none
theorem askA_sound {P : Program} {ρ : Env} {kt : TypeId} {k : Value} {l : List (Value × AV × Nat)} {m : List MapEntry} (h : ERs ρ l m) : ∀ {i : Nat} {r}, askA P kt k l i = some r →
   (r = none ∧ ∀ w, (Instr.findAsking kt k m i).run P w = .ok none w) ∨ (∃ j x u, r = some (j, x) ∧ VR ρ x u ∧ ∀ w, (Instr.findAsking kt k m i).run P w = .ok (some (j, u)) w) := by
 induction h with
 | nil => intro i r h; simp [askA] at h; subst h; exact .inl ⟨rfl, fun w => rfl⟩
 | @cons k' u x b l m hx t ih =>
   intro i r h
   simp only [askA] at h
   cases hs : pureRun P (Op.equal kt k k') with
   | none => simp [hs] at h
   | some q =>
     simp only [hs] at h
     have hq : ∀ w, (Op.equal kt k k').run P w = .ok q w := fun w => pureRun_run w hs
     cases q with
     | true =>
       simp at h; subst h
       exact .inr ⟨i, x, u, rfl, hx, fun w => by simp [Instr.findAsking, hq, Result.andThen]⟩
     | false =>
       simp only [cond_false] at h
       rcases ih h with ⟨h1, h2⟩ | ⟨j, x', u', h1, h2, h3⟩
       · exact .inl ⟨h1, fun w => by simp [Instr.findAsking, hq, Result.andThen, h2]⟩
       · exact .inr ⟨j, x', u', h1, h2, fun w => by simp [Instr.findAsking, hq, Result.andThen, h3]⟩
def findK (P : Program) (kt : TypeId) (kd : TypeDesc) (k : Value) (l : List (Value × AV × Nat)) : Option (Option (Nat × AV)) :=
 match findA kd k l 0 with
 | some r => some r
 | none => match kd with
   | .struct _ => askA P kt k l 0
   | .array _ _ => askA P kt k l 0
   | _ => none
theorem findK_sound {P : Program} {ρ : Env} {kt : TypeId} {kd : TypeDesc} {k : Value} {l : List (Value × AV × Nat)} {m : List MapEntry} (hd : P.underlying kt = some kd) (h : ERs ρ l m) {r} (hf : findK P kt kd k l = some r) :
   (r = none ∧ ∀ w, (Instr.findKey kt k m).run P w = .ok none w) ∨ (∃ j x u, r = some (j, x) ∧ VR ρ x u ∧ ∀ w, (Instr.findKey kt k m).run P w = .ok (some (j, u)) w) := by
 have wide : (match P.underlying kt with | some (.array _ _) | some (.struct _) => true | _ => false) = true → askA P kt k l 0 = some r → (r = none ∧ ∀ w, (Instr.findKey kt k m).run P w = .ok none w) ∨ (∃ j x u, r = some (j, x) ∧ VR ρ x u ∧ ∀ w, (Instr.findKey kt k m).run P w = .ok (some (j, u)) w) := by
   intro hw ha
   rcases askA_sound h ha with ⟨h1, h2⟩ | ⟨j, x', u', h1, h2, h3⟩
   · exact .inl ⟨h1, fun w => by rw [run_findKey_eq w hw]; exact h2 w⟩
   · exact .inr ⟨j, x', u', h1, h2, fun w => by rw [run_findKey_eq w hw]; exact h3 w⟩
 unfold findK at hf
 cases hc : findA kd k l 0 with
 | some q =>
   simp only [hc, Option.some.injEq] at hf
   subst hf
   rcases findA_sound h hc with ⟨h1, h2⟩ | ⟨j, x', u', h1, h2, h3⟩
   · exact .inl ⟨h1, fun w => MapKept.run_findKey hd h2⟩
   · exact .inr ⟨j, x', u', h1, h2, fun w => MapKept.run_findKey hd h3⟩
 | none =>
   simp only [hc] at hf
   split at hf
   · exact wide (by rw [hd]) hf
   · exact wide (by rw [hd]) hf
   · cases hf
def entsA (m : AV) (H : Tr AB) : Option (List (Value × AV × Nat)) :=
 match m with
 | .v (.map none) => some []
 | .mp i => match H.get i with
   | some (.map l _) => some l
   | _ => none
 | _ => none
def lookupA (P : Program) (t : TypeId) (m k : AV) (ok : Bool) (H : Tr AB) : Option AV :=
 match P.underlying t, k.val?, entsA m H with
 | some (.map kt et), some u, some l =>
   match P.underlying kt, pureRun P (Instr.checkKey l.isEmpty 10000 kt u), P.info? et with
   | some kd, some _, some inf =>
     match findK P kt kd u l, inf.zero with
     | some (some (_, x)), _ => some (cond ok (.tup [x, .v (.bool true)]) x)
     | some none, some z => some (cond ok (.tup [ofV z, .v (.bool false)]) (ofV z))
     | _, _ => none
   | _, _, _ => none
 | _, _, _ => none
theorem lookupA_sound {P : Program} {w0 : Bs} {w : World} {ρ : Env} {H : Tr AB} {n : Nat} (hr : HR w0 ρ H n w) {t : TypeId} {m k x : AV} {mu ku : Value} {ok : Bool} (h : lookupA P t m k ok H = some x) (hm : VR ρ m mu) (hk : VR ρ k ku) :
   ∃ v, VR ρ x v ∧ (Instr.lookup t mu ku ok).run P w = .ok v w := by
 unfold lookupA at h
 split at h
 · rename_i kt et u l hu hku hl
   obtain rfl := AV.val?_VR hku hk
   split at h
   · rename_i kd z0 inf hkd hck hinf
     have hE : ∃ es : List MapEntry, ERs ρ l es ∧ ((mu = .map none ∧ es = []) ∨ ∃ b c, mu = .map (some b) ∧ w.heap[b]? = some (.map es.toArray c)) := by
       unfold entsA at hl
       split at hl
       · cases hm; simp at hl; subst hl; exact ⟨[], .nil, .inl ⟨rfl, rfl⟩⟩
       · rename_i i
         cases hm with
         | mp hi =>
           split at hl
           · rename_i l' c hB
             simp at hl; subst hl
             obtain ⟨o, ho, es, he, rfl⟩ := hr.blk hi hB
             exact ⟨es, he, .inr ⟨_, _, rfl, ho⟩⟩
           · cases hl
       · cases hl
     obtain ⟨es, he, hget⟩ := hE
     have hemp : es.toArray.isEmpty = l.isEmpty := by cases he <;> simp
     have hck' := pureRun_run w hck
     cases hf : findK P kt kd ku l with
     | none => simp [hf] at h
     | some r =>
       have hfind := findK_sound hkd he hf
       have base : ∀ {a : Option (Nat × Value)}, (∀ w, (Instr.findKey kt ku es).run P w = .ok a w) → (Instr.lookup t mu ku ok).run P w =
           (match a with
             | some (_, v) => Result.ok (v, true) w
             | none => ((zeroValue et).run P w).andThen fun z w' => .ok (z, false) w').andThen fun p w' => .ok (if ok then .tuple #[p.1, .bool p.2] else p.1) w' := by
         intro a ha
         rcases hget with ⟨rfl, rfl⟩ | ⟨b, c, rfl, ho⟩
         · unfold Instr.lookup
           simp only [Sem.run_bind, run_underlying hu, Result.andThen_ok, Sem.run_pure]
           have hemp' : (#[] : Array MapEntry).isEmpty = l.isEmpty := hemp
           have ha' : ∀ w, (Instr.findKey kt ku (#[] : Array MapEntry).toList).run P w = .ok a w := ha
           simp only [hemp', hck', Result.andThen_ok, ha']
           cases a with
           | none => simp [Result.andThen]; cases (zeroValue et).run P w <;> rfl
           | some q => obtain ⟨j, v⟩ := q; rfl
         · unfold Instr.lookup
           simp only [Sem.run_bind, run_underlying hu, Result.andThen_ok, MapKept.run_getObj_map ho, Sem.run_pure]
           simp only [hemp, hck', Result.andThen_ok, ha]
           cases a with
           | none => simp [Result.andThen]; cases (zeroValue et).run P w <;> rfl
           | some q => obtain ⟨j, v⟩ := q; rfl
       rcases hfind with ⟨rfl, hn⟩ | ⟨j, y, v, rfl, hy, hn⟩
       · simp only [hf] at h
         cases hz : inf.zero with
         | none => simp [hz] at h
         | some z =>
           simp only [hz, Option.some.injEq] at h
           have hb := base hn
           simp only [run_zeroValue hinf hz, Result.andThen_ok] at hb
           cases ok with
           | true =>
             simp only [cond_true] at h; subst h
             exact ⟨_, .tup (.cons (ofV_VR z) (.cons (.v _) .nil)), by rw [hb]; rfl⟩
           | false =>
             simp only [cond_false] at h; subst h
             exact ⟨_, ofV_VR z, by rw [hb]; rfl⟩
       · simp only [hf, Option.some.injEq] at h
         have hb := base hn
         simp only [Result.andThen_ok] at hb
         cases ok with
         | true =>
           simp only [cond_true] at h; subst h
           exact ⟨_, .tup (.cons hy (.cons (.v _) .nil)), by rw [hb]; rfl⟩
         | false =>
           simp only [cond_false] at h; subst h
           exact ⟨_, hy, by rw [hb]; rfl⟩
   · cases h
 · cases h
def mapPutA (P : Program) (t : TypeId) (m k x : AV) (H : Tr AB) : Option (Tr AB) :=
 match P.underlying t, k.val?, m with
 | some (.map kt _), some u, .mp i =>
   match P.underlying kt, pureRun P (Instr.checkKey false 10000 kt u), H.get i with
   | some kd, some _, some (.map l c) =>
     match findK P kt kd u l with
     | some (some (j, _)) => match l[j]? with
       | some (old, _, _) => cond (Instr.sameBits 10000 old u) (some (tput H i (.map (modA u x j l) c))) none
       | none => none
     | some none => some (tput H i (.map (l ++ [(u, x, c)]) (c + 1)))
     | none => none
   | _, _, _ => none
 | _, _, _ => none
theorem mapPutA_sound {P : Program} {w0 : Bs} {w : World} {ρ : Env} {H H' : Tr AB} {n : Nat} (hr : HR w0 ρ H n w) {t : TypeId} {m k x : AV} {mu ku xu : Value} (h : mapPutA P t m k x H = some H') (hm : VR ρ m mu) (hk : VR ρ k ku) (hx : VR ρ x xu) :
   ∃ w', (Instr.mapUpdate t mu ku xu).run P w = .ok () w' ∧ HR w0 ρ H' n w' ∧ Ext ρ ρ H H' n n := by
 unfold mapPutA at h
 split at h
 · rename_i kt et u i hu hku
   obtain rfl := AV.val?_VR hku hk
   split at h
   · rename_i kd z0 l c hkd hck hB
     cases hm with
     | @mp _ b d hi =>
       obtain ⟨o, ho, es, he, rfl⟩ := hr.blk hi hB
       have hck' := pureRun_run w hck
       have hput := MapKept.heap_set (o' := Obj.map #[] 0) ho
       have hset : ∀ o' : Obj, (setObj b o').run P w = .ok () { w with heap := w.heap.setIfInBounds b o' } := fun o' => MapKept.run_setObj_map o' ho
       cases hf : findK P kt kd ku l with
       | none => simp [hf] at h
       | some r =>
         rcases findK_sound hkd he hf with ⟨rfl, hn⟩ | ⟨j, y, v, rfl, hy, hn⟩
         · simp only [hf, Option.some.injEq] at h
           subst h
           refine ⟨_, ?_, hr.write hi hB rfl (MapKept.heap_set ho).1 ⟨es ++ [⟨ku, xu, c⟩], he.snoc hx, rfl⟩ (fr_put w b _), Ext.write hi _⟩
           unfold Instr.mapUpdate
           simp only [Sem.run_bind, run_underlying hu, Result.andThen_ok, MapKept.run_getObj_map ho, hck', hn, hset]
           simp
         · simp only [hf] at h
           cases hlj : l[j]? with
           | none => simp [hlj] at h
           | some p =>
             obtain ⟨old, y', b'⟩ := p
             simp only [hlj] at h
             obtain ⟨u', hej, _⟩ := he.get hlj
             cases hs : Instr.sameBits 10000 old ku with
             | false => simp [hs] at h
             | true =>
               simp only [hs, cond_true, Option.some.injEq] at h
               subst h
               refine ⟨_, ?_, hr.write hi hB rfl (MapKept.heap_set ho).1 ⟨_, he.modify (k := ku) hx j, rfl⟩ (fr_put w b _), Ext.write hi _⟩
               unfold Instr.mapUpdate
               simp only [Sem.run_bind, run_underlying hu, Result.andThen_ok, MapKept.run_getObj_map ho, hck', hn]
               have hk' : ((es.toArray[j]?).map (·.key)).getD ku = old := by simp [hej]
               rw [hk']
               have hst : (Instr.keyThatStays old ku).run P w = .ok ku w := by unfold Instr.keyThatStays; simp [hs]
               simp only [hst, Result.andThen_ok, hset]
               simp
   · cases h
 · cases h
def bytesA : List AV → Option (List Int)
 | [] => some []
 | .v (.int .u8 k) :: l => match bytesA l with
   | some r => some (k :: r)
   | none => none
 | _ => none
theorem bytesA_sound {ρ : Env} : ∀ {l : List AV} {ns : List Int} {us : List Value}, bytesA l = some ns → VRs ρ l us → us = ns.map (Value.int .u8)
 | [], ns, us, h, hu => by simp [bytesA] at h; subst h; cases hu; rfl
 | x :: l, ns, us, h, hu => by
   cases hu with
   | cons e t =>
     unfold bytesA at h
     split at h
     · rename_i heq; cases heq
     · rename_i k l' heq
       cases heq
       cases e
       split at h
       · rename_i r hr
         cases h
         rw [bytesA_sound hr t]
         rfl
       · cases h
     · cases h
def strOf (ns : List Int) : ByteArray := ⟨(ns.map fun n => UInt8.ofNat n.toNat).toArray⟩
def slenU : AV → Option Nat
 | .sl _ _ n _ => some n
 | .su _ _ n _ _ => some n
 | .se => some 0
 | .v (.slice none 0 _) => some 0
 | _ => none
def takeU (n : Nat) (x : AV) (H : Tr AB) : Option (List AV) :=
 match x with
 | .sl i o _ _ => match H.get i with
   | some (.mem _ _ l) => cond (l.long (o + n)) (some (l.cut o n)) none
   | _ => none
 | .su i o _ _ _ => match H.get i with
   | some (.mem _ _ l) => cond (l.long (o + n)) (some (l.cut o n)) none
   | _ => none
 | _ => some []
def strA (P : Program) (s d : TypeId) (x : AV) (H : Tr AB) : Option AV :=
 match P.underlying s, P.underlying d, slenU x with
 | some (.slice e), some .string, some n =>
   match P.underlying e, takeU n x H with
   | some (.int .u8), some l => match bytesA l with
     | some ns => some (.v (.string (strOf ns)))
     | none => none
   | _, _ => none
 | _, _, _ => none
theorem strA_sound {P : Program} {w0 : Bs} {w : World} {ρ : Env} {H : Tr AB} {n : Nat} (hr : HR w0 ρ H n w) {s d : TypeId} {x y : AV} {u : Value} (h : strA P s d x H = some y) (hx : VR ρ x u) :
   ∃ v, VR ρ y v ∧ (convert s d u).run P w = .ok v w := by
 unfold strA at h
 split at h
 · rename_i e m hs hd hlen
   split at h
   · rename_i l he htake
     split at h
     · rename_i ns hns
       cases h
       refine ⟨_, .v _, ?_⟩
       have fin : ∀ (a : Addr) (c : Nat) (us : List Value), VRs ρ l us → (loadCells a m).run P w = .ok us.toArray w → (convert s d (.slice (some a) m c)).run P w = .ok (.string (strOf ns)) w := by
         intro a c us hus hload
         have := bytesA_sound hns hus
         subst this
         rw [run_convert_bytes_string w s d e _ m c hs he hd, run_bytesToString w a m c ns hload, foldl_push_bytes]
         simp [strOf, ByteArray.empty, ByteArray.emptyWithCapacity]
         rfl
       have mid : ∀ {i o b c cc : Nat} {T : TypeId} {z : Option Nat} {l' : Rp}, ρ i = some (b, cc) → H.get i = some (.mem T z l') →
           (cond (l'.long (o + m)) (some (l'.cut o m)) none = some l) → (convert s d (.slice (some ⟨b, o, none⟩) m c)).run P w = .ok (.string (strOf ns)) w := by
         intro i o b c cc T z l' hi hB hq
         rw [Rp.long_eq] at hq
         cases hc : Nat.ble (o + m) l'.toList.length with
         | false => simp [hc] at hq
         | true =>
           have hle : o + m ≤ l'.toList.length := Nat.le_of_ble_eq_true hc
           simp only [hc, cond_true, Option.some.injEq] at hq
           rw [Rp.cut_eq l' o m hle] at hq
           subst hq
           obtain ⟨ob, ho, vs, sp, fz, hv, rfl, hz, _⟩ := hr.blk hi hB
           have hvl := hv.length
           have hcs : w.rangeAt b o ((vs.drop o).take m) := by
             have := cells_range ho (o := o) (k := m) (by simp; omega)
             rwa [List.drop_append_of_le_length (by omega), List.take_append_of_le_length (by simp; omega)] at this
           refine fin _ c _ ((hv.drop o).take m) ?_
           have hl2 := run_loadCells_list (P := P) w ⟨b, o, none⟩ ((vs.drop o).take m) (fun j u hu => by rw [Addr.add_mid]; exact hcs j u hu)
           rwa [show ((vs.drop o).take m).length = m by simp; omega] at hl2
       unfold slenU at hlen
       unfold takeU at htake
       split at hlen <;> simp at hlen <;> subst hlen
       · cases hx with
         | sl _ _ _ hi =>
           simp only at htake
           split at htake
           · rename_i hB; exact mid hi hB htake
           · cases htake
       · cases hx with
         | su _ _ _ _ hi hn =>
           simp only at htake
           split at htake
           · rename_i hB; exact mid hi hB htake
           · cases htake
       · cases hx with
         | se a c =>
           simp at htake; subst htake
           exact fin a c [] .nil (by simp [loadCells, loadCellsFrom])
       · cases hx
         simp at htake; subst htake
         simp [bytesA] at hns; subst hns
         exact run_convert_bytes_nil w s e hs he 0 _ d hd
     · cases h
   · cases h
 · cases h
def toBytesA (P : Program) (s d : TypeId) (x : AV) (H : Tr AB) (n : Nat) : Option (AV × Tr AB × Nat) :=
 match P.underlying d with
 | some (.slice e) => match P.underlying e with
   | some (.int .u8) => match x with
     | .v (.string b) => match P.underlying s with
       | some .string => cond (Nat.ble b.size 1073741824) (some (.su n 0 b.size 0 b.size, tput H n (.mem e (some 1) (.leaf ((byteCells b).map .v))), n + 1)) none
       | _ => none
     | .sl i o k c => match H.get i with
       | some (.mem _ _ _) => cond (Nat.beq s d) (some (.sl i o k c, H, n)) none
       | _ => none
     | _ => none
   | _ => none
 | _ => none
theorem toBytesA_sound {P : Program} {w0 : Bs} {w : World} {ρ : Env} {H H' : Tr AB} {n n' : Nat} (hr : HR w0 ρ H n w) {s d : TypeId} {x y : AV} {u : Value} (h : toBytesA P s d x H n = some (y, H', n')) (hx : VR ρ x u) :
   ∃ ρ' v w', (convert s d u).run P w = .ok v w' ∧ VR ρ' y v ∧ HR w0 ρ' H' n' w' ∧ Ext ρ ρ' H H' n n' := by
 unfold toBytesA at h
 split at h
 · rename_i e hd
   split at h
   · rename_i he
     split at h
     · rename_i b
       cases hx
       split at h
       · rename_i hs
         cases hbs : Nat.ble b.size 1073741824 with
         | false => simp [hbs] at h
         | true =>
         simp only [hbs, cond_true, Option.some.injEq, Prod.mk.injEq] at h
         obtain ⟨rfl, rfl, rfl⟩ := h
         have hbs' := Nat.le_of_ble_eq_true hbs
         have hge := grownCap_ge w b.size 0 e
         have hmx := grownCap_le_maxLen w b.size 0 e (by unfold maxLen; omega)
         have hrun := run_bytes_of_string w s d e b hs hd he
         have hr' : HR w0 ρ H n w.drew := hr.same rfl (Fr.refl No w).drew
         have hsz : (byteCells b).length = b.size := by simp [byteCells]
         have hbc : (bytesRow b (grownCap w b.size 0 e)) = ((byteCells b) ++ List.replicate (grownCap w b.size 0 e - b.size) (Value.int .u8 0)).toArray := by
           apply Array.ext'
           simp [bytesRow, byteCells]
         have hsz2 : (bytesRow b (grownCap w b.size 0 e)).size = grownCap w b.size 0 e := by rw [hbc]; simp [hsz]; omega
         generalize hG : grownCap w b.size 0 e = G at *
         refine ⟨ρ.set n (w.heap.size, G), _, _, hrun, VR.su 0 _ 0 _ (Env.set_same _ _ _) ⟨Nat.le_refl _, by simpa using hge⟩, ?_, Ext.alloc hr _ _⟩
         refine hr'.alloc (c := G) (B := .mem e (some 1) (.leaf ((byteCells b).map .v))) ⟨byteCells b, _, _, leafVR (VRs.of_vals _), by rw [hbc], .inr ?_, ?_⟩
         · simp
         · exact ⟨by simp [hsz]; omega, hmx⟩
       · cases h
     · rename_i i o k c
       split at h
       · rename_i T z l hB
         cases hc : Nat.beq s d with
         | false => simp [hc] at h
         | true =>
           simp only [hc, cond_true, Option.some.injEq, Prod.mk.injEq] at h
           obtain ⟨rfl, rfl, rfl⟩ := h
           have hsd : s = d := by simpa using hc
           subst hsd
           cases hx with
           | @sl _ b' cc _ _ _ hi =>
             obtain ⟨ob, ho, vs, sp, fz, hv, rfl, hz, hq⟩ := hr.blk hi hB
             have hsh : w.shape? b' = some (T, (vs ++ sp).length) := by simp [World.shape?, ho]
             refine ⟨ρ, _, w.freeze ⟨b', (vs ++ sp).length, none⟩ 1, ?_, .sl _ _ _ hi, ?_, Ext.refl _ _ _⟩
             · simp [convert, run_underlying hd, run_underlying he, markStringish, hsh]
             · obtain ⟨lo, hi'⟩ := fz
               have hfz : (w.freeze ⟨b', (vs ++ sp).length, none⟩ 1).heap[b']? = some (.cells (vs ++ sp).toArray T (if lo == hi' then ((vs ++ sp).length, (vs ++ sp).length + 1) else (min lo (vs ++ sp).length, max hi' ((vs ++ sp).length + 1)))) := by
                 unfold World.freeze
                 rw [if_neg (by decide)]
                 simp only [Array.getElem?_modify, if_true, ho, Option.map_some]
               refine hr.touch hi hB rfl hfz ⟨vs, sp, _, hv, rfl, ?_, hq⟩ ⟨rfl, rfl, rfl, ?_, fun k hk hn => ?_⟩
               · by_cases hl : lo = hi'
                 · right; simp [hl]
                 · rcases hz with hz | hz
                   · simp only [Prod.mk.injEq] at hz; omega
                   · right
                     simp only [beq_iff_eq, hl, if_false]
                     exact Nat.le_min.2 ⟨hz, Nat.le_refl _⟩
               · unfold World.freeze; simp
               · have hn' : ¬ b' = k := fun e => hn e.symm
                 unfold World.freeze
                 simp [Array.getElem?_modify, hn']
       · cases h
     · cases h
   · cases h
 · cases h
def arrA (P : Program) (t : TypeId) (x : AV) : Option AV :=
 match P.underlying t with
 | some (.array n _) => match x with
   | .sl i o k _ => cond (Nat.ble n k) (some (.ptr i o)) none
   | .su i o k _ _ => cond (Nat.ble n k) (some (.ptr i o)) none
   | _ => none
 | _ => none
theorem arrA_sound {P : Program} {w : World} {ρ : Env} {t : TypeId} {x y : AV} {u : Value} (h : arrA P t x = some y) (hx : VR ρ x u) : ∃ v, VR ρ y v ∧ (Instr.arrayAt t u).run P w = .ok v w := by
 unfold arrA at h
 split at h
 · rename_i n e hu
   split at h
   · rename_i i o k c
     cases hc : Nat.ble n k with
     | false => simp [hc] at h
     | true =>
       simp [hc] at h; subst h
       cases hx with
       | sl _ _ _ hi => exact ⟨_, .ptr _ hi, run_arrayAt w t e n _ k _ hu (Nat.le_of_ble_eq_true hc)⟩
   · rename_i i o k kk q
     cases hc : Nat.ble n k with
     | false => simp [hc] at h
     | true =>
       simp [hc] at h; subst h
       cases hx with
       | su _ _ _ _ hi hn => exact ⟨_, .ptr _ hi, run_arrayAt w t e n _ k _ hu (Nat.le_of_ble_eq_true hc)⟩
   · cases h
 · cases h
theorem run_next_str {P : Program} {w : World} {b : Nat} {s : ByteArray} {pos : Nat} {ty : TypeId} (ho : w.heap[b]? = some (.stringIter s pos)) (h : pos < s.size) :
   (Instr.next (.pointer (some ⟨b, 0, none⟩)) true ty).run P w = .ok (.tuple #[.bool true, .int .i64 pos, .int .i32 (Utf8.decode s pos).1]) { w with heap := w.heap.setIfInBounds b (.stringIter s (pos + (Utf8.decode s pos).2)) } := by
 simp only [Instr.next, getObj, setObj, Sem.run_bind, Sem.run, ho, Result.andThen, h, if_true]
 simp [goInt]
theorem run_next_over {P : Program} {w : World} {b : Nat} {s : ByteArray} {pos : Nat} {ty : TypeId} (ho : w.heap[b]? = some (.stringIter s pos)) (h : ¬ pos < s.size) :
   (Instr.next (.pointer (some ⟨b, 0, none⟩)) true ty).run P w = .ok (.tuple #[.bool false]) w := by
 simp [Instr.next, getObj, Sem.run, ho, h]
def aopM (P : Program) (T : Tr AV) (o : Oper) (H : Tr AB) (n : Nat) : Option (AV × Tr AB × Nat) :=
 match o.op with
 | .makeMap _ none => some (.mp n, tput H n (.map [] 0), n + 1)
 | .lookup t m k ok => match lookupA P t (aev T m) (aev T k) ok H with | some x => some (x, H, n) | none => none
 | .mapUpdate t m k x => match mapPutA P t (aev T m) (aev T k) (aev T x) H with | some H' => some (.v undef, H', n) | none => none
 | .insert t m k x => match mapPutA P t (aev T m) (aev T k) (aev T x) H with | some H' => some (.v undef, H', n) | none => none
 | .sliceToArrayPointer t x => match arrA P t (aev T x) with | some y => some (y, H, n) | none => none
 | .range t x => match aev T x, P.underlying t with
   | .v (.string s), some .string => some (.ptr n 0, tput H n (.sit s 0), n + 1)
   | _, _ => none
 | .next it true => match aev T it with
   | .ptr i 0 => match H.get i with
     | some (.sit s pos) => cond (Nat.blt pos s.size) (some (.tup [.v (.bool true), .v (.int .i64 pos), .v (.int .i32 (Utf8.decode s pos).1)], tput H i (.sit s (pos + (Utf8.decode s pos).2)), n)) (some (.tup [.v (.bool false)], H, n))
     | _ => none
   | _ => none
 | .convert s d x => match strA P s d (aev T x) H with
   | some y => some (y, H, n)
   | none => toBytesA P s d (aev T x) H n
 | .call ⟨.builtin b, args, ats⟩ =>
   match b, args.toList, ats.toList with
   | .len, [x], [t] => match aev T x, P.underlying t with
     | .mp i, some (.map _ _) => match H.get i with
       | some (.map l _) => some (.v (.int .i64 l.length), H, n)
       | _ => none
     | _, _ => none
   | .clear, [x], [t] => match aev T x, P.underlying t with
     | .mp i, some (.map _ _) => match H.get i with
       | some (.map _ c) => some (.v (.tuple #[]), tput H i (.map [] c), n)
       | _ => none
     | _, _ => none
   | _, _, _ => none
 | _ => none
theorem aopM_sound {P : Program} {w0 : Bs} {w : World} {ρ : Env} {T : Tr AV} {o : Oper} {H H' : Tr AB} {n n' : Nat} {x : AV} {ev : Operand → Value} (hr : HR w0 ρ H n w) (h : aopM P T o H n = some (x, H', n')) (hev : ∀ y ∈ o.op.operands, VR ρ (aev T y) (ev y)) :
   ∃ ρ' v w', ((execOp ev o).run P w = .ok (.value v) w' ∨ (v = undef ∧ (execOp ev o).run P w = .ok .skip w')) ∧ VR ρ' x v ∧ HR w0 ρ' H' n' w' ∧ Ext ρ ρ' H H' n n' := by
 obtain ⟨dst, op, type, pos, after, guard⟩ := o
 cases op <;> simp only [aopM] at h <;> try (cases h; done)
 case makeMap t r =>
   cases r with
   | some _ => simp at h
   | none =>
     simp only [Option.some.injEq, Prod.mk.injEq] at h
     obtain ⟨rfl, rfl, rfl⟩ := h
     exact ⟨_, _, _, .inl (by unfold execOp; simp [run_makeMap]), .mp (Env.set_same ρ n (w.heap.size, 0)), hr.alloc (c := 0) (B := .map [] 0) ⟨[], .nil, rfl⟩, Ext.alloc hr _ _⟩
 case lookup t m k ok =>
   split at h
   · rename_i y hl
     simp only [Option.some.injEq, Prod.mk.injEq] at h
     obtain ⟨rfl, rfl, rfl⟩ := h
     obtain ⟨v, hv, hrun⟩ := lookupA_sound hr hl (hev m (by simp [Op.operands])) (hev k (by simp [Op.operands]))
     exact ⟨ρ, v, w, .inl (by unfold execOp; simp [hrun]), hv, hr, Ext.refl _ _ _⟩
   · cases h
 case mapUpdate t m k y =>
   split at h
   · rename_i H2 hl
     simp only [Option.some.injEq, Prod.mk.injEq] at h
     obtain ⟨rfl, rfl, rfl⟩ := h
     obtain ⟨w', hrun, h2, h3⟩ := mapPutA_sound hr hl (hev m (by simp [Op.operands])) (hev k (by simp [Op.operands])) (hev y (by simp [Op.operands]))
     exact ⟨ρ, undef, w', .inr ⟨rfl, by unfold execOp; simp [hrun]⟩, .v _, h2, h3⟩
   · cases h
 case insert t m k y =>
   split at h
   · rename_i H2 hl
     simp only [Option.some.injEq, Prod.mk.injEq] at h
     obtain ⟨rfl, rfl, rfl⟩ := h
     obtain ⟨w', hrun, h2, h3⟩ := mapPutA_sound hr hl (hev m (by simp [Op.operands])) (hev k (by simp [Op.operands])) (hev y (by simp [Op.operands]))
     exact ⟨ρ, undef, w', .inr ⟨rfl, by unfold execOp; simp [hrun]⟩, .v _, h2, h3⟩
   · cases h
 case sliceToArrayPointer t y =>
   split at h
   · rename_i z hl
     simp only [Option.some.injEq, Prod.mk.injEq] at h
     obtain ⟨rfl, rfl, rfl⟩ := h
     obtain ⟨v, hv, hrun⟩ := arrA_sound (w := w) hl (hev y (by simp [Op.operands]))
     exact ⟨ρ, v, w, .inl (by unfold execOp; simp [hrun]), hv, hr, Ext.refl _ _ _⟩
   · cases h
 case range t y =>
   split at h
   · rename_i s hs hu
     simp only [Option.some.injEq, Prod.mk.injEq] at h
     obtain ⟨rfl, rfl, rfl⟩ := h
     have hy := hev y (by simp [Op.operands])
     rw [hs] at hy
     generalize hyv : ev y = yv at hy
     cases hy
     refine ⟨_, _, _, .inl ?_, .ptr 0 (Env.set_same ρ n (w.heap.size, 0)), hr.alloc (c := 0) (B := .sit s 0) rfl, Ext.alloc hr _ _⟩
     unfold execOp
     simp [hyv, run_range_string w t s hu, World.iter]
   · cases h
 case next it isS =>
   cases isS with
   | false => simp at h
   | true =>
   simp only at h
   split at h
   · rename_i i hi0
     split at h
     · rename_i s pos hB
       have hy := hev it (by simp [Op.operands])
       rw [hi0] at hy
       generalize hyv : ev it = yv at hy
       cases hy with
       | @ptr _ b c _ hi =>
         obtain ⟨o, ho, hbr⟩ := hr.blk hi hB
         have hbr' : o = .stringIter s pos := hbr
         subst hbr'
         have hlt := (Array.getElem?_eq_some_iff.1 ho).1
         cases hc : Nat.blt pos s.size with
         | true =>
           rw [hc, cond_true] at h
           simp only [Option.some.injEq, Prod.mk.injEq] at h
           obtain ⟨rfl, rfl, rfl⟩ := h
           have hps : pos < s.size := by simpa using hc
           refine ⟨ρ, _, _, .inl ?_, .tup (.cons (.v _) (.cons (.v _) (.cons (.v _) .nil))), hr.write hi hB rfl (w' := { w with heap := w.heap.setIfInBounds b (.stringIter s (pos + (Utf8.decode s pos).2)) }) (o := .stringIter s (pos + (Utf8.decode s pos).2)) (by show (w.heap.setIfInBounds b _)[b]? = _; rw [Array.getElem?_setIfInBounds_self_of_lt hlt]) rfl (fr_put w _ _), Ext.write hi _⟩
           unfold execOp
           simp [hyv, run_next_str ho hps]
         | false =>
           rw [hc, cond_false] at h
           simp only [Option.some.injEq, Prod.mk.injEq] at h
           obtain ⟨rfl, rfl, rfl⟩ := h
           have hps : ¬ pos < s.size := by
             intro h'
             have : Nat.blt pos s.size = true := by simpa using h'
             rw [this] at hc; cases hc
           refine ⟨ρ, _, w, .inl ?_, .tup (.cons (.v _) .nil), hr, Ext.refl _ _ _⟩
           unfold execOp
           simp [hyv, run_next_over ho hps]
     · cases h
   · cases h
 case convert s d y =>
   split at h
   · rename_i z hl
     simp only [Option.some.injEq, Prod.mk.injEq] at h
     obtain ⟨rfl, rfl, rfl⟩ := h
     obtain ⟨v, hv, hrun⟩ := strA_sound hr hl (hev y (by simp [Op.operands]))
     exact ⟨ρ, v, w, .inl (by unfold execOp; simp [hrun]), hv, hr, Ext.refl _ _ _⟩
   · obtain ⟨ρ', v, w', hrun, h1, h2, h3⟩ := toBytesA_sound hr h (hev y (by simp [Op.operands]))
     exact ⟨ρ', v, w', .inl (by unfold execOp; simp [hrun]), h1, h2, h3⟩
 case call c =>
   obtain ⟨callee, args, ats⟩ := c
   cases callee <;> simp only at h <;> try (cases h; done)
   rename_i b
   have hex : execOp ev ⟨dst, .call ⟨.builtin b, args, ats⟩, type, pos, after, guard⟩ = builtin b ats type (args.map fun | .const _ => true | _ => false) (args.map ev) := rfl
   split at h
   · rename_i y t ha ht
     have ha' : args = #[y] := Array.toList_inj.1 ha
     have ht' : ats = #[t] := Array.toList_inj.1 ht
     subst ha' ht'
     have hy := hev y (by simp [Op.operands, Call.operands])
     split at h
     · rename_i i kt et hi0 hu
       rw [hi0] at hy
       generalize hyv : ev y = yv at hy
       cases hy with
       | mp hi =>
         split at h
         · rename_i l c hB
           simp only [Option.some.injEq, Prod.mk.injEq] at h
           obtain ⟨rfl, rfl, rfl⟩ := h
           obtain ⟨o, ho, es, he, rfl⟩ := hr.blk hi hB
           refine ⟨ρ, _, w, .inl ?_, .v _, hr, Ext.refl _ _ _⟩
           rw [hex, he.length]
           unfold builtin Builtin.len_
           simp [hyv, run_underlying hu, MapKept.run_getObj_map ho, goInt]
         · cases h
     · cases h
   · rename_i y t ha ht
     have ha' : args = #[y] := Array.toList_inj.1 ha
     have ht' : ats = #[t] := Array.toList_inj.1 ht
     subst ha' ht'
     have hy := hev y (by simp [Op.operands, Call.operands])
     split at h
     · rename_i i kt et hi0 hu
       rw [hi0] at hy
       generalize hyv : ev y = yv at hy
       cases hy with
       | mp hi =>
         split at h
         · rename_i l c hB
           simp only [Option.some.injEq, Prod.mk.injEq] at h
           obtain ⟨rfl, rfl, rfl⟩ := h
           obtain ⟨o, ho, es, he, rfl⟩ := hr.blk hi hB
           refine ⟨ρ, _, { w with heap := w.heap.setIfInBounds _ (.map #[] c) }, .inl ?_, .v _, hr.write hi hB rfl (MapKept.heap_set ho).1 ⟨[], .nil, rfl⟩ (fr_put w _ _), Ext.write hi _⟩
           rw [hex]
           unfold builtin Builtin.clear_
           simp [hyv, run_underlying hu, MapKept.run_getObj_map ho, MapKept.run_setObj_map _ ho]
         · cases h
     · cases h
   · cases h
end
noncomputable section
def takeA (k n : Nat) (x : AV) (H : Tr AB) : Option (List AV) :=
 match x with
 | .sl i o len _ => match H.get i with
   | some (.mem _ _ l) => cond (Nat.ble n len && l.long (o + n * k)) (some (l.cut o (n * k))) none
   | _ => none
 | .su i o len _ _ => match H.get i with
   | some (.mem _ _ l) => cond (Nat.ble n len && l.long (o + n * k)) (some (l.cut o (n * k))) none
   | _ => none
 | .se => cond (Nat.beq n 0) (some []) none
 | .v (.slice none 0 _) => cond (Nat.beq n 0) (some []) none
 | _ => none
def slen : AV → Option Nat
 | .sl _ _ n _ => some n
 | .su _ _ n _ _ => some n
 | .se => some 0
 | .v (.slice none 0 _) => some 0
 | _ => none
theorem slen_sound {P : Program} {ρ : Env} {x : AV} {u : Value} {n : Nat} (h : slen x = some n) (hx : VR ρ x u) (w : World) : (Builtin.lenOf u).run P w = .ok n w ∧ ∃ a c, u = .slice a n c := by
 unfold slen at h
 split at h <;> simp at h <;> subst h <;> cases hx <;> exact ⟨by simp [Builtin.lenOf], _, _, rfl⟩
theorem slen_base {ρ : Env} {x : AV} {n m c : Nat} {ad : Option Addr} (h : slen x = some n) (hx : VR ρ x (.slice ad m c)) : (n = 0 ∧ ∃ c', x = .v (.slice none 0 c')) ∨ ∃ a, ad = some a := by
 cases hx with
 | sl => exact .inr ⟨_, rfl⟩
 | su => exact .inr ⟨_, rfl⟩
 | se => exact .inr ⟨_, rfl⟩
 | s0 => simp [slen] at h
 | v =>
   cases ad with
   | some a => exact .inr ⟨a, rfl⟩
   | none =>
     left
     cases m with
     | zero => simp [slen] at h; exact ⟨h.symm, _, rfl⟩
     | succ m => simp [slen] at h
theorem takeA_sound {P : Program} {w0 : Bs} {w : World} {ρ : Env} {H : Tr AB} {n : Nat} (hr : HR w0 ρ H n w) {k m : Nat} {x : AV} {l : List AV} {u : Value} (h : takeA k m x H = some l) (hx : VR ρ x u) :
   ∃ us, VRs ρ l us ∧ us.length = m * k ∧ (Builtin.firstCells k m u).run P w = .ok us.toArray w := by
 have part : ∀ {i o nn c b : Nat} {T : TypeId} {z : Option Nat} {l' : Rp} {cc : Nat}, ρ i = some (b, cc) → H.get i = some (.mem T z l') →
     (cond (Nat.ble m nn && l'.long (o + m * k)) (some (l'.cut o (m * k))) none = some l) → ∃ us, VRs ρ l us ∧ us.length = m * k ∧ (Builtin.firstCells k m (.slice (some ⟨b, o, none⟩) nn c)).run P w = .ok us.toArray w := by
   intro i o nn c b T z l' cc hi hB h
   rw [Rp.long_eq] at h
   cases hc : (Nat.ble m nn && Nat.ble (o + m * k) l'.toList.length) with
   | false => simp [hc] at h
   | true =>
     simp only [hc, cond_true, Option.some.injEq] at h
     simp only [Bool.and_eq_true, Nat.ble_eq] at hc
     rw [Rp.cut_eq l' o _ hc.2] at h
     subst h
     obtain ⟨ob, ho, vs, sp, fz, hv, rfl, hz, _⟩ := hr.blk hi hB
     have hlen := hv.length
     have hn := (hv.drop o).take (m * k)
     have hcs : w.rangeAt b o ((vs.drop o).take (m * k)) := by
       have := cells_range ho (o := o) (k := m * k) (by simp; omega)
       rwa [List.drop_append_of_le_length (by omega), List.take_append_of_le_length (by simp; omega)] at this
     have hl : ((vs.drop o).take (m * k)).length = m * k := by simp; omega
     refine ⟨_, hn, hl, ?_⟩
     have hl2 := run_loadCells_list (P := P) w ⟨b, o, none⟩ ((vs.drop o).take (m * k)) (fun j u hu => by rw [Addr.add_mid]; exact hcs j u hu)
     rw [hl] at hl2
     exact hl2
 unfold takeA at h
 split at h
 · cases hx with
   | sl _ _ _ hi =>
     split at h
     · rename_i hB; exact part hi hB h
     · cases h
 · cases hx with
   | su _ _ _ _ hi hn =>
     split at h
     · rename_i hB; exact part hi hB h
     · cases h
 · cases hx
   rw [beq_dec] at h
   by_cases hm : m = 0
   · subst hm
     simp at h; subst h
     exact ⟨[], .nil, by simp, by simp [Builtin.firstCells, loadCells, loadCellsFrom]⟩
   · simp [hm] at h
 · cases hx
   rw [beq_dec] at h
   by_cases hm : m = 0
   · subst hm
     simp at h; subst h
     exact ⟨[], .nil, by simp, by simp [Builtin.firstCells]⟩
   · simp [hm] at h
 · cases h
def writeA (x : AV) (c : List AV) (H : Tr AB) : Option (Tr AB) :=
 match c with
 | [] => some H
 | _ =>
   match x with
   | .sl i o _ _ => match H.get i with
     | some (.mem T z l) => cond (l.long (o + c.length) && c.all oneA) (some (tput H i (.mem T z (l.spl o c)))) none
     | _ => none
   | .su i o _ _ _ => match H.get i with
     | some (.mem T z l) => cond (l.long (o + c.length) && c.all oneA) (some (tput H i (.mem T z (l.spl o c)))) none
     | _ => none
   | _ => none
theorem writeA_sound {P : Program} {w0 : Bs} {w : World} {ρ : Env} {H H' : Tr AB} {n : Nat} (hr : HR w0 ρ H n w) {x : AV} {c : List AV} {cs : List Value} {a : Addr} {m q : Nat} (h : writeA x c H = some H') (hx : VR ρ x (.slice (some a) m q)) (hc : VRs ρ c cs) :
   ∃ w', (storeCells a cs).run P w = .ok () w' ∧ HR w0 ρ H' n w' ∧ Ext ρ ρ H H' n n := by
 have part : ∀ {i o b : Nat} {T : TypeId} {z : Option Nat} {l : Rp} {cc : Nat}, ρ i = some (b, cc) → H.get i = some (.mem T z l) →
     (cond (l.long (o + c.length) && c.all oneA) (some (tput H i (.mem T z (l.spl o c)))) none = some H') → ∃ w', (storeCells ⟨b, o, none⟩ cs).run P w = .ok () w' ∧ HR w0 ρ H' n w' ∧ Ext ρ ρ H H' n n := by
   intro i o b T z l cc hi hB h
   rw [Rp.long_eq] at h
   cases hq : (Nat.ble (o + c.length) l.toList.length && c.all oneA) with
   | false => simp [hq] at h
   | true =>
     simp only [hq, cond_true, Option.some.injEq] at h
     simp only [Bool.and_eq_true, Nat.ble_eq] at hq
     subst h
     obtain ⟨ht, hr'⟩ := hr.splice hi hB hq.1 hc
     have := run_storeCells_cells (P := P) b o cs 0 w (fun j hj => by simpa using (ht j hj).1) (fun j hj => by simpa using (ht j hj).2) (oneA_VRs hq.2 hc)
     exact ⟨_, by simpa using this, hr', Ext.write hi _⟩
 unfold writeA at h
 split at h
 · simp at h; subst h
   cases hc
   exact ⟨w, rfl, hr, Ext.refl _ _ _⟩
 · split at h
   · cases hx with
     | sl _ _ _ hi =>
       split at h
       · rename_i hB; exact part hi hB h
       · cases h
   · cases hx with
     | su _ _ _ _ hi hn =>
       split at h
       · rename_i hB; exact part hi hB h
       · cases h
   · cases h
def copyA (P : Program) (t : TypeId) (d s : AV) (H : Tr AB) : Option (AV × Tr AB) :=
 match P.underlying t with
 | some (.slice e) =>
   match P.info? e, slen d, slen s with
   | some inf, some dl, some sn =>
     let m := cond (Nat.ble sn dl) sn dl
     match takeA inf.size m s H with
     | some c => match d with
       | .v (.slice none 0 _) => some (.v (.int .i64 m), H)
       | _ => match writeA d c H with
         | some H' => some (.v (.int .i64 m), H')
         | none => none
     | none => none
   | _, _, _ => none
 | _ => none
theorem min_cond (a b : Nat) : Nat.min a b = cond (Nat.ble a b) a b := by
 show min a b = _
 cases h : Nat.ble a b with
 | true => have := Nat.le_of_ble_eq_true h; simp; omega
 | false =>
   have : b ≤ a := by
     rcases Nat.lt_or_ge a b with h' | h'
     · rw [Nat.ble_eq_true_of_le (Nat.le_of_lt h')] at h; cases h
     · exact h'
   simp; omega
theorem copyA_sound {P : Program} {w0 : Bs} {w : World} {ρ : Env} {H H' : Tr AB} {n : Nat} (hr : HR w0 ρ H n w) {t tx ty : TypeId} {d s y : AV} {du su : Value} (h : copyA P t d s H = some (y, H')) (hd : VR ρ d du) (hs : VR ρ s su) :
   ∃ v w', (Builtin.copy_ #[t, tx] ty #[du, su]).run P w = .ok v w' ∧ VR ρ y v ∧ HR w0 ρ H' n w' ∧ Ext ρ ρ H H' n n := by
 unfold copyA at h
 split at h
 · rename_i e hu
   cases hinf : P.info? e with
   | none => simp [hinf] at h
   | some inf =>
   cases hdl : slen d with
   | none => simp [hinf, hdl] at h
   | some dl =>
   cases hsn : slen s with
   | none => simp [hinf, hdl, hsn] at h
   | some sn =>
     simp only [hinf, hdl, hsn] at h
     obtain ⟨hl1, ad, ca, rfl⟩ := slen_sound (P := P) hdl hd w
     obtain ⟨hl2, as', cs', rfl⟩ := slen_sound (P := P) hsn hs w
     cases ht : takeA inf.size (cond (Nat.ble sn dl) sn dl) s H with
     | none => simp [ht] at h
     | some c =>
       simp only [ht] at h
       obtain ⟨us, hus, hul, hrun⟩ := takeA_sound (P := P) hr ht hs
       have hcopy : ∀ ad : Option Addr, (Builtin.copy_ #[t, tx] ty #[.slice ad dl ca, .slice as' sn cs']).run P w = (match ad with
           | none => .ok (goInt (cond (Nat.ble sn dl) sn dl : Nat)) w
           | some a => ((storeCells a us).run P w).andThen fun _ w' => .ok (goInt (cond (Nat.ble sn dl) sn dl : Nat)) w') := by
         intro ad
         unfold Builtin.copy_
         cases ad <;> simp [run_underlying hu, hl2, min_cond, run_sizeOf hinf, hrun]
       rw [hcopy]
       split at h
       · simp at h
         obtain ⟨rfl, rfl⟩ := h
         cases hd
         exact ⟨_, w, rfl, .v _, hr, Ext.refl _ _ _⟩
       · split at h
         · rename_i hne _ H2 hw
           simp at h
           obtain ⟨rfl, rfl⟩ := h
           have hsome : ∃ a, ad = some a := by
             rcases slen_base hdl hd with ⟨_, c', e⟩ | h
             · exact absurd e (hne _)
             · exact h
           obtain ⟨a, rfl⟩ := hsome
           obtain ⟨w', h1, h2, h3⟩ := writeA_sound (P := P) hr hw hd hus
           refine ⟨_, w', ?_, .v _, h2, h3⟩
           simp only [h1, Result.andThen_ok]
           rfl
         · cases h
 · cases h
def clearA (P : Program) (t : TypeId) (d : AV) (H : Tr AB) : Option (Tr AB) :=
 match P.underlying t with
 | some (.slice e) =>
   match P.info? e, slen d with
   | some inf, some dl => match inf.zero with
     | some z => cond (Nat.beq dl 0) (some H) (writeA d (zerosA (ofV z).cells dl) H)
     | none => none
   | _, _ => none
 | _ => none
theorem clearA_sound {P : Program} {w0 : Bs} {w : World} {ρ : Env} {H H' : Tr AB} {n : Nat} (hr : HR w0 ρ H n w) {t ty : TypeId} {d : AV} {du : Value} (h : clearA P t d H = some H') (hd : VR ρ d du) :
   ∃ w', (Builtin.clear_ #[t] ty #[du]).run P w = .ok (.tuple #[]) w' ∧ HR w0 ρ H' n w' ∧ Ext ρ ρ H H' n n := by
 unfold clearA at h
 split at h
 · rename_i e hu
   cases hinf : P.info? e with
   | none => simp [hinf] at h
   | some inf =>
   cases hdl : slen d with
   | none => simp [hinf, hdl] at h
   | some dl =>
     simp only [hinf, hdl] at h
     cases hz : inf.zero with
     | none => simp [hz] at h
     | some z =>
       simp only [hz] at h
       obtain ⟨_, ad, ca, rfl⟩ := slen_sound (P := P) hdl hd w
       rw [beq_dec] at h
       by_cases h0 : dl = 0
       · subst h0
         simp at h; subst h
         refine ⟨w, ?_, hr, Ext.refl _ _ _⟩
         unfold Builtin.clear_
         cases ad <;> simp [run_underlying hu]
       · simp only [h0, decide_false, cond_false] at h
         have hsome : ∃ a, ad = some a := by
           rcases slen_base hdl hd with ⟨e, _⟩ | h
           · exact absurd e h0
           · exact h
         obtain ⟨a, rfl⟩ := hsome
         obtain ⟨w', h1, h2, h3⟩ := writeA_sound (P := P) hr h hd (zeros_VR (ofV_VR z).cells dl)
         refine ⟨w', ?_, h2, h3⟩
         obtain ⟨m, rfl⟩ : ∃ m, dl = m + 1 := ⟨dl - 1, by omega⟩
         unfold Builtin.clear_
         simp only [List.getElem?_toArray, List.getElem?_cons_zero, Sem.run_bind, run_underlying hu, Result.andThen_ok, run_zeroValue hinf hz, zeroCells_eq, h1, Sem.run_pure]
 · cases h
def aopW0 (P : Program) (T : Tr AV) (o : Oper) (H : Tr AB) (n : Nat) : Option (AV × Tr AB × Nat) :=
 match o.op with
 | .store t a x => match storeA P t (aev T a) (aev T x) H with | some H' => some (.v undef, H', n) | none => none
 | .call ⟨.builtin b, args, ats⟩ =>
   match b, args.toList, ats.toList with
   | .append, [s, x], [t, tx] => appendA P t tx (aev T s) (aev T x) H n
   | .copy, [d, s], [t, _] => match copyA P t (aev T d) (aev T s) H with | some (y, H') => some (y, H', n) | none => none
   | .clear, [d], [t] => match clearA P t (aev T d) H with | some H' => some (.v (.tuple #[]), H', n) | none => none
   | _, _, _ => none
 | _ => none
theorem aopW0_sound {P : Program} {w0 : Bs} {w : World} {ρ : Env} {T : Tr AV} {o : Oper} {H H' : Tr AB} {n n' : Nat} {x : AV} {ev : Operand → Value} (hr : HR w0 ρ H n w) (h : aopW0 P T o H n = some (x, H', n')) (hev : ∀ y ∈ o.op.operands, VR ρ (aev T y) (ev y)) :
   ∃ ρ' v w', ((execOp ev o).run P w = .ok (.value v) w' ∨ (v = undef ∧ (execOp ev o).run P w = .ok .skip w')) ∧ VR ρ' x v ∧ HR w0 ρ' H' n' w' ∧ Ext ρ ρ' H H' n n' := by
 obtain ⟨dst, op, type, pos, after, guard⟩ := o
 cases op <;> simp only [aopW0] at h <;> try (cases h; done)
 case store t a y =>
   split at h
   · rename_i H2 hs
     simp at h
     obtain ⟨rfl, rfl, rfl⟩ := h
     obtain ⟨w', h1, h2, h3⟩ := storeA_sound hr hs (hev a (by simp [Op.operands])) (hev y (by simp [Op.operands]))
     refine ⟨ρ, undef, w', .inr ⟨rfl, ?_⟩, .v _, h2, h3⟩
     unfold execOp
     simp [h1]
   · cases h
 case call c =>
   obtain ⟨callee, args, ats⟩ := c
   cases callee <;> simp only at h <;> try (cases h; done)
   rename_i b
   have hex : execOp ev ⟨dst, .call ⟨.builtin b, args, ats⟩, type, pos, after, guard⟩ = builtin b ats type (args.map fun | .const _ => true | _ => false) (args.map ev) := rfl
   split at h
   · rename_i s y t tx ha ht
     have ha' : args = #[s, y] := Array.toList_inj.1 ha
     have ht' : ats = #[t, tx] := Array.toList_inj.1 ht
     subst ha' ht'
     obtain ⟨ρ', v, w', h1, h2, h3, h4⟩ := appendA_sound (ty := type) hr h (hev s (by simp [Op.operands, Call.operands])) (hev y (by simp [Op.operands, Call.operands]))
     exact ⟨ρ', v, w', .inl (by rw [hex]; simp [builtin, h1]), h2, h3, h4⟩
   · rename_i d s t tx ha ht
     have ha' : args = #[d, s] := Array.toList_inj.1 ha
     have ht' : ats = #[t, tx] := Array.toList_inj.1 ht
     subst ha' ht'
     split at h
     · rename_i y H2 hc
       simp at h
       obtain ⟨rfl, rfl, rfl⟩ := h
       obtain ⟨v, w', h1, h2, h3, h4⟩ := copyA_sound (tx := tx) (ty := type) hr hc (hev d (by simp [Op.operands, Call.operands])) (hev s (by simp [Op.operands, Call.operands]))
       exact ⟨ρ, v, w', .inl (by rw [hex]; simp [builtin, h1]), h2, h3, h4⟩
     · cases h
   · rename_i d t ha ht
     have ha' : args = #[d] := Array.toList_inj.1 ha
     have ht' : ats = #[t] := Array.toList_inj.1 ht
     subst ha' ht'
     split at h
     · rename_i H2 hc
       simp at h
       obtain ⟨rfl, rfl, rfl⟩ := h
       obtain ⟨w', h1, h2, h3⟩ := clearA_sound (ty := type) hr hc (hev d (by simp [Op.operands, Call.operands]))
       exact ⟨ρ, _, w', .inl (by rw [hex]; simp [builtin, h1]), .v _, h2, h3⟩
     · cases h
   · cases h
def aopW (P : Program) (T : Tr AV) (o : Oper) (H : Tr AB) (n : Nat) : Option (AV × Tr AB × Nat) :=
 match aopW0 P T o H n with
 | some r => some r
 | none => aopM P T o H n
theorem aopW_sound {P : Program} {w0 : Bs} {w : World} {ρ : Env} {T : Tr AV} {o : Oper} {H H' : Tr AB} {n n' : Nat} {x : AV} {ev : Operand → Value} (hr : HR w0 ρ H n w) (h : aopW P T o H n = some (x, H', n')) (hev : ∀ y ∈ o.op.operands, VR ρ (aev T y) (ev y)) :
   ∃ ρ' v w', ((execOp ev o).run P w = .ok (.value v) w' ∨ (v = undef ∧ (execOp ev o).run P w = .ok .skip w')) ∧ VR ρ' x v ∧ HR w0 ρ' H' n' w' ∧ Ext ρ ρ' H H' n n' := by
 unfold aopW at h
 split at h
 · rename_i r hr0
   cases h
   exact aopW0_sound hr hr0 hev
 · exact aopM_sound hr h hev
end
end Go.Proofs.YtlmpjdionndncaaGreatDoor.Ev
