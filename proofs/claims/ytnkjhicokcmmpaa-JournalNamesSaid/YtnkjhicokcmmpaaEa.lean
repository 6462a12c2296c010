/-
  A small machine beside the model's: its values, its memory, and what it means that they stand for the model's.
-/
import Derived.Control
import Derived.Orders
import Derived.KernelRfl
namespace Go.Proofs.Ytnkjhicokcmmpaa.Ev
open Go

/-- A tree of entries by number. -/
inductive Tr (α : Type) where
  | e
  | n (l : Tr α) (x : Option α) (r : Tr α)

namespace Tr
variable {α : Type}
def get : Tr α → Nat → Option α
  | .e, _ => none
  | .n l x r, k => cond (Nat.beq k 0) x (cond (Nat.beq (k % 2) 1) (get l (k / 2)) (get r (k / 2 - 1)))
def put : Nat → Tr α → Nat → α → Tr α
  | 0, t, _, _ => t
  | f + 1, .e, k, v => cond (Nat.beq k 0) (.n .e (some v) .e) (cond (Nat.beq (k % 2) 1) (.n (put f .e (k / 2) v) none .e) (.n .e none (put f .e (k / 2 - 1) v)))
  | f + 1, .n l x r, k, v => cond (Nat.beq k 0) (.n l (some v) r) (cond (Nat.beq (k % 2) 1) (.n (put f l (k / 2) v) x r) (.n l x (put f r (k / 2 - 1) v)))
theorem get_put : ∀ (f : Nat) (t : Tr α) (k : Nat) (v : α) (j : Nat), k < f → (put f t k v).get j = if j = k then some v else t.get j := by
  intro f
  induction f with
  | zero => intro t k v j h; omega
  | succ f ih =>
    intro t k v j h
    have hb : ∀ a b : Nat, Nat.beq a b = decide (a = b) := fun a b => by
      rw [Bool.eq_iff_iff]; simp [Nat.beq_eq]
    by_cases hk : k = 0
    · subst hk
      cases t <;> by_cases hj : j = 0 <;> simp [put, get, hb, hj]
    · by_cases hm : k % 2 = 1
      · have h1 : k / 2 < f := by omega
        cases t <;> simp only [put, hb, hk, hm, decide_true, decide_false, cond_true, cond_false, get]
        all_goals
          by_cases hj : j = 0
          · simp [hj, Ne.symm hk]
          · by_cases hn : j % 2 = 1
            · simp only [hj, hn, decide_true, decide_false, cond_true, cond_false, ih _ _ _ _ h1]
              by_cases e : j = k
              · simp [e]
              · simp [e, show ¬ j / 2 = k / 2 by omega, get]
            · have : ¬ j = k := by intro e; subst e; exact hn hm
              simp [hj, hn, this, get]
      · have h1 : k / 2 - 1 < f := by omega
        cases t <;> simp only [put, hb, hk, hm, decide_true, decide_false, cond_true, cond_false, get]
        all_goals
          by_cases hj : j = 0
          · simp [hj, Ne.symm hk]
          · by_cases hn : j % 2 = 1
            · have : ¬ j = k := by intro e; subst e; exact hm hn
              simp [hj, hn, this, get]
            · simp only [hj, hn, decide_true, decide_false, cond_true, cond_false, ih _ _ _ _ h1]
              by_cases e : j = k
              · simp [e]
              · simp [e, show ¬ j / 2 - 1 = k / 2 - 1 by omega, get]
end Tr

/-- A value: as the model's, with memory named by numbers of this machine. -/
inductive AV where
  | v (x : Value)
  | ptr (i o : Nat)
  | sl (i o n c : Nat)
  | su (i o n k q : Nat)
  | se
  | s0
  | mp (i : Nat)
  | agg (l : List AV)
  | tup (l : List AV)
  | fn (f : Fn) (l m : List AV)
  | yl (i : Nat)
  | ifc (t : TypeId) (x : AV)

/-- What number stands for which block (and its capacity, where it is a slice's own). -/
abbrev Env := Nat → Option (Nat × Nat)

mutual
inductive VR (ρ : Env) : AV → Value → Prop
  | v (x : Value) : VR ρ (.v x) x
  | ptr {i b c : Nat} (o : Nat) (h : ρ i = some (b, c)) : VR ρ (.ptr i o) (.pointer (some ⟨b, o, none⟩))
  | sl {i b d : Nat} (o n c : Nat) (h : ρ i = some (b, d)) : VR ρ (.sl i o n c) (.slice (some ⟨b, o, none⟩) n c)
  | su {i b c : Nat} (o n k q : Nat) (h : ρ i = some (b, c)) (hn : n ≤ q ∧ q ≤ c - k) : VR ρ (.su i o n k q) (.slice (some ⟨b, o, none⟩) n (c - k))
  | se (a : Addr) (c : Nat) : VR ρ .se (.slice (some a) 0 c)
  | s0 (a : Option Addr) (c : Nat) : VR ρ .s0 (.slice a 0 c)
  | mp {i b c : Nat} (h : ρ i = some (b, c)) : VR ρ (.mp i) (.map (some b))
  | agg {l : List AV} {vs : List Value} (h : VRs ρ l vs) : VR ρ (.agg l) (.agg vs.toArray)
  | tup {l : List AV} {vs : List Value} (h : VRs ρ l vs) : VR ρ (.tup l) (.tuple vs.toArray)
  | fn (f : Fn) {l m : List AV} {vs us : List Value} (h : VRs ρ l vs) (h' : VRs ρ m us) : VR ρ (.fn f l m) (.func f vs.toArray us.toArray)
  | yl {i b c : Nat} (h : ρ i = some (b, c)) : VR ρ (.yl i) (.func (.yield b) #[] #[])
  | ifc (t : TypeId) {x : AV} {u : Value} (h : VR ρ x u) : VR ρ (.ifc t x) (.iface t u)
inductive VRs (ρ : Env) : List AV → List Value → Prop
  | nil : VRs ρ [] []
  | cons {x : AV} {u : Value} {l : List AV} {vs : List Value} (h : VR ρ x u) (t : VRs ρ l vs) : VRs ρ (x :: l) (u :: vs)
end

def Env.le (ρ ρ' : Env) : Prop := ∀ i b, ρ i = some b → ρ' i = some b
theorem Env.le_refl (ρ : Env) : ρ.le ρ := fun _ _ h => h
theorem Env.le_trans {ρ ρ' ρ'' : Env} (h : ρ.le ρ') (k : ρ'.le ρ'') : ρ.le ρ'' := fun i b e => k i b (h i b e)

mutual
theorem VR.mono {ρ ρ' : Env} (h : ρ.le ρ') : ∀ {x : AV} {u : Value}, VR ρ x u → VR ρ' x u
  | _, _, .v x => .v x
  | _, _, .ptr o e => .ptr o (h _ _ e)
  | _, _, .sl o n c e => .sl o n c (h _ _ e)
  | _, _, .su o n k q e hn => .su o n k q (h _ _ e) hn
  | _, _, .se a c => .se a c
  | _, _, .s0 a c => .s0 a c
  | _, _, .mp e => .mp (h _ _ e)
  | _, _, .agg e => .agg (VRs.mono h e)
  | _, _, .tup e => .tup (VRs.mono h e)
  | _, _, .fn f e e' => .fn f (VRs.mono h e) (VRs.mono h e')
  | _, _, .yl e => .yl (h _ _ e)
  | _, _, .ifc t e => .ifc t (VR.mono h e)
theorem VRs.mono {ρ ρ' : Env} (h : ρ.le ρ') : ∀ {l : List AV} {vs : List Value}, VRs ρ l vs → VRs ρ' l vs
  | _, _, .nil => .nil
  | _, _, .cons e t => .cons (VR.mono h e) (VRs.mono h t)
end

namespace VRs
variable {ρ : Env}
theorem length {l : List AV} {vs : List Value} (h : VRs ρ l vs) : l.length = vs.length := by
  induction l generalizing vs with
  | nil => cases h; rfl
  | cons x l ih => cases h with | cons _ t => simp [ih t]
theorem get {l : List AV} {vs : List Value} (h : VRs ρ l vs) {k : Nat} {x : AV} (hx : l[k]? = some x) : ∃ u, vs[k]? = some u ∧ VR ρ x u := by
  induction l generalizing vs k with
  | nil => simp at hx
  | cons y l ih =>
    cases h with
    | cons e t =>
      cases k with
      | zero => simp at hx; subst hx; exact ⟨_, rfl, e⟩
      | succ k => simpa using ih t (by simpa using hx)
theorem append {l m : List AV} {vs us : List Value} (h : VRs ρ l vs) (k : VRs ρ m us) : VRs ρ (l ++ m) (vs ++ us) := by
  induction l generalizing vs with
  | nil => cases h; simpa using k
  | cons y l ih => cases h with | cons e t => exact .cons e (ih t)
theorem take {l : List AV} {vs : List Value} (h : VRs ρ l vs) (n : Nat) : VRs ρ (l.take n) (vs.take n) := by
  induction l generalizing vs n with
  | nil => cases h; simpa using VRs.nil
  | cons y l ih => cases h with | cons e t => cases n with | zero => exact .nil | succ n => exact .cons e (ih t n)
theorem drop {l : List AV} {vs : List Value} (h : VRs ρ l vs) (n : Nat) : VRs ρ (l.drop n) (vs.drop n) := by
  induction l generalizing vs n with
  | nil => cases h; simpa using VRs.nil
  | cons y l ih => cases h with | cons e t => cases n with | zero => exact .cons e t | succ n => exact ih t n
theorem of_vals : ∀ l : List Value, VRs ρ (l.map .v) l
  | [] => .nil
  | x :: l => .cons (.v x) (of_vals l)
theorem of_get {l : List AV} {vs : List Value} (hl : l.length = vs.length) (h : ∀ (k : Nat) (x : AV) (u : Value), l[k]? = some x → vs[k]? = some u → VR ρ x u) : VRs ρ l vs := by
  induction l generalizing vs with
  | nil => cases vs with | nil => exact .nil | cons => simp at hl
  | cons x l ih =>
    cases vs with
    | nil => simp at hl
    | cons u vs => exact .cons (h 0 x u rfl rfl) (ih (by simpa using hl) (fun k x u hx hu => h (k + 1) x u (by simpa using hx) (by simpa using hu)))
end VRs

/-- A value of the model's as one of this machine's: parts one by one. -/
def ofV : Value → AV
  | .agg cs => .agg (cs.toList.map .v)
  | .tuple vs => .tup (vs.toList.map .v)
  | x => .v x
theorem ofV_VR {ρ : Env} : ∀ x : Value, VR ρ (ofV x) x := by
  intro x
  cases x <;> first | exact .v _ | (simpa [ofV] using VR.agg (VRs.of_vals _)) | (simpa [ofV] using VR.tup (VRs.of_vals _))

mutual
/-- Where no memory is named: the model's value. -/
def AV.val? : AV → Option Value
  | .v x => some x
  | .agg l => match vals? l with | some vs => some (.agg vs.toArray) | none => none
  | .tup l => match vals? l with | some vs => some (.tuple vs.toArray) | none => none
  | .ifc t x => match x.val? with | some u => some (.iface t u) | none => none
  | _ => none
def vals? : List AV → Option (List Value)
  | [] => some []
  | x :: l => match x.val? with
    | some u => match vals? l with | some vs => some (u :: vs) | none => none
    | none => none
end
mutual
theorem AV.val?_VR {ρ : Env} : ∀ {x : AV} {u v : Value}, x.val? = some u → VR ρ x v → v = u
  | .v x, u, v, h, k => by cases k; simpa [AV.val?] using h
  | .agg l, u, v, h, k => by
    cases k with
    | agg e =>
      simp only [AV.val?] at h
      split at h <;> simp at h
      rename_i vs hvs
      rw [← h, vals?_VR hvs e]
  | .tup l, u, v, h, k => by
    cases k with
    | tup e =>
      simp only [AV.val?] at h
      split at h <;> simp at h
      rename_i vs hvs
      rw [← h, vals?_VR hvs e]
  | .ifc t x, u, v, h, k => by
    cases k with
    | ifc _ e =>
      simp only [AV.val?] at h
      cases hx : x.val? with
      | none => rw [hx] at h; cases h
      | some y => rw [hx] at h; simp only [Option.some.injEq] at h; rw [← h, AV.val?_VR hx e]
  | .ptr .., _, _, h, _ => by simp [AV.val?] at h
  | .sl .., _, _, h, _ => by simp [AV.val?] at h
  | .su .., _, _, h, _ => by simp [AV.val?] at h
  | .se, _, _, h, _ => by simp [AV.val?] at h
  | .s0, _, _, h, _ => by simp [AV.val?] at h
  | .mp .., _, _, h, _ => by simp [AV.val?] at h
  | .fn .., _, _, h, _ => by simp [AV.val?] at h
  | .yl .., _, _, h, _ => by simp [AV.val?] at h
theorem vals?_VR {ρ : Env} : ∀ {l : List AV} {us vs : List Value}, vals? l = some us → VRs ρ l vs → vs = us
  | [], us, vs, h, k => by cases k; simpa [vals?] using h
  | x :: l, us, vs, h, k => by
    cases k with
    | cons e t =>
      simp only [vals?] at h
      cases hx : x.val? with
      | none => rw [hx] at h; cases h
      | some y =>
        rw [hx] at h
        cases hl : vals? l with
        | none => rw [hl] at h; cases h
        | some ys => rw [hl] at h; simp only [Option.some.injEq] at h; rw [← h, AV.val?_VR hx e, vals?_VR hl t]
end

/-- The cells of a value. -/
def AV.cells : AV → List AV
  | .agg l => l
  | .v (.agg cs) => cs.toList.map .v
  | x => [x]
theorem VR.cells {ρ : Env} {x : AV} {u : Value} (h : VR ρ x u) : VRs ρ x.cells u.cells.toList := by
  cases h with
  | v =>
    cases u
    case agg cs => exact VRs.of_vals _
    all_goals exact .cons (.v _) .nil
  | agg e => exact e
  | ptr _ e => exact .cons (.ptr _ e) .nil
  | sl _ _ _ e => exact .cons (.sl _ _ _ e) .nil
  | su _ _ _ _ e hn => exact .cons (.su _ _ _ _ e hn) .nil
  | se a c => exact .cons (.se a c) .nil
  | s0 a c => exact .cons (.s0 a c) .nil
  | mp e => exact .cons (.mp e) .nil
  | tup e => exact .cons (.tup e) .nil
  | fn _ e e' => exact .cons (.fn _ e e') .nil
  | yl e => exact .cons (.yl e) .nil
  | ifc _ e => exact .cons (.ifc _ e) .nil

/-- A function's temporaries. -/
def At (T : Tr AV) (s : Nat) : AV := match T.get s with | some x => x | none => .v undef
def TR (ρ : Env) (n : Nat) (T : Tr AV) (ts : Array Value) : Prop := ts.size = n ∧ ∀ s, VR ρ (At T s) (ts.getD s undef)

/-- An operand. -/
def aev (T : Tr AV) : Operand → AV
  | .tmp t => At T t
  | .const x => ofV x
  | .global g => .v (.pointer (some ⟨g, 0, none⟩))
  | .func f => .fn (.func f) [] []

end Go.Proofs.Ytnkjhicokcmmpaa.Ev
