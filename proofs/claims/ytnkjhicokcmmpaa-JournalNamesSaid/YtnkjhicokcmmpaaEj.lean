/-
  What it means that the small machine's frames stand for the model's; the model's steps, one by one.
-/
import Derived.Test.YtnkjhicokcmmpaaEi
namespace Go.Proofs.Ytnkjhicokcmmpaa.Ev
open Go Go.RowKit

/-! The model's steps. -/
section steps
variable {P : Program} {fr : Frame} {cs : List Frame} {w w' : World} {ops : Array Oper} {i : Nat} {rest : List Nat} {k : List Item} {o : Oper}
theorem plainOp_spec (h : plainOp o = true) : (∀ c, o.op ≠ .defer c) ∧ (∀ a b, o.op ≠ .select a b) := by
  unfold plainOp at h
  constructor
  · intro c e; rw [e] at h; cases h
  · intro a b e; rw [e] at h; cases h
theorem stepG_oper (ht : fr.todo = .inRegion ops (i :: rest) :: k) (hm : fr.mode = .run) (ho : ops[i]? = some o) (hw : Region.wanted o (yielded ops fr.tmps) = true) (hp : plainOp o = true) :
    stepG P true { frame := fr, callers := cs, status := .running, dying := none } w = stepG.apply P true fr cs none (execOp fr.eval o) w := by
  have hd := (plainOp_spec hp).1
  obtain ⟨fn, tmps, todo, defers, mode, kind, ro⟩ := fr
  simp only at ht hm hw
  subst ht hm
  cases ro with
  | none => simp [stepG, stepG.exec, stepG.oper, Frame.oper?, ho, hw]
  | some l =>
    have : ∀ {α : Type} (f : Call → α) (g : α), (match o.op with | .defer c => f c | _ => g) = g := by
      intro α f g
      split
      · rename_i c e; exact absurd e (hd c)
      · rfl
    simp only [stepG, stepG.exec, ho, Option.map_some, Option.getD_some, hw, if_true, stepG.oper, Frame.oper?]
    split
    · rename_i _ c _ e; exact absurd e (hd c)
    · rfl
theorem step_value {s : Sem Next} {v : Value} (hg : stepG P true { frame := fr, callers := cs, status := .running, dying := none } w = stepG.apply P true fr cs none s w) (hr : s.run P w = .ok (.value v) w') :
    step P (lone fr cs w) = .next (lone (fr.finish v) cs w') := step_lone_go (by rw [hg]; simp [stepG.apply, hr])
theorem step_skip' {s : Sem Next} (hg : stepG P true { frame := fr, callers := cs, status := .running, dying := none } w = stepG.apply P true fr cs none s w) (hr : s.run P w = .ok .skip w') :
    step P (lone fr cs w) = .next (lone (fr.finish undef) cs w') := step_lone_go (by rw [hg]; simp [stepG.apply, hr])
theorem step_enter {s : Sem Next} {f : FuncId} {args : Array Value} (hc : ∀ d x y z r, fr.todo ≠ .call d x y z :: r) (hg : stepG P true { frame := fr, callers := cs, status := .running, dying := none } w = stepG.apply P true fr cs none s w) (hr : s.run P w = .ok (.enter f args) w') :
    step P (lone fr cs w) = .next (lone (Frame.enter P f args .normal) (fr :: cs) w') := step_lone_go (by
      rw [hg]
      have : (match fr.todo with | .call _ true _ _ :: _ => CallKind.wrapped | _ => .normal) = .normal := by
        split
        · rename_i e; exact absurd e (hc _ _ _ _ _)
        · rfl
      simp [stepG.apply, hr]
      exact congrArg (Frame.enter P f args) this)
theorem step_round {s : Sem Next} {l : Nat} {f : FuncId} {tmps : Array Value} {a b : Code} (hg : stepG P true { frame := fr, callers := cs, status := .running, dying := none } w = stepG.apply P true fr cs none s w) (hr : s.run P w = .ok (.round l f tmps a b) w') :
    step P (lone fr cs w) = .next (lone (Frame.round l f tmps a b .normal) (fr :: cs) w') := step_lone_go (by rw [hg]; simp [stepG.apply, hr])
theorem step_unwanted (ht : fr.todo = .inRegion ops (i :: rest) :: k) (hm : fr.mode = .run) (hw : ((ops[i]?).map (Region.wanted · (yielded ops fr.tmps))).getD false = false) :
    step P (lone fr cs w) = .next (lone (fr.finish undef) cs w) := by
  obtain ⟨fn, tmps, todo, defers, mode, kind, ro⟩ := fr
  simp only at ht hm hw
  subst ht hm
  exact step_lone_go (by simp [stepG, stepG.exec, hw])
/-- A step that turns the list of what is to do alone. -/
theorem step_todo {fr' : Frame} (hm : fr.mode = .run) (h : stepG.exec P true true fr cs none w = .go { frame := fr', callers := cs, status := .running, dying := none } w') : step P (lone fr cs w) = .next (lone fr' cs w') := by
  obtain ⟨fn, tmps, todo, defers, mode, kind, ro⟩ := fr
  simp only at hm
  subst hm
  exact step_lone_go (by simp [stepG, h])
end steps

/-! Frames. -/
inductive IR (ρ : Env) : AItem → Item → Prop
  | code (c : Code) : IR ρ (.code c) (.code c)
  | inBlock (id : Nat) : IR ρ (.inBlock id) (.inBlock id)
  | inLoop (c : Code) : IR ρ (.inLoop c) (.inLoop c)
  | inScope (c : Code) : IR ρ (.inScope c) (.inScope c)
  | inRF {i b c : Nat} (h : ρ i = some (b, c)) : IR ρ (.inRF i) (.inRangeFunc b)
  | endRF {i b c : Nat} (h : ρ i = some (b, c)) : IR ρ (.endRF i) (.endRangeFunc b)
  | beginRound : IR ρ .beginRound .beginRound
inductive IRs (ρ : Env) : List AItem → List Item → Prop
  | nil : IRs ρ [] []
  | cons {x : AItem} {y : Item} {l : List AItem} {m : List Item} (h : IR ρ x y) (t : IRs ρ l m) : IRs ρ (x :: l) (y :: m)
theorem IR.mono {ρ ρ' : Env} (h : ρ.le ρ') {x : AItem} {y : Item} (k : IR ρ x y) : IR ρ' x y := by
  cases k with
  | inRF e => exact .inRF (h _ _ e)
  | endRF e => exact .endRF (h _ _ e)
  | code => exact .code _
  | inBlock => exact .inBlock _
  | inLoop => exact .inLoop _
  | inScope => exact .inScope _
  | beginRound => exact .beginRound
theorem IRs.mono {ρ ρ' : Env} (h : ρ.le ρ') {l : List AItem} {m : List Item} (k : IRs ρ l m) : IRs ρ' l m := by
  induction k with
  | nil => exact .nil
  | cons a _ ih => exact .cons (a.mono h) ih
theorem aexit_sound {ρ : Env} {id : Nat} {l l' : List AItem} {m : List Item} (h : IRs ρ l m) : (aexit id l = some l' → ∃ m', exitTo id m = some m' ∧ IRs ρ l' m') ∧ (aexit id l = none → exitTo id m = none) := by
  induction h with
  | nil => exact ⟨fun h => by simp [aexit] at h, fun _ => rfl⟩
  | @cons x y l m a t ih =>
    cases a with
    | inBlock j =>
      simp only [aexit, exitTo, beq_dec]
      by_cases e : j = id
      · subst e; simp; intro e; subst e; exact t
      · have : (j == id) = false := by simpa using e
        simp only [e, decide_false, cond_false, this, Bool.false_eq_true, if_false]; exact ih
    | code => simpa [aexit, exitTo] using ih
    | inLoop => simpa [aexit, exitTo] using ih
    | inScope => simpa [aexit, exitTo] using ih
    | inRF => simpa [aexit, exitTo] using ih
    | endRF => simpa [aexit, exitTo] using ih
    | beginRound => simpa [aexit, exitTo] using ih

inductive DsR (ρ : Env) : List Nat → List Deferred → Prop
  | nil : DsR ρ [] []
  | cons {i b c : Nat} {l : List Nat} {m : List Deferred} (h : ρ i = some (b, c)) (t : DsR ρ l m) : DsR ρ (i :: l) ({ target := .collected b, args := #[] } :: m)
theorem DsR.mono {ρ ρ' : Env} (h : ρ.le ρ') {l : List Nat} {m : List Deferred} (k : DsR ρ l m) : DsR ρ' l m := by
  induction k with
  | nil => exact .nil
  | cons a _ ih => exact .cons (h _ _ a) ih
def RoR (ρ : Env) (x y : Option Nat) : Prop := (x = none ∧ y = none) ∨ ∃ i b c, x = some i ∧ y = some b ∧ ρ i = some (b, c)
theorem RoR.mono {ρ ρ' : Env} (h : ρ.le ρ') {x y : Option Nat} (k : RoR ρ x y) : RoR ρ' x y := by
  rcases k with k | ⟨i, b, c, h1, h2, h3⟩
  · exact .inl k
  · exact .inr ⟨i, b, c, h1, h2, h _ _ h3⟩

/-- A region in the text's order. -/
def PlR (ops : Array Oper) (l : List Oper) (rest : List Nat) : Prop := ∃ k, rest = List.range' k l.length ∧ ∀ j, l[j]? = ops[k + j]?
theorem PlR.start (ops : Array Oper) : PlR ops ops.toList (List.range ops.size) := ⟨0, by rw [List.range_eq_range']; simp, fun j => by simp⟩
theorem PlR.head {ops : Array Oper} {o : Oper} {l : List Oper} {rest : List Nat} (h : PlR ops (o :: l) rest) : ∃ i r, rest = i :: r ∧ ops[i]? = some o ∧ PlR ops l r := by
  obtain ⟨k, h1, h2⟩ := h
  refine ⟨k, _, by rw [h1]; simp [List.range'_succ], by simpa using (h2 0).symm, k + 1, rfl, fun j => by have := h2 (j + 1); simpa [Nat.add_assoc, Nat.add_comm 1 j] using this⟩
theorem PlR.nil {ops : Array Oper} {rest : List Nat} (h : PlR ops [] rest) : rest = [] := by
  obtain ⟨k, h1, _⟩ := h
  simpa using h1

theorem TR.at {ρ : Env} {n : Nat} {T : Tr AV} {ts : Array Value} (h : TR ρ n T ts) (s : Nat) : VR ρ (At T s) (ts.getD s undef) := h.2 s
theorem TR.ev {ρ : Env} {n : Nat} {T : Tr AV} {fr : Frame} (h : TR ρ n T fr.tmps) (y : Operand) : VR ρ (aev T y) (fr.eval y) := by
  cases y with
  | tmp t => exact h.2 t
  | const x => exact ofV_VR x
  | global g => exact .v _
  | func f => simpa [aev, Frame.eval] using VR.fn (.func f) (VRs.nil (ρ := ρ)) VRs.nil
theorem At_tput (T : Tr AV) (d : Nat) (x : AV) (s : Nat) : At (tput T d x) s = if s = d then x else At T s := by
  unfold At
  rw [get_tput]
  by_cases h : s = d <;> simp [h]
theorem getD_set (ts : Array Value) (d : Nat) (v : Value) (s : Nat) (hd : d < ts.size) : (ts.setIfInBounds d v).getD s undef = if s = d then v else ts.getD s undef := by
  by_cases h : s = d
  · subst h; simp [hd]
  · have : d ≠ s := fun e => h e.symm
    simp only [if_neg h, Array.getD_eq_getD_getElem?, Array.getElem?_setIfInBounds_ne this]
theorem TR.put {ρ : Env} {n : Nat} {T : Tr AV} {ts : Array Value} (h : TR ρ n T ts) {d : Option Tmp} {x : AV} {v : Value} (hx : VR ρ x v) :
    TR ρ n (putT n T d x) (match d with | some d => ts.setIfInBounds d v | none => ts) := by
  cases d with
  | none => exact h
  | some d =>
    simp only [putT]
    cases hb : Nat.blt d n with
    | true =>
      have hd : d < ts.size := by rw [h.1]; simpa [Nat.blt_eq] using hb
      refine ⟨by simp [h.1], fun s => ?_⟩
      simp only [cond_true]
      rw [At_tput, getD_set _ _ _ _ hd]
      by_cases e : s = d
      · rw [if_pos e, if_pos e]; exact hx
      · rw [if_neg e, if_neg e]; exact h.2 s
    | false =>
      have hd : ¬ d < ts.size := by
        rw [h.1]; intro hlt
        have : Nat.blt d n = true := by rw [Nat.blt_eq]; exact hlt
        rw [hb] at this; cases this
      have : ts.setIfInBounds d v = ts := by simp [Array.setIfInBounds, hd]
      simp only [cond_false, this]
      exact h
theorem wantedA_sound {ρ : Env} {n : Nat} {T : Tr AV} {ts : Array Value} {ops : Array Oper} {o : Oper} (hg : ∀ d ∈ guardSlot (dstIn ops.toList) o, VR ρ (At T d) (ts.getD d undef)) : Region.wanted o (yielded ops ts) = wantedA T (dstIn ops.toList) o := by
  unfold Region.wanted wantedA
  cases hgd : o.guard with
  | none => rfl
  | some jw =>
    obtain ⟨j, want⟩ := jw
    simp only
    have hdst : (ops[j]?).bind (·.dst) = dstIn ops.toList j := by
      unfold dstIn
      simp only [Array.getElem?_toList]
      cases ops[j]? <;> rfl
    unfold yielded
    rw [hdst]
    cases hd : dstIn ops.toList j with
    | none => simp
    | some d =>
      have hv := hg d (by simp [guardSlot, hgd, hd])
      simp only [Option.bind_some]
      by_cases hlt : d < ts.size
      · have he : ts[d]? = some (ts.getD d undef) := by simp [hlt]
        rw [he]
        generalize ts.getD d undef = u at hv
        generalize At T d = x at hv
        cases hv with
        | v =>
          cases u with
          | bool b => cases b <;> cases want <;> rfl
          | _ => rfl
        | _ => rfl
      · rw [Array.getElem?_eq_none (Nat.le_of_not_lt hlt)]
        have hu : ts.getD d undef = undef := by simp [Array.getD, hlt]
        rw [hu] at hv
        generalize At T d = x at hv
        cases hv with
        | v => simp [undef]
        | tup => simp
end Go.Proofs.Ytnkjhicokcmmpaa.Ev
