/-
  Frames and stacks that stand for the model's; the pieces of a step.
-/
import Derived.Test.YtnkjhicokcmmpaaEm
namespace Go.Proofs.Ytnkjhicokcmmpaa.Ev
open Go Go.RowKit

def RgR (P : Program) (ρ : Env) (H : Tr AB) (lo hi : Nat) (live : Bool) (nt : Nat) (T : Tr AV) : ARg → List Item → Array Value → Prop
  | .no, front, ts => front = [] ∧ TR ρ nt T ts
  | .pl ops l, front, ts => (∃ rest, front = [.inRegion ops rest] ∧ PlR ops l rest) ∧ TR ρ nt T ts
  | .dr ops D X T0 lds cur, front, ts => ∃ W C G rest, front = [.inRegion ops rest] ∧ DrR P ρ H lo hi live nt T ops.toList D X T0 lds W C G rest ts ∧ (∀ y, cur = some y → ∃ r, rest = y :: r ∧ Nat.testBit D y = false)

structure FRel (P : Program) (ρ : Env) (H : Tr AB) (hi : Nat) (live : Bool) (af : AFr) (fr : Frame) : Prop where
  fn : fr.fn = af.fn
  kind : fr.kind = .normal
  mode : fr.mode = cond af.ret .returning .run
  ds : DsR ρ af.ds fr.defers
  ro : RoR ρ af.round fr.roundOf
  todo : ∃ front rest, fr.todo = front ++ rest ∧ IRs ρ af.todo rest ∧ RgR P ρ H af.lo hi live af.nt af.T af.rg front fr.tmps

theorem RgR.mono {P : Program} {ρ ρ' : Env} {H H' : Tr AB} {lo hi hi' nt : Nat} {live : Bool} {T : Tr AV} {rg : ARg} {front : List Item} {ts : Array Value} (h : RgR P ρ H lo hi live nt T rg front ts) (hle : ρ.le ρ') (hhi : hi ≤ hi')
    (hg : ∀ g, g < hi → ρ g = none → ρ' g = none ∧ H'.get g = H.get g) : RgR P ρ' H' lo hi' false nt T rg front ts := by
  cases rg with
  | no => exact ⟨h.1, h.2.mono hle⟩
  | pl ops l => exact ⟨h.1, h.2.mono hle⟩
  | dr ops D X T0 lds cur =>
    obtain ⟨W, C, G, rest, h1, h2, h3⟩ := h
    exact ⟨W, C, G, rest, h1, h2.mono hle hhi hg, h3⟩
theorem FRel.mono {P : Program} {ρ ρ' : Env} {H H' : Tr AB} {hi hi' : Nat} {live : Bool} {af : AFr} {fr : Frame} (h : FRel P ρ H hi live af fr) (hle : ρ.le ρ') (hhi : hi ≤ hi')
    (hg : ∀ g, g < hi → ρ g = none → ρ' g = none ∧ H'.get g = H.get g) : FRel P ρ' H' hi' false af fr := by
  obtain ⟨front, rest, h1, h2, h3⟩ := h.todo
  exact ⟨h.fn, h.kind, h.mode, h.ds.mono hle, h.ro.mono hle, front, rest, h1, h2.mono hle, h3.mono hle hhi hg⟩

/-- The callers; each one's pending names lie below those of whom it has called. -/
inductive StackR (P : Program) (ρ : Env) (H : Tr AB) : Nat → List AFr → List Frame → Prop
  | nil (hi : Nat) : StackR P ρ H hi [] []
  | cons {hi : Nat} {af : AFr} {fr : Frame} {l : List AFr} {m : List Frame} (h : FRel P ρ H hi false af fr) (hlo : af.lo ≤ hi) (t : StackR P ρ H af.lo l m) : StackR P ρ H hi (af :: l) (fr :: m)
theorem StackR.mono {P : Program} {ρ ρ' : Env} {H H' : Tr AB} {hi : Nat} {l : List AFr} {m : List Frame} (h : StackR P ρ H hi l m) (hle : ρ.le ρ') (hg : ∀ g, g < hi → ρ g = none → ρ' g = none ∧ H'.get g = H.get g) : StackR P ρ' H' hi l m := by
  induction h with
  | nil => exact .nil _
  | cons h hlo t ih => exact .cons (h.mono hle (Nat.le_refl _) hg) hlo (ih (fun g hl hn => hg g (Nat.lt_of_lt_of_le hl hlo) hn))

/-- The whole. -/
def SR (P : Program) (w0 : Bs) (s : ASt) (fr : Frame) (cs : List Frame) (w : World) : Prop :=
  ∃ ρ, HR w0 ρ s.H s.n w ∧ FRel P ρ s.H s.n true s.fr fr ∧ s.fr.lo ≤ s.n ∧ StackR P ρ s.H s.fr.lo s.cs cs

theorem Ext.low {ρ ρ' : Env} {H H' : Tr AB} {n n' m : Nat} (h : Ext ρ ρ' H H' n n') (hm : m ≤ n) : ∀ g, g < m → ρ g = none → ρ' g = none ∧ H'.get g = H.get g := fun g hg hn =>
  ⟨(h.old (Nat.lt_of_lt_of_le hg hm)).trans hn, h.keep (Nat.lt_of_lt_of_le hg hm) hn⟩

/-- Functions that may be entered. -/
structure FTok (P : Program) (FT : FuncId → Option Func) : Prop where
  fn : ∀ {f fn}, FT f = some fn → P.funcs[f]? = some fn
  call : ∀ {f fn}, FT f = some fn → fn.body.isSome = true → ∀ args w, (callFunc f args).run P w = .ok (.enter f args) w
/-- Contracts that hold. -/
def HKok (P : Program) (HK : Hook) : Prop := ∀ {f args H n x H' n'}, HK f args H n = some (x, H', n') → (∀ xs w, (callFunc f xs).run P w = .ok (.enter f xs) w) ∧
  ∀ {w0 ρ w vs}, HR w0 ρ H n w → VRs ρ args vs → Calls P f vs.toArray w (fun e w' => ∃ ρ' v, e = .returned v ∧ VR ρ' x v ∧ HR w0 ρ' H' n' w' ∧ Ext ρ ρ' H H' n n')

/-- The model's own way to a callee. -/
def toCallee (fv : Value) (args : Array Value) : Sem Next := do let d ← Deferred.ofValue fv args; invoke d.target d.args
theorem calleeOf_sound {P : Program} {ρ : Env} {f : AV} {args : List AV} {fv : Value} {vs : List Value} {c : Callee'} (h : calleeOf P f args = some c) (hf : VR ρ f fv) (ha : VRs ρ args vs) :
    (∃ g xs us, c = .fn g xs ∧ VRs ρ xs us ∧ ∀ w, (toCallee fv vs.toArray).run P w = (callFunc g us.toArray).run P w) ∨
    (∃ i b cc, c = .yl i args ∧ ρ i = some (b, cc) ∧ ∀ w, (toCallee fv vs.toArray).run P w = (Instr.yield b vs.toArray).run P w) := by
  unfold calleeOf at h
  split at h
  · rename_i g first cap
    simp only [Option.some.injEq] at h; subst h
    cases hf with
    | fn _ e e' =>
      refine .inl ⟨g, _, _, rfl, (e.append ha).append e', fun w => ?_⟩
      unfold toCallee
      simp [Deferred.ofValue, invoke]
  · rename_i i
    simp at h; subst h
    cases hf with
    | yl e =>
      refine .inr ⟨i, _, _, rfl, e, fun w => ?_⟩
      unfold toCallee
      simp [Deferred.ofValue, invoke]
  · cases h
theorem methodA_sound {P : Program} {t : TypeId} {name : String} {f : FuncId} (h : methodA P t name = some f) : ∀ v w, (method (P.types.size + Made.depth) t v name).run P w = .ok (f, v) w := by
  unfold methodA at h
  split at h
  · rename_i inf hinf
    split at h
    · rename_i m hm
      intro v w
      obtain ⟨d, hd⟩ : ∃ d, P.types.size + Made.depth = d + 1 := ⟨P.types.size + Made.depth - 1, by unfold Made.depth; omega⟩
      rw [hd]
      unfold method
      have hpath : ∀ {l : List FieldStep}, m.path.toList = l → l = [] → m.path.isEmpty = true := fun h1 h2 => by
        rw [h2] at h1
        simpa using h1
      split at h
      · rename_i g e hp hfn hu
        simp at h; subst h
        have hpe := hpath hp rfl
        simp [run_typeInfo hinf, hm, hp, follow, hfn, receiverAt, run_underlying hu, Place.get, hpe]
      · cases h
      · rename_i g d' hne hp hfn hu
        simp at h; subst h
        have hpe := hpath hp rfl
        simp only [Sem.run_bind, run_typeInfo hinf, Result.andThen_ok, hm, hp, follow, Sem.run_pure, hfn, receiverAt, run_underlying hu]
        cases d' <;> first | (exact absurd rfl (hne _)) | simp [Place.get]
      · cases h
    · cases h
  · cases h
/-- Whom an operation calls. -/
theorem callOf_sound {P : Program} {ρ : Env} {T : Tr AV} {o : Oper} {c : Callee'} {ev : Operand → Value} (h : callOf P T o = some c) (hev : ∀ y ∈ o.op.operands, VR ρ (aev T y) (ev y)) :
    (∃ g xs us, c = .fn g xs ∧ VRs ρ xs us ∧ ∀ w, (execOp ev o).run P w = (callFunc g us.toArray).run P w) ∨
    (∃ i xs vs b cc, c = .yl i xs ∧ VRs ρ xs vs ∧ ρ i = some (b, cc) ∧ ∀ w, (execOp ev o).run P w = (Instr.yield b vs.toArray).run P w) := by
  obtain ⟨dst, op, type, pos, after, guard⟩ := o
  unfold callOf at h
  split at h
  · rename_i f args ats hop
    simp only at hop
    subst hop
    have hargs : VRs ρ (args.toList.map (aev T)) (args.toList.map ev) := VRs.map_ev fun y hy => hev y (by simp [Op.operands, Call.operands]; exact .inr (by simpa using hy))
    have hf := hev f (by simp [Op.operands, Call.operands])
    have hex : ∀ w, (execOp ev ⟨dst, .call ⟨.value f, args, ats⟩, type, pos, after, guard⟩).run P w = (toCallee (ev f) (args.toList.map ev).toArray).run P w := fun w => by
      unfold execOp toCallee resolve
      rw [arrmap]
    rcases calleeOf_sound h hf hargs with ⟨g, xs, us, h1, h2, h3⟩ | ⟨i, b, cc, h1, h2, h3⟩
    · exact .inl ⟨g, xs, us, h1, h2, fun w => (hex w).trans (h3 w)⟩
    · exact .inr ⟨i, _, _, b, cc, h1, hargs, h2, fun w => (hex w).trans (h3 w)⟩
  · rename_i r name args ats hop
    simp only at hop
    subst hop
    have hargs : VRs ρ (args.toList.map (aev T)) (args.toList.map ev) := VRs.map_ev fun y hy => hev y (by simp [Op.operands, Call.operands]; exact .inr (by simpa using hy))
    have hr := hev r (by simp [Op.operands, Call.operands])
    split at h
    · rename_i t x hrx
      rw [hrx] at hr
      generalize hrv : ev r = rv at hr
      cases hr with
      | ifc _ hx =>
        rename_i u
        cases hm : methodA P t name with
        | none => simp [hm] at h
        | some g =>
          simp [hm] at h; subst h
          refine .inl ⟨g, _, _, rfl, .cons hx hargs, fun w => ?_⟩
          have e0 : ∀ (a : Value) (ys : Array Value), (#[a] ++ ys)[0]? = some a := fun a ys => by rw [← Array.getElem?_toList]; simp
          have e1 : ∀ (a : Value) (ys : Array Value), (#[a] ++ ys).extract 1 (#[a] ++ ys).size = ys := fun a ys => Array.toList_inj.1 (by simp [List.extract_eq_take_drop])
          have e2 : (u :: args.toList.map ev).toArray = #[u] ++ args.map ev := Array.toList_inj.1 (by simp)
          unfold execOp resolve
          simp only [Sem.run_bind, Sem.run_pure, Result.andThen_ok, invoke, hrv, e0, e1, callMethod, run_program, methodA_sound hm, e2]
    · cases h
  · cases h
end Go.Proofs.Ytnkjhicokcmmpaa.Ev
