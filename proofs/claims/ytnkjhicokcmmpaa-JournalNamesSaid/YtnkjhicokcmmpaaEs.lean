/-
  A RUN OF THE SMALL MACHINE IS A CONTRACT OF THE MODEL's CALL.
-/
import Derived.Test.YtnkjhicokcmmpaaEr
namespace Go.Proofs.Ytnkjhicokcmmpaa.Ev
open Go Go.RowKit

section
variable {P : Program} {FT : FuncId → Option Func} {HK : Hook} {w0 : Bs}

theorem runE_sound (hft : FTok P FT) (hk : HKok P HK) (hmix : P.follows .mixedOrders = true) {base : List Frame} : ∀ (k : Nat) {s : ASt} {fr : Frame} {cs : List Frame} {w : World}, SR P w0 s fr cs w → Goes P w0 base (runE HK P FT k s) fr cs w
  | 0, s, fr, cs, w, h => ⟨fr, cs, w, Steps.refl _ _, h⟩
  | k + 1, s, fr, cs, w, h => by
    unfold runE
    cases hs : stepE HK P FT s with
    | none => exact ⟨fr, cs, w, Steps.refl _ _, h⟩
    | some s' =>
      obtain ⟨fr1, cs1, w1, h1, h2⟩ := stepE_sound (base := base) hft hk hmix h hs
      exact Goes.head h1 (runE_sound hft hk hmix k h2)

theorem runE_succ (k : Nat) (s : ASt) : runE HK P FT (k + 1) s = (match stepE HK P FT s with | some s' => runE HK P FT k s' | none => s) := rfl
/-- Runs one behind the other. -/
theorem runE_add : ∀ (a b : Nat) (s : ASt), runE HK P FT (a + b) s = runE HK P FT b (runE HK P FT a s)
  | 0, b, s => by rw [Nat.zero_add]; rfl
  | a + 1, b, s => by
    rw [show a + 1 + b = (a + b) + 1 by omega, runE_succ, runE_succ]
    cases hs : stepE HK P FT s with
    | some s' => simp only; exact runE_add a b s'
    | none =>
      simp only
      have : ∀ b, runE HK P FT b s = s := fun b => by
        cases b with
        | zero => rfl
        | succ b => rw [runE_succ, hs]
      exact (this b).symm

theorem calls_of_run (hft : FTok P FT) (hk : HKok P HK) (hmix : P.follows .mixedOrders = true) {f : FuncId} {s0 : ASt} (h0 : startE FT f = some s0) (k : Nat) {x : Value} (hfin : finalE P FT f (runE HK P FT k s0) = some (.v x)) (w : World) :
    Calls P f #[] w (fun e w' => e = .returned x ∧ Fr No w w') := by
  intro cs
  unfold startE at h0
  cases hfn : FT f with
  | none => simp [hfn] at h0
  | some fn =>
    cases hb : fn.body with
    | none => simp [hfn, hb] at h0
    | some body =>
      simp only [hfn, hb, Option.some.injEq] at h0
      have hP := hft.fn hfn
      have hstart : SR P ⟨w, No, fun _ => none⟩ s0 (Frame.enter P f #[] .normal) [] w := by
        subst h0
        refine ⟨fun _ => none, ⟨fun h => (by cases h), fun h => (by cases h), fun _ => ⟨rfl, rfl⟩, fun h => (by cases h), Fr.refl _ _, Env.le_refl _⟩, ⟨rfl, rfl, rfl, .nil, .inl ⟨rfl, rfl⟩, [], _, rfl, ?_, rfl, ?_⟩, Nat.le_refl _, .nil _⟩
        · simp only [Frame.enter, hP, Option.bind_some, hb, Option.getD_some]
          exact .cons (.code _) .nil
        · have := argsT_TR (ρ := fun _ => none) VRs.nil fn.ntmps
          have hz : cond (Nat.ble fn.ntmps ([] : List AV).length) ([] : List AV).length fn.ntmps = fn.ntmps := by
            cases h : Nat.ble fn.ntmps ([] : List AV).length with
            | true => have := Nat.le_of_ble_eq_true h; simp at this ⊢; omega
            | false => rfl
          rw [hz] at this
          simpa [Frame.enter, hP, argsT] using this
      obtain ⟨fr', cs', w', h1, ρ, hr, hf, hlo, hst⟩ := runE_sound (base := cs) hft hk hmix k hstart
      generalize runE HK P FT k s0 = s at *
      unfold finalE at hfin
      split at hfin
      · rename_i g1 hcs hret hds hrg hfnE
        rw [hcs] at hst
        cases hst
        cases hq : Nat.beq s.fr.fn f with
        | false => simp [hq] at hfin
        | true =>
          simp only [hq, cond_true] at hfin
          have hq' : s.fr.fn = f := by simpa using hq
          cases hres : resA P s.fr.T s.H g1.results.toList with
          | none => simp [hres] at hfin
          | some l =>
            simp only [hres, Option.some.injEq] at hfin
            obtain ⟨front, rest, g2, g3, g4⟩ := hf.todo
            rw [hrg] at g4
            obtain ⟨v, hv, hrun⟩ := results_sound hr g4.2 hres
            rw [hfin] at hv
            cases hv
            have hdsr := hf.ds
            rw [hds] at hdsr
            generalize hdf : fr'.defers = dfs at hdsr
            cases hdsr
            refine ⟨.returned x, w', fr', ⟨rfl, hr.fr⟩, h1, hf.fn.trans hq', ?_, hdf, hf.kind, g1, ?_, hrun⟩
            · rw [hf.mode, hret]; rfl
            · rw [hf.fn]; exact hft.fn hfnE
      · cases hfin

/-- A call of a function, from whatever memory. -/
def startF (FT : FuncId → Option Func) (f : FuncId) (args : List AV) (H : Tr AB) (n : Nat) : Option ASt :=
  match FT f with
  | some fn => match fn.body with
    | some b => some { fr := { fn := f, nt := cond (Nat.ble fn.ntmps args.length) args.length fn.ntmps, T := argsT args 0 .e, rg := .no, todo := [.code b], ds := [], ret := false, round := none, lo := n }, cs := [], H := H, n := n }
    | none => none
  | none => none
def finalF (P : Program) (FT : FuncId → Option Func) (f : FuncId) (s : ASt) : Option (AV × Tr AB × Nat) :=
  match finalE P FT f s with
  | some x => some (x, s.H, s.n)
  | none => none
theorem calls_of_runF (hft : FTok P FT) (hk : HKok P HK) (hmix : P.follows .mixedOrders = true) {f : FuncId} {args : List AV} {H H' : Tr AB} {n n' : Nat} {s0 : ASt} (h0 : startF FT f args H n = some s0) (k : Nat) {x : AV} (hfin : finalF P FT f (runE HK P FT k s0) = some (x, H', n'))
    {ρ : Env} {w : World} {vs : List Value} (hr : HR w0 ρ H n w) (hvs : VRs ρ args vs) :
    Calls P f vs.toArray w (fun e w' => ∃ ρ' v, e = .returned v ∧ VR ρ' x v ∧ HR w0 ρ' H' n' w') := by
  intro cs
  unfold startF at h0
  cases hfn : FT f with
  | none => simp [hfn] at h0
  | some fn =>
    cases hb : fn.body with
    | none => simp [hfn, hb] at h0
    | some body =>
      simp only [hfn, hb, Option.some.injEq] at h0
      have hP := hft.fn hfn
      have hstart : SR P w0 s0 (Frame.enter P f vs.toArray .normal) [] w := by
        subst h0
        refine ⟨ρ, hr, ⟨rfl, rfl, rfl, .nil, .inl ⟨rfl, rfl⟩, [], _, rfl, ?_, rfl, ?_⟩, Nat.le_refl _, .nil _⟩
        · simp only [Frame.enter, hP, Option.bind_some, hb, Option.getD_some]
          exact .cons (.code _) .nil
        · have := argsT_TR hvs fn.ntmps
          simpa [Frame.enter, hP] using this
      obtain ⟨fr', cs', w', h1, ρ', hr', hf, hlo, hst⟩ := runE_sound (base := cs) hft hk hmix k hstart
      generalize runE HK P FT k s0 = s at *
      unfold finalF finalE at hfin
      split at hfin
      · rename_i y hfe
        simp only [Option.some.injEq, Prod.mk.injEq] at hfin
        obtain ⟨rfl, rfl, rfl⟩ := hfin
        split at hfe
        · rename_i g1 hcs hret hds hrg hfnE
          rw [hcs] at hst
          cases hst
          cases hq : Nat.beq s.fr.fn f with
          | false => simp [hq] at hfe
          | true =>
            simp only [hq, cond_true] at hfe
            have hq' : s.fr.fn = f := by simpa using hq
            cases hres : resA P s.fr.T s.H g1.results.toList with
            | none => simp [hres] at hfe
            | some l =>
              simp only [hres, Option.some.injEq] at hfe
              obtain ⟨front, rest, g2, g3, g4⟩ := hf.todo
              rw [hrg] at g4
              obtain ⟨v, hv, hrun⟩ := results_sound hr' g4.2 hres
              rw [hfe] at hv
              have hdsr := hf.ds
              rw [hds] at hdsr
              generalize hdf : fr'.defers = dfs at hdsr
              cases hdsr
              refine ⟨.returned v, w', fr', ⟨ρ', v, rfl, hv, hr'⟩, h1, hf.fn.trans hq', ?_, hdf, hf.kind, g1, ?_, hrun⟩
              · rw [hf.mode, hret]; rfl
              · rw [hf.fn]; exact hft.fn hfnE
        · cases hfe
      · cases hfin
end
/-- The program's own table of functions. -/
def tabOf (P : Program) : FuncId → Option Func := fun f => P.funcs[f]?
theorem tab_ok {P : Program} (h : (P.funcs.toList.all fun fn => !(fn.name == "runtime.NumGoroutine")) = true) : FTok P (tabOf P) :=
  ⟨fun h => h, fun {f fn} hf hb args w => by
    have hf' : P.funcs[f]? = some fn := hf
    rw [List.all_eq_true] at h
    have hm : fn ∈ P.funcs.toList := by
      have : P.funcs.toList[f]? = some fn := by rw [Array.getElem?_toList]; exact hf'
      exact List.mem_of_getElem? this
    have hn := h fn hm
    have hn' : (fn.name == "runtime.NumGoroutine") = false := by simpa using hn
    have hbn : fn.body.isNone = false := by
      cases hbb : fn.body with
      | none => rw [hbb] at hb; cases hb
      | some b => rfl
    unfold callFunc
    simp only [Sem.run_bind, run_program, Result.andThen_ok, hf', hn', hbn, Bool.false_eq_true, if_false, Sem.run_pure]⟩
/-- No contracts. -/
def hk0 : Hook := fun _ _ _ _ => none
theorem hk0_ok (P : Program) : HKok P hk0 := fun h => by cases h
def isTrue : Option AV → Bool
  | some (.v (.bool b)) => b
  | _ => false
theorem isTrue_eq {x : Option AV} (h : isTrue x = true) : x = some (.v (.bool true)) := by
  unfold isTrue at h
  split at h
  · subst h; rfl
  · cases h
/-- The whole run of a call without arguments. -/
def truth (HK : Hook) (P : Program) (FT : FuncId → Option Func) (f : FuncId) (k : Nat) : Bool :=
  match startE FT f with
  | some s => isTrue (finalE P FT f (runE HK P FT k s))
  | none => false
theorem calls_of_truth {P : Program} {FT : FuncId → Option Func} {HK : Hook} (hft : FTok P FT) (hk : HKok P HK) (hmix : P.follows .mixedOrders = true) {f : FuncId} {k : Nat} (h : truth HK P FT f k = true) (w : World) :
    Calls P f #[] w (fun e w' => e = .returned (.bool true) ∧ Fr No w w') := by
  unfold truth at h
  split at h
  · rename_i s hs
    exact calls_of_run hft hk hmix hs k (isTrue_eq h) w
  · cases h
end Go.Proofs.Ytnkjhicokcmmpaa.Ev
