/-
  THE SMALL MACHINE's STEP IS THE MODEL's: wherever the one goes on, the other comes to a state that the first stands for.
-/
import Derived.Test.YtnkjhicokcmmpaaEo
namespace Go.Proofs.Ytnkjhicokcmmpaa.Ev
open Go Go.RowKit

section
variable {P : Program} {FT : FuncId → Option Func} {HK : Hook} {w0 : Bs}

/-- What a step is to show. -/
def Goes (P : Program) (w0 : Bs) (base : List Frame) (s' : ASt) (fr : Frame) (cs : List Frame) (w : World) : Prop :=
  ∃ fr' cs' w', Steps P (lone fr (cs ++ base) w) (lone fr' (cs' ++ base) w') ∧ SR P w0 s' fr' cs' w'

theorem Goes.head {base : List Frame} {s' : ASt} {fr fr1 : Frame} {cs cs1 : List Frame} {w w1 : World} (h : Steps P (lone fr (cs ++ base) w) (lone fr1 (cs1 ++ base) w1)) (k : Goes P w0 base s' fr1 cs1 w1) : Goes P w0 base s' fr cs w := by
  obtain ⟨fr', cs', w', h1, h2⟩ := k
  exact ⟨fr', cs', w', h.trans h1, h2⟩

theorem not_call {l : List AItem} {m : List Item} {ρ : Env} (h : IRs ρ l m) : ∀ d x y z r, m ≠ .call d x y z :: r := by
  intro d x y z r e
  subst e
  cases h with
  | cons a t => cases a

/-- Back to the caller, with a value. -/
theorem back_sound {base : List Frame} {s s' : ASt} {fr : Frame} {cs : List Frame} {w w' : World} {ρ : Env} {x : AV} {v : Value} (h : backA P s x = some s') (hr : HR w0 ρ s.H s.n w') (hst : StackR P ρ s.H s.fr.lo s.cs cs) (hlo : s.fr.lo ≤ s.n) (hv : VR ρ x v)
    (hk : ∀ c cs', cs = c :: cs' → step P (lone fr (cs ++ base) w) = .next (lone (c.finish v) (cs' ++ base) w')) : Goes P w0 base s' fr cs w := by
  unfold backA at h
  generalize hscs : s.cs = scs at hst h
  cases hst with
  | nil => cases h
  | cons hf hl t =>
    rename_i c cfr l m
    simp only at h
    cases hc : finishA P s.H c x with
    | none => simp [hc] at h
    | some c' =>
      simp only [hc, Option.some.injEq] at h
      subst h
      obtain ⟨h1, h2⟩ := finishA_sound hc hf hlo hv
      refine ⟨_, m, w', .one (hk cfr m rfl), ρ, hr, h1, ?_, ?_⟩
      · show c'.lo ≤ s.n
        rw [h2]; omega
      · show StackR P ρ s.H c'.lo l m
        rw [h2]; exact t

/-- A step that turns what is to do alone. -/
theorem todo_sound {base : List Frame} {s : ASt} {fr : Frame} {cs : List Frame} {w : World} (h : SR P w0 s fr cs w) (hrg : s.fr.rg = .no) (hret : s.fr.ret = false) {l : List AItem} {m : List Item} (hl : ∀ ρ, IRs ρ s.fr.todo fr.todo → IRs ρ l m)
    (hs : stepG.exec P true true fr (cs ++ base) none w = .go { frame := { fr with todo := m }, callers := cs ++ base, status := .running, dying := none } w) : Goes P w0 base { s with fr := { s.fr with todo := l } } fr cs w := by
  obtain ⟨ρ, hr, hf, hlo, hst⟩ := h
  obtain ⟨front, rest, h1, h2, h3⟩ := hf.todo
  rw [hrg] at h3
  obtain ⟨rfl, hT⟩ := h3
  have ht : fr.todo = rest := h1
  have hm := hf.mode
  rw [hret] at hm
  refine ⟨_, cs, w, .one (step_todo hm hs), ρ, hr, ⟨hf.fn, hf.kind, hf.mode, hf.ds, hf.ro, [], m, rfl, hl ρ (ht ▸ h2), ?_⟩, hlo, hst⟩
  simp only [hrg]
  exact ⟨rfl, hT⟩

theorem Fr.put (w : World) (b : Nat) (o : Obj) : Fr (fun k => k = b) w (w.putObj b o) := ⟨rfl, rfl, rfl, by simp [World.putObj], fun k _ hn => World.putObj_heap_other hn⟩
theorem leave_sound {base : List Frame} {s s' : ASt} {fr : Frame} {cs : List Frame} {w : World} (h : SR P w0 s fr cs w) (hrg : s.fr.rg = .no) (hret : s.fr.ret = false) {jump : Option Code} (hl : leaveA P s jump = some s')
    (hs0 : fr.roundOf = none → (jump = none ∨ jump = some .ret) → stepG.exec P true true fr (cs ++ base) none w = .go { frame := { fr with mode := .returning }, callers := cs ++ base, status := .running, dying := none } w)
    (hs1 : ∀ l, fr.roundOf = some l → stepG.exec P true true fr (cs ++ base) none w = GStep.after (seen P fr.fn ((Instr.endRound l jump).runT P w #[]).2) (match ((Instr.endRound l jump).runT P w #[]).1 with
        | .ok v w => doReturn P true fr (cs ++ base) none v w
        | .halt _ w => .ended (.stuck "range over a function: no such loop" (fr.pos P)) w)) : Goes P w0 base s' fr cs w := by
  obtain ⟨ρ, hr, hf, hlo, hst⟩ := h
  have hm := hf.mode
  rw [hret] at hm
  unfold leaveA at hl
  rcases hf.ro with ⟨hro, hro'⟩ | ⟨i, b, c, hro, hro', hi⟩
  · rw [hro] at hl
    simp only at hl
    have key : ∀ s'', some { s with fr := { s.fr with ret := true } } = some s'' → (jump = none ∨ jump = some .ret) → Goes P w0 base s'' fr cs w := by
      intro s'' he hj
      simp only [Option.some.injEq] at he
      subst he
      obtain ⟨front, rest, h1, h2, h3⟩ := hf.todo
      exact ⟨_, cs, w, .one (step_todo hm (hs0 hro' hj)), ρ, hr, ⟨hf.fn, hf.kind, rfl, hf.ds, hf.ro, front, rest, h1, h2, h3⟩, hlo, hst⟩
    split at hl
    · exact key _ hl (.inl rfl)
    · exact key _ hl (.inr rfl)
    · cases hl
  · rw [hro] at hl
    have hs := hs1 b hro'
    simp only at hl
    split at hl
    · rename_i st pd fn nt T ps asg bd d hB
      obtain ⟨o, ho, ts, db, dc, hts, hd, rfl⟩ := hr.blk hi hB
      have hrun : (Instr.endRound b jump).run P w = .ok (.bool (goesOn jump)) (w.putObj b (.loop { state := (stOf jump), pending := jump, fn := fn, tmps := ts, params := ps.toArray, assign := asg, body := bd, defers := db })) := by
        unfold Instr.endRound
        simp only [Sem.run_bind, run_getLoop ho, Result.andThen_ok, Sem.run_pure]
        simp only [setObj, Sem.run, ho, Result.andThen_ok, World.putObj]
        cases jump <;> rfl
      have hw' : HR w0 ρ (tput s.H i (.loop (stOf jump) jump fn nt T ps asg bd d)) s.n (w.putObj b (.loop { state := (stOf jump), pending := jump, fn := fn, tmps := ts, params := ps.toArray, assign := asg, body := bd, defers := db })) :=
        hr.write hi hB rfl (World.putObj_heap_same (hr.base hi).2) ⟨ts, db, dc, hts, hd, rfl⟩ (Fr.put w b _)
      refine back_sound hl hw' ?_ hlo (VR.v _) (fun c cs' hcs => ?_)
      · exact hst.mono ρ.le_refl (fun g _ hn => ⟨hn, by rw [get_tput, if_neg (fun e => by subst e; rw [hi] at hn; cases hn)]⟩)
      · refine step_lone_go ?_
        have hstep : stepG P true { frame := fr, callers := cs ++ base, status := .running, dying := none } w = stepG.exec P true true fr (cs ++ base) none w := by
          obtain ⟨fn, tmps, todo, defers, mode, kind, ro⟩ := fr
          simp only at hm; subst hm
          rfl
        rw [hstep, hs]
        simp only [Sem.runT_eq, hrun, GStep.bare_after]
        rw [hcs]
        simp only [List.cons_append, doReturn, hf.kind]
        rfl
    · cases hl
end
end Go.Proofs.Ytnkjhicokcmmpaa.Ev
