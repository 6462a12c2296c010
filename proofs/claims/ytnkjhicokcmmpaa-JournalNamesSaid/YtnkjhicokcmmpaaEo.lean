/-
  Calls, rounds and returns of the small machine.
-/
import Derived.Test.YtnkjhicokcmmpaaEn
import Derived.RangeFuncRecord
namespace Go.Proofs.Ytnkjhicokcmmpaa.Ev
open Go Go.RowKit

section
variable {P : Program} {FT : FuncId → Option Func} {HK : Hook} {w0 : Bs} {w : World} {ρ : Env} {H H' : Tr AB} {n n' : Nat}

theorem At_argsT : ∀ (l : List AV) (k : Nat) (T : Tr AV) (s : Nat), At (argsT l k T) s = if k ≤ s ∧ s < k + l.length then (l[s - k]?).getD (.v undef) else At T s
  | [], k, T, s => by simp [argsT]; omega
  | x :: l, k, T, s => by
    unfold argsT
    rw [At_argsT l (k + 1), At_tput]
    by_cases h1 : s = k
    · subst h1; rw [if_neg (by omega), if_pos rfl, if_pos ⟨by omega, by simp⟩]; simp
    · by_cases h2 : k + 1 ≤ s ∧ s < k + 1 + l.length
      · rw [if_pos h2, if_pos ⟨by omega, by simp; omega⟩]
        rw [show s - k = (s - (k + 1)) + 1 by omega]
        simp
      · rw [if_neg h2, if_neg h1, if_neg (by simp; omega)]
theorem argsT_TR {l : List AV} {vs : List Value} (h : VRs ρ l vs) (m : Nat) : TR ρ (cond (Nat.ble m l.length) l.length m) (argsT l 0 .e) (vs.toArray ++ Array.replicate (m - vs.toArray.size) undef) := by
  have hl := h.length
  constructor
  · simp
    cases hb : Nat.ble m l.length with
    | true => have := Nat.le_of_ble_eq_true hb; simp; omega
    | false =>
      have : l.length < m := by
        rcases Nat.lt_or_ge l.length m with h' | h'
        · exact h'
        · rw [Nat.ble_eq_true_of_le h'] at hb; cases hb
      simp; omega
  · intro s
    rw [At_argsT]
    by_cases hs : s < l.length
    · rw [if_pos ⟨Nat.zero_le _, by omega⟩]
      obtain ⟨u, hu, hx⟩ := h.get (k := s) (x := l[s]) (List.getElem?_eq_getElem hs)
      have : (vs.toArray ++ Array.replicate (m - vs.toArray.size) undef).getD s undef = u := by
        rw [Array.getD_eq_getD_getElem?, ← Array.getElem?_toList]
        simp only [Array.toList_append]
        rw [List.getElem?_append_left (by rw [← hl]; exact hs), hu]
        rfl
      rw [this]
      simp [hs]
      exact hx
    · rw [if_neg (by omega)]
      have : (vs.toArray ++ Array.replicate (m - vs.toArray.size) undef).getD s undef = undef := by
        rw [Array.getD_eq_getD_getElem?, ← Array.getElem?_toList]
        simp only [Array.toList_append]
        rw [List.getElem?_append_right (by rw [← hl]; omega)]
        simp only [Array.toList_replicate, List.getElem?_replicate]
        split <;> rfl
      rw [this]
      exact .v _
theorem putParams_TR : ∀ {ps : List Tmp} {xs : List AV} {vs : List Value} {nt : Nat} {T : Tr AV} {ts : Array Value}, TR ρ nt T ts → VRs ρ xs vs → TR ρ nt (putParams nt ps xs T) ((ps.zip vs).foldl (fun t p => t.setIfInBounds p.1 p.2) ts)
  | [], xs, vs, nt, T, ts, h, _ => by cases xs <;> simpa [putParams] using h
  | p :: ps, [], vs, nt, T, ts, h, hx => by cases hx; simpa [putParams] using h
  | p :: ps, x :: xs, vs, nt, T, ts, h, hx => by
    cases hx with
    | cons e t =>
      simp only [putParams, List.zip_cons_cons, List.foldl_cons]
      exact putParams_TR (h.put (d := some p) e) t

theorem apply_enter {fr : Frame} {cs : List Frame} {w' : World} {S : Sem Next} {f : FuncId} {args : Array Value} (hc : ∀ d x y z r, fr.todo ≠ .call d x y z :: r) (hr : S.run P w = .ok (.enter f args) w') :
    (stepG.apply P true fr cs none S w).bare = .go { frame := Frame.enter P f args .normal, callers := fr :: cs, status := .running, dying := none } w' := by
  have : (match fr.todo with | .call _ true _ _ :: _ => CallKind.wrapped | _ => .normal) = .normal := by
    split
    · rename_i e; exact absurd e (hc _ _ _ _ _)
    · rfl
  simp [stepG.apply, hr]
  exact congrArg (Frame.enter P f args) this
theorem apply_round {fr : Frame} {cs : List Frame} {w' : World} {S : Sem Next} {l : Nat} {f : FuncId} {tmps : Array Value} {a b : Code} (hr : S.run P w = .ok (.round l f tmps a b) w') :
    (stepG.apply P true fr cs none S w).bare = .go { frame := Frame.round l f tmps a b .normal, callers := fr :: cs, status := .running, dying := none } w' := by
  simp [stepG.apply, hr]

/-- Into a callee. -/
theorem enter_sound (hft : FTok P FT) {s s' : ASt} {af : AFr} {fr : Frame} {cs base : List Frame} {c : Callee'} (h : enterA FT af s c = some s') (hr : HR w0 ρ s.H s.n w) (hfr : FRel P ρ s.H s.n false af fr) (hlo : af.lo ≤ s.n)
    (hst : StackR P ρ s.H af.lo s.cs cs) {S : Sem Next} {fr0 : Frame} {w1 : World} (hg : (stepG P true { frame := fr0, callers := cs ++ base, status := .running, dying := none } w1).bare = (stepG.apply P true fr (cs ++ base) none S w).bare) (hc : ∀ d x y z r, fr.todo ≠ .call d x y z :: r)
    (hS : (∃ g xs us, c = .fn g xs ∧ VRs ρ xs us ∧ S.run P w = (callFunc g us.toArray).run P w) ∨ (∃ i xs vs b cc, c = .yl i xs ∧ VRs ρ xs vs ∧ ρ i = some (b, cc) ∧ S.run P w = (Instr.yield b vs.toArray).run P w)) :
    ∃ fr', step P (lone fr0 (cs ++ base) w1) = .next (lone fr' (fr :: cs ++ base) w) ∧ SR P w0 s' fr' (fr :: cs) w := by
  rcases hS with ⟨g, xs, us, rfl, hx, hrun⟩ | ⟨i, xs, vs, b, cc, rfl, hx, hi, hrun⟩
  · simp only [enterA] at h
    cases hfn : FT g with
    | none => simp [hfn] at h
    | some fn =>
      cases hb : fn.body with
      | none => simp [hfn, hb] at h
      | some body =>
        simp only [hfn, hb, Option.some.injEq] at h
        subst h
        refine ⟨_, step_lone_go (hg.trans (apply_enter hc (hrun.trans (hft.call hfn (by rw [hb]; rfl) _ _)))), ρ, hr, ?_, Nat.le_refl _, .cons hfr hlo hst⟩
        have hP := hft.fn hfn
        refine ⟨rfl, rfl, rfl, .nil, .inl ⟨rfl, rfl⟩, [], _, rfl, ?_, rfl, ?_⟩
        · simp only [Frame.enter, hP, Option.bind_some, hb, Option.getD_some]
          exact .cons (.code _) .nil
        · have := argsT_TR hx fn.ntmps
          simpa [Frame.enter, hP] using this
  · simp only [enterA] at h
    split at h
    · rename_i st pd fn nt T ps asg bd d hB
      rw [beq_dec] at h
      by_cases hl : xs.length = ps.length
      · simp only [hl, decide_true, cond_true, Option.some.injEq] at h
        subst h
        obtain ⟨o, ho, ts, db, dc, hts, hd, rfl⟩ := hr.blk hi hB
        have hvl := hx.length
        have hy : (Instr.yield b vs.toArray).run P w = .ok (.round b fn ((ps.toArray.zip vs.toArray).foldl (fun tmps (x : Tmp × Value) => tmps.setIfInBounds x.1 x.2) ts) asg bd) w := by
          unfold Instr.yield
          have hne : ¬ (vs.toArray.size ≠ ps.toArray.size) := by simp; omega
          simp only [Sem.run_bind, run_getLoop ho, Result.andThen_ok, if_neg hne, Sem.run_pure]
        refine ⟨_, step_lone_go (hg.trans (apply_round (hrun.trans hy))), ρ, hr, ?_, Nat.le_refl _, .cons hfr hlo hst⟩
        refine ⟨rfl, rfl, rfl, .nil, .inr ⟨i, b, cc, rfl, rfl, hi⟩, [], _, rfl, .cons (.code _) (.cons .beginRound (.cons (.code _) .nil)), rfl, ?_⟩
        have := putParams_TR (ps := ps) hts hx
        have he : (ps.toArray.zip vs.toArray).foldl (fun tmps (x : Tmp × Value) => tmps.setIfInBounds x.1 x.2) ts = (ps.zip vs).foldl (fun t p => t.setIfInBounds p.1 p.2) ts := by
          rw [← Array.foldl_toList]; simp
        simp only [Frame.round, he]
        exact this
      · simp [hl] at h
    · cases h

/-- An operation that turns memory at once, or a call that has a contract. -/
theorem now_sound (hk : HKok P HK) {T : Tr AV} {o : Oper} {x : AV} (hr : HR w0 ρ H n w) (h : nowA HK P T o H n = some (x, H', n')) {fr : Frame} {cs : List Frame} (hev : ∀ y ∈ o.op.operands, VR ρ (aev T y) (fr.eval y))
    (hg : stepG P true { frame := fr, callers := cs, status := .running, dying := none } w = stepG.apply P true fr cs none (execOp fr.eval o) w) (hc : ∀ d x y z r, fr.todo ≠ .call d x y z :: r) :
    ∃ ρ' v w', Steps P (lone fr cs w) (lone (fr.finish v) cs w') ∧ VR ρ' x v ∧ HR w0 ρ' H' n' w' ∧ Ext ρ ρ' H H' n n' := by
  unfold nowA at h
  cases hW : aopW P T o H n with
  | some r =>
    rw [hW] at h
    simp at h; subst h
    obtain ⟨ρ', v, w', h1, h2, h3, h4⟩ := aopW_sound hr hW hev
    refine ⟨ρ', v, w', ?_, h2, h3, h4⟩
    rcases h1 with h1 | ⟨rfl, h1⟩
    · exact .one (step_value hg h1)
    · exact .one (step_skip' hg h1)
  | none =>
    rw [hW] at h
    simp only [hooked] at h
    split at h
    · rename_i f args hco
      obtain ⟨hen, hcalls⟩ := hk h
      rcases callOf_sound hco hev with ⟨g, xs, us, h1, h2, h3⟩ | ⟨i, xs, vs, b, cc, h1, _⟩
      · cases h1
        have hst := step_enter hc hg ((h3 w).trans (hen _ _))
        obtain ⟨e, w', fr'', hR, hcomes, _, hleave⟩ := hcalls hr h2 (fr :: cs)
        obtain ⟨ρ', v, rfl, hv, hr', hx⟩ := hR
        exact ⟨ρ', v, w', .head hst (Steps.trans hcomes (.one (step_leave_returned hleave))), hv, hr', hx⟩
      · cases h1
    · cases h

/-- Behind an operation, in a region in the text's order. -/
theorem FRel.pl_done {af : AFr} {fr : Frame} {hi hi' : Nat} {live : Bool} {ρ' : Env} {ops : Array Oper} {o : Oper} {r : List Oper} (h : FRel P ρ H hi live af fr) (hrg : af.rg = .pl ops (o :: r)) (hle : ρ.le ρ') {x : AV} {v : Value} (hv : VR ρ' x v) (live' : Bool) :
    FRel P ρ' H' hi' live' { af with T := putT af.nt af.T o.dst x, rg := .pl ops r } (fr.finish v) := by
  obtain ⟨front, rest, h1, h2, h3⟩ := h.todo
  rw [hrg] at h3
  obtain ⟨⟨rest', rfl, hp⟩, hT⟩ := h3
  obtain ⟨i, r', rfl, hi, hp'⟩ := hp.head
  have ht : fr.todo = .inRegion ops (i :: r') :: rest := h1
  rw [finish_region ht hi v]
  exact ⟨h.fn, h.kind, h.mode, h.ds.mono hle, h.ro.mono hle, [.inRegion ops r'], rest, rfl, h2.mono hle, ⟨r', rfl, hp'⟩, (hT.mono hle).put hv⟩
/-- Behind an operation, in a region that draws its order. -/
theorem DrR.opdone {ρ' : Env} {lo nt D : Nat} {live : Bool} {T X T0 : Tr AV} {l : List Oper} {lds : List (Nat × TypeId × AV × AV)} {W : Tr Nat} {C : Nat → Prop} {G : Nat → Option Nat} {y : Nat} {r : List Nat} {ts : Array Value} {hi hi' : Nat}
    (h : DrR P ρ H lo hi live nt T l D X T0 lds W C G (y :: r) ts) (hy : Nat.testBit D y = false) {o : Oper} (ho : l[y]? = some o) {x : AV} {v : Value} (hle : ρ.le ρ') (hg : ∀ g, g < hi → ρ g = none → ρ' g = none ∧ H'.get g = H.get g) (hnn : hi ≤ hi')
    (hl : ldsOk P H' lds = true) (hv : VR ρ' x v) :
    DrR P ρ' H' lo hi' true nt (Ev.putT nt T o.dst x) l (D ||| 2 ^ y) (tput X y x) T0 lds W (fun z => C z ∨ z = y) G r (match o.dst with | some d => ts.setIfInBounds d v | none => ts) := by
  cases h.lin with
  | cons hylt hn hp t =>
    have hX : ∀ i, i ≠ y → At (tput X y x) i = At X i := fun i hi => by rw [At_tput, if_neg hi]
    have hXy : At (tput X y x) y = x := by rw [At_tput, if_pos rfl]
    have hpD : ∀ p, Pred l y p → Nat.testBit D p = true := fun p hpp => h.sub p (hp p hpp)
    have hanc : ∀ z i, Nat.testBit D z = true → ancB l z i = true → i ≠ y := fun z i hz hi e => by
      have := anc_closed h.sc.below (C := fun i => Nat.testBit D i = true) h.closD z i (fun p hpp => h.closD z p hz hpp) hi
      rw [e, hy] at this; cases this
    have h2 := (h.mono hle hnn hg).live hl
    refine { h with lin := t, closC := fun z p hz hzp => ?_, closD := fun z p hz hzp => ?_, sub := fun z hz => ?_, dlt := fun z hz => ?_, size := ?_, T := h.putT ho hy x, ts := fun s => ?_, pend := fun z hz hzC => ?_, gb := fun {a g} ha => ?_ }
    · rcases hz with hz | rfl
      · exact .inl (h.closC z p hz hzp)
      · exact .inl (hp p hzp)
    · rw [testBit_put] at hz ⊢
      by_cases e : y = z
      · subst e; rw [hpD p hzp]; rfl
      · simp [e] at hz; rw [h.closD z p hz hzp]; rfl
    · rw [testBit_put]
      rcases hz with hz | rfl
      · rw [h.sub z hz]; rfl
      · simp
    · rw [testBit_put] at hz
      by_cases e : y = z
      · subst e; exact hylt
      · simp [e] at hz; exact h.dlt z hz
    · cases o.dst <;> simp [h.size]
    · exact h.putTs hle ho hn (fun i hi => hX i (fun e => hn (e ▸ hi))) (by rw [hXy]; exact hv) s
    · have hne : z ≠ y := fun e => hzC (.inr e)
      have hzD : Nat.testBit D z = true := by
        rw [testBit_put] at hz
        have : y ≠ z := fun h => hne h.symm
        simpa [this] using hz
      obtain ⟨o', Ty, q1, q2, q3⟩ := h2.pend z hzD (fun hc => hzC (.inl hc))
      refine ⟨o', Ty, q1, fun s hs => (q2 s hs).trans (envS_congr fun i hi => (hX i (hanc z i hzD hi)).symm), ?_⟩
      rw [hX z hne]
      exact q3
    · have := h.gb ha
      exact ⟨Nat.lt_of_lt_of_le this.1 hnn, by rw [testBit_put, this.2]; rfl⟩

/-- A value comes back. -/
theorem finishA_sound {c c' : AFr} {cfr : Frame} {hi hi' : Nat} {x : AV} {v : Value} (h : finishA P H c x = some c') (hf : FRel P ρ H hi false c cfr) (hhi : hi ≤ hi') (hv : VR ρ x v) : FRel P ρ H hi' true c' (cfr.finish v) ∧ c'.lo = c.lo := by
  unfold finishA at h
  split at h
  · rename_i ops o r hrg
    simp only [Option.some.injEq] at h
    subst h
    exact ⟨hf.pl_done hrg ρ.le_refl hv true, rfl⟩
  · rename_i ops D X T0 lds y hrg
    split at h
    · rename_i o ho
      cases hl : ldsOk P H lds with
      | false => simp [hl] at h
      | true =>
        simp only [hl, cond_true, Option.some.injEq] at h
        subst h
        obtain ⟨front, rest, h1, h2, h3⟩ := hf.todo
        rw [hrg] at h3
        obtain ⟨W, C, G, rest', rfl, hd, hcur⟩ := h3
        obtain ⟨r, rfl, hyD⟩ := hcur y rfl
        have ht : cfr.todo = .inRegion ops (y :: r) :: rest := h1
        have ho' : ops[y]? = some o := by simpa using ho
        rw [finish_region ht ho' v]
        refine ⟨⟨hf.fn, hf.kind, hf.mode, hf.ds, hf.ro, [.inRegion ops r], rest, rfl, h2, W, _, G, r, rfl, hd.opdone hyD ho ρ.le_refl (fun g _ hn => ⟨hn, rfl⟩) hhi hl hv, fun y hy => by cases hy⟩, rfl⟩
    · cases h
  · rename_i hrg
    split at h
    · rename_i i k htd
      simp only [Option.some.injEq] at h
      subst h
      obtain ⟨front, rest, h1, h2, h3⟩ := hf.todo
      rw [hrg] at h3
      obtain ⟨rfl, hT⟩ := h3
      rw [htd] at h2
      cases h2 with
      | cons a t =>
        cases a with
        | inRF hb =>
          rename_i m b cc
          have ht : cfr.todo = .inRangeFunc b :: m := h1
          have hfin : cfr.finish v = { cfr with todo := .endRangeFunc b :: m } := by unfold Frame.finish; rw [ht]
          rw [hfin]
          refine ⟨⟨hf.fn, hf.kind, hf.mode, hf.ds, hf.ro, [], _, rfl, .cons (.endRF hb) t, ?_⟩, rfl⟩
          simp only [hrg]
          exact ⟨rfl, hT⟩
    · cases h
  · cases h
end
end Go.Proofs.Ytnkjhicokcmmpaa.Ev
