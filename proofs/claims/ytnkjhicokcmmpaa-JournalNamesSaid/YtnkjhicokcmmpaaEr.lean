/-
  THE SMALL MACHINE's RUN IS THE MODEL's: what it answers at its end, the model's call answers, from whatever world.
-/
import Derived.Test.YtnkjhicokcmmpaaEq
namespace Go.Proofs.Ytnkjhicokcmmpaa.Ev
open Go Go.RowKit

section
variable {P : Program} {FT : FuncId → Option Func} {HK : Hook} {w0 : Bs}

theorem loadA_of {H H' : Tr AB} {t : TypeId} {p x : AV} (h : ∀ i T z l, H.get i = some (.mem T z l) → H'.get i = some (.mem T z l)) (hl : loadA P t p H = some x) : loadA P t p H' = some x := by
  unfold loadA at hl ⊢
  split at hl
  · split at hl
    · rename_i hB; rw [h _ _ _ _ hB]; exact hl
    · cases hl
  · cases hl
theorem IRs.tail {ρ : Env} {x : AItem} {y : Item} {l : List AItem} {m : List Item} (h : IRs ρ (x :: l) (y :: m)) : IRs ρ l m := by cases h with | cons _ t => exact t

theorem stepCode_sound (hft : FTok P FT) (hmix : P.follows .mixedOrders = true) {base : List Frame} {s s' : ASt} {fr : Frame} {cs : List Frame} {w : World} {c : Code} {k : List AItem} (h : SR P w0 s fr cs w) (hrg : s.fr.rg = .no) (hret : s.fr.ret = false) (htd : s.fr.todo = .code c :: k)
    (hs : stepCode P FT s c k = some s') : Goes P w0 base s' fr cs w := by
  have h0 := h
  obtain ⟨ρ, hr, hf, hlo, hst⟩ := h
  have hm := hf.mode
  rw [hret] at hm
  obtain ⟨front, rest, h1, h2, h3⟩ := hf.todo
  rw [hrg] at h3
  obtain ⟨rfl, hT⟩ := h3
  rw [htd] at h2
  obtain ⟨k', rfl, hk'⟩ : ∃ k', rest = .code c :: k' ∧ IRs ρ k k' := by
    cases h2 with | cons a t => cases a; exact ⟨_, rfl, t⟩
  have ht : fr.todo = .code c :: k' := h1
  have tl : ∀ ρ', IRs ρ' s.fr.todo fr.todo → IRs ρ' k k' := fun ρ' hh => by rw [htd, ht] at hh; exact hh.tail
  have to : ∀ {l : List AItem} {m : List Item}, (∀ ρ', IRs ρ' k k' → IRs ρ' l m) → stepG.exec P true true fr (cs ++ base) none w = .go { frame := { fr with todo := m }, callers := cs ++ base, status := .running, dying := none } w →
      some { s with fr := { s.fr with todo := l } } = some s' → Goes P w0 base s' fr cs w := by
    intro l m hl hx he
    simp only [Option.some.injEq] at he
    subst he
    exact todo_sound h0 hrg hret (fun ρ' hh => hl ρ' (tl ρ' hh)) hx
  cases c with
  | ret =>
    refine leave_sound h0 hrg hret (show leaveA P s (some .ret) = some s' from hs) (fun hro _ => ?_) (fun l hro => ?_)
    · simp only [stepG.exec, ht, hro]; rfl
    · simp only [stepG.exec, ht, hro]; rfl
  | skip => exact to (fun _ h => h) (by simp only [stepG.exec, ht]) hs
  | label l => exact to (fun _ h => h) (by simp only [stepG.exec, ht]) hs
  | seq a b => exact to (m := .code a :: .code b :: k') (fun _ h => .cons (.code _) (.cons (.code _) h)) (by simp only [stepG.exec, ht]) hs
  | block id b => exact to (m := .code b :: .inBlock id :: k') (fun _ h => .cons (.code _) (.cons (.inBlock _) h)) (by simp only [stepG.exec, ht]) hs
  | loop b => exact to (m := .code b :: .inLoop b :: k') (fun _ h => .cons (.code _) (.cons (.inLoop _) h)) (by simp only [stepG.exec, ht]) hs
  | scope b => exact to (m := .code b :: .inScope b :: k') (fun _ h => .cons (.code _) (.cons (.inScope _) h)) (by simp only [stepG.exec, ht]) hs
  | cond x a b =>
    simp only [stepCode] at hs
    have hx := hT.ev x
    split at hs
    · rename_i t hxt
      rw [hxt] at hx
      generalize hv : fr.eval x = v at hx
      cases hx
      refine to (m := .code (cond t a b) :: k') (fun _ h => .cons (.code _) h) ?_ hs
      simp only [stepG.exec, ht, hv]
      cases t <;> rfl
    · cases hs
  | exit id =>
    simp only [stepCode] at hs
    cases hx : aexit id k with
    | some l =>
      simp only [hx] at hs
      obtain ⟨m, hm', _⟩ := (aexit_sound hk').1 hx
      refine to (m := m) (fun ρ' hh => ?_) ?_ hs
      · obtain ⟨m2, e, hi⟩ := (aexit_sound hh).1 hx
        rw [hm'] at e; cases e; exact hi
      · simp only [stepG.exec, ht, hm', Option.elim_some]
    | none =>
      simp only [hx] at hs
      have hn := (aexit_sound (id := id) (l' := []) hk').2 hx
      refine leave_sound h0 hrg hret hs (fun hro hj => by rcases hj with h | h <;> cases h) (fun l hro => ?_)
      simp only [stepG.exec, ht, hn, Option.elim_none, hro]
      rfl
  | goto l => cases hs
  | refuse l => cases hs
  | region id ops draw =>
    simp only [stepCode] at hs
    cases draw with
    | false =>
      simp only [cond_false, Option.some.injEq] at hs
      subst hs
      refine ⟨_, cs, w, .one (step_todo (fr' := { fr with todo := .inRegion ops (List.range ops.size) :: k' }) hm (by simp [stepG.exec, ht])), ρ, hr, ⟨hf.fn, hf.kind, hf.mode, hf.ds, hf.ro, [.inRegion ops (List.range ops.size)], k', rfl, hk', ⟨_, rfl, PlR.start ops⟩, hT⟩, hlo, hst⟩
    | true =>
      simp only [cond_true] at hs
      cases hsc : scOk ops.toList with
      | false => simp [hsc] at hs
      | true =>
        simp only [hsc, cond_true, Option.some.injEq] at hs
        subst hs
        obtain ⟨W, sc⟩ := scOk_spec hsc
        obtain ⟨t, ht'⟩ : ∃ t, (choose (.order fr.fn id)).run P w = .ok t w.drew := ⟨_, by simp [choose, Sem.run, Question.forced, Question.cut]; rfl⟩
        have hstep : step P (lone fr (cs ++ base) w) = .next (lone { fr with todo := .inRegion ops (Region.schedule true ops t) :: k' } (cs ++ base) w.drew) :=
          step_todo hm (by simp only [stepG.exec, ht, ht', hmix]; rfl)
        have hfr : Fr No w w.drew := (Fr.refl No w).drew
        refine ⟨_, cs, w.drew, .one hstep, ρ, hr.same rfl hfr, ⟨hf.fn, hf.kind, hf.mode, hf.ds, hf.ro, [.inRegion ops (Region.schedule true ops t)], k', rfl, hk', W, fun _ => False, fun _ => none, _, rfl, ?_, fun y hy => by cases hy⟩, hlo, hst⟩
        have hv : ∀ (C : Nat → Prop) [DecidablePred C] (q : Nat), (∀ i, ¬ C i) → valS W s.fr.nt .e s.fr.T C q = At s.fr.T q := fun C _ q hC => by
          unfold valS
          cases W.get q with
          | none => rfl
          | some i => simp only; rw [if_neg (fun h => hC i h.2)]
        exact { sc := sc, lin := lin_schedule sc.below t, closC := fun _ _ h _ => h.elim, closD := fun y p h _ => by simp at h, sub := fun _ h => h.elim, dlt := fun y h => by simp at h, size := hT.1,
                T := fun q => (hv _ q (fun i => by simp)).symm, ts := by
                  intro inst q
                  have h := @hv _ inst q (fun _ h => h)
                  have h' := hT.2 q
                  rw [← h] at h'
                  exact h',
                pend := (fun y h => by simp at h), ginj := (fun h => by cases h), gb := (fun h => by cases h) }
  | rangeFunc f ps asg bd =>
    simp only [stepCode] at hs
    -- what is entered, from behind the two blocks
    have go : ∀ {d db dc : Nat} {H : Tr AB} {n : Nat} {ds : List Nat} {mark : List Deferred} {w1 : World} {ρ1 : Env}, HR w0 ρ1 H n w1 → Ext ρ ρ1 s.H H s.n n → ρ1 d = some (db, dc) → DsR ρ1 ds (mark ++ fr.defers) →
        (Instr.enterLoop fr.fn fr.tmps ps asg bd fr.roundOf).run P w = .ok (w1.heap.size, mark) (w1.alloc (.loop { state := .ready, pending := none, fn := fr.fn, tmps := fr.tmps, params := ps, assign := asg, body := bd, defers := db })) →
        (match calleeOf P (aev s.fr.T f) [.yl n] with
          | some c => enterA FT { s.fr with todo := .inRF n :: k, ds := ds } { s with H := tput H n (.loop .ready none s.fr.fn s.fr.nt s.fr.T ps.toList asg bd d), n := n + 1 } c
          | none => none) = some s' → Goes P w0 base s' fr cs w := by
      intro d db dc H n ds mark w1 ρ1 hr1 hx1 hd hds hrun he
      obtain ⟨ρ2, hρ2⟩ : ∃ ρ2, ρ2 = ρ1.set n (w1.heap.size, 0) := ⟨_, rfl⟩
      have htop := hr1.top (Nat.le_refl n)
      have hle2 : ρ1.le ρ2 := by rw [hρ2]; exact Env.le_set htop.1 _
      have hle : ρ.le ρ2 := Env.le_trans hx1.le hle2
      have hfn : fr.fn = s.fr.fn := hf.fn
      have hr2 : HR w0 ρ2 (tput H n (.loop .ready none s.fr.fn s.fr.nt s.fr.T ps.toList asg bd d)) (n + 1) (w1.alloc (.loop { state := .ready, pending := none, fn := fr.fn, tmps := fr.tmps, params := ps, assign := asg, body := bd, defers := db })) := by
        rw [hρ2]
        refine hr1.alloc ⟨fr.tmps, db, dc, (hT.mono hx1.le).mono (Env.le_set htop.1 _), Env.le_set htop.1 _ _ _ hd, ?_⟩
        rw [hfn]
      have hx2 : Ext ρ ρ2 s.H (tput H n (.loop .ready none s.fr.fn s.fr.nt s.fr.T ps.toList asg bd d)) s.n (n + 1) := by
        rw [hρ2]; exact hx1.trans (Ext.alloc hr1 _ _)
      have hn2 : ρ2 n = some (w1.heap.size, 0) := by rw [hρ2]; exact Env.set_same _ _ _
      cases hco : calleeOf P (aev s.fr.T f) [.yl n] with
      | none => simp [hco] at he
      | some cc =>
        simp only [hco] at he
        have hS := calleeOf_sound (P := P) hco ((hT.ev f).mono hle) (VRs.cons (VR.yl hn2) .nil)
        obtain ⟨fr2, hfr2⟩ : ∃ fr2 : Frame, fr2 = { fr with todo := .inRangeFunc w1.heap.size :: k', defers := mark ++ fr.defers } := ⟨_, rfl⟩
        have hev : fr2.eval f = fr.eval f := by rw [hfr2]; cases f <;> rfl
        have hcaller : FRel P ρ2 (tput H n (.loop .ready none s.fr.fn s.fr.nt s.fr.T ps.toList asg bd d)) (n + 1) false { s.fr with todo := .inRF n :: k, ds := ds } fr2 := by
          rw [hfr2]
          refine ⟨hf.fn, hf.kind, hf.mode, hds.mono hle2, hf.ro.mono hle, [], _, rfl, .cons (.inRF hn2) (hk'.mono hle), ?_⟩
          simp only [hrg]
          exact ⟨rfl, hT.mono hle⟩
        have hg : (stepG P true { frame := fr, callers := cs ++ base, status := .running, dying := none } w).bare = (stepG.apply P true fr2 (cs ++ base) none (toCallee (fr.eval f) [Value.func (.yield w1.heap.size) #[] #[]].toArray) (w1.alloc (.loop { state := .ready, pending := none, fn := fr.fn, tmps := fr.tmps, params := ps, assign := asg, body := bd, defers := db }))).bare := by
          have hstep : stepG P true { frame := fr, callers := cs ++ base, status := .running, dying := none } w = stepG.exec P true true fr (cs ++ base) none w := by
            obtain ⟨fn, tmps, todo, defers, mode, kind, ro⟩ := fr
            simp only at hm; subst hm
            rfl
          rw [hstep]
          simp only [stepG.exec, ht, Sem.runT_eq, hrun, GStep.bare_after]
          rw [← hfr2]
          rw [← hev]
          have hq : (do let d ← resolve fr2.eval { callee := .value f, args := #[.const (Value.func (.yield w1.heap.size) #[] #[])], argTypes := #[] } 0; invoke d.target d.args : Sem Next) = toCallee (fr2.eval f) [Value.func (.yield w1.heap.size) #[] #[]].toArray := by
            have e1 : (#[Operand.const (Value.func (.yield w1.heap.size) #[] #[])] : Array Operand).map fr2.eval = [Value.func (.yield w1.heap.size) #[] #[]].toArray := by
              simp only [List.map_toArray, List.map_cons, List.map_nil]
              rfl
            unfold toCallee resolve
            simp only [e1]
          rw [hq]
        have hc : ∀ d x y z r, fr2.todo ≠ .call d x y z :: r := by rw [hfr2]; exact fun _ _ _ _ _ e => by cases e
        have hst2 := hst.mono hle (hx2.low hlo)
        obtain ⟨fr', q1, q2⟩ := enter_sound (base := base) hft he hr2 hcaller (Nat.le_trans hlo hx2.nn) hst2 hg hc (by
          rcases hS with ⟨g, xs, us, e1, e2, e3⟩ | ⟨j, b, c2, e1, e2, e3⟩
          · exact .inl ⟨g, xs, us, e1, e2, e3 _⟩
          · exact .inr ⟨j, _, _, b, c2, e1, .cons (VR.yl hn2) .nil, e2, e3 _⟩)
        exact ⟨fr', fr2 :: cs, _, .one q1, q2⟩
    cases hh : loopHome s with
    | none => rw [hh] at hs; cases hs
    | some q =>
      obtain ⟨d, H, n, ds⟩ := q
      rw [hh] at hs
      unfold loopHome at hh
      rcases hf.ro with ⟨hro, hro'⟩ | ⟨i, b, c, hro, hro', hi⟩
      · rw [hro] at hh
        simp only [Option.some.injEq, Prod.mk.injEq] at hh
        obtain ⟨rfl, rfl, rfl, rfl⟩ := hh
        have htop := hr.top (Nat.le_refl s.n)
        have hr1 : HR w0 (ρ.set s.n (w.heap.size, 0)) (tput s.H s.n (.dfd true)) (s.n + 1) (w.alloc (.deferred (some []))) := hr.alloc (c := 0) (B := .dfd true) rfl
        refine go hr1 (Ext.alloc hr _ _) (Env.set_same _ _ _) (mark := [{ target := .collected w.heap.size, args := #[] }]) (.cons (Env.set_same _ _ _) (hf.ds.mono (Env.le_set htop.1 _))) ?_ hs
        rw [hro', run_enterLoop_outer]
        simp
      · rw [hro] at hh
        simp only at hh
        cases hB : s.H.get i with
        | none => simp [hB] at hh
        | some B =>
          cases B <;> simp only [hB] at hh <;> try (cases hh; done)
          rename_i st pd fn nt T ps' asg' bd' d'
          simp only [Option.some.injEq, Prod.mk.injEq] at hh
          obtain ⟨rfl, rfl, rfl, rfl⟩ := hh
          obtain ⟨o, ho, ts, db, dc, hts, hd, rfl⟩ := hr.blk hi hB
          refine go hr (Ext.refl _ _ _) hd (mark := []) (by simpa using hf.ds) ?_ hs
          rw [hro']
          unfold Instr.enterLoop
          simp only [Sem.run_bind, run_getLoop ho, Result.andThen_ok, Sem.run_pure, run_newObj]
          rfl

theorem resA_sound {ρ : Env} {H : Tr AB} {n nt : Nat} {T : Tr AV} {ts : Array Value} {w : World} (hr : HR w0 ρ H n w) (hT : TR ρ nt T ts) : ∀ {l : List ResultVar} {xs : List AV}, resA P T H l = some xs →
    ∃ us, VRs ρ xs us ∧ (l.mapM (fun | ResultVar.tmp t => (pure (ts.getD t undef) : Sem Value) | .cell a t => do loadVar t (← asAddr (ts.getD a undef)))).run P w = .ok us w
  | [], xs, h => by simp [resA] at h; subst h; exact ⟨[], .nil, by simp⟩
  | .tmp t :: l, xs, h => by
    unfold resA at h
    cases hl : resA P T H l with
    | none => simp [hl] at h
    | some r =>
      simp only [hl, Option.some.injEq] at h
      subst h
      obtain ⟨us, h1, h2⟩ := resA_sound hr hT hl
      exact ⟨_, .cons (hT.2 t) h1, by simp only [List.mapM_cons, Sem.run_bind, Sem.run_pure, Result.andThen_ok, h2]⟩
  | .cell a t :: l, xs, h => by
    unfold resA at h
    split at h
    · rename_i i o ha
      cases hx : loadA P t (.ptr i o) H with
      | none => simp [hx] at h
      | some x =>
        cases hl : resA P T H l with
        | none => simp [hx, hl] at h
        | some r =>
          simp only [hx, hl, Option.some.injEq] at h
          subst h
          obtain ⟨us, h1, h2⟩ := resA_sound hr hT hl
          have hp := hT.2 a
          rw [ha] at hp
          generalize hv : ts.getD a undef = v at hp
          obtain ⟨u, hu, hrun⟩ := loadA_sound (P := P) hr hx hp
          cases hp with
          | @ptr _ b c _ e =>
            have : (loadVar t ⟨b, o, none⟩).run P w = .ok u w := by
              unfold Instr.loadAt at hrun
              simpa [Instr.sureAddr] using hrun
            refine ⟨_, .cons hu h1, ?_⟩
            have ha' : (asAddr (ts.getD a undef)).run P w = .ok ⟨b, o, none⟩ w := by rw [hv]; rfl
            simp only [List.mapM_cons, Sem.run_bind, ha', Sem.run_pure, Result.andThen_ok, this, h2]
    · cases h
theorem results_sound {ρ : Env} {H : Tr AB} {n nt : Nat} {T : Tr AV} {ts : Array Value} {w : World} (hr : HR w0 ρ H n w) (hT : TR ρ nt T ts) {fn : Func} {xs : List AV} (h : resA P T H fn.results.toList = some xs) :
    ∃ v, VR ρ (tupA xs) v ∧ (results fn ts).run P w = .ok v w := by
  obtain ⟨us, h1, h2⟩ := resA_sound (P := P) hr hT h
  have hmap : (fn.results.mapM (fun | ResultVar.tmp t => (pure (ts.getD t undef) : Sem Value) | .cell a t => do loadVar t (← asAddr (ts.getD a undef)))).run P w = .ok us.toArray w := by
    rw [Array.mapM_eq_mapM_toList, Sem.run_map, h2]
    rfl
  refine ⟨if h : us.toArray.size = 1 then us.toArray[0] else .tuple us.toArray, ?_, ?_⟩
  · cases h1 with
    | nil => exact .tup .nil
    | cons a t =>
      cases t with
      | nil => exact a
      | cons b t => exact .tup (.cons a (.cons b t))
  · unfold results
    rw [Sem.run_bind]
    have hm2 := hmap
    erw [hm2]
    rfl

/-- **ONE STEP.** -/
theorem stepE_sound (hft : FTok P FT) (hk : HKok P HK) (hmix : P.follows .mixedOrders = true) {base : List Frame} {s s' : ASt} {fr : Frame} {cs : List Frame} {w : World} (h : SR P w0 s fr cs w) (hs : stepE HK P FT s = some s') : Goes P w0 base s' fr cs w := by
  unfold stepE at hs
  cases hret : s.fr.ret with
  | true =>
    simp only [hret, cond_true] at hs
    unfold stepRet at hs
    obtain ⟨ρ, hr, hf, hlo, hst⟩ := h
    have hm := hf.mode
    rw [hret] at hm
    have hstepG : stepG P true { frame := fr, callers := cs ++ base, status := .running, dying := none } w = unwind P true fr (cs ++ base) none w := by
      obtain ⟨fn, tmps, todo, defers, mode, kind, ro⟩ := fr
      simp only at hm; subst hm
      rfl
    split at hs
    · rename_i d ds hds
      cases hB : s.H.get d with
      | none => simp [hB] at hs
      | some B =>
        cases B <;> simp only [hB] at hs <;> try (cases hs; done)
        rename_i bb
        cases bb <;> simp only at hs <;> try (cases hs; done)
        simp only [Option.some.injEq] at hs
        subst hs
        have hdsr := hf.ds
        rw [hds] at hdsr
        generalize hdf : fr.defers = dfs at hdsr
        cases hdsr with
        | cons hd t =>
          rename_i b cc m
          obtain ⟨o, ho, hob⟩ := hr.blk hd hB
          have ho' : w.heap[b]? = some (.deferred (some [])) := by rw [ho]; rw [show o = .deferred (some []) from hob]
          have hstep : step P (lone fr (cs ++ base) w) = .next (lone { fr with defers := m } (cs ++ base) (w.putObj b (.deferred none))) := by
            refine step_lone_go ?_
            rw [hstepG]
            unfold unwind
            simp [hdf, run_takeDeferred ho']
          have hw' : HR w0 ρ (tput s.H d (.dfd false)) s.n (w.putObj b (.deferred none)) := hr.write hd hB rfl (World.putObj_heap_same (hr.base hd).2) rfl (Fr.put w b _)
          obtain ⟨front, rest, h1, h2, h3⟩ := hf.todo
          refine ⟨_, cs, _, .one hstep, ρ, hw', ⟨hf.fn, hf.kind, hf.mode, t, hf.ro, front, rest, h1, h2, ?_⟩, hlo, hst.mono ρ.le_refl (fun g _ hn => ⟨hn, by rw [get_tput, if_neg (fun e => by subst e; rw [hd] at hn; cases hn)]⟩)⟩
          -- what stands of the region is not asked any more
          have := h3
          cases hrg : s.fr.rg with
          | no => rw [hrg] at h3; exact ⟨h3.1, h3.2⟩
          | pl ops l => rw [hrg] at h3; exact ⟨h3.1, h3.2⟩
          | dr ops D X T0 lds cur =>
            rw [hrg] at h3
            obtain ⟨W, C, G, rest', q1, q2, q3⟩ := h3
            refine ⟨W, C, G, rest', q1, ?_, q3⟩
            exact { q2 with pend := fun y y1 y2 => (q2.pend y y1 y2).mono (Nat.le_refl _) (fun g _ _ _ hn => ⟨hn, by show (tput s.H d (.dfd false)).get g = _; rw [get_tput, if_neg (fun e => by subst e; rw [hd] at hn; cases hn)]⟩) (fun t p x hm' => ⟨hm', fun _ hl => by
              have keep : ∀ i B', s.H.get i = some B' → (∀ b, B' ≠ .dfd b) → (tput s.H d (.dfd false)).get i = some B' := fun i B' hB' hne => by
                rw [get_tput, if_neg (fun e => by subst e; rw [hB] at hB'; cases hB'; exact hne _ rfl)]; exact hB'
              exact readA_of (fun i T z l hB' => keep i _ hB' (fun b e => by cases e)) (fun i l c hB' => keep i _ hB' (fun b e => by cases e)) (hl rfl)⟩) }
    · rename_i hds
      split at hs
      · cases hs
      rename_i hrgs
      cases hfn : FT s.fr.fn with
      | none => simp [hfn] at hs
      | some fn =>
        simp only [hfn] at hs
        cases hres : resA P s.fr.T s.H fn.results.toList with
        | none => simp [hres] at hs
        | some l =>
          simp only [hres] at hs
          have hdsr := hf.ds
          rw [hds] at hdsr
          generalize hdf : fr.defers = dfs at hdsr
          cases hdsr
          obtain ⟨front, rest, h1, h2, h3⟩ := hf.todo
          have hTR : TR ρ s.fr.nt s.fr.T fr.tmps := by
            cases hrg : s.fr.rg with
            | no => rw [hrg] at h3; exact h3.2
            | pl ops l => rw [hrg] at h3; exact h3.2
            | dr ops D X T0 lds cur => exact absurd hrg (hrgs _ _ _ _ _ _)
          obtain ⟨v, hv, hrun⟩ := results_sound hr hTR hres
          have hP := hft.fn hfn
          refine back_sound hs hr hst hlo hv (fun c cs' hcs => ?_)
          refine step_lone_go ?_
          rw [hstepG]
          have hfnn : P.funcs[fr.fn]? = some fn := by rw [hf.fn]; exact hP
          unfold unwind
          rw [hcs]
          simp [hdf, hm, hfnn, hrun, doReturn, hf.kind]
  | false =>
    simp only [hret, cond_false] at hs
    cases hrg : s.fr.rg with
    | pl ops l =>
      cases l with
      | cons o r => simp only [hrg] at hs; exact stepPl_sound hft hk h hrg hret hs
      | nil =>
        simp only [hrg] at hs
        simp only [stepPlEnd, Option.some.injEq] at hs
        subst hs
        obtain ⟨ρ, hr, hf, hlo, hst⟩ := h
        have hm := hf.mode
        rw [hret] at hm
        obtain ⟨front, rest, h1, h2, h3⟩ := hf.todo
        rw [hrg] at h3
        obtain ⟨⟨rest', rfl, hp⟩, hT⟩ := h3
        have := hp.nil
        subst this
        have ht : fr.todo = .inRegion ops [] :: rest := h1
        exact ⟨_, cs, w, .one (step_todo (fr' := { fr with todo := rest }) hm (by simp only [stepG.exec, ht])), ρ, hr, ⟨hf.fn, hf.kind, hf.mode, hf.ds, hf.ro, [], rest, rfl, h2, rfl, hT⟩, hlo, hst⟩
    | dr ops D X T0 lds cur =>
      cases cur with
      | none => simp only [hrg] at hs; exact stepDr_sound hft hk h hrg hret hs
      | some y => simp only [hrg] at hs; cases hs
    | no =>
      simp only [hrg] at hs
      unfold stepItem at hs
      have h0 := h
      obtain ⟨ρ, hr, hf, hlo, hst⟩ := h
      have hm := hf.mode
      rw [hret] at hm
      obtain ⟨front, rest, h1, h2, h3⟩ := hf.todo
      rw [hrg] at h3
      obtain ⟨rfl, hT⟩ := h3
      have ht : fr.todo = rest := h1
      cases htd : s.fr.todo with
      | nil =>
        simp only [htd] at hs
        rw [htd] at h2
        cases h2
        refine leave_sound h0 hrg hret hs (fun hro _ => ?_) (fun l hro => ?_)
        · simp only [stepG.exec, ht, hro]; rfl
        · simp only [stepG.exec, ht, hro]; rfl
      | cons x k =>
        rw [htd] at h2
        cases x with
        | code c => simp only [htd] at hs; exact stepCode_sound hft hmix h0 hrg hret htd hs
        | inBlock id =>
          simp only [htd, Option.some.injEq] at hs; subst hs
          cases h2 with
          | cons a t =>
            cases a
            exact todo_sound h0 hrg hret (fun ρ' hh => by rw [htd, ht] at hh; exact hh.tail) (by simp only [stepG.exec, ht])
        | inScope b =>
          simp only [htd, Option.some.injEq] at hs; subst hs
          cases h2 with
          | cons a t =>
            cases a
            exact todo_sound h0 hrg hret (fun ρ' hh => by rw [htd, ht] at hh; exact hh.tail) (by simp only [stepG.exec, ht])
        | inLoop b =>
          simp only [htd, Option.some.injEq] at hs; subst hs
          cases h2 with
          | cons a t =>
            rename_i m
            cases a
            exact todo_sound h0 hrg hret (m := .code b :: .inLoop b :: m) (fun ρ' hh => by rw [htd, ht] at hh; exact .cons (.code _) (.cons (.inLoop _) hh.tail)) (by simp only [stepG.exec, ht])
        | inRF i => simp only [htd] at hs; cases hs
        | endRF i =>
          simp only [htd] at hs
          unfold endA at hs
          cases h2 with
          | cons a t =>
            cases a with
            | endRF hi =>
              rename_i m b cc
              cases hB : s.H.get i with
              | none => simp [hB] at hs
              | some B =>
                cases B <;> simp only [hB] at hs <;> try (cases hs; done)
                rename_i st pd fn nt T ps asg bd d
                obtain ⟨o, ho, ts, db, dc, hts, hd, rfl⟩ := hr.blk hi hB
                have fin : st ≠ .busy → some { s with fr := { s.fr with todo := pendItems pd ++ k }, H := tput s.H i (.loop .exhausted pd fn nt T ps asg bd d) } = some s' → Goes P w0 base s' fr cs w := by
                  intro hnb he
                  simp only [Option.some.injEq] at he
                  subst he
                  have hrun := run_endLoop (P := P) ho hnb
                  have hw' : HR w0 ρ (tput s.H i (.loop .exhausted pd fn nt T ps asg bd d)) s.n (w.putObj b (.loop { state := .exhausted, pending := pd, fn := fn, tmps := ts, params := ps.toArray, assign := asg, body := bd, defers := db })) :=
                    hr.write hi hB rfl (World.putObj_heap_same (hr.base hi).2) ⟨ts, db, dc, hts, hd, rfl⟩ (Fr.put w b _)
                  have hstep : step P (lone fr (cs ++ base) w) = .next (lone { fr with todo := (pd.map Item.code).toList ++ m } (cs ++ base) (w.putObj b (.loop { state := .exhausted, pending := pd, fn := fn, tmps := ts, params := ps.toArray, assign := asg, body := bd, defers := db }))) := by
                    refine step_lone_go ?_
                    have hstep : stepG P true { frame := fr, callers := cs ++ base, status := .running, dying := none } w = stepG.exec P true true fr (cs ++ base) none w := by
                      obtain ⟨fn, tmps, todo, defers, mode, kind, ro⟩ := fr
                      simp only at hm; subst hm
                      rfl
                    rw [hstep]
                    simp only [stepG.exec, ht, Sem.runT_eq, hrun, GStep.bare_after]
                    rfl
                  refine ⟨_, cs, _, .one hstep, ρ, hw', ⟨hf.fn, hf.kind, hf.mode, hf.ds, hf.ro, [], _, rfl, ?_, by simp only [hrg]; exact ⟨rfl, hT⟩⟩, hlo, hst.mono ρ.le_refl (fun g _ hn => ⟨hn, by rw [get_tput, if_neg (fun e => by subst e; rw [hi] at hn; cases hn)]⟩)⟩
                  cases pd with
                  | none => exact t
                  | some c => exact .cons (.code _) t
                cases st with
                | busy => simp only at hs; cases hs
                | ready => exact fin (fun e => by cases e) hs
                | done => exact fin (fun e => by cases e) hs
                | exhausted => exact fin (fun e => by cases e) hs
        | beginRound =>
          simp only [htd] at hs
          cases h2 with
          | cons a t =>
            rename_i m
            cases a
            rcases hf.ro with ⟨hro, hro'⟩ | ⟨i, b, c, hro, hro', hi⟩
            · simp only [hro] at hs; cases hs
            · simp only [hro] at hs
              unfold beginA at hs
              cases hB : s.H.get i with
              | none => simp [hB] at hs
              | some B =>
                cases B <;> simp only [hB] at hs <;> try (cases hs; done)
                rename_i st pd fn nt T ps asg bd d
                cases st <;> simp only at hs <;> try (cases hs; done)
                simp only [Option.some.injEq] at hs
                subst hs
                obtain ⟨o, ho, ts, db, dc, hts, hd, rfl⟩ := hr.blk hi hB
                have hrun := run_beginRound (P := P) ho rfl
                have hw' : HR w0 ρ (tput s.H i (.loop .busy pd fn nt T ps asg bd d)) s.n (w.putObj b (.loop { state := .busy, pending := pd, fn := fn, tmps := ts, params := ps.toArray, assign := asg, body := bd, defers := db })) :=
                  hr.write hi hB rfl (World.putObj_heap_same (hr.base hi).2) ⟨ts, db, dc, hts, hd, rfl⟩ (Fr.put w b _)
                have hstep : step P (lone fr (cs ++ base) w) = .next (lone { fr with todo := m } (cs ++ base) (w.putObj b (.loop { state := .busy, pending := pd, fn := fn, tmps := ts, params := ps.toArray, assign := asg, body := bd, defers := db }))) := by
                  refine step_lone_go ?_
                  have hstep : stepG P true { frame := fr, callers := cs ++ base, status := .running, dying := none } w = stepG.exec P true true fr (cs ++ base) none w := by
                    obtain ⟨fn, tmps, todo, defers, mode, kind, ro⟩ := fr
                    simp only at hm; subst hm
                    rfl
                  rw [hstep]
                  simp only [stepG.exec, ht, hro', Option.elim_some]
                  simp [stepG.apply, hrun, Frame.finish, ht, hro']
                exact ⟨_, cs, _, .one hstep, ρ, hw', ⟨hf.fn, hf.kind, hf.mode, hf.ds, hf.ro, [], m, rfl, t, by simp only [hrg]; exact ⟨rfl, hT⟩⟩, hlo, hst.mono ρ.le_refl (fun g _ hn => ⟨hn, by rw [get_tput, if_neg (fun e => by subst e; rw [hi] at hn; cases hn)]⟩)⟩
end
end Go.Proofs.Ytnkjhicokcmmpaa.Ev
