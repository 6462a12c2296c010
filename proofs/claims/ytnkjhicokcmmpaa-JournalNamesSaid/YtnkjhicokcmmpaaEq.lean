/-
  THE SMALL MACHINE's STEP, second half: regions, loops over functions, the whole run.
-/
import Derived.Test.YtnkjhicokcmmpaaEp
namespace Go.Proofs.Ytnkjhicokcmmpaa.Ev
open Go Go.RowKit

section
variable {P : Program} {FT : FuncId → Option Func} {HK : Hook} {w0 : Bs}

theorem inRegion_not_call {ops : Array Oper} {l : List Nat} {k : List Item} : ∀ d x y z r, (Item.inRegion ops l :: k) ≠ .call d x y z :: r := fun _ _ _ _ _ e => by cases e

theorem stepPl_sound (hft : FTok P FT) (hk : HKok P HK) {base : List Frame} {s s' : ASt} {fr : Frame} {cs : List Frame} {w : World} {ops : Array Oper} {o : Oper} {r : List Oper} (h : SR P w0 s fr cs w) (hrg : s.fr.rg = .pl ops (o :: r)) (hret : s.fr.ret = false)
    (hs : stepPl HK P FT s ops o r = some s') : Goes P w0 base s' fr cs w := by
  obtain ⟨ρ, hr, hf, hlo, hst⟩ := h
  have hm := hf.mode
  rw [hret] at hm
  obtain ⟨front, rest, h1, h2, h3⟩ := hf.todo
  rw [hrg] at h3
  obtain ⟨⟨rest', rfl, hp⟩, hT⟩ := h3
  obtain ⟨i, r', rfl, hoi, hp'⟩ := hp.head
  have ht : fr.todo = .inRegion ops (i :: r') :: rest := h1
  have hev : ∀ y ∈ o.op.operands, VR ρ (aev s.fr.T y) (fr.eval y) := fun y _ => hT.ev y
  have hw := wantedA_sound (n := 0) (ops := ops) (o := o) (T := s.fr.T) (fun d _ => hT.2 d)
  have fin : ∀ {ρ' : Env} {x : AV} {v : Value} {H' : Tr AB} {n' : Nat} {w' : World}, Steps P (lone fr (cs ++ base) w) (lone (fr.finish v) (cs ++ base) w') → VR ρ' x v → HR w0 ρ' H' n' w' → Ext ρ ρ' s.H H' s.n n' →
      Goes P w0 base { s with fr := { s.fr with T := putT s.fr.nt s.fr.T o.dst x, rg := .pl ops r }, H := H', n := n' } fr cs w := by
    intro ρ' x v H' n' w' hsteps hv hr' hx
    exact ⟨_, cs, w', hsteps, ρ', hr', hf.pl_done hrg hx.le hv true, Nat.le_trans hlo hx.nn, hst.mono hx.le (hx.low hlo)⟩
  unfold stepPl at hs
  cases hpl : plainOp o with
  | false => simp [hpl] at hs
  | true =>
    simp only [hpl, cond_true] at hs
    cases hwa : wantedA s.fr.T (dstIn ops.toList) o with
    | false =>
      simp only [hwa, cond_false, Option.some.injEq] at hs
      subst hs
      refine fin (.one (step_unwanted ht hm ?_)) (.v undef) hr (Ext.refl _ _ _)
      rw [hoi]; simp only [Option.map_some, Option.getD_some]; rw [hw, hwa]
    | true =>
      simp only [hwa, cond_true] at hs
      have hg := stepG_oper (P := P) (cs := cs ++ base) (w := w) ht hm hoi (by rw [hw, hwa]) hpl
      have hc : ∀ d x y z r, fr.todo ≠ .call d x y z :: r := by rw [ht]; exact inRegion_not_call
      cases hP : aopP P s.fr.T o with
      | some x =>
        simp only [hP, Option.some.injEq] at hs
        subst hs
        obtain ⟨v, hv, hrun⟩ := aopP_sound hP hev
        exact fin (.one (step_value hg (hrun w))) hv hr (Ext.refl _ _ _)
      | none =>
        simp only [hP] at hs
        split at hs
        · rename_i t a hop
          cases hl : loadA P t (aev s.fr.T a) s.H with
          | none => simp [hl] at hs
          | some x =>
            simp only [hl, Option.some.injEq] at hs
            subst hs
            obtain ⟨v, hv, hrun⟩ := loadA_sound hr hl (hev a (by rw [hop]; simp [Op.operands]))
            refine fin (.one (step_value hg ?_)) hv hr (Ext.refl _ _ _)
            unfold execOp
            simp only [hop, Sem.run_bind, hrun, Result.andThen_ok, Sem.run_pure]
        · cases hN : aopN P s.fr.T o with
          | some q =>
            obtain ⟨e, l, k⟩ := q
            simp only [hN, Option.some.injEq] at hs
            subst hs
            obtain ⟨vs, hvs, hrun⟩ := aopN_sound hN hev
            have hbr : BR (ρ.set s.n (w.heap.size, 0)) 0 (.mem e none l) (.cells vs.toArray e) := ⟨vs, [], (0, 0), hvs.mono (Env.le_set (hr.top (Nat.le_refl _)).1 _), by simp, unfrozen_zero _, rfl⟩
            exact fin (.one (step_value hg (hrun w))) (NewV.VR (Env.set_same _ _ _) k) (hr.alloc hbr) (Ext.alloc hr _ _)
          | none =>
            simp only [hN] at hs
            cases hnow : nowA HK P s.fr.T o s.H s.n with
            | some q =>
              obtain ⟨x, H', n'⟩ := q
              simp only [hnow, Option.some.injEq] at hs
              subst hs
              obtain ⟨ρ', v, w', g1, g2, g3, g4⟩ := now_sound hk hr hnow hev hg hc
              exact fin g1 g2 g3 g4
            | none =>
              simp only [hnow] at hs
              cases hco : callOf P s.fr.T o with
              | none => simp [hco] at hs
              | some c =>
                simp only [hco] at hs
                have hS := callOf_sound (P := P) hco hev
                obtain ⟨fr', g1, g2⟩ := enter_sound (base := base) hft hs hr (hf.mono ρ.le_refl (Nat.le_refl _) (fun g _ hn => ⟨hn, rfl⟩)) hlo hst (congrArg GStep.bare hg) hc (by
                  rcases hS with ⟨g, xs, us, q1, q2, q3⟩ | ⟨j, xs, vs, b, cc, q1, q2, q3, q4⟩
                  · exact .inl ⟨g, xs, us, q1, q2, q3 w⟩
                  · exact .inr ⟨j, xs, vs, b, cc, q1, q2, q3, q4 w⟩)
                exact ⟨fr', fr :: cs, w, .one g1, g2⟩

theorem firstEager_spec {T : Tr AV} {all : List Oper} {H : Tr AB} {n : Nat} : ∀ {l : List (Nat × Oper)} {r}, firstEager P T all H n l = some r → (r.1, r.2.1) ∈ l ∧ eagerA P T all r.2.1 H n = some r.2.2
  | [], r, h => by simp [firstEager] at h
  | (y, o) :: l, r, h => by
    unfold firstEager at h
    cases he : eagerA P T all o H n with
    | some q =>
      obtain ⟨x, H', n', q⟩ := q
      simp only [he, Option.some.injEq] at h
      subst h
      exact ⟨by simp, he⟩
    | none =>
      simp only [he] at h
      obtain ⟨h1, h2⟩ := firstEager_spec h
      exact ⟨by simp [h1], h2⟩

theorem stepDr_sound (hft : FTok P FT) (hk : HKok P HK) {base : List Frame} {s s' : ASt} {fr : Frame} {cs : List Frame} {w : World} {ops : Array Oper} {D : Nat} {X T0 : Tr AV} {lds : List (Nat × TypeId × AV × AV)} (h : SR P w0 s fr cs w) (hrg : s.fr.rg = .dr ops D X T0 lds none) (hret : s.fr.ret = false)
    (hs : stepDr HK P FT s ops D X T0 lds = some s') : Goes P w0 base s' fr cs w := by
  obtain ⟨ρ, hr, hf, hlo, hst⟩ := h
  have hm := hf.mode
  rw [hret] at hm
  obtain ⟨front, rest, h1, h2, h3⟩ := hf.todo
  rw [hrg] at h3
  obtain ⟨W, C, G, rest', rfl, hd, _⟩ := h3
  have ht : fr.todo = .inRegion ops rest' :: rest := h1
  unfold stepDr at hs
  simp only at hs
  split at hs
  · -- all is done
    rename_i hnone
    simp only [Option.some.injEq] at hs
    subst hs
    obtain ⟨rest2, ρ2, w2, fr2, C2, g1, g2, g3, g4, g5, g6, g7⟩ := catchup (cs := cs ++ base) rest' ρ w fr C hr ht hm hd
    have hnil : rest2 = [] := by
      cases rest2 with
      | nil => rfl
      | cons y r =>
        have hy := g7 y r rfl
        cases g6.lin with
        | cons hylt hn hp t =>
          have ho : ops.toList[y]? = some (ops.toList[y]) := List.getElem?_eq_getElem hylt
          have : (y, ops.toList[y]) ∈ readyL D ops.toList 0 := mem_ready'.2 ⟨ho, hy, fun p hpp => g6.sub p (hp p hpp)⟩
          rw [hnone] at this; cases this
    subst hnil
    have ht2 : fr2.todo = .inRegion ops [] :: rest := by rw [g5]
    have hm2 : fr2.mode = .run := by rw [g5]; exact hm
    have hstep : step P (lone fr2 (cs ++ base) w2) = .next (lone { fr2 with todo := rest } (cs ++ base) w2) := step_todo hm2 (by simp only [stepG.exec, ht2])
    have hall : ∀ i, i < ops.toList.length → C2 i := by
      cases g6.lin with | nil h => exact h
    refine ⟨_, cs, w2, g1.trans (.one hstep), ρ2, g2, ⟨by rw [g5]; exact hf.fn, by rw [g5]; exact hf.kind, by rw [g5]; exact hf.mode, by rw [g5]; exact hf.ds.mono g3, by rw [g5]; exact hf.ro.mono g3, [], rest, rfl, h2.mono g3, rfl, g6.size, fun q => ?_⟩, hlo, hst.mono g3 (fun g hg hn => ⟨(g4 g hg).trans hn, rfl⟩)⟩
    classical
    have h4 := g6.ts q
    show VR ρ2 (At s.fr.T q) _
    rw [g6.T q]
    rwa [valS_congr (C' := fun i => Nat.testBit D i = true) (X' := X) (fun i hi => ⟨⟨g6.sub i, fun hb => hall i (g6.dlt i hb)⟩, fun _ => rfl⟩)] at h4
  · rename_i hne
    split at hs
    · -- ahead
      rename_i y o x H n l he
      simp only [Option.some.injEq] at hs
      subst hs
      obtain ⟨hmem, he'⟩ := firstEager_spec he
      obtain ⟨G', g1, g2, g3⟩ := hd.ahead hr hlo hmem he'
      exact ⟨fr, cs, w, Steps.refl _ _, ρ, g1, ⟨hf.fn, hf.kind, hf.mode, hf.ds, hf.ro, _, rest, h1, h2, W, C, G', rest', rfl, g3, fun y hy => by cases hy⟩, Nat.le_trans hlo g2.nn, hst.mono g2.le (g2.low hlo)⟩
    · split at hs
      · rename_i y o hrs
        obtain ⟨rest2, ρ2, w2, fr2, C2, g1, g2, g3, g4, g5, g6, g7⟩ := catchup (cs := cs ++ base) rest' ρ w fr C hr ht hm hd
        have hmem : (y, o) ∈ readyL D ops.toList 0 := by rw [hrs]; simp
        obtain ⟨ho, hyD, hpD⟩ := mem_ready'.1 hmem
        obtain ⟨r, rfl⟩ : ∃ r, rest2 = y :: r := by
          cases hrest : rest2 with
          | nil =>
            subst hrest
            cases g6.lin with
            | nil h =>
              have := g6.sub y (h y (List.getElem?_eq_some_iff.1 ho).1)
              rw [hyD] at this; cases this
          | cons z r =>
            subst hrest
            have hz := g7 z r rfl
            cases g6.lin with
            | cons hzlt hn hp t =>
              have hoz : ops.toList[z]? = some (ops.toList[z]) := List.getElem?_eq_getElem hzlt
              have : (z, ops.toList[z]) ∈ readyL D ops.toList 0 := mem_ready'.2 ⟨hoz, hz, fun p hpp => g6.sub p (hp p hpp)⟩
              rw [hrs] at this
              simp at this
              exact ⟨r, by rw [this.1]⟩
        have hlin : ¬ C2 y ∧ ∀ p, Pred ops.toList y p → C2 p := by
          cases g6.lin with | cons _ hn hp _ => exact ⟨hn, hp⟩
        have ht2 : fr2.todo = .inRegion ops (y :: r) :: rest := by rw [g5]
        have hm2 : fr2.mode = .run := by rw [g5]; exact hm
        have ho' : ops[y]? = some o := by simpa using ho
        have hsee : ∀ q, Sees ops.toList o q → VR ρ2 (At s.fr.T q) (fr2.tmps.getD q undef) := fun q hq => by
          rw [g6.sees ho hq hyD hpD]; exact g6.seesC ho hq hlin.1 hlin.2
        have hev := ev_of_slots (fr := fr2) (fun q hq => hsee q (.inl hq))
        have hw := wantedA_sound (n := 0) (ops := ops) (fun d hd => hsee d (.inr hd))
        have hst2 : StackR P ρ2 s.H s.fr.lo s.cs cs := hst.mono g3 (fun g hg hn => ⟨(g4 g hg).trans hn, rfl⟩)
        have hwa : wantedA s.fr.T (dstIn ops.toList) o = true := by
          cases hwa : wantedA s.fr.T (dstIn ops.toList) o with
          | true => rfl
          | false =>
            rename_i hnoE _
            have : firstEager P s.fr.T ops.toList s.H s.n (readyL D ops.toList 0) ≠ none := by
              rw [hrs]
              simp [firstEager, eagerA, hwa]
            exact absurd hnoE this
        have hpl := g6.sc.plain ho
        have hg := stepG_oper (P := P) (cs := cs ++ base) (w := w2) ht2 hm2 ho' (by rw [hw, hwa]) hpl
        have hc : ∀ d x y z r, fr2.todo ≠ .call d x y z :: r := by rw [ht2]; exact inRegion_not_call
        have g6' := g6.forOp hlin.2
        split at hs
        · -- at once
          rename_i x H' n' hnow
          cases hl : ldsOk P H' (ldsFor ops.toList y lds) with
          | false => simp [hl] at hs
          | true =>
            simp only [hl, cond_true, Option.some.injEq] at hs
            subst hs
            obtain ⟨ρ', v, w', q1, q2, q3, q4⟩ := now_sound hk g2 hnow hev hg hc
            rw [finish_region ht2 ho' v] at q1
            have hdone := g6'.opdone (hi' := n') hyD ho q4.le (fun g hgl hn => ⟨(q4.old hgl).trans hn, q4.keep hgl hn⟩) q4.nn hl q2
            refine ⟨_, cs, w', g1.trans q1, ρ', q3, ⟨by rw [g5]; exact hf.fn, by rw [g5]; exact hf.kind, by rw [g5]; exact hf.mode, by rw [g5]; exact (hf.ds.mono g3).mono q4.le, by rw [g5]; exact (hf.ro.mono g3).mono q4.le, [.inRegion ops r], rest, rfl, (h2.mono g3).mono q4.le, W, _, G, r, rfl, hdone, fun y hy => by cases hy⟩, Nat.le_trans hlo q4.nn, hst2.mono q4.le (q4.low hlo)⟩
        · split at hs
          · -- a call
            rename_i c hco
            have hS := callOf_sound (P := P) hco hev
            have hfr2 : FRel P ρ2 s.H s.n false { s.fr with rg := .dr ops D X T0 (ldsFor ops.toList y lds) (some y) } fr2 :=
              ⟨by rw [g5]; exact hf.fn, by rw [g5]; exact hf.kind, by rw [g5]; exact hf.mode, by rw [g5]; exact hf.ds.mono g3, by rw [g5]; exact hf.ro.mono g3, [.inRegion ops (y :: r)], rest, ht2, h2.mono g3, W, C2, G, y :: r, rfl,
                g6'.mono ρ2.le_refl (Nat.le_refl _) (fun g _ hn => ⟨hn, rfl⟩), fun y' hy' => by cases hy'; exact ⟨r, rfl, hyD⟩⟩
            obtain ⟨fr', q1, q2⟩ := enter_sound (base := base) hft hs g2 hfr2 hlo hst2 (congrArg GStep.bare hg) hc (by
              rcases hS with ⟨g, xs, us, e1, e2, e3⟩ | ⟨j, xs, vs, b, cc, e1, e2, e3, e4⟩
              · exact .inl ⟨g, xs, us, e1, e2, e3 w2⟩
              · exact .inr ⟨j, xs, vs, b, cc, e1, e2, e3, e4 w2⟩)
            exact ⟨fr', fr2 :: cs, w2, g1.trans (.one q1), q2⟩
          · cases hs
      · cases hs
end
end Go.Proofs.Ytnkjhicokcmmpaa.Ev
