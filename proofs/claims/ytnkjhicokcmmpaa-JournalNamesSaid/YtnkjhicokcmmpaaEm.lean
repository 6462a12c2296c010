/-
  A region that draws its order: the small machine goes ahead; the model catches up.
-/
import Derived.Test.YtnkjhicokcmmpaaEl
namespace Go.Proofs.Ytnkjhicokcmmpaa.Ev
open Go Go.RowKit

theorem mem_slots {o : Oper} {s : Tmp} (h : Operand.tmp s ∈ o.op.operands) : s ∈ slotsOf o := by
  unfold slotsOf
  rw [List.mem_filterMap]
  exact ⟨.tmp s, by simpa using h, rfl⟩
theorem ev_of_slots {ρ : Env} {Ty : Tr AV} {fr : Frame} {o : Oper} (h : ∀ s, s ∈ slotsOf o → VR ρ (At Ty s) (fr.tmps.getD s undef)) : ∀ y ∈ o.op.operands, VR ρ (aev Ty y) (fr.eval y) := by
  intro y hy
  cases y with
  | tmp t => exact h t (mem_slots hy)
  | const x => exact ofV_VR x
  | global g => exact .v _
  | func f => simpa [aev, Frame.eval] using VR.fn (.func f) (VRs.nil (ρ := ρ)) VRs.nil
theorem finish_region {fr : Frame} {ops : Array Oper} {i : Nat} {r : List Nat} {k : List Item} {o : Oper} (ht : fr.todo = .inRegion ops (i :: r) :: k) (ho : ops[i]? = some o) (v : Value) :
    fr.finish v = { fr with tmps := (match o.dst with | some d => fr.tmps.setIfInBounds d v | none => fr.tmps), todo := .inRegion ops r :: k } := by
  unfold Frame.finish
  rw [ht]
  simp only [ho, Option.bind_some]
  cases o.dst <;> rfl

theorem DrR.caught {P : Program} {ρ ρ' : Env} {H : Tr AB} {lo hi nt D : Nat} {T X T0 : Tr AV} {l : List Oper} {lds : List (Nat × TypeId × AV × AV)} {W : Tr Nat} {C : Nat → Prop} {G : Nat → Option Nat} {y : Nat} {r : List Nat} {ts : Array Value}
    (h : DrR P ρ H lo hi true nt T l D X T0 lds W C G (y :: r) ts) (hD : Nat.testBit D y = true) {o : Oper} (ho : l[y]? = some o) {v : Value} (hle : ρ.le ρ') (hg : ∀ g z, G z = some g → z ≠ y → ρ g = none → ρ' g = none) (hv : VR ρ' (At X y) v) :
    DrR P ρ' H lo hi true nt T l D X T0 lds W (fun z => C z ∨ z = y) G r (match o.dst with | some d => ts.setIfInBounds d v | none => ts) := by
  cases h.lin with
  | cons hy hn hp t =>
    exact { h with
      lin := t
      closC := fun z p hz hzp => by
        rcases hz with hz | rfl
        · exact .inl (h.closC z p hz hzp)
        · exact .inl (hp p hzp)
      sub := fun z hz => by
        rcases hz with hz | rfl
        · exact h.sub z hz
        · exact hD
      size := by cases o.dst <;> simp [h.size]
      ts := fun s => h.putTs hle ho hn (fun _ _ => rfl) hv s
      pend := fun z h1 h2 => (h.pend z h1 (fun hc => h2 (.inl hc))).mono (Nat.le_refl _) (fun g hG _ _ hn => ⟨hg g z hG (fun e => h2 (.inr e)) hn, rfl⟩) (fun t p x hm => ⟨hm, fun _ hl => hl rfl⟩) }

theorem catchup {P : Program} {w0 : Bs} {H : Tr AB} {lo n nt D : Nat} {T X T0 : Tr AV} {ops : Array Oper} {lds : List (Nat × TypeId × AV × AV)} {W : Tr Nat} {G : Nat → Option Nat} {k : List Item} {cs : List Frame} :
    ∀ (rest : List Nat) (ρ : Env) (w : World) (fr : Frame) (C : Nat → Prop), HR w0 ρ H n w → fr.todo = .inRegion ops rest :: k → fr.mode = .run → DrR P ρ H lo n true nt T ops.toList D X T0 lds W C G rest fr.tmps →
    ∃ (rest' : List Nat) (ρ' : Env) (w' : World) (fr' : Frame) (C' : Nat → Prop), Steps P (lone fr cs w) (lone fr' cs w') ∧ HR w0 ρ' H n w' ∧ ρ.le ρ' ∧ (∀ g, g < lo → ρ' g = ρ g) ∧
      fr' = { fr with tmps := fr'.tmps, todo := .inRegion ops rest' :: k } ∧ DrR P ρ' H lo n true nt T ops.toList D X T0 lds W C' G rest' fr'.tmps ∧ (∀ y r, rest' = y :: r → Nat.testBit D y = false) := by
  intro rest
  induction rest with
  | nil =>
    intro ρ w fr C hr ht hm hd
    exact ⟨[], ρ, w, fr, C, Steps.refl _ _, hr, ρ.le_refl, fun _ _ => rfl, by rw [← ht], hd, fun y r e => by cases e⟩
  | cons y r ih =>
    intro ρ w fr C hr ht hm hd
    cases hD : Nat.testBit D y with
    | false => exact ⟨y :: r, ρ, w, fr, C, Steps.refl _ _, hr, ρ.le_refl, fun _ _ => rfl, by rw [← ht], hd, fun y' r' e => by cases e; exact hD⟩
    | true =>
      obtain ⟨hy, hn, hp⟩ : y < ops.toList.length ∧ ¬ C y ∧ ∀ p, Pred ops.toList y p → C p := by
        cases hd.lin with | cons hy hn hp t => exact ⟨hy, hn, hp⟩
      obtain ⟨o, Ty, ho, hs, hcase⟩ := hd.pend y hD hn
      have ho' : ops[y]? = some o := by simpa using ho
      have hsee : ∀ s, Sees ops.toList o s → VR ρ (At Ty s) (fr.tmps.getD s undef) := fun s h => by
        rw [hs s h]; exact hd.seesC ho h hn hp
      have hev := ev_of_slots (fr := fr) (fun s h => hsee s (.inl h))
      have hw := wantedA_sound (n := 0) (ops := ops) (fun d h => hsee d (.inr h))
      have hplain := hd.sc.plain ho
      -- what is left, behind one step
      have go : ∀ (ρ' : Env) (w' : World) (v : Value), step P (lone fr cs w) = .next (lone (fr.finish v) cs w') → HR w0 ρ' H n w' → ρ.le ρ' → (∀ g, g < lo → ρ' g = ρ g) → (∀ g z, G z = some g → z ≠ y → ρ g = none → ρ' g = none) → VR ρ' (At X y) v →
          ∃ (rest' : List Nat) (ρ' : Env) (w' : World) (fr' : Frame) (C' : Nat → Prop), Steps P (lone fr cs w) (lone fr' cs w') ∧ HR w0 ρ' H n w' ∧ ρ.le ρ' ∧ (∀ g, g < lo → ρ' g = ρ g) ∧
            fr' = { fr with tmps := fr'.tmps, todo := .inRegion ops rest' :: k } ∧ DrR P ρ' H lo n true nt T ops.toList D X T0 lds W C' G rest' fr'.tmps ∧ (∀ y r, rest' = y :: r → Nat.testBit D y = false) := by
        intro ρ' w' v hst hr' hle hlo hg hv
        have hf := finish_region ht ho' v
        have hd' := hd.caught hD ho hle hg hv
        obtain ⟨rest', ρ2, w2, fr2, C2, h1, h2, h3, h4, h5, h6, h7⟩ := ih ρ' w' (fr.finish v) _ hr' (by rw [hf]) (by rw [hf]; exact hm) (by rw [hf]; exact hd')
        refine ⟨rest', ρ2, w2, fr2, C2, .head hst h1, h2, Env.le_trans hle h3, fun g hgl => (h4 g hgl).trans (hlo g hgl), ?_, h6, h7⟩
        rw [h5, hf]
      rcases hcase with ⟨h1, h2⟩ | ⟨h1, h2⟩ | ⟨h1, t, a, h2, h3, _⟩ | ⟨h1, e, c, kk, g, h2, h3, h4, h5, h6, h7, h8⟩
      · refine go ρ w undef (step_unwanted ht hm ?_) hr ρ.le_refl (fun _ _ => rfl) (fun _ _ _ _ h => h) (by rw [h2]; exact .v _)
        rw [ho']; simp only [Option.map_some, Option.getD_some]; rw [hw]; exact h1
      · obtain ⟨v, hv, hrun⟩ := aopP_sound h2 hev
        exact go ρ w v (step_value (stepG_oper ht hm ho' (by rw [hw]; exact h1) hplain) (hrun w)) hr ρ.le_refl (fun _ _ => rfl) (fun _ _ _ _ h => h) hv
      · obtain ⟨v, hv, hrun⟩ := readA_sound hr h2 (h3 rfl) hev
        exact go ρ w v (step_value (stepG_oper ht hm ho' (by rw [hw]; exact h1) hplain) hrun) hr ρ.le_refl (fun _ _ => rfl) (fun _ _ _ _ h => h) hv
      · obtain ⟨vs, hvs, hrun⟩ := aopN_sound h2 hev
        have hbr : BR (ρ.set g (w.heap.size, 0)) 0 (.mem e none c) (.cells vs.toArray e) := ⟨vs, [], (0, 0), hvs.mono (Env.le_set h6 _), by simp, unfrozen_zero _, rfl⟩
        refine go (ρ.set g (w.heap.size, 0)) _ _ (step_value (stepG_oper ht hm ho' (by rw [hw]; exact h1) hplain) (hrun w)) (hr.name h8 h6 h5 hbr) (Env.le_set h6 _) (fun g' hl => ?_) (fun g' z hz hne hn' => ?_) ?_
        · unfold Env.set; rw [if_neg (by omega)]
        · unfold Env.set
          rw [if_neg (fun e => by subst e; exact hne (hd.ginj hz h4))]
          exact hn'
        · rw [h3]; exact NewV.VR (Env.set_same _ _ _) kk

/-- The small machine goes ahead by one operation. -/
theorem DrR.ahead {P : Program} {ρ : Env} {H H' : Tr AB} {lo n n' nt D : Nat} {T X T0 : Tr AV} {l : List Oper} {lds : List (Nat × TypeId × AV × AV)} {W : Tr Nat} {C : Nat → Prop} {G : Nat → Option Nat} {rest : List Nat} {ts : Array Value} {w0 : Bs} {w : World}
    (h : DrR P ρ H lo n true nt T l D X T0 lds W C G rest ts) (hr : HR w0 ρ H n w) (hlo : lo ≤ n) {y : Nat} {o : Oper} {x : AV} {q : Option (TypeId × AV × AV)} (hy : (y, o) ∈ readyL D l 0) (he : eagerA P T l o H n = some (x, H', n', q)) :
    ∃ G', HR w0 ρ H' n' w ∧ Ext ρ ρ H H' n n' ∧ DrR P ρ H' lo n' true nt (Ev.putT nt T o.dst x) l (D ||| 2 ^ y) (tput X y x) T0 (addLd y q lds) W C G' rest ts := by
  obtain ⟨ho, hyD, hp⟩ := mem_ready'.1 hy
  have hnC : ¬ C y := fun hc => by have := h.sub y hc; rw [hyD] at this; cases this
  have hX : ∀ i, i ≠ y → At (tput X y x) i = At X i := fun i hi => by rw [At_tput, if_neg hi]
  have hXy : At (tput X y x) y = x := by rw [At_tput, if_pos rfl]
  have hanc : ∀ z i, Nat.testBit D z = true → ancB l z i = true → i ≠ y := fun z i hz hi e => by
    have := anc_closed h.sc.below (C := fun i => Nat.testBit D i = true) h.closD z i (fun p hpp => h.closD z p hz hpp) hi
    rw [e, hyD] at this; cases this
  have hancy : ∀ i, ancB l y i = true → i ≠ y := fun i hi e => by subst e; exact absurd (ancB_lt h.sc.below _ _ hi) (Nat.lt_irrefl _)
  have hsee : ∀ s, Sees l o s → At T s = envS l W nt (tput X y x) T0 y s := fun s hs => by
    rw [h.sees ho hs hyD hp]
    exact envS_congr fun i hi => (hX i (hancy i hi)).symm
  have finish : ∀ (G' : Nat → Option Nat) (lds' : List (Nat × TypeId × AV × AV)), n ≤ n' → (∀ z, z ≠ y → G' z = G z) → (∀ g, G' y = some g → n ≤ g ∧ g < n') → (∀ g, g < n → ρ g = none → H'.get g = H.get g) → (∀ t p v, readA P t p H = some v → readA P t p H' = some v) → (∀ e, e ∈ lds → e ∈ lds') →
      Pend P ρ H' lo n' true l W nt (tput X y x) T0 lds' G' y → DrR P ρ H' lo n' true nt (Ev.putT nt T o.dst x) l (D ||| 2 ^ y) (tput X y x) T0 lds' W C G' rest ts := by
    intro G' lds' hnn hGo hGy hH hL hlds hpy
    refine { h with closD := fun z p hz hzp => ?_, sub := fun z hz => ?_, dlt := fun z hz => ?_, T := h.putT ho hyD x, ts := fun s => ?_, pend := fun z hz hzC => ?_, ginj := fun {a b g} ha hb => ?_, gb := fun {a g} ha => ?_ }
    · rw [testBit_put] at hz ⊢
      by_cases e : y = z
      · subst e; rw [hp p hzp]; rfl
      · simp [e] at hz; rw [h.closD z p hz hzp]; rfl
    · rw [testBit_put, h.sub z hz]; rfl
    · rw [testBit_put] at hz
      by_cases e : y = z
      · subst e; exact (List.getElem?_eq_some_iff.1 ho).1
      · simp [e] at hz; exact h.dlt z hz
    · have := h.ts s
      rwa [valS_congr (X' := tput X y x) (C' := C) (fun i hi => ⟨Iff.rfl, fun hc => (hX i (fun e => hnC (e ▸ hc))).symm⟩)] at this
    · by_cases e : z = y
      · subst e; exact hpy
      · have hzD : Nat.testBit D z = true := by
          rw [testBit_put] at hz
          have : y ≠ z := fun h => e h.symm
          simpa [this] using hz
        obtain ⟨o', Ty, h1, h2, h3⟩ := h.pend z hzD hzC
        refine ⟨o', Ty, h1, fun s hs => (h2 s hs).trans (envS_congr fun i hi => (hX i (hanc z i hzD hi)).symm), ?_⟩
        rw [hX z e]
        rcases h3 with h3 | h3 | ⟨h3, t, a, h4, h5, h6⟩ | ⟨h3, e', c, k, g, h4, h5, h6, h7, h8, h9, h10⟩
        · exact .inl h3
        · exact .inr (.inl h3)
        · exact .inr (.inr (.inl ⟨h3, t, a, h4, fun _ => hL _ _ _ (h5 rfl), hlds _ h6⟩))
        · exact .inr (.inr (.inr ⟨h3, e', c, k, g, h4, h5, (hGo z e).trans h6, (hH g h10 h8).trans h7, h8, h9, by omega⟩))
    · by_cases ea : a = y <;> by_cases eb : b = y
      · rw [ea, eb]
      · subst ea
        rw [hGo b eb] at hb
        have := hGy g ha; have := (h.gb hb).1; omega
      · subst eb
        rw [hGo a ea] at ha
        have := hGy g hb; have := (h.gb ha).1; omega
      · rw [hGo a ea] at ha; rw [hGo b eb] at hb; exact h.ginj ha hb
    · by_cases ea : a = y
      · subst ea; exact ⟨(hGy g ha).2, by rw [testBit_put]; simp⟩
      · rw [hGo a ea] at ha
        exact ⟨Nat.lt_of_lt_of_le (h.gb ha).1 hnn, by rw [testBit_put, (h.gb ha).2]; rfl⟩
  have hGn : G y = none := by
    cases hg : G y with
    | none => rfl
    | some g => have := (h.gb hg).2; rw [hyD] at this; cases this
  unfold eagerA at he
  cases hw : wantedA T (dstIn l) o with
  | false =>
    simp only [hw, cond_false, Option.some.injEq, Prod.mk.injEq] at he
    obtain ⟨rfl, rfl, rfl, rfl⟩ := he
    refine ⟨G, hr, Ext.refl _ _ _, finish G lds (Nat.le_refl _) (fun _ _ => rfl) (fun g hg => by rw [hGn] at hg; cases hg) (fun _ _ _ => rfl) (fun _ _ _ h => h) (fun _ h => h) ?_⟩
    exact ⟨o, T, ho, hsee, .inl ⟨hw, hXy⟩⟩
  | true =>
    simp only [hw, cond_true] at he
    cases hP : aopP P T o with
    | some x' =>
      simp only [hP, Option.some.injEq, Prod.mk.injEq] at he
      obtain ⟨rfl, rfl, rfl, rfl⟩ := he
      refine ⟨G, hr, Ext.refl _ _ _, finish G lds (Nat.le_refl _) (fun _ _ => rfl) (fun g hg => by rw [hGn] at hg; cases hg) (fun _ _ _ => rfl) (fun _ _ _ h => h) (fun _ h => h) ?_⟩
      exact ⟨o, T, ho, hsee, .inr (.inl ⟨hw, by rw [hXy]; exact hP⟩)⟩
    | none =>
      simp only [hP] at he
      have alloc : (match aopN P T o with | some (e, l, k) => some (k.av n, tput H n (.mem e none l), n + 1, none) | none => none) = some (x, H', n', q) →
          ∃ G', HR w0 ρ H' n' w ∧ Ext ρ ρ H H' n n' ∧ DrR P ρ H' lo n' true nt (Ev.putT nt T o.dst x) l (D ||| 2 ^ y) (tput X y x) T0 (addLd y q lds) W C G' rest ts := by
        intro he
        cases hN : aopN P T o with
        | none => simp [hN] at he
        | some r =>
          obtain ⟨e, c, k⟩ := r
          simp only [hN, Option.some.injEq, Prod.mk.injEq] at he
          obtain ⟨rfl, rfl, rfl, rfl⟩ := he
          have htop := hr.top (Nat.le_refl n)
          refine ⟨fun z => if z = y then some n else G z, hr.put _, Ext.put hr _, finish _ lds (Nat.le_succ _) (fun z hz => by simp [hz]) (fun g hg => by simp at hg; omega) (fun g hg _ => by rw [get_tput, if_neg (by omega)]) (fun t p v hl => ?_) (fun _ h => h) ?_⟩
          · have hne : ∀ {i B}, H.get i = some B → (tput H n (.mem e none c)).get i = some B := fun {i B} hB => by
              have : i ≠ n := fun e => by subst e; rw [htop.2] at hB; cases hB
              rw [get_tput, if_neg this]; exact hB
            exact readA_of (fun _ _ _ _ hB => hne hB) (fun _ _ _ hB => hne hB) hl
          · refine ⟨o, T, ho, hsee, .inr (.inr (.inr ⟨hw, e, c, k, n, hN, hXy, by simp, by rw [get_tput, if_pos rfl], htop.1, hlo, Nat.lt_succ_self _⟩))⟩
      split at he
      · rename_i t a hop
        cases hl : readA P t a H with
        | none => simp [hl] at he
        | some x' =>
          simp only [hl, Option.some.injEq, Prod.mk.injEq] at he
          obtain ⟨rfl, rfl, rfl, rfl⟩ := he
          refine ⟨G, hr, Ext.refl _ _ _, finish G _ (Nat.le_refl _) (fun _ _ => rfl) (fun g hg => by rw [hGn] at hg; cases hg) (fun _ _ _ => rfl) (fun _ _ _ h => h) (fun _ h => by simp [addLd, h]) ?_⟩
          exact ⟨o, T, ho, hsee, .inr (.inr (.inl ⟨hw, t, a, hop, fun _ => by rw [hXy]; exact hl, by rw [hXy]; simp [addLd]⟩))⟩
      · exact alloc he
end Go.Proofs.Ytnkjhicokcmmpaa.Ev
