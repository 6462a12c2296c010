/-
  Operations that only reckon, second half: slices, addresses, comparisons with nil, and the whole list.
-/
import Derived.Test.YtnkjhicokcmmpaaEb
namespace Go.Proofs.Ytnkjhicokcmmpaa.Ev
open Go

theorem bndA_mono {y y' r : Nat} {x : AV} (h : bndA y x = some r) (hy : y ≤ y') : bndA y' x = some r := by
  unfold bndA at *
  split at h
  · rename_i k i
    cases hc : (decide (0 ≤ i) && decide (i ≤ (y : Int))) with
    | false => simp [hc] at h
    | true =>
      have hc' : (decide (0 ≤ i) && decide (i ≤ (y' : Int))) = true := by
        simp only [Bool.and_eq_true, decide_eq_true_eq] at hc ⊢; omega
      simp only [hc', hc, cond_true] at h ⊢; exact h
  · cases h
theorem boundsA_in {n q l h m : Nat} {lo hi mx : Option AV} (hb : boundsA n q lo hi mx = some (l, h, m)) (hn : n ≤ q) : l ≤ h ∧ h ≤ q ∧ (mx.isNone = true → m = q) ∧ h ≤ m ∧ m ≤ q := by
  have bl : ∀ {y r : Nat} {x : AV}, bndA y x = some r → r ≤ y := fun {y r x} h => by
    unfold bndA at h
    split at h
    · rename_i k i
      cases hc : (decide (0 ≤ i) && decide (i ≤ (y : Int))) with
      | false => simp [hc] at h
      | true =>
        simp only [hc, cond_true, Option.some.injEq] at h
        simp only [Bool.and_eq_true, decide_eq_true_eq] at hc
        omega
    · cases h
  have ol : ∀ {y d r : Nat} {x : Option AV}, optA y d x = some r → d ≤ y → r ≤ y := fun {y d r x} h hd => by
    cases x with
    | none => simp [optA] at h; omega
    | some x => exact bl (by simpa [optA] using h)
  unfold boundsA at hb
  cases mx with
  | none =>
    simp only at hb
    cases hh : optA q n hi with
    | none => simp [hh] at hb
    | some hv =>
      simp only [hh] at hb
      cases hl : optA hv 0 lo with
      | none => simp [hl] at hb
      | some lv =>
        simp only [hl, Option.some.injEq, Prod.mk.injEq] at hb
        obtain ⟨rfl, rfl, rfl⟩ := hb
        exact ⟨ol hl (Nat.zero_le _), ol hh hn, fun _ => rfl, ol hh hn, Nat.le_refl _⟩
  | some x =>
    simp only at hb
    cases hm : bndA q x with
    | none => simp [hm] at hb
    | some mv =>
      cases hi with
      | none => simp [hm] at hb
      | some y =>
        simp only [hm] at hb
        cases hh : bndA mv y with
        | none => simp [hh] at hb
        | some hv =>
          simp only [hh] at hb
          cases hl : optA hv 0 lo with
          | none => simp [hl] at hb
          | some lv =>
            simp only [hl, Option.some.injEq, Prod.mk.injEq] at hb
            obtain ⟨rfl, rfl, rfl⟩ := hb
            exact ⟨ol hl (Nat.zero_le _), Nat.le_trans (bl hh) (bl hm), fun h => by simp at h, bl hh, bl hm⟩
theorem boundsA_mono {n q c l h m : Nat} {lo hi mx : Option AV} (hb : boundsA n q lo hi mx = some (l, h, m)) (hn : n ≤ q) (hc : q ≤ c) :
    boundsA n c lo hi mx = some (l, h, if mx.isNone then c else m) ∧ l ≤ h ∧ h ≤ q ∧ (mx.isNone = true → m = q) ∧ h ≤ m ∧ m ≤ q := by
  refine ⟨?_, boundsA_in hb hn⟩
  unfold boundsA at hb ⊢
  cases mx with
  | none =>
    dsimp only at hb ⊢
    have hopt : ∀ {r}, optA q n hi = some r → optA c n hi = some r := fun {r} h => by
      cases hi with
      | none => exact h
      | some y => exact bndA_mono h hc
    cases hh : optA q n hi with
    | none => simp [hh] at hb
    | some hv =>
      rw [hopt hh]
      simp only [hh] at hb
      dsimp only
      cases hl : optA hv 0 lo with
      | none => simp [hl] at hb
      | some lv => simp only [hl, Option.some.injEq, Prod.mk.injEq] at hb ⊢; simp [hb]
  | some x =>
    cases hm : bndA q x with
    | none => simp [hm] at hb
    | some mv =>
      dsimp only
      rw [bndA_mono hm hc]
      simp only [hm] at hb
      simp only [Option.isNone_some, Bool.false_eq_true, if_false]
      exact hb

def vopt : Option AV → Option (Option Value)
  | none => some none
  | some x => match x.val? with | some u => some (some u) | none => none
theorem vopt_sound {ρ : Env} {x : Option AV} {u : Option Value} {r : Option Value} (h : vopt x = some r) (hx : OR ρ x u) : u = r := by
  cases hx with
  | no => simpa [vopt] using h
  | yes e =>
    rename_i y v
    simp only [vopt] at h
    cases hv : y.val? with
    | none => rw [hv] at h; cases h
    | some z => rw [hv] at h; simp at h; rw [← h, AV.val?_VR hv e]

def sliceA (P : Program) (t : TypeId) (x : AV) (lo hi mx : Option AV) : Option AV :=
  match P.underlying t with
  | some (.array n e) =>
    match x, P.info? e, boundsA n n lo hi mx with
    | .ptr i o, some ie, some (l, h, m) => some (.sl i (cond (Nat.beq m l) o (o + l * ie.size)) (h - l) (m - l))
    | _, _, _ => none
  | some (.slice e) =>
    match x, P.info? e with
    | .sl i o n c, some ie =>
      match boundsA n c lo hi mx with
      | some (l, h, m) => some (.sl i (cond (Nat.beq m l) o (o + l * ie.size)) (h - l) (m - l))
      | none => none
    | .su i o n k q, some ie =>
      match boundsA n q lo hi mx with
      | some (l, h, m) =>
        match mx with
        | none => cond (Nat.beq l 0) (some (.su i o h k q)) (cond (Nat.blt l q) (some (.su i (o + l * ie.size) (h - l) (k + l) (q - l))) (some .se))
        | some _ => some (.sl i (cond (Nat.beq m l) o (o + l * ie.size)) (h - l) (m - l))
      | none => none
    | .se, some _ =>
      match mx, boundsA 0 0 lo hi none with
      | none, some _ => some .se
      | _, _ => none
    | .v (.slice none 0 0), some _ =>
      match boundsA 0 0 lo hi mx with
      | some _ => some (.v (.slice none 0 0))
      | none => none
    | _, _ => none
  | some .string =>
    match x, vopt lo, vopt hi, vopt mx with
    | .v u, some a, some b, some c => (pureRun P (Instr.sliceAt t u a b c)).map ofV
    | _, _, _, _ => none
  | _ => none
theorem beq_dec (a b : Nat) : Nat.beq a b = decide (a = b) := by rw [Bool.eq_iff_iff]; simp [Nat.beq_eq]
theorem cond_addr (b o m l k : Nat) : (if m = l then (⟨b, o, none⟩ : Addr) else (⟨b, o, none⟩ : Addr).add (l * k)) = ⟨b, cond (Nat.beq m l) o (o + l * k), none⟩ := by
  rw [beq_dec]
  by_cases h : m = l <;> simp [h, Addr.add_lit]
theorem sliceA_sound {P : Program} {ρ : Env} {t : TypeId} {x y : AV} {lo hi mx : Option AV} {u : Value} {lo' hi' mx' : Option Value} (h : sliceA P t x lo hi mx = some y)
    (hx : VR ρ x u) (h1 : OR ρ lo lo') (h2 : OR ρ hi hi') (h3 : OR ρ mx mx') : ∃ v, VR ρ y v ∧ ∀ w, (Instr.sliceAt t u lo' hi' mx').run P w = .ok v w := by
  unfold sliceA at h
  split at h
  · rename_i n e hu
    split at h
    · rename_i i o ie l hh m hie hb
      cases hx with
      | ptr _ hi' =>
        simp only [Option.some.injEq] at h
        subst h
        have hr := (boundsA_sound (P := P) hb h1 h2 h3 false).1
        refine ⟨_, .sl _ _ _ hi', fun w => ?_⟩
        unfold Instr.sliceAt
        simp only [Sem.run_bind, run_underlying hu, Result.andThen_ok, Instr.sureAddr, Sem.run_pure, hr, run_sizeOf hie]
        rw [cond_addr]
    · cases h
  · rename_i e hu
    have hat : Instr.sliceAt t u lo' hi' mx' = (do match ← underlying t with
      | .array n elem =>
        let a ← Instr.sureAddr u
        let (l, h, m) ← Instr.sliceBounds false n n lo' hi' mx'
        let size ← sizeOf elem
        pure (.slice (some (if m = l then a else a.add (l * size))) (h - l) (m - l))
      | _ => Instr.slice t u lo' hi' mx') := rfl
    have key : ∀ {bs : Option Addr} {n c : Nat} {ie : TypeInfo} {r : Nat × Nat × Nat}, P.info? e = some ie → u = .slice bs n c → (∀ w, (Instr.sliceBounds true n c lo' hi' mx').run P w = .ok r w) →
        ∀ w, (Instr.sliceAt t u lo' hi' mx').run P w = .ok (.slice (if r.2.2 = r.1 then bs else bs.map (·.add (r.1 * ie.size))) (r.2.1 - r.1) (r.2.2 - r.1)) w := by
      intro bs n c ie r hie hue hr w
      subst hue
      obtain ⟨l, hh, m⟩ := r
      rw [hat]
      unfold Instr.slice
      simp only [Sem.run_bind, run_underlying hu, Result.andThen_ok, hr, run_sizeOf hie, Sem.run_pure]
    split at h
    · rename_i i o n c ie hie
      split at h
      · rename_i l hh m hb
        simp only [Option.some.injEq] at h
        subst h
        cases hx with
        | sl _ _ _ hi' =>
          have hr := (boundsA_sound (P := P) hb h1 h2 h3 true).1
          refine ⟨_, .sl _ _ _ hi', fun w => ?_⟩
          rw [key hie rfl hr w]
          simp only [Option.map_some, ← cond_addr]
          by_cases e : m = l <;> simp [e]
      · cases h
    · rename_i i o n k q ie hie
      split at h
      · rename_i l hh m hb
        cases hx with
        | @su _ b c _ _ _ _ hi' hn =>
          obtain ⟨hb', hlh, hhn, hmn, hhm, hmn'⟩ := boundsA_mono hb hn.1 hn.2
          have hr := (boundsA_sound (P := P) hb' h1 h2 h3 true).1
          have hk := key hie rfl hr
          split at h
          · simp only [Option.isNone_none, if_true] at hk
            rw [beq_dec] at h
            by_cases hl : l = 0
            · subst hl
              simp at h
              subst h
              refine ⟨_, .su o hh k q hi' ⟨by omega, by omega⟩, fun w => ?_⟩
              rw [hk w]
              simp [Addr.add_zero']
            · simp only [hl, decide_false, cond_false] at h
              cases hln : Nat.blt l q with
              | true =>
                simp only [hln, cond_true, Option.some.injEq] at h
                have hlt : l < q := by simpa [Nat.blt_eq] using hln
                subst h
                refine ⟨_, .su (o + l * ie.size) (hh - l) (k + l) (q - l) hi' ⟨by omega, by omega⟩, fun w => ?_⟩
                rw [hk w]
                have hne : ¬ (c - k = l) := by omega
                simp [hne, Addr.add_lit, Nat.sub_sub]
              | false =>
                simp only [hln, cond_false, Option.some.injEq] at h
                have hge : q ≤ l := by
                  have : ¬ l < q := by intro hlt; have := Nat.blt_eq.symm ▸ hlt; rw [hln] at this; cases this
                  omega
                subst h
                have hz : hh - l = 0 := by omega
                refine ⟨.slice (some (if c - k = l then ⟨b, o, none⟩ else (⟨b, o, none⟩ : Addr).add (l * ie.size))) 0 (c - k - l), .se _ _, fun w => ?_⟩
                rw [hk w]
                simp only [hz, Option.map_some]
                by_cases e : c - k = l <;> simp [e]
          · simp only [Option.isNone_some, Bool.false_eq_true, if_false] at hk
            simp only [Option.some.injEq] at h
            subst h
            refine ⟨_, .sl _ _ _ hi', fun w => ?_⟩
            rw [hk w]
            simp only [Option.map_some, ← cond_addr]
            by_cases e : m = l <;> simp [e]
      · cases h
    · rename_i ie hie
      split at h
      · rename_i r hb
        simp only [Option.some.injEq] at h
        subst h
        cases hx with
        | se a c =>
          cases h3
          obtain ⟨l, hh, m⟩ := r
          obtain ⟨hb', hlh, hhn, hmn, hhm, hmn'⟩ := boundsA_mono hb (Nat.le_refl 0) (Nat.zero_le c)
          have hr := (boundsA_sound (P := P) hb' h1 h2 .no true).1
          obtain rfl : l = 0 := by omega
          obtain rfl : hh = 0 := by omega
          refine ⟨.slice (some a) 0 c, .se _ _, fun w => ?_⟩
          rw [key hie rfl hr w]
          simp [Addr.add_zero']
      · cases h
    · rename_i ie hie
      split at h
      · rename_i r hb
        simp only [Option.some.injEq] at h
        subst h
        cases hx
        obtain ⟨l, hh, m⟩ := r
        obtain ⟨_, hlh, hhn, hmn, hhm, hmn'⟩ := boundsA_mono hb (Nat.le_refl 0) (Nat.le_refl 0)
        have hr := (boundsA_sound (P := P) hb h1 h2 h3 true).1
        obtain rfl : l = 0 := by omega
        obtain rfl : hh = 0 := by omega
        obtain rfl : m = 0 := by omega
        refine ⟨_, .v _, fun w => ?_⟩
        rw [key hie rfl hr w]
        simp
      · cases h
    · cases h
  · rename_i hu
    split at h
    · rename_i u' a b c ha hb hc
      cases hx
      obtain rfl := vopt_sound ha h1
      obtain rfl := vopt_sound hb h2
      obtain rfl := vopt_sound hc h3
      simp only [Option.map_eq_some_iff] at h
      obtain ⟨v, hv, rfl⟩ := h
      exact ⟨v, ofV_VR v, fun w => pureRun_run w hv⟩
    · cases h
  · cases h

end Go.Proofs.Ytnkjhicokcmmpaa.Ev
