/-
  Operations that only reckon: the list of them, and that the small machine's answers are the model's.
-/
import Derived.Test.YtnkjhicokcmmpaaEc
namespace Go.Proofs.Ytnkjhicokcmmpaa.Ev
open Go

theorem run_part_ok {P : Program} {ρ : Env} {t : TypeId} {x y : AV} {u : Value} {off : Nat} (h : partA P t x.cells off = some y) (hx : VR ρ x u) : ∃ v, VR ρ y v ∧ ∀ w, (part t u.cells off).run P w = .ok v w := by
  have := partA_sound h hx.cells
  simpa using this

def fieldA (P : Program) (t : TypeId) (x : AV) (f : Nat) : Option AV :=
  match P.underlying t, x with
  | some (.struct fs), .agg l => match fs[f]? with | some fd => partA P fd.type l fd.offset | none => none
  | _, _ => none
theorem fieldA_sound {P : Program} {ρ : Env} {t : TypeId} {x y : AV} {f : Nat} {u : Value} (h : fieldA P t x f = some y) (hx : VR ρ x u) : ∃ v, VR ρ y v ∧ ∀ w, (Instr.field t u f).run P w = .ok v w := by
  unfold fieldA at h
  split at h
  · rename_i fs l hu
    split at h
    · rename_i fd hf
      cases hx with
      | agg e =>
        obtain ⟨v, hv, hr⟩ := partA_sound h e
        refine ⟨v, hv, fun w => ?_⟩
        unfold Instr.field
        simp [run_underlying hu, hf, asAgg, hr]
    · cases h
  · cases h

def indexA (P : Program) (t : TypeId) (x i : AV) : Option AV :=
  match i, x with
  | .v (.int k n), .agg l =>
    match P.underlying t with
    | some (.array len e) => cond (decide (0 ≤ n) && decide (n < len)) (match P.info? e with | some ie => partA P e l (n.toNat * ie.size) | none => none) none
    | _ => none
  | .v (.int k n), .v (.string s) => (pureRun P (Instr.index t (.string s) (.int k n))).map ofV
  | _, _ => none
theorem indexA_sound {P : Program} {ρ : Env} {t : TypeId} {x i y : AV} {u j : Value} (h : indexA P t x i = some y) (hx : VR ρ x u) (hi : VR ρ i j) : ∃ v, VR ρ y v ∧ ∀ w, (Instr.index t u j).run P w = .ok v w := by
  unfold indexA at h
  split at h
  · rename_i k n l
    split at h
    · rename_i len e hu
      cases hc : (decide (0 ≤ n) && decide (n < (len : Int))) with
      | false => simp [hc] at h
      | true =>
        simp only [hc, cond_true] at h
        simp only [Bool.and_eq_true, decide_eq_true_eq] at hc
        split at h
        · rename_i ie hie
          cases hx with
          | agg el =>
            cases hi
            obtain ⟨v, hv, hr⟩ := partA_sound h el
            refine ⟨v, hv, fun w => ?_⟩
            unfold Instr.index
            simp [asIntOf, run_underlying hu, hc, run_sizeOf hie, hr]
        · cases h
    · cases h
  · rename_i k n s
    cases hx; cases hi
    simp only [Option.map_eq_some_iff] at h
    obtain ⟨v, hv, rfl⟩ := h
    exact ⟨v, ofV_VR v, fun w => pureRun_run w hv⟩
  · cases h

def fieldAddrA (P : Program) (s : TypeId) (x : AV) (f : Nat) : Option AV :=
  match P.underlying s, x with
  | some (.struct fs), .ptr i o => match fs[f]? with
    | some fd => match P.info? fd.type with
      | some ie => cond (Nat.beq ie.size 0) none (some (.ptr i (o + fd.offset)))
      | none => none
    | none => none
  | _, _ => none
theorem fieldAddrA_sound {P : Program} {ρ : Env} {t : TypeId} {x y : AV} {f : Nat} {u : Value} (h : fieldAddrA P t x f = some y) (hx : VR ρ x u) : ∃ v, VR ρ y v ∧ ∀ w, (Instr.fieldAt t u f).run P w = .ok v w := by
  unfold fieldAddrA at h
  split at h
  · rename_i fs i o hu
    split at h
    · rename_i fd hf
      split at h
      · rename_i ie hie
        rw [beq_dec] at h
        by_cases hz : ie.size = 0
        · simp [hz] at h
        · simp only [hz, decide_false, cond_false, Option.some.injEq] at h
          subst h
          cases hx with
          | ptr _ e =>
            refine ⟨_, .ptr _ e, fun w => ?_⟩
            unfold Instr.fieldAt fieldPlace
            simp [run_underlying hu, hf, Instr.sureAddr, run_sizeOf hie, hz, Addr.add_lit]
      · cases h
    · cases h
  · cases h

def indexAddrA (P : Program) (t : TypeId) (x i : AV) : Option AV :=
  match i, P.underlying t with
  | .v (.int _ n), some (.array len e) =>
    match x, P.info? e with
    | .ptr j o, some ie => cond (decide (0 ≤ n) && decide (n < len)) (some (.ptr j (o + n.toNat * ie.size))) none
    | _, _ => none
  | .v (.int _ n), some (.slice e) =>
    match x, P.info? e with
    | .sl j o len _, some ie => cond (decide (0 ≤ n) && decide (n < len)) (some (.ptr j (o + n.toNat * ie.size))) none
    | .su j o len _ _, some ie => cond (decide (0 ≤ n) && decide (n < len)) (some (.ptr j (o + n.toNat * ie.size))) none
    | _, _ => none
  | _, _ => none
theorem indexAddrA_sound {P : Program} {ρ : Env} {t : TypeId} {x i y : AV} {u j : Value} (h : indexAddrA P t x i = some y) (hx : VR ρ x u) (hi : VR ρ i j) : ∃ v, VR ρ y v ∧ ∀ w, (Instr.indexAt t u j).run P w = .ok v w := by
  unfold indexAddrA at h
  split at h
  · rename_i k n len e hu
    cases hi
    split at h
    · rename_i i' o ie hie
      cases hc : (decide (0 ≤ n) && decide (n < (len : Int))) with
      | false => simp [hc] at h
      | true =>
        simp only [hc, cond_true, Option.some.injEq] at h
        simp only [Bool.and_eq_true, decide_eq_true_eq] at hc
        subst h
        cases hx with
        | ptr _ e' =>
          refine ⟨_, .ptr _ e', fun w => ?_⟩
          unfold Instr.indexAt
          simp [asIntOf, run_underlying hu, Instr.sureAddr, hc, run_sizeOf hie, Addr.add_lit]
    · cases h
  · rename_i k n e hu
    cases hi
    split at h
    · rename_i i' o len c ie hie
      cases hc : (decide (0 ≤ n) && decide (n < (len : Int))) with
      | false => simp [hc] at h
      | true =>
        simp only [hc, cond_true, Option.some.injEq] at h
        simp only [Bool.and_eq_true, decide_eq_true_eq] at hc
        subst h
        cases hx with
        | sl _ _ _ e' =>
          refine ⟨_, .ptr _ e', fun w => ?_⟩
          unfold Instr.indexAt
          simp [asIntOf, run_underlying hu, hc, run_sizeOf hie, Addr.add_lit]
    · rename_i i' o len c q ie hie
      cases hc : (decide (0 ≤ n) && decide (n < (len : Int))) with
      | false => simp [hc] at h
      | true =>
        simp only [hc, cond_true, Option.some.injEq] at h
        simp only [Bool.and_eq_true, decide_eq_true_eq] at hc
        subst h
        cases hx with
        | su _ _ _ _ e' _ =>
          refine ⟨_, .ptr _ e', fun w => ?_⟩
          unfold Instr.indexAt
          simp [asIntOf, run_underlying hu, hc, run_sizeOf hie, Addr.add_lit]
    · cases h
  · cases h

/-- Which kind of thing that may be nil, and whether it is. -/
def nilA : AV → Option (Nat × Bool)
  | .v (.pointer none) => some (0, true)
  | .v (.slice none _ _) => some (1, true)
  | .v (.map none) => some (2, true)
  | .v .nilFunc => some (3, true)
  | .v .nilIface => some (4, true)
  | .ptr _ _ => some (0, false)
  | .sl .. => some (1, false)
  | .su .. => some (1, false)
  | .se => some (1, false)
  | .mp _ => some (2, false)
  | .fn .. => some (3, false)
  | .yl _ => some (3, false)
  | .ifc .. => some (4, false)
  | _ => none
def kindA : TypeDesc → Option Nat
  | .pointer _ => some 0
  | .slice _ => some 1
  | .map .. => some 2
  | .func .. => some 3
  | .interface _ => some 4
  | _ => none
def binA (P : Program) (op : BinOp) (t : TypeId) (x y : Operand) (a b : AV) : Option AV :=
  match a.val?, b.val? with
  | some u, some v => (pureRun P (do eqGuard op t x y u v; binOp op t u v)).map ofV
  | _, _ =>
    match nilA a, nilA b, (P.underlying t).bind kindA with
    | some (j, m), some (k, n), some q =>
      cond (Nat.beq j k && Nat.beq k q && xor m n) (match op with | .eql => some (.v (.bool false)) | .neq => some (.v (.bool true)) | _ => none) none
    | _, _, _ => none

theorem equal_unfold (t : TypeId) (u v : Value) : Op.equal t u v = Op.equalIn (9999 + 1) t u v := rfl
theorem equal_nil {P : Program} {ρ : Env} {t : TypeId} {a b : AV} {u v : Value} {k : Nat} {m n : Bool} {d : TypeDesc} (hu : P.underlying t = some d) (hk : kindA d = some k)
    (ha : nilA a = some (k, m)) (hb : nilA b = some (k, n)) (hmn : xor m n = true) (hx : VR ρ a u) (hy : VR ρ b v) :
    (∀ w, (Op.equal t u v).run P w = .ok false w) ∧ (∀ op x y w, (eqGuard op t x y u v).run P w = .ok () w) ∧ (∀ op w, (op = .eql ∨ op = .neq) → (binOp op t u v).run P w = .ok (.bool (match op with | .neq => true | _ => false)) w) := by
  have key : (∃ ad, u = .pointer (some ad) ∧ v = .pointer none ∧ ∃ e, d = .pointer e) ∨ (∃ ad, u = .pointer none ∧ v = .pointer (some ad) ∧ ∃ e, d = .pointer e) ∨
      (∃ ad l c l' c', u = .slice (some ad) l c ∧ v = .slice none l' c' ∧ ∃ e, d = .slice e) ∨ (∃ ad l c l' c', u = .slice none l' c' ∧ v = .slice (some ad) l c ∧ ∃ e, d = .slice e) ∨
      (∃ r, u = .map (some r) ∧ v = .map none ∧ ∃ e f, d = .map e f) ∨ (∃ r, u = .map none ∧ v = .map (some r) ∧ ∃ e f, d = .map e f) ∨
      (∃ f x y, u = .func f x y ∧ v = .nilFunc ∧ ∃ e g h, d = .func e g h) ∨ (∃ f x y, u = .nilFunc ∧ v = .func f x y ∧ ∃ e g h, d = .func e g h) ∨
      (∃ s x, u = .iface s x ∧ v = .nilIface ∧ ∃ e, d = .interface e) ∨ (∃ s x, u = .nilIface ∧ v = .iface s x ∧ ∃ e, d = .interface e) := by
    unfold nilA at ha hb
    cases d <;> simp [kindA] at hk <;> subst hk
    all_goals
      split at ha <;> simp at ha <;> subst ha <;> split at hb <;> simp at hb <;> subst hb <;> simp at hmn <;> cases hx <;> cases hy <;> simp
  have he : ∀ w, (Op.equal t u v).run P w = .ok false w := by
    intro w
    rw [equal_unfold]
    unfold Op.equalIn
    simp only [Sem.run_bind, run_underlying hu, Result.andThen_ok]
    rcases key with ⟨ad, rfl, rfl, e, rfl⟩ | ⟨ad, rfl, rfl, e, rfl⟩ | ⟨ad, l, c, l', c', rfl, rfl, e, rfl⟩ | ⟨ad, l, c, l', c', rfl, rfl, e, rfl⟩ | ⟨r, rfl, rfl, e, f, rfl⟩ | ⟨r, rfl, rfl, e, f, rfl⟩ |
    ⟨f, x, y, rfl, rfl, e, g, h, rfl⟩ | ⟨f, x, y, rfl, rfl, e, g, h, rfl⟩ | ⟨s, x, rfl, rfl, e, rfl⟩ | ⟨s, x, rfl, rfl, e, rfl⟩
    all_goals rfl
  have hg : ∀ op x y w, (eqGuard op t x y u v).run P w = .ok () w := by
    intro op x y w
    rcases key with ⟨ad, rfl, rfl, e, rfl⟩ | ⟨ad, rfl, rfl, e, rfl⟩ | ⟨ad, l, c, l', c', rfl, rfl, e, rfl⟩ | ⟨ad, l, c, l', c', rfl, rfl, e, rfl⟩ | ⟨r, rfl, rfl, e, f, rfl⟩ | ⟨r, rfl, rfl, e, f, rfl⟩ |
    ⟨f, x, y, rfl, rfl, e, g, h, rfl⟩ | ⟨f, x, y, rfl, rfl, e, g, h, rfl⟩ | ⟨s, x, rfl, rfl, e, rfl⟩ | ⟨s, x, rfl, rfl, e, rfl⟩
    all_goals
      unfold eqGuard
      cases op <;> rfl
  refine ⟨he, hg, fun op w ho => ?_⟩
  rcases ho with rfl | rfl
  · rcases key with ⟨ad, rfl, rfl, e, rfl⟩ | ⟨ad, rfl, rfl, e, rfl⟩ | ⟨ad, l, c, l', c', rfl, rfl, e, rfl⟩ | ⟨ad, l, c, l', c', rfl, rfl, e, rfl⟩ | ⟨r, rfl, rfl, e, f, rfl⟩ | ⟨r, rfl, rfl, e, f, rfl⟩ |
    ⟨f, x, y, rfl, rfl, e, g, h, rfl⟩ | ⟨f, x, y, rfl, rfl, e, g, h, rfl⟩ | ⟨s, x, rfl, rfl, e, rfl⟩ | ⟨s, x, rfl, rfl, e, rfl⟩
    all_goals
      show (do pure (Value.bool (← Op.equal t _ _)) : Sem Value).run P w = _
      simp only [Sem.run_bind, he, Result.andThen_ok, Sem.run_pure]
  · rcases key with ⟨ad, rfl, rfl, e, rfl⟩ | ⟨ad, rfl, rfl, e, rfl⟩ | ⟨ad, l, c, l', c', rfl, rfl, e, rfl⟩ | ⟨ad, l, c, l', c', rfl, rfl, e, rfl⟩ | ⟨r, rfl, rfl, e, f, rfl⟩ | ⟨r, rfl, rfl, e, f, rfl⟩ |
    ⟨f, x, y, rfl, rfl, e, g, h, rfl⟩ | ⟨f, x, y, rfl, rfl, e, g, h, rfl⟩ | ⟨s, x, rfl, rfl, e, rfl⟩ | ⟨s, x, rfl, rfl, e, rfl⟩
    all_goals
      show (do pure (Value.bool (!(← Op.equal t _ _))) : Sem Value).run P w = _
      simp only [Sem.run_bind, he, Result.andThen_ok, Sem.run_pure, Bool.not_false]
theorem binA_sound {P : Program} {ρ : Env} {op : BinOp} {t : TypeId} {x y : Operand} {a b z : AV} {u v : Value} (h : binA P op t x y a b = some z) (hx : VR ρ a u) (hy : VR ρ b v) :
    ∃ r, VR ρ z r ∧ ∀ w, (do eqGuard op t x y u v; binOp op t u v : Sem Value).run P w = .ok r w := by
  unfold binA at h
  split at h
  · rename_i u' v' hu hv
    obtain rfl := AV.val?_VR hu hx
    obtain rfl := AV.val?_VR hv hy
    simp only [Option.map_eq_some_iff] at h
    obtain ⟨r, hr, rfl⟩ := h
    exact ⟨r, ofV_VR r, fun w => pureRun_run w hr⟩
  · split at h
    · rename_i j m k n q ha hb hq
      cases hc : (Nat.beq j k && Nat.beq k q && xor m n) with
      | false => simp [hc] at h
      | true =>
        simp only [hc, cond_true] at h
        simp only [Bool.and_eq_true, Nat.beq_eq] at hc
        obtain ⟨⟨rfl, rfl⟩, hmn⟩ := hc
        simp only [Option.bind_eq_some_iff] at hq
        obtain ⟨d, hd, hk⟩ := hq
        obtain ⟨h1, h2, h3⟩ := equal_nil hd hk ha hb hmn hx hy
        split at h
        · simp at h; subst h
          exact ⟨_, .v _, fun w => by simp [h2, h3 .eql w (.inl rfl)]⟩
        · simp at h; subst h
          exact ⟨_, .v _, fun w => by simp [h2, h3 .neq w (.inr rfl)]⟩
        · cases h
    · cases h
end Go.Proofs.Ytnkjhicokcmmpaa.Ev
