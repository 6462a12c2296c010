/-
  All operations that only reckon.
-/
import Derived.Test.YtnkjhicokcmmpaaEd
namespace Go.Proofs.Ytnkjhicokcmmpaa.Ev
open Go

def lenA (P : Program) (t : TypeId) (x : AV) : Option AV :=
  match x with
  | .sl _ _ n _ => match P.underlying t with | some (.slice _) => some (.v (.int .i64 n)) | _ => none
  | .su _ _ n _ _ => match P.underlying t with | some (.slice _) => some (.v (.int .i64 n)) | _ => none
  | .se => match P.underlying t with | some (.slice _) => some (.v (.int .i64 0)) | _ => none
  | .v u => (pureRun P (Builtin.len_ #[t] t #[u])).map ofV
  | .agg _ => match P.underlying t with | some (.array n _) => some (.v (.int .i64 n)) | _ => none
  | _ => none
theorem len_ty {t ty : TypeId} {u : Value} : Builtin.len_ #[t] ty #[u] = Builtin.len_ #[t] t #[u] := rfl
theorem lenA_sound {P : Program} {ρ : Env} {t ty : TypeId} {x y : AV} {u : Value} (h : lenA P t x = some y) (hx : VR ρ x u) : ∃ r, VR ρ y r ∧ ∀ w, (Builtin.len_ #[t] ty #[u]).run P w = .ok r w := by
  unfold lenA at h
  split at h
  · split at h
    · rename_i hu
      simp at h; subst h
      cases hx
      exact ⟨_, .v _, fun w => by unfold Builtin.len_; simp [run_underlying hu, goInt]⟩
    · cases h
  · split at h
    · rename_i hu
      simp at h; subst h
      cases hx
      exact ⟨_, .v _, fun w => by unfold Builtin.len_; simp [run_underlying hu, goInt]⟩
    · cases h
  · split at h
    · rename_i hu
      simp at h; subst h
      cases hx
      exact ⟨_, .v _, fun w => by unfold Builtin.len_; simp [run_underlying hu, goInt]⟩
    · cases h
  · cases hx
    simp only [Option.map_eq_some_iff] at h
    obtain ⟨v, hv, rfl⟩ := h
    exact ⟨v, ofV_VR v, fun w => by rw [len_ty]; exact pureRun_run w hv⟩
  · split at h
    · rename_i hu
      simp at h; subst h
      cases hx
      exact ⟨_, .v _, fun w => by unfold Builtin.len_; simp [run_underlying hu, goInt]⟩
    · cases h
  · cases h
def capA (P : Program) (t : TypeId) (x : AV) : Option AV :=
  match x with
  | .sl _ _ _ c => match P.underlying t with | some (.slice _) => some (.v (.int .i64 c)) | _ => none
  | .v u => (pureRun P (Builtin.cap_ #[t] t #[u])).map ofV
  | _ => none
theorem cap_ty {t ty : TypeId} {u : Value} : Builtin.cap_ #[t] ty #[u] = Builtin.cap_ #[t] t #[u] := rfl
theorem capA_sound {P : Program} {ρ : Env} {t ty : TypeId} {x y : AV} {u : Value} (h : capA P t x = some y) (hx : VR ρ x u) : ∃ r, VR ρ y r ∧ ∀ w, (Builtin.cap_ #[t] ty #[u]).run P w = .ok r w := by
  unfold capA at h
  split at h
  · split at h
    · rename_i hu
      simp at h; subst h
      cases hx
      exact ⟨_, .v _, fun w => by unfold Builtin.cap_; simp [run_underlying hu, goInt]⟩
    · cases h
  · cases hx
    simp only [Option.map_eq_some_iff] at h
    obtain ⟨v, hv, rfl⟩ := h
    exact ⟨v, ofV_VR v, fun w => by rw [cap_ty]; exact pureRun_run w hv⟩
  · cases h

/-- The operations that only reckon. -/
def aopP (P : Program) (T : Tr AV) (o : Oper) : Option AV :=
  match o.op with
  | .move x => some (aev T x)
  | .assign x => some (aev T x)
  | .pick c a b => match aev T c with | .v (.bool t) => some (cond t (aev T a) (aev T b)) | _ => none
  | .extract x i => match aev T x with | .tup l => l[i]? | _ => none
  | .field t x f => fieldA P t (aev T x) f
  | .index t x i => indexA P t (aev T x) (aev T i)
  | .nilCheck x => match aev T x with | .ptr i o => some (.ptr i o) | .fn (.func g) l m => some (.fn (.func g) l m) | .ifc t y => some (.ifc t y) | _ => none
  | .binOp op t x y _ => binA P op t x y (aev T x) (aev T y)
  | .unOp op _ x => match (aev T x).val? with | some u => (pureRun P (Op.unary op u)).map ofV | none => none
  | .convert s d x => match (aev T x).val? with | some u => (pureRun P (convert s d u)).map ofV | none => none
  | .makeInterface t x => match P.underlying t with | some (.interface _) => none | some _ => some (.ifc t (aev T x)) | none => none
  | .makeFunc fn first cap => some (.fn fn (first.toList.map (aev T)) (cap.toList.map (aev T)))
  | .fieldAddr s x f => fieldAddrA P s (aev T x) f
  | .indexAddr t x i => indexAddrA P t (aev T x) (aev T i)
  | .slice t x lo hi mx => sliceA P t (aev T x) (lo.map (aev T)) (hi.map (aev T)) (mx.map (aev T))
  | .build t ps => buildA P t (ps.toList.map fun p => (p.1, aev T p.2))
  | .call ⟨.builtin b, args, ats⟩ =>
    match b, args.toList, ats.toList with
    | .len, [x], [t] => lenA P t (aev T x)
    | .cap, [x], [t] => capA P t (aev T x)
    | .min, l, _ => match vals? (l.map (aev T)) with | some us => (pureRun P (Builtin.min_ ats o.type us.toArray)).map ofV | none => none
    | .max, l, _ => match vals? (l.map (aev T)) with | some us => (pureRun P (Builtin.max_ ats o.type us.toArray)).map ofV | none => none
    | _, _, _ => none
  | _ => none

theorem VRs.map_ev {ρ : Env} {T : Tr AV} {ev : Operand → Value} : ∀ {l : List Operand}, (∀ y ∈ l, VR ρ (aev T y) (ev y)) → VRs ρ (l.map (aev T)) (l.map ev)
  | [], _ => .nil
  | y :: l, h => .cons (h y (by simp)) (map_ev fun z hz => h z (by simp [hz]))
theorem OR.map_ev {ρ : Env} {T : Tr AV} {ev : Operand → Value} {x : Option Operand} (h : ∀ y, x = some y → VR ρ (aev T y) (ev y)) : OR ρ (x.map (aev T)) (x.map ev) := by
  cases x with
  | none => exact .no
  | some y => exact .yes (h y rfl)

theorem arrmap {α β : Type} (f : α → β) (l : Array α) : (l.toList.map f).toArray = l.map f := Array.toList_inj.1 (by simp)
theorem aopP_sound {P : Program} {ρ : Env} {T : Tr AV} {o : Oper} {x : AV} {ev : Operand → Value} (h : aopP P T o = some x) (hev : ∀ y ∈ o.op.operands, VR ρ (aev T y) (ev y)) :
    ∃ v, VR ρ x v ∧ ∀ w, (execOp ev o).run P w = .ok (.value v) w := by
  obtain ⟨dst, op, type, pos, after, guard⟩ := o
  have fin : ∀ {s : Sem Value} {x : AV}, (∃ v, VR ρ x v ∧ ∀ w, s.run P w = .ok v w) → execOp ev ⟨dst, op, type, pos, after, guard⟩ = (do pure (.value (← s))) → ∃ v, VR ρ x v ∧ ∀ w, (execOp ev ⟨dst, op, type, pos, after, guard⟩).run P w = .ok (.value v) w := by
    rintro s x ⟨v, hv, hs⟩ he
    exact ⟨v, hv, fun w => by rw [he]; simp [hs w]⟩
  cases op <;> simp only [aopP] at h <;> try (cases h; done)
  case move y =>
    simp at h; subst h
    exact ⟨_, hev y (by simp [Op.operands]), fun w => rfl⟩
  case assign y =>
    simp at h; subst h
    exact ⟨_, hev y (by simp [Op.operands]), fun w => rfl⟩
  case pick c a b =>
    have hc := hev c (by simp [Op.operands])
    have ha := hev a (by simp [Op.operands])
    have hb := hev b (by simp [Op.operands])
    split at h
    · rename_i t hct
      rw [hct] at hc
      cases hcv : ev c with
      | bool q =>
        rw [hcv] at hc
        cases hc
        simp at h; subst h
        refine ⟨if t then ev a else ev b, ?_, fun w => ?_⟩
        · cases t <;> simpa
        · unfold execOp; simp [hcv, asBool]
      | _ => rw [hcv] at hc; cases hc
    · cases h
  case extract y i =>
    have hy := hev y (by simp [Op.operands])
    split at h
    · rename_i l hl
      rw [hl] at hy
      generalize hu : ev y = u at hy
      cases hy with
      | tup e =>
        obtain ⟨u, hu', hx⟩ := e.get h
        refine ⟨u, hx, fun w => ?_⟩
        unfold execOp
        simp [hu, Instr.extract, hu']
    · cases h
  case field t y f => exact fin (fieldA_sound h (hev y (by simp [Op.operands]))) rfl
  case index t y i => exact fin (indexA_sound h (hev y (by simp [Op.operands])) (hev i (by simp [Op.operands]))) rfl
  case fieldAddr t y f => exact fin (fieldAddrA_sound h (hev y (by simp [Op.operands]))) rfl
  case indexAddr t y i => exact fin (indexAddrA_sound h (hev y (by simp [Op.operands])) (hev i (by simp [Op.operands]))) rfl
  case binOp op t y z yt => exact fin (binA_sound h (hev y (by simp [Op.operands])) (hev z (by simp [Op.operands]))) rfl
  case slice t y lo hi mx =>
    refine fin (sliceA_sound h (hev y (by simp [Op.operands])) (OR.map_ev fun z hz => hev z ?_) (OR.map_ev fun z hz => hev z ?_) (OR.map_ev fun z hz => hev z ?_)) rfl
    all_goals (subst hz; simp [Op.operands])
  case build t ps =>
    refine fin (buildA_sound (qs := ps.map fun p => (p.1, ev p.2)) h (by simp) ?_) rfl
    have : VRs ρ ((ps.toList.map Prod.snd).map (aev T)) ((ps.toList.map Prod.snd).map ev) := VRs.map_ev fun y hy => hev y (by simp [Op.operands] at hy ⊢; exact hy)
    simpa [Function.comp_def] using this
  case nilCheck y =>
    have hy := hev y (by simp [Op.operands])
    generalize hu : ev y = u at hy
    split at h
    · rename_i i o hl
      rw [hl] at hy
      simp at h; subst h
      cases hy with
      | ptr _ e => exact ⟨_, .ptr _ e, fun w => by unfold execOp; simp [hu]⟩
    · rename_i g l m hl
      rw [hl] at hy
      simp at h; subst h
      cases hy with
      | fn _ e e' => exact ⟨_, .fn _ e e', fun w => by unfold execOp; simp [hu]⟩
    · rename_i t z hl
      rw [hl] at hy
      simp at h; subst h
      cases hy with
      | ifc _ e => exact ⟨_, .ifc _ e, fun w => by unfold execOp; simp [hu]⟩
    · cases h
  case unOp op t y =>
    have hy := hev y (by simp [Op.operands])
    split at h
    · rename_i u hu
      obtain hu := AV.val?_VR hu hy
      simp only [Option.map_eq_some_iff] at h
      obtain ⟨r, hr, rfl⟩ := h
      exact fin ⟨r, ofV_VR r, fun w => pureRun_run w hr⟩ (by unfold execOp; simp only [hu])
    · cases h
  case convert s d y =>
    have hy := hev y (by simp [Op.operands])
    split at h
    · rename_i u hu
      obtain hu := AV.val?_VR hu hy
      simp only [Option.map_eq_some_iff] at h
      obtain ⟨r, hr, rfl⟩ := h
      exact fin ⟨r, ofV_VR r, fun w => pureRun_run w hr⟩ (by unfold execOp; simp only [hu])
    · cases h
  case makeInterface t y =>
    have hy := hev y (by simp [Op.operands])
    split at h
    · cases h
    · rename_i d hni hd
      simp at h; subst h
      refine fin ⟨_, .ifc t hy, fun w => ?_⟩ rfl
      unfold Instr.makeInterface
      simp only [Sem.run_bind, run_underlying hd, Result.andThen_ok]
      rfl
    · cases h
  case makeFunc fn first cap =>
    simp at h; subst h
    have h1 : VRs ρ (first.toList.map (aev T)) (first.toList.map ev) := VRs.map_ev fun y hy => hev y (by simp [Op.operands]; exact .inl (by simpa using hy))
    have h2 : VRs ρ (cap.toList.map (aev T)) (cap.toList.map ev) := VRs.map_ev fun y hy => hev y (by simp [Op.operands]; exact .inr (by simpa using hy))
    refine fin (s := Instr.makeFunc fn (first.map ev) (cap.map ev)) ⟨_, .fn fn h1 h2, fun w => ?_⟩ rfl
    unfold Instr.makeFunc
    simp only [arrmap, Sem.run_pure]
  case call c =>
    obtain ⟨callee, args, ats⟩ := c
    cases callee <;> simp only at h <;> try (cases h; done)
    rename_i b
    have hex : execOp ev ⟨dst, .call ⟨.builtin b, args, ats⟩, type, pos, after, guard⟩ = builtin b ats type (args.map fun | .const _ => true | _ => false) (args.map ev) := rfl
    have harg : VRs ρ (args.toList.map (aev T)) (args.toList.map ev) := VRs.map_ev fun y hy => hev y (by simp [Op.operands, Call.operands]; simpa using hy)
    split at h
    · rename_i y t ha ht
      have ha' : args = #[y] := Array.toList_inj.1 ha
      have ht' : ats = #[t] := Array.toList_inj.1 ht
      subst ha' ht'
      exact fin (lenA_sound (ty := type) h (hev y (by simp [Op.operands, Call.operands]))) (by rw [hex]; simp [builtin])
    · rename_i y t ha ht
      have ha' : args = #[y] := Array.toList_inj.1 ha
      have ht' : ats = #[t] := Array.toList_inj.1 ht
      subst ha' ht'
      exact fin (capA_sound (ty := type) h (hev y (by simp [Op.operands, Call.operands]))) (by rw [hex]; simp [builtin])
    · split at h
      · rename_i us hus
        have := vals?_VR hus harg
        simp only [Option.map_eq_some_iff] at h
        obtain ⟨r, hr, rfl⟩ := h
        exact fin ⟨r, ofV_VR r, fun w => pureRun_run w hr⟩ (by rw [hex, ← this, arrmap]; simp only [builtin])
      · cases h
    · split at h
      · rename_i us hus
        have := vals?_VR hus harg
        simp only [Option.map_eq_some_iff] at h
        obtain ⟨r, hr, rfl⟩ := h
        exact fin ⟨r, ofV_VR r, fun w => pureRun_run w hr⟩ (by rw [hex, ← this, arrmap]; simp only [builtin])
      · cases h
    · cases h

end Go.Proofs.Ytnkjhicokcmmpaa.Ev
