/-
  copy and clear; all operations that turn memory; sameness.
-/
import Derived.Test.YtnkjhicokcmmpaaEu
namespace Go.Proofs.Ytnkjhicokcmmpaa.Ev
open Go Go.RowKit

/-- The first n elements of a slice. -/
def takeA (k n : Nat) (x : AV) (H : Tr AB) : Option (List AV) :=
  match x with
  | .sl i o len _ => match H.get i with
    | some (.mem _ _ l) => cond (Nat.ble n len && Nat.ble (o + n * k) l.length) (some ((l.drop o).take (n * k))) none
    | _ => none
  | .su i o len _ _ => match H.get i with
    | some (.mem _ _ l) => cond (Nat.ble n len && Nat.ble (o + n * k) l.length) (some ((l.drop o).take (n * k))) none
    | _ => none
  | .se => cond (Nat.beq n 0) (some []) none
  | .v (.slice none 0 _) => cond (Nat.beq n 0) (some []) none
  | _ => none
def slen : AV → Option Nat
  | .sl _ _ n _ => some n
  | .su _ _ n _ _ => some n
  | .se => some 0
  | .v (.slice none 0 _) => some 0
  | _ => none
theorem slen_sound {P : Program} {ρ : Env} {x : AV} {u : Value} {n : Nat} (h : slen x = some n) (hx : VR ρ x u) (w : World) : (Builtin.lenOf u).run P w = .ok n w ∧ ∃ a c, u = .slice a n c := by
  unfold slen at h
  split at h <;> simp at h <;> subst h <;> cases hx <;> exact ⟨by simp [Builtin.lenOf], _, _, rfl⟩
theorem slen_base {ρ : Env} {x : AV} {n m c : Nat} {ad : Option Addr} (h : slen x = some n) (hx : VR ρ x (.slice ad m c)) : (n = 0 ∧ ∃ c', x = .v (.slice none 0 c')) ∨ ∃ a, ad = some a := by
  cases hx with
  | sl => exact .inr ⟨_, rfl⟩
  | su => exact .inr ⟨_, rfl⟩
  | se => exact .inr ⟨_, rfl⟩
  | s0 => simp [slen] at h
  | v =>
    cases ad with
    | some a => exact .inr ⟨a, rfl⟩
    | none =>
      left
      cases m with
      | zero => simp [slen] at h; exact ⟨h.symm, _, rfl⟩
      | succ m => simp [slen] at h
theorem takeA_sound {P : Program} {w0 : Bs} {w : World} {ρ : Env} {H : Tr AB} {n : Nat} (hr : HR w0 ρ H n w) {k m : Nat} {x : AV} {l : List AV} {u : Value} (h : takeA k m x H = some l) (hx : VR ρ x u) :
    ∃ us, VRs ρ l us ∧ us.length = m * k ∧ (Builtin.firstCells k m u).run P w = .ok us.toArray w := by
  have part : ∀ {i o nn c b : Nat} {T : TypeId} {z : Option Nat} {l' : List AV} {cc : Nat}, ρ i = some (b, cc) → H.get i = some (.mem T z l') →
      (cond (Nat.ble m nn && Nat.ble (o + m * k) l'.length) (some ((l'.drop o).take (m * k))) none = some l) → ∃ us, VRs ρ l us ∧ us.length = m * k ∧ (Builtin.firstCells k m (.slice (some ⟨b, o, none⟩) nn c)).run P w = .ok us.toArray w := by
    intro i o nn c b T z l' cc hi hB h
    cases hc : (Nat.ble m nn && Nat.ble (o + m * k) l'.length) with
    | false => simp [hc] at h
    | true =>
      simp only [hc, cond_true, Option.some.injEq] at h
      simp only [Bool.and_eq_true, Nat.ble_eq] at hc
      subst h
      obtain ⟨ob, ho, vs, sp, fz, hv, rfl, hz, _⟩ := hr.blk hi hB
      have hlen := hv.length
      have hn := (hv.drop o).take (m * k)
      have hcs : w.rangeAt b o ((vs.drop o).take (m * k)) := by
        have := cells_range ho (o := o) (k := m * k) (by simp; omega)
        rwa [List.drop_append_of_le_length (by omega), List.take_append_of_le_length (by simp; omega)] at this
      have hl : ((vs.drop o).take (m * k)).length = m * k := by simp; omega
      refine ⟨_, hn, hl, ?_⟩
      have hl2 := run_loadCells_list (P := P) w ⟨b, o, none⟩ ((vs.drop o).take (m * k)) (fun j u hu => by rw [Addr.add_mid]; exact hcs j u hu)
      rw [hl] at hl2
      exact hl2
  unfold takeA at h
  split at h
  · cases hx with
    | sl _ _ _ hi =>
      split at h
      · rename_i hB; exact part hi hB h
      · cases h
  · cases hx with
    | su _ _ _ _ hi hn =>
      split at h
      · rename_i hB; exact part hi hB h
      · cases h
  · cases hx
    rw [beq_dec] at h
    by_cases hm : m = 0
    · subst hm
      simp at h; subst h
      exact ⟨[], .nil, by simp, by simp [Builtin.firstCells, loadCells, loadCellsFrom]⟩
    · simp [hm] at h
  · cases hx
    rw [beq_dec] at h
    by_cases hm : m = 0
    · subst hm
      simp at h; subst h
      exact ⟨[], .nil, by simp, by simp [Builtin.firstCells]⟩
    · simp [hm] at h
  · cases h

/-- The cells of a slice written over, from its head. -/
def writeA (x : AV) (c : List AV) (H : Tr AB) : Option (Tr AB) :=
  match c with
  | [] => some H
  | _ =>
    match x with
    | .sl i o _ _ => match H.get i with
      | some (.mem T z l) => cond (Nat.ble (o + c.length) l.length && c.all oneA) (some (tput H i (.mem T z (spliceA l o c)))) none
      | _ => none
    | .su i o _ _ _ => match H.get i with
      | some (.mem T z l) => cond (Nat.ble (o + c.length) l.length && c.all oneA) (some (tput H i (.mem T z (spliceA l o c)))) none
      | _ => none
    | _ => none
theorem writeA_sound {P : Program} {w0 : Bs} {w : World} {ρ : Env} {H H' : Tr AB} {n : Nat} (hr : HR w0 ρ H n w) {x : AV} {c : List AV} {cs : List Value} {a : Addr} {m q : Nat} (h : writeA x c H = some H') (hx : VR ρ x (.slice (some a) m q)) (hc : VRs ρ c cs) :
    ∃ w', (storeCells a cs).run P w = .ok () w' ∧ HR w0 ρ H' n w' ∧ Ext ρ ρ H H' n n := by
  have part : ∀ {i o b : Nat} {T : TypeId} {z : Option Nat} {l : List AV} {cc : Nat}, ρ i = some (b, cc) → H.get i = some (.mem T z l) →
      (cond (Nat.ble (o + c.length) l.length && c.all oneA) (some (tput H i (.mem T z (spliceA l o c)))) none = some H') → ∃ w', (storeCells ⟨b, o, none⟩ cs).run P w = .ok () w' ∧ HR w0 ρ H' n w' ∧ Ext ρ ρ H H' n n := by
    intro i o b T z l cc hi hB h
    cases hq : (Nat.ble (o + c.length) l.length && c.all oneA) with
    | false => simp [hq] at h
    | true =>
      simp only [hq, cond_true, Option.some.injEq] at h
      simp only [Bool.and_eq_true, Nat.ble_eq] at hq
      subst h
      obtain ⟨ht, hr'⟩ := hr.splice hi hB hq.1 hc
      have := run_storeCells_cells (P := P) b o cs 0 w (fun j hj => by simpa using (ht j hj).1) (fun j hj => by simpa using (ht j hj).2) (oneA_VRs hq.2 hc)
      exact ⟨_, by simpa using this, hr', Ext.write hi _⟩
  unfold writeA at h
  split at h
  · simp at h; subst h
    cases hc
    exact ⟨w, rfl, hr, Ext.refl _ _ _⟩
  · split at h
    · cases hx with
      | sl _ _ _ hi =>
        split at h
        · rename_i hB; exact part hi hB h
        · cases h
    · cases hx with
      | su _ _ _ _ hi hn =>
        split at h
        · rename_i hB; exact part hi hB h
        · cases h
    · cases h

def copyA (P : Program) (t : TypeId) (d s : AV) (H : Tr AB) : Option (AV × Tr AB) :=
  match P.underlying t with
  | some (.slice e) =>
    match P.info? e, slen d, slen s with
    | some inf, some dl, some sn =>
      let m := cond (Nat.ble sn dl) sn dl
      match takeA inf.size m s H with
      | some c => match d with
        | .v (.slice none 0 _) => some (.v (.int .i64 m), H)
        | _ => match writeA d c H with
          | some H' => some (.v (.int .i64 m), H')
          | none => none
      | none => none
    | _, _, _ => none
  | _ => none
theorem min_cond (a b : Nat) : Nat.min a b = cond (Nat.ble a b) a b := by
  show min a b = _
  cases h : Nat.ble a b with
  | true => have := Nat.le_of_ble_eq_true h; simp; omega
  | false =>
    have : b ≤ a := by
      rcases Nat.lt_or_ge a b with h' | h'
      · rw [Nat.ble_eq_true_of_le (Nat.le_of_lt h')] at h; cases h
      · exact h'
    simp; omega
theorem copyA_sound {P : Program} {w0 : Bs} {w : World} {ρ : Env} {H H' : Tr AB} {n : Nat} (hr : HR w0 ρ H n w) {t tx ty : TypeId} {d s y : AV} {du su : Value} (h : copyA P t d s H = some (y, H')) (hd : VR ρ d du) (hs : VR ρ s su) :
    ∃ v w', (Builtin.copy_ #[t, tx] ty #[du, su]).run P w = .ok v w' ∧ VR ρ y v ∧ HR w0 ρ H' n w' ∧ Ext ρ ρ H H' n n := by
  unfold copyA at h
  split at h
  · rename_i e hu
    cases hinf : P.info? e with
    | none => simp [hinf] at h
    | some inf =>
    cases hdl : slen d with
    | none => simp [hinf, hdl] at h
    | some dl =>
    cases hsn : slen s with
    | none => simp [hinf, hdl, hsn] at h
    | some sn =>
      simp only [hinf, hdl, hsn] at h
      obtain ⟨hl1, ad, ca, rfl⟩ := slen_sound (P := P) hdl hd w
      obtain ⟨hl2, as', cs', rfl⟩ := slen_sound (P := P) hsn hs w
      cases ht : takeA inf.size (cond (Nat.ble sn dl) sn dl) s H with
      | none => simp [ht] at h
      | some c =>
        simp only [ht] at h
        obtain ⟨us, hus, hul, hrun⟩ := takeA_sound (P := P) hr ht hs
        have hcopy : ∀ ad : Option Addr, (Builtin.copy_ #[t, tx] ty #[.slice ad dl ca, .slice as' sn cs']).run P w = (match ad with
            | none => .ok (goInt (cond (Nat.ble sn dl) sn dl : Nat)) w
            | some a => ((storeCells a us).run P w).andThen fun _ w' => .ok (goInt (cond (Nat.ble sn dl) sn dl : Nat)) w') := by
          intro ad
          unfold Builtin.copy_
          cases ad <;> simp [run_underlying hu, hl2, min_cond, run_sizeOf hinf, hrun]
        rw [hcopy]
        split at h
        · simp at h
          obtain ⟨rfl, rfl⟩ := h
          cases hd
          exact ⟨_, w, rfl, .v _, hr, Ext.refl _ _ _⟩
        · split at h
          · rename_i hne _ H2 hw
            simp at h
            obtain ⟨rfl, rfl⟩ := h
            have hsome : ∃ a, ad = some a := by
              rcases slen_base hdl hd with ⟨_, c', e⟩ | h
              · exact absurd e (hne _)
              · exact h
            obtain ⟨a, rfl⟩ := hsome
            obtain ⟨w', h1, h2, h3⟩ := writeA_sound (P := P) hr hw hd hus
            refine ⟨_, w', ?_, .v _, h2, h3⟩
            simp only [h1, Result.andThen_ok]
            rfl
          · cases h
  · cases h

def clearA (P : Program) (t : TypeId) (d : AV) (H : Tr AB) : Option (Tr AB) :=
  match P.underlying t with
  | some (.slice e) =>
    match P.info? e, slen d with
    | some inf, some dl => match inf.zero with
      | some z => cond (Nat.beq dl 0) (some H) (writeA d (zerosA (ofV z).cells dl) H)
      | none => none
    | _, _ => none
  | _ => none
theorem clearA_sound {P : Program} {w0 : Bs} {w : World} {ρ : Env} {H H' : Tr AB} {n : Nat} (hr : HR w0 ρ H n w) {t ty : TypeId} {d : AV} {du : Value} (h : clearA P t d H = some H') (hd : VR ρ d du) :
    ∃ w', (Builtin.clear_ #[t] ty #[du]).run P w = .ok (.tuple #[]) w' ∧ HR w0 ρ H' n w' ∧ Ext ρ ρ H H' n n := by
  unfold clearA at h
  split at h
  · rename_i e hu
    cases hinf : P.info? e with
    | none => simp [hinf] at h
    | some inf =>
    cases hdl : slen d with
    | none => simp [hinf, hdl] at h
    | some dl =>
      simp only [hinf, hdl] at h
      cases hz : inf.zero with
      | none => simp [hz] at h
      | some z =>
        simp only [hz] at h
        obtain ⟨_, ad, ca, rfl⟩ := slen_sound (P := P) hdl hd w
        rw [beq_dec] at h
        by_cases h0 : dl = 0
        · subst h0
          simp at h; subst h
          refine ⟨w, ?_, hr, Ext.refl _ _ _⟩
          unfold Builtin.clear_
          cases ad <;> simp [run_underlying hu]
        · simp only [h0, decide_false, cond_false] at h
          have hsome : ∃ a, ad = some a := by
            rcases slen_base hdl hd with ⟨e, _⟩ | h
            · exact absurd e h0
            · exact h
          obtain ⟨a, rfl⟩ := hsome
          obtain ⟨w', h1, h2, h3⟩ := writeA_sound (P := P) hr h hd (zeros_VR (ofV_VR z).cells dl)
          refine ⟨w', ?_, h2, h3⟩
          obtain ⟨m, rfl⟩ : ∃ m, dl = m + 1 := ⟨dl - 1, by omega⟩
          unfold Builtin.clear_
          simp only [List.getElem?_toArray, List.getElem?_cons_zero, Sem.run_bind, run_underlying hu, Result.andThen_ok, run_zeroValue hinf hz, zeroCells_eq, h1, Sem.run_pure]
  · cases h

/-- The operations that turn memory. -/
def aopW0 (P : Program) (T : Tr AV) (o : Oper) (H : Tr AB) (n : Nat) : Option (AV × Tr AB × Nat) :=
  match o.op with
  | .store t a x => match storeA P t (aev T a) (aev T x) H with | some H' => some (.v undef, H', n) | none => none
  | .call ⟨.builtin b, args, ats⟩ =>
    match b, args.toList, ats.toList with
    | .append, [s, x], [t, tx] => appendA P t tx (aev T s) (aev T x) H n
    | .copy, [d, s], [t, _] => match copyA P t (aev T d) (aev T s) H with | some (y, H') => some (y, H', n) | none => none
    | .clear, [d], [t] => match clearA P t (aev T d) H with | some H' => some (.v (.tuple #[]), H', n) | none => none
    | _, _, _ => none
  | _ => none
theorem aopW0_sound {P : Program} {w0 : Bs} {w : World} {ρ : Env} {T : Tr AV} {o : Oper} {H H' : Tr AB} {n n' : Nat} {x : AV} {ev : Operand → Value} (hr : HR w0 ρ H n w) (h : aopW0 P T o H n = some (x, H', n')) (hev : ∀ y ∈ o.op.operands, VR ρ (aev T y) (ev y)) :
    ∃ ρ' v w', ((execOp ev o).run P w = .ok (.value v) w' ∨ (v = undef ∧ (execOp ev o).run P w = .ok .skip w')) ∧ VR ρ' x v ∧ HR w0 ρ' H' n' w' ∧ Ext ρ ρ' H H' n n' := by
  obtain ⟨dst, op, type, pos, after, guard⟩ := o
  cases op <;> simp only [aopW0] at h <;> try (cases h; done)
  case store t a y =>
    split at h
    · rename_i H2 hs
      simp at h
      obtain ⟨rfl, rfl, rfl⟩ := h
      obtain ⟨w', h1, h2, h3⟩ := storeA_sound hr hs (hev a (by simp [Op.operands])) (hev y (by simp [Op.operands]))
      refine ⟨ρ, undef, w', .inr ⟨rfl, ?_⟩, .v _, h2, h3⟩
      unfold execOp
      simp [h1]
    · cases h
  case call c =>
    obtain ⟨callee, args, ats⟩ := c
    cases callee <;> simp only at h <;> try (cases h; done)
    rename_i b
    have hex : execOp ev ⟨dst, .call ⟨.builtin b, args, ats⟩, type, pos, after, guard⟩ = builtin b ats type (args.map fun | .const _ => true | _ => false) (args.map ev) := rfl
    split at h
    · rename_i s y t tx ha ht
      have ha' : args = #[s, y] := Array.toList_inj.1 ha
      have ht' : ats = #[t, tx] := Array.toList_inj.1 ht
      subst ha' ht'
      obtain ⟨ρ', v, w', h1, h2, h3, h4⟩ := appendA_sound (ty := type) hr h (hev s (by simp [Op.operands, Call.operands])) (hev y (by simp [Op.operands, Call.operands]))
      exact ⟨ρ', v, w', .inl (by rw [hex]; simp [builtin, h1]), h2, h3, h4⟩
    · rename_i d s t tx ha ht
      have ha' : args = #[d, s] := Array.toList_inj.1 ha
      have ht' : ats = #[t, tx] := Array.toList_inj.1 ht
      subst ha' ht'
      split at h
      · rename_i y H2 hc
        simp at h
        obtain ⟨rfl, rfl, rfl⟩ := h
        obtain ⟨v, w', h1, h2, h3, h4⟩ := copyA_sound (tx := tx) (ty := type) hr hc (hev d (by simp [Op.operands, Call.operands])) (hev s (by simp [Op.operands, Call.operands]))
        exact ⟨ρ, v, w', .inl (by rw [hex]; simp [builtin, h1]), h2, h3, h4⟩
      · cases h
    · rename_i d t ha ht
      have ha' : args = #[d] := Array.toList_inj.1 ha
      have ht' : ats = #[t] := Array.toList_inj.1 ht
      subst ha' ht'
      split at h
      · rename_i H2 hc
        simp at h
        obtain ⟨rfl, rfl, rfl⟩ := h
        obtain ⟨w', h1, h2, h3⟩ := clearA_sound (ty := type) hr hc (hev d (by simp [Op.operands, Call.operands]))
        exact ⟨ρ, _, w', .inl (by rw [hex]; simp [builtin, h1]), .v _, h2, h3⟩
      · cases h
    · cases h
def aopW (P : Program) (T : Tr AV) (o : Oper) (H : Tr AB) (n : Nat) : Option (AV × Tr AB × Nat) :=
  match aopW0 P T o H n with
  | some r => some r
  | none => aopM P T o H n
theorem aopW_sound {P : Program} {w0 : Bs} {w : World} {ρ : Env} {T : Tr AV} {o : Oper} {H H' : Tr AB} {n n' : Nat} {x : AV} {ev : Operand → Value} (hr : HR w0 ρ H n w) (h : aopW P T o H n = some (x, H', n')) (hev : ∀ y ∈ o.op.operands, VR ρ (aev T y) (ev y)) :
    ∃ ρ' v w', ((execOp ev o).run P w = .ok (.value v) w' ∨ (v = undef ∧ (execOp ev o).run P w = .ok .skip w')) ∧ VR ρ' x v ∧ HR w0 ρ' H' n' w' ∧ Ext ρ ρ' H H' n n' := by
  unfold aopW at h
  split at h
  · rename_i r hr0
    cases h
    exact aopW0_sound hr hr0 hev
  · exact aopM_sound hr h hev
end Go.Proofs.Ytnkjhicokcmmpaa.Ev
