/-
  The small machine's memory, and what it means that it stands for the model's; loads and stores.
-/
import Derived.Test.YtnkjhicokcmmpaaEe
import Derived.Test.YtnkjhicokcmmpaaHeap
import Derived.Deep.MidRow
namespace Go.Proofs.Ytnkjhicokcmmpaa.Ev
open Go Go.RowKit

def tput {α : Type} (t : Tr α) (k : Nat) (v : α) : Tr α := Tr.put (k + 1) t k v
theorem get_tput {α : Type} (t : Tr α) (k : Nat) (v : α) (j : Nat) : (tput t k v).get j = if j = k then some v else t.get j := Tr.get_put _ _ _ _ _ (Nat.lt_succ_self k)

/-- A block. -/
inductive AB where
  | mem (T : TypeId) (z : Option Nat) (l : List AV)
  | loop (st : LoopState) (pd : Option Code) (fn : FuncId) (nt : Nat) (T : Tr AV) (ps : List Tmp) (asg bd : Code) (d : Nat)
  | dfd (b : Bool)
  | map (l : List (Value × AV × Nat)) (c : Nat)
  | dead
def AB.live : AB → Bool
  | .dead => false
  | _ => true
def unfrozen (fz : Nat × Nat) (n : Nat) : Prop := fz = (0, 0) ∨ n ≤ fz.1
theorem unfrozen_zero (n : Nat) : unfrozen (0, 0) n := .inl rfl
/-- A map's entries. -/
inductive ERs (ρ : Env) : List (Value × AV × Nat) → List MapEntry → Prop
  | nil : ERs ρ [] []
  | cons {k u : Value} {x : AV} {b : Nat} {l : List (Value × AV × Nat)} {m : List MapEntry} (h : VR ρ x u) (t : ERs ρ l m) : ERs ρ ((k, x, b) :: l) (⟨k, u, b⟩ :: m)
theorem ERs.mono {ρ ρ' : Env} (hl : ρ.le ρ') {l : List (Value × AV × Nat)} {m : List MapEntry} (h : ERs ρ l m) : ERs ρ' l m := by
  induction h with
  | nil => exact .nil
  | cons h _ ih => exact .cons (h.mono hl) ih
def BR (ρ : Env) (c : Nat) : AB → Obj → Prop
  | .mem T z l, o => ∃ vs sp fz, VRs ρ l vs ∧ o = .cells (vs ++ sp).toArray T fz ∧ unfrozen fz (vs ++ sp).length ∧ (match z with | none => sp = [] | some k => (vs ++ sp).length = c * k ∧ c ≤ maxLen)
  | .loop st pd fn nt T ps asg bd d, o => ∃ ts db dc, TR ρ nt T ts ∧ ρ d = some (db, dc) ∧ o = .loop { state := st, pending := pd, fn := fn, tmps := ts, params := ps.toArray, assign := asg, body := bd, defers := db }
  | .dfd b, o => o = .deferred (if b then some [] else none)
  | .map l k, o => ∃ m, ERs ρ l m ∧ o = .map m.toArray k
  | .dead, _ => True

theorem TR.mono {ρ ρ' : Env} {n : Nat} {T : Tr AV} {ts : Array Value} (h : TR ρ n T ts) (hl : ρ.le ρ') : TR ρ' n T ts := ⟨h.1, fun s => (h.2 s).mono hl⟩
theorem BR.mono {ρ ρ' : Env} {c : Nat} {B : AB} {o : Obj} (h : BR ρ c B o) (hl : ρ.le ρ') : BR ρ' c B o := by
  cases B with
  | mem T z l => obtain ⟨vs, sp, fz, h1, h2⟩ := h; exact ⟨vs, sp, fz, h1.mono hl, h2⟩
  | loop => obtain ⟨ts, db, dc, h1, h2, h3⟩ := h; exact ⟨ts, db, dc, h1.mono hl, hl _ _ h2, h3⟩
  | dfd => exact h
  | map => obtain ⟨m, h1, h2⟩ := h; exact ⟨m, h1.mono hl, h2⟩
  | dead => exact h

/-- A world ahead, and which of its blocks may have names. -/
structure Bs where
  w : World
  S : Nat → Prop
  ρ : Env
structure HR (w0 : Bs) (ρ : Env) (H : Tr AB) (n : Nat) (w : World) : Prop where
  blk : ∀ {i b c : Nat} {B : AB}, ρ i = some (b, c) → H.get i = some B → ∃ o, w.heap[b]? = some o ∧ BR ρ c B o
  inj : ∀ {i j b c d : Nat} {B C : AB}, ρ i = some (b, c) → ρ j = some (b, d) → H.get i = some B → H.get j = some C → B.live = true → C.live = true → i = j
  top : ∀ {i : Nat}, n ≤ i → ρ i = none ∧ H.get i = none
  base : ∀ {i b c : Nat}, ρ i = some (b, c) → (w0.S b ∨ w0.w.heap.size ≤ b) ∧ b < w.heap.size
  fr : Fr w0.S w0.w w
  le : w0.ρ.le ρ

/-- What a step may have turned: nothing that is not named, and only new names are new. -/
structure Ext (ρ ρ' : Env) (H H' : Tr AB) (n n' : Nat) : Prop where
  le : ρ.le ρ'
  old : ∀ {i}, i < n → ρ' i = ρ i
  keep : ∀ {i}, i < n → ρ i = none → H'.get i = H.get i
  nn : n ≤ n'
theorem Ext.refl (ρ : Env) (H : Tr AB) (n : Nat) : Ext ρ ρ H H n n := ⟨ρ.le_refl, fun _ => rfl, fun _ _ => rfl, Nat.le_refl _⟩
theorem Ext.trans {ρ ρ' ρ'' : Env} {H H' H'' : Tr AB} {n n' n'' : Nat} (h : Ext ρ ρ' H H' n n') (k : Ext ρ' ρ'' H' H'' n' n'') : Ext ρ ρ'' H H'' n n'' :=
  ⟨Env.le_trans h.le k.le, fun hi => (k.old (Nat.lt_of_lt_of_le hi h.nn)).trans (h.old hi), fun hi hn => (k.keep (Nat.lt_of_lt_of_le hi h.nn) ((h.old hi).trans hn)).trans (h.keep hi hn), Nat.le_trans h.nn k.nn⟩

def Env.set (ρ : Env) (i : Nat) (b : Nat × Nat) : Env := fun j => if j = i then some b else ρ j
theorem Env.set_same (ρ : Env) (i : Nat) (b : Nat × Nat) : (ρ.set i b) i = some b := by simp [Env.set]
theorem Env.le_set {ρ : Env} {i : Nat} (h : ρ i = none) (b : Nat × Nat) : ρ.le (ρ.set i b) := fun j c hj => by
  unfold Env.set
  split
  · rename_i e; subst e; rw [h] at hj; cases hj
  · exact hj

section
variable {w0 : Bs} {w : World} {ρ : Env} {H : Tr AB} {n : Nat}
/-- A world of which no block has turned. -/
theorem HR.same (h : HR w0 ρ H n w) {w' : World} (hh : w'.heap = w.heap) (hf : Fr No w w') : HR w0 ρ H n w' :=
  ⟨fun h1 h2 => by rw [hh]; exact h.blk h1 h2, h.inj, h.top, fun h1 => by rw [hh]; exact h.base h1, h.fr.thn hf, h.le⟩
/-- A new block that has a name already, which stood for nothing. -/
theorem HR.name (h : HR w0 ρ H n w) {i c : Nat} {B : AB} {o : Obj} (hi : i < n) (hn : ρ i = none) (hB : H.get i = some B) (hb : BR (ρ.set i (w.heap.size, c)) c B o) :
    HR w0 (ρ.set i (w.heap.size, c)) H n (w.alloc o) := by
  have hle : ρ.le (ρ.set i (w.heap.size, c)) := Env.le_set hn _
  refine ⟨fun {j b d C} h1 h2 => ?_, fun {j k b d e C D} h1 h2 h3 h4 h5 h6 => ?_, fun {j} hj => ?_, fun {j b d} h1 => ?_, h.fr.alloc o, Env.le_trans h.le hle⟩
  · unfold Env.set at h1
    split at h1
    · rename_i e
      subst e
      cases h1
      rw [hB] at h2; cases h2
      exact ⟨o, heap_alloc_new w o, hb⟩
    · obtain ⟨o', h3, h4⟩ := h.blk h1 h2
      exact ⟨o', (Below.heap_alloc _ _ _ (h.base h1).2).trans h3, h4.mono hle⟩
  · unfold Env.set at h1 h2
    split at h1 <;> split at h2
    · rename_i e e'; rw [e, e']
    · cases h1; exact absurd (h.base h2).2 (Nat.lt_irrefl _)
    · cases h2; exact absurd (h.base h1).2 (Nat.lt_irrefl _)
    · exact h.inj h1 h2 h3 h4 h5 h6
  · refine ⟨?_, (h.top hj).2⟩
    unfold Env.set
    rw [if_neg (by omega)]
    exact (h.top hj).1
  · unfold Env.set at h1
    split at h1
    · cases h1; exact ⟨.inr h.fr.size, by simp⟩
    · have := h.base h1; exact ⟨this.1, by have := this.2; simp; omega⟩
/-- A new block that has no name yet: it gets the next one. -/
theorem HR.put (h : HR w0 ρ H n w) (B : AB) : HR w0 ρ (tput H n B) (n + 1) w := by
  refine ⟨fun {j b d C} h1 h2 => ?_, fun {j k b d e C D} h1 h2 h3 h4 h5 h6 => ?_, fun {j} hj => ?_, h.base, h.fr, h.le⟩
  · rw [get_tput] at h2
    split at h2
    · rename_i e; subst e; rw [(h.top (Nat.le_refl _)).1] at h1; cases h1
    · exact h.blk h1 h2
  · rw [get_tput] at h3 h4
    split at h3
    · rename_i e; subst e; rw [(h.top (Nat.le_refl _)).1] at h1; cases h1
    · split at h4
      · rename_i e; subst e; rw [(h.top (Nat.le_refl _)).1] at h2; cases h2
      · exact h.inj h1 h2 h3 h4 h5 h6
  · rw [get_tput, if_neg (by omega)]
    exact h.top (by omega)
theorem HR.alloc (h : HR w0 ρ H n w) {c : Nat} {B : AB} {o : Obj} (hb : BR (ρ.set n (w.heap.size, c)) c B o) :
    HR w0 (ρ.set n (w.heap.size, c)) (tput H n B) (n + 1) (w.alloc o) :=
  (h.put B).name (Nat.lt_succ_self _) (h.top (Nat.le_refl _)).1 (by rw [get_tput]; simp) hb
theorem Ext.put (h : HR w0 ρ H n w) (B : AB) : Ext ρ ρ H (tput H n B) n (n + 1) :=
  ⟨ρ.le_refl, fun _ => rfl, fun {i} hi _ => by rw [get_tput, if_neg (by omega)], Nat.le_succ _⟩
theorem Ext.alloc (h : HR w0 ρ H n w) (B : AB) (b : Nat × Nat) : Ext ρ (ρ.set n b) H (tput H n B) n (n + 1) :=
  ⟨Env.le_set (h.top (Nat.le_refl _)).1 _, fun {i} hi => by unfold Env.set; rw [if_neg (by omega)], fun {i} hi _ => by rw [get_tput, if_neg (by omega)], Nat.le_succ _⟩
/-- A block that has turned. -/
theorem HR.write (h : HR w0 ρ H n w) {i b c : Nat} {B B' : AB} {o : Obj} {w' : World} (hi : ρ i = some (b, c)) (hB : H.get i = some B) (hl : B.live = true) (ho : w'.heap[b]? = some o) (hb : BR ρ c B' o)
    (hf : Fr (fun k => k = b) w w') : HR w0 ρ (tput H i B') n w' := by
  have hin : i < n := by
    rcases Nat.lt_or_ge i n with h' | h'
    · exact h'
    · rw [(h.top h').1] at hi; cases hi
  refine ⟨fun {j b' d C} h1 h2 => ?_, fun {j k b' d e C D} h1 h2 h3 h4 h5 h6 => ?_, fun {j} hj => ?_, fun {j b' d} h1 => ?_, ?_, h.le⟩
  · rw [get_tput] at h2
    split at h2
    · rename_i e; subst e
      rw [hi] at h1; cases h1; cases h2
      exact ⟨o, ho, hb⟩
    · rename_i e
      by_cases hbb : b' = b
      · subst hbb
        cases hC : C.live with
        | true => exact absurd (h.inj h1 hi h2 hB hC hl) e
        | false =>
          cases C <;> simp [AB.live] at hC
          exact ⟨o, ho, trivial⟩
      · obtain ⟨o', h3, h4⟩ := h.blk h1 h2
        exact ⟨o', (hf.block _ (h.base h1).2 hbb).trans h3, h4⟩
  · rw [get_tput] at h3 h4
    split at h3 <;> split at h4
    · rename_i e e'; rw [e, e']
    · rename_i e e'; subst e; exact h.inj h1 h2 hB h4 hl h6
    · rename_i e e'; subst e'; exact h.inj h1 h2 h3 hB h5 hl
    · exact h.inj h1 h2 h3 h4 h5 h6
  · rw [get_tput, if_neg (by omega)]
    exact h.top hj
  · have := h.base h1; exact ⟨this.1, Nat.lt_of_lt_of_le this.2 hf.size⟩
  · refine ⟨hf.os.trans h.fr.os, hf.tape.trans h.fr.tape, hf.output.trans h.fr.output, Nat.le_trans h.fr.size hf.size, fun k hk hnS => ?_⟩
    have hkb : k ≠ b := fun e => by
      rcases (h.base hi).1 with q | q
      · exact hnS (by rw [e]; exact q)
      · omega
    exact (hf.block k (Nat.lt_of_lt_of_le hk h.fr.size) hkb).trans (h.fr.block k hk hnS)
theorem Ext.write {i : Nat} {b : Nat × Nat} (hi : ρ i = some b) (B : AB) : Ext ρ ρ H (tput H i B) n n :=
  ⟨ρ.le_refl, fun _ => rfl, fun {j} _ hj => by rw [get_tput, if_neg (fun e => by subst e; rw [hi] at hj; cases hj)], Nat.le_refl _⟩
end

/-- Memory that answers the same. -/
theorem HR.congr {w0 : Bs} {w : World} {ρ : Env} {H H' : Tr AB} {n : Nat} (h : HR w0 ρ H n w) (hg : ∀ j, H'.get j = H.get j) : HR w0 ρ H' n w :=
  ⟨fun h1 h2 => h.blk h1 (by rwa [hg] at h2), fun h1 h2 h3 h4 => h.inj h1 h2 (by rwa [hg] at h3) (by rwa [hg] at h4), fun hi => ⟨(h.top hi).1, by rw [hg]; exact (h.top hi).2⟩, h.base, h.fr, h.le⟩
/-- A block that has turned in the model alone. -/
theorem HR.touch {w0 : Bs} {w w' : World} {ρ : Env} {H : Tr AB} {n i b c : Nat} {B : AB} {o : Obj} (h : HR w0 ρ H n w) (hi : ρ i = some (b, c)) (hB : H.get i = some B) (hl : B.live = true) (ho : w'.heap[b]? = some o) (hb : BR ρ c B o)
    (hf : Fr (fun k => k = b) w w') : HR w0 ρ H n w' :=
  (h.write hi hB hl ho hb hf).congr fun j => by
    rw [get_tput]
    split
    · rename_i e; rw [e]; exact hB
    · rfl
/-- A world of which no elder block has turned. -/
theorem HR.old {w0 : Bs} {w w' : World} {ρ : Env} {H : Tr AB} {n : Nat} (h : HR w0 ρ H n w) (hf : Fr No w w') : HR w0 ρ H n w' :=
  ⟨fun h1 h2 => by
    obtain ⟨o, h3, h4⟩ := h.blk h1 h2
    exact ⟨o, (hf.block _ (h.base h1).2 (No.no _)).trans h3, h4⟩, h.inj, h.top, fun h1 => ⟨(h.base h1).1, Nat.lt_of_lt_of_le (h.base h1).2 hf.size⟩, h.fr.thn hf, h.le⟩

/-! Cells of a block. -/
section
variable {w : World} {b : Nat} {T : TypeId} {L : List Value} {fz : Nat × Nat}
theorem cells_cell (hb : w.heap[b]? = some (.cells L.toArray T fz)) (j : Nat) : w.cell? ⟨b, j, none⟩ = L[j]? := by
  simp [World.cell?, hb]
theorem cells_range (hb : w.heap[b]? = some (.cells L.toArray T fz)) {o k : Nat} (h : o + k ≤ L.length) : w.rangeAt b o ((L.drop o).take k) := fun j v hv => by
  rw [cells_cell hb]
  have hj : j < k := by
    rcases Nat.lt_or_ge j k with h' | h'
    · exact h'
    · rw [List.getElem?_eq_none (by simp; omega)] at hv; cases hv
  rw [List.getElem?_take, if_pos hj, List.getElem?_drop] at hv
  exact hv
theorem cells_there (hb : w.heap[b]? = some (.cells L.toArray T fz)) (hz : unfrozen fz L.length) {o k : Nat} (h : o + k ≤ L.length) : w.there b o k := fun j hj => by
  refine ⟨by rw [cells_cell hb]; simp; omega, ?_⟩
  rcases hz with rfl | hz
  · simp [World.frozen?, hb]
  · obtain ⟨lo, hi⟩ := fz
    have hz' : L.length ≤ lo := hz
    simp [World.frozen?, hb]
    omega
theorem cells_setCell (hb : w.heap[b]? = some (.cells L.toArray T fz)) (j : Nat) (v : Value) : (w.setCell ⟨b, j, none⟩ v).heap[b]? = some (.cells (L.set j v).toArray T fz) := by
  unfold World.setCell
  rw [Array.getElem?_modify]
  simp [hb]
theorem cells_setCells : ∀ (vs : List Value) {w : World} {L : List Value} (o : Nat), w.heap[b]? = some (.cells L.toArray T fz) → o + vs.length ≤ L.length →
    (w.setCells b o vs).heap[b]? = some (.cells (L.take o ++ vs ++ L.drop (o + vs.length)).toArray T fz)
  | [], w, L, o, hb, _ => by simpa [World.setCells] using hb
  | v :: vs, w, L, o, hb, h => by
    have := cells_setCells vs (o + 1) (cells_setCell hb o v) (by simp at h ⊢; omega)
    rw [World.setCells, this, splice_step _ _ _ _ (by simpa using h)]
theorem fr_setCells : ∀ (vs : List Value) (w : World) (o : Nat), Fr (fun k => k = b) w (w.setCells b o vs)
  | [], w, o => Fr.refl _ _
  | v :: vs, w, o => by
    rw [World.setCells]
    exact ((Fr.refl (fun k => k = b) w).setCell (p := ⟨b, o, none⟩) (.inl rfl) v).trans (fr_setCells vs _ (o + 1)) (fun _ hx => .inl hx)
end

def oneA : AV → Bool
  | .agg _ => false
  | .tup _ => false
  | .v x => x.oneCell'
  | _ => true
theorem oneA_VR {ρ : Env} {x : AV} {u : Value} (h : oneA x = true) (hx : VR ρ x u) : u.oneCell' = true := by
  cases hx <;> first | exact h | rfl | (simp [oneA] at h)
theorem oneA_VRs {ρ : Env} : ∀ {l : List AV} {vs : List Value}, l.all oneA = true → VRs ρ l vs → ∀ v ∈ vs, v.oneCell' = true
  | [], _, _, h => by cases h; simp
  | x :: l, _, ha, h => by
    cases h with
    | cons e t =>
      simp only [List.all_cons, Bool.and_eq_true] at ha
      intro v hv
      cases hv with
      | head => exact oneA_VR ha.1 e
      | tail _ hv => exact oneA_VRs ha.2 t v hv

/-- A load. -/
def loadA (P : Program) (t : TypeId) (x : AV) (H : Tr AB) : Option AV :=
  match x with
  | .ptr i o => match H.get i with
    | some (.mem _ _ l) => partA P t l o
    | _ => none
  | _ => none
theorem loadA_sound {P : Program} {w0 : Bs} {w : World} {ρ : Env} {H : Tr AB} {n : Nat} (hr : HR w0 ρ H n w) {t : TypeId} {x y : AV} {u : Value} (h : loadA P t x H = some y) (hx : VR ρ x u) :
    ∃ v, VR ρ y v ∧ (Instr.loadAt t u).run P w = .ok v w := by
  unfold loadA at h
  split at h
  · rename_i i o
    cases hx with
    | ptr _ hi =>
      rename_i b c
      split at h
      · rename_i T z l hB
        obtain ⟨ob, ho, vs, sp, fz, hv, rfl, hz, _⟩ := hr.blk hi hB
        have hlen := hv.length
        unfold partA at h
        cases hd : P.underlying t with
        | none => simp [hd] at h
        | some d =>
          simp only [hd] at h
          cases hb : aggB d with
          | true =>
            simp only [hb, cond_true] at h
            cases hi' : P.info? t with
            | none => simp [hi'] at h
            | some inf =>
              simp only [hi'] at h
              cases hc : Nat.ble (o + inf.size) l.length with
              | false => simp [hc] at h
              | true =>
                simp only [hc, cond_true, Option.some.injEq] at h
                subst h
                have hle : o + inf.size ≤ l.length := Nat.le_of_ble_eq_true hc
                refine ⟨_, .agg ((hv.drop o).take inf.size), ?_⟩
                have hcs : w.rangeAt b o ((vs.drop o).take inf.size) := by
                  have := cells_range ho (o := o) (k := inf.size) (by simp; omega)
                  rwa [List.drop_append_of_le_length (by omega), List.take_append_of_le_length (by simp; omega)] at this
                refine run_loadAt_mid w b o t _ d hcs hd (by cases d <;> simp_all [aggB]) (by simp [hi']; omega)
          | false =>
            simp only [hb, cond_false] at h
            obtain ⟨v, hv', hx⟩ := hv.get h
            refine ⟨v, hx, ?_⟩
            have : w.cell? ⟨b, o, none⟩ = some v := by
              rw [cells_cell ho, List.getElem?_append_left (List.getElem?_eq_some_iff.1 hv').1]; exact hv'
            unfold Instr.loadAt loadVar
            simp [Instr.sureAddr, run_isAgg hd, hb, this]
      · cases h
  · cases h

def spliceA (l : List AV) (o : Nat) (c : List AV) : List AV := l.take o ++ c ++ l.drop (o + c.length)
/-- A store. -/
def storeA (P : Program) (t : TypeId) (x v : AV) (H : Tr AB) : Option (Tr AB) :=
  match x with
  | .ptr i o => match H.get i with
    | some (.mem T z l) =>
      let c := v.cells
      match P.info? t with
      | some inf => cond (Nat.beq c.length inf.size && Nat.ble (o + c.length) l.length && c.all oneA) (some (tput H i (.mem T z (spliceA l o c)))) none
      | none => none
    | _ => none
  | _ => none
/-- Cells written into a block. -/
theorem HR.splice {w0 : Bs} {w : World} {ρ : Env} {H : Tr AB} {n : Nat} (hr : HR w0 ρ H n w) {i b c o : Nat} {T : TypeId} {z : Option Nat} {l cs : List AV} {us : List Value} (hi : ρ i = some (b, c)) (hB : H.get i = some (.mem T z l))
    (hle : o + cs.length ≤ l.length) (hc : VRs ρ cs us) : w.there b o us.length ∧ HR w0 ρ (tput H i (.mem T z (spliceA l o cs))) n (w.setCells b o us) := by
  obtain ⟨ob, ho, vs, sp, fz, hv, rfl, hz, hs⟩ := hr.blk hi hB
  have hlen := hv.length
  have hcl := hc.length
  refine ⟨cells_there ho hz (by simp; omega), ?_⟩
  refine hr.write hi hB rfl (cells_setCells us o ho (by simp; omega)) ⟨vs.take o ++ us ++ vs.drop (o + us.length), sp, fz, ?_, ?_, ?_, ?_⟩ (fr_setCells us w o)
  · unfold spliceA
    rw [hcl]
    exact ((hv.take o).append hc).append (hv.drop _)
  · rw [List.take_append_of_le_length (by omega), List.drop_append_of_le_length (by omega)]
    simp
  · have : (vs.take o ++ us ++ vs.drop (o + us.length) ++ sp).length = (vs ++ sp).length := by simp; omega
    rw [this]; exact hz
  · cases z with
    | none => exact hs
    | some k =>
      have : (vs.take o ++ us ++ vs.drop (o + us.length) ++ sp).length = (vs ++ sp).length := by simp; omega
      simp only [this]; exact hs
theorem storeA_sound {P : Program} {w0 : Bs} {w : World} {ρ : Env} {H H' : Tr AB} {n : Nat} (hr : HR w0 ρ H n w) {t : TypeId} {x v : AV} {u a : Value} (h : storeA P t x v H = some H') (hx : VR ρ x u) (hv : VR ρ v a) :
    ∃ w', (Instr.storeAt t u a).run P w = .ok () w' ∧ HR w0 ρ H' n w' ∧ Ext ρ ρ H H' n n := by
  unfold storeA at h
  split at h
  · rename_i i o
    cases hx with
    | ptr _ hi =>
      rename_i b c
      split at h
      · rename_i T z l hB
        split at h
        · rename_i inf hinf
          cases hc : (Nat.beq v.cells.length inf.size && Nat.ble (o + v.cells.length) l.length && v.cells.all oneA) with
          | false => simp [hc] at h
          | true =>
            simp only [hc, cond_true, Option.some.injEq] at h
            simp only [Bool.and_eq_true, Nat.beq_eq, Nat.ble_eq] at hc
            subst h
            have hvc := hv.cells
            obtain ⟨ht, hr'⟩ := hr.splice hi hB hc.1.2 hvc
            refine ⟨_, ?_, hr', Ext.write hi _⟩
            have := run_storeVar_mid (P := P) w b o t a.cells (by simpa using ht) (by simp [hinf, ← hc.1.1, hvc.length]) (by
              rw [Array.all_eq_true_iff_forall_mem]
              intro q hq
              exact oneA_VRs hc.2 hvc q (by simpa using hq))
            unfold Instr.storeAt
            simp only [Instr.sureAddr, Sem.run_bind, Sem.run_pure, Result.andThen_ok]
            have e : storeVar t ⟨b, o, none⟩ a = storeVar t ⟨b, o, none⟩ (.agg a.cells) := by unfold storeVar; rfl
            rw [e, this]
        · cases h
      · cases h
  · cases h

end Go.Proofs.Ytnkjhicokcmmpaa.Ev
