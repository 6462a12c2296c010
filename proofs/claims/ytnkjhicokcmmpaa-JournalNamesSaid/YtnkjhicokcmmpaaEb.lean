/-
  Operations that only reckon: what the small machine makes of them is what the model makes.
-/
import Derived.Test.YtnkjhicokcmmpaaEa
import Derived.Laws.Slices
import Derived.WalkKit
import Derived.Laws.Tables
namespace Go.Proofs.Ytnkjhicokcmmpaa.Ev
open Go

section basics
variable {P : Program} {w : World}
theorem run_underlying {t : TypeId} {d : TypeDesc} (h : P.underlying t = some d) : (underlying t).run P w = .ok d w := by
  unfold underlying; simp [h]
theorem run_typeInfo {t : TypeId} {i : TypeInfo} (h : P.info? t = some i) : (typeInfo t).run P w = .ok i w := by
  unfold typeInfo; simp [h]
theorem run_sizeOf {t : TypeId} {i : TypeInfo} (h : P.info? t = some i) : (sizeOf t).run P w = .ok i.size w := by
  unfold sizeOf; simp [run_typeInfo h]
theorem run_zeroValue {t : TypeId} {i : TypeInfo} {z : Value} (h : P.info? t = some i) (hz : i.zero = some z) : (zeroValue t).run P w = .ok z w := by
  unfold zeroValue; simp [run_typeInfo h, hz]
def aggB (d : TypeDesc) : Bool := match d with | .struct _ => true | .array _ _ => true | _ => false
theorem run_isAgg {t : TypeId} {d : TypeDesc} (h : P.underlying t = some d) : (isAgg t).run P w = .ok (aggB d) w := by
  unfold isAgg; simp [run_underlying h]; cases d <;> rfl
end basics

/-- A computation that asks for nothing but the program. -/
def pureRun (P : Program) {α : Type} : Sem α → Option α
  | .pure a => some a
  | .program k => pureRun P (k P)
  | _ => none
theorem pureRun_run {P : Program} {α : Type} : ∀ {s : Sem α} {a : α} (w : World), pureRun P s = some a → s.run P w = .ok a w
  | .pure a, b, w, h => by simp [pureRun] at h; subst h; rfl
  | .program k, b, w, h => by
    have := pureRun_run (s := k P) w (by simpa [pureRun] using h)
    simpa [Sem.run] using this
  | .load .., _, _, h => by simp [pureRun] at h
  | .store .., _, _, h => by simp [pureRun] at h
  | .new .., _, _, h => by simp [pureRun] at h
  | .shape .., _, _, h => by simp [pureRun] at h
  | .freeze .., _, _, h => by simp [pureRun] at h
  | .frozen .., _, _, h => by simp [pureRun] at h
  | .getObj .., _, _, h => by simp [pureRun] at h
  | .setObj .., _, _, h => by simp [pureRun] at h
  | .choose .., _, _, h => by simp [pureRun] at h
  | .sys .., _, _, h => by simp [pureRun] at h
  | .mark .., _, _, h => by simp [pureRun] at h
  | .halt .., _, _, h => by simp [pureRun] at h

def partA (P : Program) (t : TypeId) (l : List AV) (off : Nat) : Option AV :=
  match P.underlying t with
  | some d => cond (aggB d) (match P.info? t with | some i => cond (Nat.ble (off + i.size) l.length) (some (.agg ((l.drop off).take i.size))) none | none => none) (l[off]?)
  | none => none
theorem partA_sound {P : Program} {ρ : Env} {t : TypeId} {l : List AV} {vs : List Value} {off : Nat} {x : AV} (h : partA P t l off = some x) (hv : VRs ρ l vs) :
    ∃ u, VR ρ x u ∧ ∀ w, (part t vs.toArray off).run P w = .ok u w := by
  unfold partA at h
  cases hd : P.underlying t with
  | none => simp [hd] at h
  | some d =>
    simp only [hd] at h
    cases hb : aggB d with
    | true =>
      simp only [hb, cond_true] at h
      cases hi : P.info? t with
      | none => simp [hi] at h
      | some i =>
        simp only [hi] at h
        cases hc : Nat.ble (off + i.size) l.length with
        | false => simp [hc] at h
        | true =>
          simp [hc] at h
          subst h
          refine ⟨_, .agg ((hv.drop off).take i.size), fun w => ?_⟩
          unfold part
          simp [run_isAgg hd, hb, run_sizeOf hi, List.extract_eq_take_drop]
    | false =>
      simp only [hb, cond_false] at h
      obtain ⟨u, hu, hx⟩ := hv.get h
      refine ⟨u, hx, fun w => ?_⟩
      unfold part
      simp [run_isAgg hd, hb, hu]

/-- Where each part goes. -/
def fillA (place : Nat → Option (Nat × Nat)) (cells : List AV) : List (Nat × AV) → Option (List AV)
  | [] => some cells
  | (i, x) :: rest =>
    match place i with
    | none => none
    | some (off, size) =>
      let c := x.cells
      cond (Nat.beq c.length size && Nat.ble (off + c.length) cells.length) (fillA place (cells.take off ++ c ++ cells.drop (off + c.length)) rest) none
theorem setAll (l c : List Value) : ∀ (off : Nat), off + c.length ≤ l.length → (c.toArray.zipIdx.foldl (fun cs (p : Value × Nat) => cs.setIfInBounds (off + p.2) p.1) l.toArray).toList = l.take off ++ c ++ l.drop (off + c.length) := by
  intro off h
  suffices H : ∀ (c : List Value) (k : Nat) (l : List Value), off + k + c.length ≤ l.length → ((c.zipIdx k).foldl (fun (cs : Array Value) (p : Value × Nat) => cs.setIfInBounds (off + p.2) p.1) l.toArray).toList = l.take (off + k) ++ c ++ l.drop (off + k + c.length) by
    have := H c 0 l (by simpa using h)
    simpa using this
  intro c
  induction c with
  | nil => intro k l h; simp
  | cons x c ih =>
    intro k l h
    simp only [List.zipIdx_cons, List.foldl_cons, List.setIfInBounds_toArray]
    have h' : off + (k + 1) + c.length ≤ (l.set (off + k) x).length := by simp at h ⊢; omega
    rw [ih (k + 1) (l.set (off + k) x) h']
    have e1 : (l.set (off + k) x).take (off + (k + 1)) = l.take (off + k) ++ [x] := by
      have hlt : off + k < l.length := by simp at h; omega
      rw [show off + (k + 1) = off + k + 1 by omega, List.take_succ_eq_append_getElem (by simpa using hlt), List.take_set_of_le (Nat.le_refl _)]
      simp
    have e2 : (l.set (off + k) x).drop (off + (k + 1) + c.length) = l.drop (off + k + (x :: c).length) := by
      rw [List.drop_set_of_lt (by omega)]
      congr 1
      simp; omega
    rw [e1, e2]
    simp
theorem fillA_sound {ρ : Env} {place : Nat → Option (Nat × Nat)} : ∀ {ps : List (Nat × AV)} {qs : List (Nat × Value)} {l r : List AV} {vs : List Value}, fillA place l ps = some r → VRs ρ l vs →
    qs.map Prod.fst = ps.map Prod.fst → VRs ρ (ps.map Prod.snd) (qs.map Prod.snd) → ∃ us, VRs ρ r us ∧ Instr.fill place vs.toArray qs = some us.toArray := by
  intro ps
  induction ps with
  | nil =>
    intro qs l r vs h hv hq _
    cases qs with
    | nil => simp [fillA] at h; subst h; exact ⟨vs, hv, rfl⟩
    | cons => simp at hq
  | cons p ps ih =>
    intro qs l r vs h hv hq hr
    obtain ⟨i, x⟩ := p
    cases qs with
    | nil => simp at hq
    | cons q qs =>
      obtain ⟨j, u⟩ := q
      simp only [List.map_cons, List.cons.injEq] at hq
      obtain ⟨rfl, hq⟩ := hq
      simp only [List.map_cons] at hr
      cases hr with
      | cons hx hr =>
        simp only [fillA] at h
        cases hp : place j with
        | none => simp [hp] at h
        | some os =>
          obtain ⟨off, size⟩ := os
          simp only [hp] at h
          cases hc : (Nat.beq x.cells.length size && Nat.ble (off + x.cells.length) l.length) with
          | false => simp [hc] at h
          | true =>
            simp only [hc, cond_true] at h
            simp only [Bool.and_eq_true, Nat.beq_eq, Nat.ble_eq] at hc
            have hxc := hx.cells
            have hlc := hxc.length
            have hl := hv.length
            have hv' : VRs ρ (l.take off ++ x.cells ++ l.drop (off + x.cells.length)) (vs.take off ++ u.cells.toList ++ vs.drop (off + u.cells.toList.length)) := by
              rw [hlc]; exact ((hv.take off).append hxc).append (hv.drop _)
            obtain ⟨us, h1, h2⟩ := ih h hv' hq hr
            refine ⟨us, h1, ?_⟩
            have hsz : u.cells.size = size := by rw [← Array.length_toList, ← hlc]; exact hc.1
            have hle : off + u.cells.toList.length ≤ vs.length := by rw [← hlc, ← hl]; exact hc.2
            simp only [Instr.fill, hp, hsz]
            rw [if_neg (by simp; rw [← hsz, ← Array.length_toList]; exact hle)]
            rw [← h2]
            congr 1
            have := setAll vs u.cells.toList off hle
            rw [← this]

/-- Composite literals. -/
def buildA (P : Program) (t : TypeId) (ps : List (Nat × AV)) : Option AV :=
  match P.info? t, P.underlying t with
  | some it, some (.array _ e) =>
    match it.zero, P.info? e with
    | some z, some ie => (fillA (fun i => some (i * ie.size, ie.size)) (ofV z).cells ps).map .agg
    | _, _ => none
  | some it, some (.struct fields) =>
    match it.zero, fields.toList.mapM (fun f => (P.info? f.type).map fun i => (f.offset, i.size)) with
    | some z, some places => (fillA (fun i => places[i]?) (ofV z).cells ps).map .agg
    | _, _ => none
  | _, _ => none
theorem buildA_sound {P : Program} {ρ : Env} {t : TypeId} {ps : List (Nat × AV)} {qs : Array (Nat × Value)} {x : AV} (h : buildA P t ps = some x)
    (hq : qs.toList.map Prod.fst = ps.map Prod.fst) (hr : VRs ρ (ps.map Prod.snd) (qs.toList.map Prod.snd)) : ∃ u, VR ρ x u ∧ ∀ w, (Instr.build t qs).run P w = .ok u w := by
  unfold buildA at h
  cases hit : P.info? t with
  | none => simp [hit] at h
  | some it =>
    cases hu : P.underlying t with
    | none => simp [hit, hu] at h
    | some d =>
      cases d <;> try (simp [hit, hu] at h; done)
      case array n e =>
        cases hz : it.zero with
        | none => simp [hit, hu, hz] at h
        | some z =>
          cases hie : P.info? e with
          | none => simp [hit, hu, hz, hie] at h
          | some ie =>
            simp only [hit, hu, hz, hie, Option.map_eq_some_iff] at h
            obtain ⟨r, h, rfl⟩ := h
            obtain ⟨us, h1, h2⟩ := fillA_sound h (ofV_VR (ρ := ρ) z).cells hq hr
            refine ⟨_, .agg h1, fun w => run_build w t qs _ ?_⟩
            simpa [Program.built, hit, hu, hz, hie] using h2
      case struct fields =>
        cases hz : it.zero with
        | none => simp [hit, hu, hz] at h
        | some z =>
          cases hp : fields.toList.mapM (fun f => (P.info? f.type).map fun i => (f.offset, i.size)) with
          | none => simp [hit, hu, hz, hp] at h
          | some places =>
            simp only [hit, hu, hz, hp, Option.map_eq_some_iff] at h
            obtain ⟨r, h, rfl⟩ := h
            obtain ⟨us, h1, h2⟩ := fillA_sound h (ofV_VR (ρ := ρ) z).cells hq hr
            refine ⟨_, .agg h1, fun w => run_build w t qs _ ?_⟩
            simpa [Program.built, hit, hu, hz, hp] using h2

/-- Bounds of a slice expression. -/
def bndA (y : Nat) : AV → Option Nat
  | .v (.int _ i) => cond (decide (0 ≤ i) && decide (i ≤ y)) (some i.toNat) none
  | _ => none
theorem bndA_sound {P : Program} {ρ : Env} {y : Nat} {x : AV} {u : Value} {r : Nat} (h : bndA y x = some r) (hx : VR ρ x u) : r ≤ y ∧ ∀ c w, (Instr.sliceBound u y c).run P w = .ok r w := by
  unfold bndA at h
  split at h
  · rename_i k i
    cases hx
    cases hc : (decide (0 ≤ i) && decide (i ≤ y)) with
    | false => simp [hc] at h
    | true =>
      simp only [hc, cond_true, Option.some.injEq] at h
      simp only [Bool.and_eq_true, decide_eq_true_eq] at hc
      subst h
      exact ⟨by omega, fun c w => run_sliceBound w k i y c hc.1 hc.2⟩
  · cases h
def optA (y d : Nat) : Option AV → Option Nat
  | none => some d
  | some x => bndA y x
/-- low, high, max; an upper bound's own bound 'hi'. -/
inductive OR (ρ : Env) : Option AV → Option Value → Prop
  | no : OR ρ none none
  | yes {x : AV} {u : Value} (h : VR ρ x u) : OR ρ (some x) (some u)

/-- The slice of a slice or an array. -/
def boundsA (len cap : Nat) (lo hi mx : Option AV) : Option (Nat × Nat × Nat) :=
  match mx with
  | none => match optA cap len hi with
    | some h => match optA h 0 lo with
      | some l => some (l, h, cap)
      | none => none
    | none => none
  | some x => match bndA cap x, hi with
    | some m, some y => match bndA m y with
      | some h => match optA h 0 lo with
        | some l => some (l, h, m)
        | none => none
      | none => none
    | _, _ => none
theorem boundsA_sound {P : Program} {ρ : Env} {len cap : Nat} {lo hi mx : Option AV} {lo' hi' mx' : Option Value} {r : Nat × Nat × Nat} (h : boundsA len cap lo hi mx = some r)
    (h1 : OR ρ lo lo') (h2 : OR ρ hi hi') (h3 : OR ρ mx mx') (b : Bool) : (∀ w, (Instr.sliceBounds b len cap lo' hi' mx').run P w = .ok r w) ∧ (mx = none → r.2.2 = cap) ∧ (len ≤ cap → r.1 ≤ r.2.1 ∧ r.2.1 ≤ r.2.2 ∧ r.2.2 ≤ cap) := by
  unfold boundsA at h
  cases h3 with
  | no =>
    cases h2 with
    | no =>
      simp only [optA] at h
      cases h1 with
      | no => simp [optA] at h; subst h; exact ⟨fun w => by simp [Instr.sliceBounds], fun _ => rfl, fun h => ⟨by simp, h, Nat.le_refl _⟩⟩
      | @yes z v hz =>
        simp only [optA] at h
        cases hl : bndA len z with
        | none => simp [hl] at h
        | some lv =>
          simp [hl] at h; subst h
          have e1 := bndA_sound (P := P) hl hz
          exact ⟨fun w => by simp [Instr.sliceBounds, e1.2], fun _ => rfl, fun h => ⟨e1.1, h, Nat.le_refl _⟩⟩
    | @yes y u hy =>
      simp only [optA] at h
      cases hh : bndA cap y with
      | none => simp [hh] at h
      | some hv =>
        simp only [hh] at h
        have e2 := bndA_sound (P := P) hh hy
        cases h1 with
        | no => simp [optA] at h; subst h; exact ⟨fun w => by simp [Instr.sliceBounds, e2.2], fun _ => rfl, fun h => ⟨by simp, e2.1, Nat.le_refl _⟩⟩
        | @yes z v hz =>
          simp only [optA] at h
          cases hl : bndA hv z with
          | none => simp [hl] at h
          | some lv =>
            simp [hl] at h; subst h
            have e1 := bndA_sound (P := P) hl hz
            exact ⟨fun w => by simp [Instr.sliceBounds, e1.2, e2.2], fun _ => rfl, fun h => ⟨e1.1, e2.1, Nat.le_refl _⟩⟩
  | @yes x u hx =>
    cases hm : bndA cap x with
    | none => simp [hm] at h
    | some m =>
      have e3 := bndA_sound (P := P) hm hx
      cases h2 with
      | no => simp [hm] at h
      | @yes y v hy =>
        simp only [hm] at h
        cases hh : bndA m y with
        | none => simp [hh] at h
        | some hv =>
          simp only [hh] at h
          have e2 := bndA_sound (P := P) hh hy
          cases h1 with
          | no => simp [optA] at h; subst h; exact ⟨fun w => by simp [Instr.sliceBounds, e2.2, e3.2], fun h => by simp at h, fun h => ⟨by simp, e2.1, e3.1⟩⟩
          | @yes z v hz =>
            simp only [optA] at h
            cases hl : bndA hv z with
            | none => simp [hl] at h
            | some lv =>
              simp [hl] at h; subst h
              have e1 := bndA_sound (P := P) hl hz
              exact ⟨fun w => by simp [Instr.sliceBounds, e1.2, e2.2, e3.2], fun h => by simp at h, fun h => ⟨e1.1, e2.1, e3.1⟩⟩

end Go.Proofs.Ytnkjhicokcmmpaa.Ev
