/-
  Contracts as hooks of the small machine: windows of bytes that are read, rows that are new; hooks one beside the other.
-/
import Derived.Test.YtnkjhicokcmmpaaEs
import Derived.Test.YtnkjhicokcmmpaaBytes
namespace Go.Proofs.Ytnkjhicokcmmpaa.Ev
open Go Go.RowKit

/-- A hook beside another one. -/
def hkOr (A B : Hook) : Hook := fun f args H n => match A f args H n with
  | some r => some r
  | none => B f args H n
theorem hkOr_ok {P : Program} {A B : Hook} (hA : HKok P A) (hB : HKok P B) : HKok P (hkOr A B) := by
  intro f args H n x H' n' h
  unfold hkOr at h
  split at h
  · rename_i r hr
    cases h
    exact hA hr
  · exact hB h

/-- The bytes of cells. -/
def u8A : List AV → Option (List UInt8)
  | [] => some []
  | .v (.int .u8 k) :: l => match u8A l with
    | some r => cond (decide (k = ((UInt8.ofNat k.toNat).toNat : Int))) (some (UInt8.ofNat k.toNat :: r)) none
    | none => none
  | _ => none
theorem u8A_sound {ρ : Env} : ∀ {l : List AV} {bs : List UInt8} {us : List Value}, u8A l = some bs → VRs ρ l us → us = bs.map byt
  | [], bs, us, h, hu => by simp [u8A] at h; subst h; cases hu; rfl
  | x :: l, bs, us, h, hu => by
    cases hu with
    | cons e t =>
      unfold u8A at h
      split at h
      · rename_i heq; cases heq
      · rename_i k l' heq
        cases heq
        cases e
        split at h
        · rename_i r hr
          cases hc : decide (k = ((UInt8.ofNat k.toNat).toNat : Int)) with
          | false => rw [hc] at h; cases h
          | true =>
            rw [hc] at h
            simp only [cond_true, Option.some.injEq] at h
            subst h
            have hk := of_decide_eq_true hc
            rw [u8A_sound hr t]
            simp only [List.map_cons, byt]
            rw [← hk]
        · cases h
      · cases h
/-- A slice of bytes: what it reads. -/
def winA (x : AV) (H : Tr AB) : Option (List UInt8) :=
  match x with
  | .v (.slice none 0 0) => some []
  | .sl i o n c => match H.get i with
    | some (.mem _ _ l) => cond (Nat.ble (o + n) l.length && Nat.ble n c && Nat.ble c 1073741824) (u8A ((l.drop o).take n)) none
    | _ => none
  | .su i o n _ _ => match H.get i with
    | some (.mem _ (some _) l) => cond (Nat.ble (o + n) l.length) (u8A ((l.drop o).take n)) none
    | _ => none
  | _ => none
theorem winA_sound {w0 : Bs} {w : World} {ρ : Env} {H : Tr AB} {n : Nat} (hr : HR w0 ρ H n w) {x : AV} {bs : List UInt8} {u : Value} (h : winA x H = some bs) (hx : VR ρ x u) : ∃ a m c, u = .slice a m c ∧ m = bs.length ∧ Win w a m c (bs.map byt) := by
  have part : ∀ {i o m c b cc : Nat} {T : TypeId} {z : Option Nat} {l : List AV}, ρ i = some (b, cc) → H.get i = some (.mem T z l) → o + m ≤ l.length → m ≤ c → c ≤ maxLen → u8A ((l.drop o).take m) = some bs →
      m = bs.length ∧ Win w (some ⟨b, o, none⟩) m c (bs.map byt) := by
    intro i o m c b cc T z l hi hB hle hmc hcm hu
    obtain ⟨ob, ho, vs, sp, fz, hv, rfl, hz, _⟩ := hr.blk hi hB
    have hlen := hv.length
    have hus := u8A_sound hu ((hv.drop o).take m)
    have hml : m = bs.length := by
      have := congrArg List.length hus
      simp at this
      omega
    refine ⟨hml, by simp [hml], hmc, hcm, (fun e => by cases e), fun ad had j v hj => ?_⟩
    cases had
    rw [← hus] at hj
    rw [Addr.add_mid]
    have hcs : w.rangeAt b o ((vs.drop o).take m) := by
      have := cells_range ho (o := o) (k := m) (by simp; omega)
      rwa [List.drop_append_of_le_length (by omega), List.take_append_of_le_length (by simp; omega)] at this
    exact hcs j v hj
  unfold winA at h
  split at h
  · cases h; cases hx
    exact ⟨none, 0, 0, rfl, rfl, Win.nilw w⟩
  · rename_i i o m c
    cases hx with
    | sl _ _ _ hi =>
      split at h
      · rename_i T z l hB
        cases hc : (Nat.ble (o + m) l.length && Nat.ble m c && Nat.ble c 1073741824) with
        | false => simp [hc] at h
        | true =>
          simp only [hc, cond_true] at h
          simp only [Bool.and_eq_true, Nat.ble_eq] at hc
          obtain ⟨h1, h2⟩ := part hi hB hc.1.1 hc.1.2 (by have := hc.2; unfold maxLen; omega) h
          exact ⟨_, _, _, rfl, h1, h2⟩
      · cases h
  · rename_i i o m k q
    cases hx with
    | @su _ b d _ _ _ _ hi hn =>
      split at h
      · rename_i T z l hB
        cases hc : Nat.ble (o + m) l.length with
        | false => simp [hc] at h
        | true =>
          simp only [hc, cond_true] at h
          obtain ⟨ob, ho, vs, sp, fz, hv, _, hz, hq⟩ := hr.blk hi hB
          have hq2 : d ≤ maxLen := hq.2
          obtain ⟨h1, h2⟩ := part (c := d - k) hi hB (Nat.le_of_ble_eq_true hc) (by omega) (by omega) h
          exact ⟨_, _, _, rfl, h1, h2⟩
      · cases h
  · cases h

/-- A new block. -/
theorem HR.newAt {w0 : Bs} {w w' : World} {ρ : Env} {H : Tr AB} {n g c : Nat} {B : AB} {o : Obj} (hr : HR w0 ρ H n w) (hf : Fr No w w') (ho : w'.heap[g]? = some o) (hg : w.heap.size ≤ g) (hb : BR (ρ.set n (g, c)) c B o) :
    HR w0 (ρ.set n (g, c)) (tput H n B) (n + 1) w' ∧ Ext ρ (ρ.set n (g, c)) H (tput H n B) n (n + 1) := by
  have hle : ρ.le (ρ.set n (g, c)) := Env.le_set (hr.top (Nat.le_refl _)).1 _
  have hp := (hr.old hf).put B
  refine ⟨⟨fun {j b d C} q1 q2 => ?_, fun {j i b d e C D} q1 q2 q3 q4 q5 q6 => ?_, fun {j} hj => ?_, fun {j b d} q1 => ?_, hp.fr, Env.le_trans hp.le hle⟩, Ext.alloc hr _ _⟩
  · unfold Env.set at q1
    split at q1
    · rename_i e
      subst e
      cases q1
      rw [get_tput, if_pos rfl] at q2
      cases q2
      exact ⟨_, ho, hb⟩
    · obtain ⟨o', h3, h4⟩ := hp.blk q1 q2
      exact ⟨o', h3, h4.mono hle⟩
  · unfold Env.set at q1 q2
    split at q1 <;> split at q2
    · rename_i e e'; rw [e, e']
    · cases q1; exact absurd (Nat.lt_of_lt_of_le (hr.base q2).2 hg) (Nat.lt_irrefl _)
    · cases q2; exact absurd (Nat.lt_of_lt_of_le (hr.base q1).2 hg) (Nat.lt_irrefl _)
    · exact hp.inj q1 q2 q3 q4 q5 q6
  · have := hp.top hj
    refine ⟨?_, this.2⟩
    unfold Env.set
    rw [if_neg (by omega)]
    exact this.1
  · unfold Env.set at q1
    split at q1
    · cases q1; exact ⟨.inr (Nat.le_trans hr.fr.size hg), (Array.getElem?_eq_some_iff.1 ho).1⟩
    · exact hp.base q1
/-- A new row. -/
theorem HR.newOwn {w0 : Bs} {w w' : World} {ρ : Env} {H : Tr AB} {n g c m k : Nat} {T : TypeId} {l : List AV} {xs : List Value} (hr : HR w0 ρ H n w) (hf : Fr No w w') (ho : Own w' T k (.slice (some ⟨g, 0, none⟩) m c) m xs) (hg : w.heap.size ≤ g) (hx : VRs ρ l xs) :
    HR w0 (ρ.set n (g, c)) (tput H n (.mem T (some k) l)) (n + 1) w' ∧ Ext ρ (ρ.set n (g, c)) H (tput H n (.mem T (some k) l)) n (n + 1) ∧ VR (ρ.set n (g, c)) (.su n 0 m 0 m) (.slice (some ⟨g, 0, none⟩) m c) := by
  obtain ⟨sp, hB, h1, h2, h3, h4⟩ := ho.blk
  obtain ⟨q1, q2⟩ := hr.newAt (c := c) (B := .mem T (some k) l) hf hB hg ⟨xs, sp, (0, 0), hx.mono (Env.le_set (hr.top (Nat.le_refl _)).1 _), rfl, unfrozen_zero _, h2, h4⟩
  exact ⟨q1, q2, VR.su 0 m 0 m (Env.set_same _ _ _) ⟨Nat.le_refl _, by omega⟩⟩

theorem VRs.of_map (l : List Value) {ρ : Env} : VRs ρ (l.map .v) l := VRs.of_vals l
/-- A function that a table knows may be called. -/
theorem hook_call {P : Program} (ht : (P.funcs.toList.all fun fn => !(fn.name == "runtime.NumGoroutine")) = true) {f : FuncId} {fn : Func} (hf : P.funcs[f]? = some fn) (hb : fn.body.isSome = true) (xs : Array Value) (w : World) :
    (callFunc f xs).run P w = .ok (.enter f xs) w := (tab_ok ht).call (show tabOf P f = some fn from hf) hb xs w
/-- Bytes as this machine's cells. -/
def cellsB (bs : List UInt8) : List AV := (bs.map byt).map .v
/-- Nat of an operand of an unsigned kind. -/
def natA (k : IntKind) (lim : Nat) : AV → Option Nat
  | .v (.int j (.ofNat n)) => cond (decide (j = k) && Nat.blt n lim) (some n) none
  | _ => none
theorem natA_sound {ρ : Env} {k : IntKind} {lim m : Nat} {x : AV} {u : Value} (h : natA k lim x = some m) (hx : VR ρ x u) : u = .int k (m : Int) ∧ m < lim := by
  unfold natA at h
  split at h
  · rename_i j n
    cases hx
    cases hc : (decide (j = k) && Nat.blt n lim) with
    | false => simp [hc] at h
    | true =>
      simp only [hc, cond_true, Option.some.injEq] at h
      subst h
      simp only [Bool.and_eq_true, decide_eq_true_eq, Nat.blt_eq] at hc
      rw [hc.1]
      exact ⟨rfl, hc.2⟩
  · cases h

/-- A run on memory of its own: what it answers, and its first block. -/
def newMem : Option (AV × Tr AB × Nat) → Option (AV × AB)
  | some (x, H, _) => match H.get 0 with | some B => some (x, B) | none => none
  | none => none
def runMem (HK : Hook) (P : Program) (f : FuncId) (args : List AV) (k : Nat) : Option (AV × AB) :=
  match startF (tabOf P) f args .e 0 with
  | some s => newMem (finalF P (tabOf P) f (runE HK P (tabOf P) k s))
  | none => none
theorem HR.start (w : World) : HR ⟨w, No, fun _ => none⟩ (fun _ => none) .e 0 w :=
  ⟨fun h => (by cases h), fun h => (by cases h), fun _ => ⟨rfl, rfl⟩, fun h => (by cases h), Fr.refl _ _, Env.le_refl _⟩
theorem calls_of_runMem {P : Program} {HK : Hook} (ht : (P.funcs.toList.all fun fn => !(fn.name == "runtime.NumGoroutine")) = true) (hk : HKok P HK) (hmix : P.follows .mixedOrders = true) {f : FuncId} {args : List AV} {vs : List Value} {k : Nat} {x : AV} {B : AB}
    (hvs : VRs (fun _ => none) args vs) (h : runMem HK P f args k = some (x, B)) (w : World) :
    Calls P f vs.toArray w (fun e w' => ∃ ρ v, e = .returned v ∧ VR ρ x v ∧ Fr No w w' ∧ ∀ b c, ρ 0 = some (b, c) → w.heap.size ≤ b ∧ ∃ o, w'.heap[b]? = some o ∧ BR ρ c B o) := by
  unfold runMem at h
  split at h
  · rename_i s hs
    cases hfin : finalF P (tabOf P) f (runE HK P (tabOf P) k s) with
    | none => rw [hfin] at h; cases h
    | some r =>
      obtain ⟨y, H', n'⟩ := r
      rw [hfin] at h
      simp only [newMem] at h
      cases hg : H'.get 0 with
      | none => rw [hg] at h; cases h
      | some B' =>
        rw [hg] at h
        cases h
        refine (calls_of_runF (tab_ok ht) hk hmix hs k hfin (HR.start w) hvs).mono ?_
        rintro e w' ⟨ρ', v, rfl, hv, hr⟩
        refine ⟨ρ', v, rfl, hv, hr.fr, fun b c hb => ⟨?_, hr.blk hb hg⟩⟩
        rcases (hr.base hb).1 with q | q
        · exact q.elim
        · exact q
  · cases h
theorem VRs.vals_eq {ρ : Env} : ∀ {l us : List Value}, VRs ρ (l.map .v) us → us = l
  | [], us, h => by cases h; rfl
  | x :: l, us, h => by
    cases h with
    | cons e t => cases e; rw [VRs.vals_eq t]
end Go.Proofs.Ytnkjhicokcmmpaa.Ev
