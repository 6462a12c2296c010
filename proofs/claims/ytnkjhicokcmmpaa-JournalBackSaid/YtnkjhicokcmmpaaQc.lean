/-
  Texts of this claim, laid together: Tv, Ld, Da, Tw, Oa, Ob, Range, Oc, Od, Oe, Of, Og, Ca, Seq, Cb, Cc, Cd, Ja, Ra, Rb, Rc, Jb, Rd, Jc, Jd, Re, Je, Open.
-/
import Derived.Test.YtnkjhicokcmmpaaQb
import Derived.Test.YtnkjhicokcmmpaaQa
import Derived.Shelf.SlIterI.Nil
import Derived.Shelf.SortM.Plain
import Derived.Shelf.SortM.SortNone
import Derived.Ground.GgzProg
import Derived.Ground.SlgmProg
import Derived.Test.YtnkjhicokcmmpaaProg
import Derived.Deep.QuietTactic
import Derived.BigQuiet
import Derived.RegionTactic
import Derived.BigRegion
import Derived.Deep.RegionLaw
import Derived.Deep.RegionWith
import Derived.Outline
import Derived.IntWalk
import Derived.RangeFuncNested
import Derived.RangeFuncBound
import Derived.RangeFuncCalls
import Derived.RangeFuncLeaves
import Derived.Shelf.Abstract
import Derived.OwnWalkIn
import Derived.TacticsInMore
import Derived.LoopNIn
import Derived.LoopIn
import Derived.WalkMore
import Derived.Sort.QuietTacIn
import Derived.Sort.BigQuietIn
import Derived.Laws.Bits64b
import Derived.Lib.SmallJoins
import Derived.Deep.RegionHeld3
import Derived.Deep.DeepCutAuto
import Derived.Deep.SlicePairs
import Derived.ProofKit
import Derived.OpenShut
import Derived.Carry

/-
  Contracts as hooks of the small machine: windows of bytes that are read, rows that are new; hooks one beside the other.
-/
namespace Go.Proofs.Ytnkjhicokcmmpaa.Sm
open Go Go.RowKit

/-- A hook that holds. -/
def HKo (P : Program) (K : Hook) : Prop := ∀ {f : FuncId} {args : List AV} {H : Tr AB} {n : Nat} {x : AV} {H' : Tr AB} {n' : Nat}, K f args H n = some (x, H', n') → (∀ xs w, (callFunc f xs).run P w = .ok (.enter f xs) w) ∧
    ∀ {w0 ρ w vs}, HR w0 ρ H n w → VRs ρ args vs → Calls P f vs.toArray w (fun e w' => ∃ ρ' v, e = .returned v ∧ VR ρ' x v ∧ HR w0 ρ' H' n' w' ∧ Ext ρ ρ' H H' n n')
theorem HKo.ok {P : Program} {K : Hook} (h : HKo P K) : HookOk P K := ⟨fun hq => h hq⟩
/-- A closed call by the machine's own run, contracts beside. -/
theorem truth_calls {P : Program} {K : Hook} (hk : HKo P K) (ht : (P.funcs.toList.all fun fn => !(fn.name == "runtime.NumGoroutine")) = true) (hm : P.follows .mixedOrders = true) {f : FuncId} {k : Nat} (h : @truth (hkF K) P (tabOf P) f k = true) (w : World) :
    Calls P f #[] w (fun e w' => e = .returned (.bool true) ∧ Fr No w w') := @calls_of_truth (hkF K) P (tabOf P) (tab_ok ht) (hkF_ok hk.ok) hm f k h w
/-- A hook beside another one. -/
def hkOr (A B : Hook) : Hook := fun f args H n => match A f args H n with
  | some r => some r
  | none => B f args H n
theorem hkOr_ok {P : Program} {A B : Hook} (hA : HKo P A) (hB : HKo P B) : HKo P (hkOr A B) := by
  intro f args H n x H' n' h
  unfold hkOr at h
  split at h
  · rename_i r hr
    cases h
    exact hA hr
  · exact hB h

/-- The bytes of cells. -/
def u8A : List AV → Option (List UInt8)
  | [] => some []
  | .v (.int .u8 k) :: l => match u8A l with
    | some r => cond (decide (k = ((UInt8.ofNat k.toNat).toNat : Int))) (some (UInt8.ofNat k.toNat :: r)) none
    | none => none
  | _ => none
theorem u8A_sound {ρ : Env} : ∀ {l : List AV} {bs : List UInt8} {us : List Value}, u8A l = some bs → VRs ρ l us → us = bs.map byt
  | [], bs, us, h, hu => by simp [u8A] at h; subst h; cases hu; rfl
  | x :: l, bs, us, h, hu => by
    cases hu with
    | cons e t =>
      unfold u8A at h
      split at h
      · rename_i heq; cases heq
      · rename_i k l' heq
        cases heq
        cases e
        split at h
        · rename_i r hr
          cases hc : decide (k = ((UInt8.ofNat k.toNat).toNat : Int)) with
          | false => rw [hc] at h; cases h
          | true =>
            rw [hc] at h
            simp only [cond_true, Option.some.injEq] at h
            subst h
            have hk := of_decide_eq_true hc
            rw [u8A_sound hr t]
            simp only [List.map_cons, byt]
            rw [← hk]
        · cases h
      · cases h
/-- A slice of bytes: what it reads. -/
def winA (x : AV) (H : Tr AB) : Option (List UInt8) :=
  match x with
  | .v (.slice none 0 0) => some []
  | .sl i o n c => match H.get i with
    | some (.mem _ _ l) => cond (Nat.ble (o + n) l.length && Nat.ble n c && Nat.ble c 1073741824) (u8A ((l.drop o).take n)) none
    | _ => none
  | .su i o n _ _ => match H.get i with
    | some (.mem _ (some _) l) => cond (Nat.ble (o + n) l.length) (u8A ((l.drop o).take n)) none
    | _ => none
  | _ => none
theorem winA_sound {w0 : Bs} {w : World} {ρ : Env} {H : Tr AB} {n : Nat} (hr : HR w0 ρ H n w) {x : AV} {bs : List UInt8} {u : Value} (h : winA x H = some bs) (hx : VR ρ x u) : ∃ a m c, u = .slice a m c ∧ m = bs.length ∧ Win w a m c (bs.map byt) := by
  have part : ∀ {i o m c b cc : Nat} {T : TypeId} {z : Option Nat} {l : List AV}, ρ i = some (b, cc) → H.get i = some (.mem T z l) → o + m ≤ l.length → m ≤ c → c ≤ maxLen → u8A ((l.drop o).take m) = some bs →
      m = bs.length ∧ Win w (some ⟨b, o, none⟩) m c (bs.map byt) := by
    intro i o m c b cc T z l hi hB hle hmc hcm hu
    obtain ⟨ob, ho, vs, sp, fz, hv, rfl, hz, _⟩ := hr.blk hi hB
    have hlen := hv.length
    have hus := u8A_sound hu ((hv.drop o).take m)
    have hml : m = bs.length := by
      have := congrArg List.length hus
      simp at this
      omega
    refine ⟨hml, by simp [hml], hmc, hcm, (fun e => by cases e), fun ad had j v hj => ?_⟩
    cases had
    rw [← hus] at hj
    rw [Addr.add_mid]
    have hcs : w.rangeAt b o ((vs.drop o).take m) := by
      have := cells_range ho (o := o) (k := m) (by simp; omega)
      rwa [List.drop_append_of_le_length (by omega), List.take_append_of_le_length (by simp; omega)] at this
    exact hcs j v hj
  unfold winA at h
  split at h
  · cases h; cases hx
    exact ⟨none, 0, 0, rfl, rfl, Win.nilw w⟩
  · rename_i i o m c
    cases hx with
    | sl _ _ _ hi =>
      split at h
      · rename_i T z l hB
        cases hc : (Nat.ble (o + m) l.length && Nat.ble m c && Nat.ble c 1073741824) with
        | false => simp [hc] at h
        | true =>
          simp only [hc, cond_true] at h
          simp only [Bool.and_eq_true, Nat.ble_eq] at hc
          obtain ⟨h1, h2⟩ := part hi hB hc.1.1 hc.1.2 (by have := hc.2; unfold maxLen; omega) h
          exact ⟨_, _, _, rfl, h1, h2⟩
      · cases h
  · rename_i i o m k q
    cases hx with
    | @su _ b d _ _ _ _ hi hn =>
      split at h
      · rename_i T z l hB
        cases hc : Nat.ble (o + m) l.length with
        | false => simp [hc] at h
        | true =>
          simp only [hc, cond_true] at h
          obtain ⟨ob, ho, vs, sp, fz, hv, _, hz, hq⟩ := hr.blk hi hB
          have hq2 : d ≤ maxLen := hq.2
          obtain ⟨h1, h2⟩ := part (c := d - k) hi hB (Nat.le_of_ble_eq_true hc) (by omega) (by omega) h
          exact ⟨_, _, _, rfl, h1, h2⟩
      · cases h
  · cases h

/-- A new block. -/
theorem HR.newAt {w0 : Bs} {w w' : World} {ρ : Env} {H : Tr AB} {n g c : Nat} {B : AB} {o : Obj} (hr : HR w0 ρ H n w) (hf : Fr No w w') (ho : w'.heap[g]? = some o) (hg : w.heap.size ≤ g) (hno : B.isObj = false) (hb : BR (ρ.set n (g, c)) c B o) :
    HR w0 (ρ.set n (g, c)) (tput H n B) (n + 1) w' ∧ Ext ρ (ρ.set n (g, c)) H (tput H n B) n (n + 1) :=
  ⟨(hr.put B).nameF hf hg ho (Nat.lt_succ_self _) (hr.top (Nat.le_refl _)).1 (by rw [get_tput, if_pos rfl]) hno hb, Ext.alloc hr _ _⟩
/-- A new row. -/
theorem HR.newOwn {w0 : Bs} {w w' : World} {ρ : Env} {H : Tr AB} {n g c m k : Nat} {T : TypeId} {l : List AV} {xs : List Value} (hr : HR w0 ρ H n w) (hf : Fr No w w') (ho : Own w' T k (.slice (some ⟨g, 0, none⟩) m c) m xs) (hg : w.heap.size ≤ g) (hx : VRs ρ l xs) :
    HR w0 (ρ.set n (g, c)) (tput H n (.mem T (some k) l)) (n + 1) w' ∧ Ext ρ (ρ.set n (g, c)) H (tput H n (.mem T (some k) l)) n (n + 1) ∧ VR (ρ.set n (g, c)) (.su n 0 m 0 m) (.slice (some ⟨g, 0, none⟩) m c) := by
  obtain ⟨sp, hB, h1, h2, h3, h4⟩ := ho.blk
  obtain ⟨q1, q2⟩ := hr.newAt (c := c) (B := .mem T (some k) l) hf hB hg rfl ⟨xs, sp, (0, 0), hx.mono (Env.le_set (hr.top (Nat.le_refl _)).1 _), rfl, unfrozen_zero _, h2, h4⟩
  exact ⟨q1, q2, VR.su 0 m 0 m (Env.set_same _ _ _) ⟨Nat.le_refl _, by omega⟩⟩

theorem VRs.of_map (l : List Value) {ρ : Env} : VRs ρ (l.map .v) l := VRs.of_vals l
/-- Bytes as this machine's cells. -/
def cellsB (bs : List UInt8) : List AV := (bs.map byt).map .v
/-- Nat of an operand of an unsigned kind. -/
def natA (k : IntKind) (lim : Nat) : AV → Option Nat
  | .v (.int j (.ofNat n)) => cond (decide (j = k) && Nat.blt n lim) (some n) none
  | _ => none
theorem natA_sound {ρ : Env} {k : IntKind} {lim m : Nat} {x : AV} {u : Value} (h : natA k lim x = some m) (hx : VR ρ x u) : u = .int k (m : Int) ∧ m < lim := by
  unfold natA at h
  split at h
  · rename_i j n
    cases hx
    cases hc : (decide (j = k) && Nat.blt n lim) with
    | false => simp [hc] at h
    | true =>
      simp only [hc, cond_true, Option.some.injEq] at h
      subst h
      simp only [Bool.and_eq_true, decide_eq_true_eq, Nat.blt_eq] at hc
      rw [hc.1]
      exact ⟨rfl, hc.2⟩
  · cases h

/-- A run on memory of its own: what it answers, and its first block. -/
def newMem : Option (AV × Tr AB × Nat) → Option (AV × AB)
  | some (x, H, _) => match H.get 0 with | some B => some (x, B) | none => none
  | none => none
def runMem (HK : Hook) (P : Program) (f : FuncId) (args : List AV) (k : Nat) : Option (AV × AB) :=
  match startF (tabOf P) f args .e 0 with
  | some s => newMem (finalF P (tabOf P) f (@runE (hkF HK) P (tabOf P) k s))
  | none => none
theorem calls_of_runMem {P : Program} {HK : Hook} (ht : (P.funcs.toList.all fun fn => !(fn.name == "runtime.NumGoroutine")) = true) (hk : HKo P HK) (hmix : P.follows .mixedOrders = true) {f : FuncId} {args : List AV} {vs : List Value} {k : Nat} {x : AV} {B : AB}
    (hvs : VRs ⟨fun _ => none, fun _ => none⟩ args vs) (h : runMem HK P f args k = some (x, B)) (w : World) :
    Calls P f vs.toArray w (fun e w' => ∃ ρ v, e = .returned v ∧ VR ρ x v ∧ Fr No w w' ∧ ∀ b c, ρ 0 = some (b, c) → w.heap.size ≤ b ∧ ∃ o, w'.heap[b]? = some o ∧ BR ρ c B o) := by
  unfold runMem at h
  split at h
  · rename_i s hs
    cases hfin : finalF P (tabOf P) f (@runE (hkF HK) P (tabOf P) k s) with
    | none => rw [hfin] at h; cases h
    | some r =>
      obtain ⟨y, H', n'⟩ := r
      rw [hfin] at h
      simp only [newMem] at h
      cases hg : H'.get 0 with
      | none => rw [hg] at h; cases h
      | some B' =>
        rw [hg] at h
        cases h
        refine (@calls_of_runF P (tabOf P) _ (hkF HK) (tab_ok ht) (hkF_ok hk.ok) hmix f args .e H' 0 n' s hs k _ hfin _ w vs (HR.start w) hvs).mono ?_
        rintro e w' ⟨ρ', v, rfl, hv, hr⟩
        refine ⟨ρ', v, rfl, hv, hr.fr, fun b c hb => ⟨?_, hr.blk hb hg⟩⟩
        rcases (hr.base hb).1 with q | q
        · exact q.elim
        · exact q
  · cases h
theorem VRs.vals_eq {ρ : Env} : ∀ {l us : List Value}, VRs ρ (l.map .v) us → us = l
  | [], us, h => by cases h; rfl
  | x :: l, us, h => by
    cases h with
    | cons e t => cases e; rw [VRs.vals_eq t]
end Go.Proofs.Ytnkjhicokcmmpaa.Sm

/-
  slices.Sorted(maps.Keys(m)) and slices.Sort at ints: the kit's contracts laid at this program, in plain words (written by the kit's lay-plain.mjs).
-/
namespace Go.Proofs
open Go.Shelf
def Ytnkjhicokcmmpaa.keysL_ren : Go.Shelf.Ren := ⟨fun | 7 => 93 | 10 => 117 | n => n, fun | 23 => 106 | 26 => 3 | 3 => 131 | 28 => 140 | 0 => 0 | 27 => 139 | 33 => 129 | 4 => 4 | n => n, fun | n => n⟩
theorem Ytnkjhicokcmmpaa.keysL : Go.Proofs.SlLaysZI.n7 Try.prog Ytnkjhicokcmmpaa.keysL_ren := {
  mixed := by kernel_rfl
  f7 := ⟨Try.f93.name, by decide, Try.func93.trans (congrArg some (by kernel_rfl))⟩
  f10 := ⟨Try.f117.name, by decide, Try.func117.trans (congrArg some (by kernel_rfl))⟩
  t0 := Try.underlying0
  a0 := Try.isAgg0
  z0 := Try.sizeOf0
  v0 := Try.zeroValue0
  t4 := Try.underlying4
  a4 := Try.isAgg4
  z4 := Try.sizeOf4
  v4 := Try.zeroValue4
  t23 := Try.underlying106
  a23 := Try.isAgg106
  z23 := Try.sizeOf106
  v23 := Try.zeroValue106
  t26 := Try.underlying3
  a26 := Try.isAgg3
  z26 := Try.sizeOf3
  v26 := Try.zeroValue3
  t27 := Try.underlying139
  a27 := Try.isAgg139
  z27 := Try.sizeOf139
  v27 := Try.zeroValue139
  t28 := Try.underlying140
  a28 := Try.isAgg140
  z28 := Try.sizeOf140
  v28 := Try.zeroValue140
  t33 := Try.underlying129
  a33 := Try.isAgg129
  z33 := Try.sizeOf129
  v33 := Try.zeroValue129 }
def Ytnkjhicokcmmpaa.sortedL_ren : Go.Shelf.Ren := ⟨fun | 6 => 92 | 8 => 115 | 9 => 116 | 11 => 135 | 13 => 112 | 12 => 136 | 23 => 131 | 24 => 132 | 14 => 145 | 15 => 146 | 16 => 147 | 17 => 148 | 18 => 149 | 19 => 150 | 20 => 151 | 21 => 152 | 22 => 153 | 25 => 156 | 26 => 140 | 27 => 141 | 28 => 157 | 29 => 158 | 30 => 159 | 31 => 161 | n => n, fun | 26 => 3 | 28 => 140 | 24 => 52 | 0 => 0 | 3 => 3 | 37 => 40 | 48 => 23 | 50 => 22 | 4 => 4 | 40 => 169 | 39 => 168 | 45 => 173 | 5 => 5 | 9 => 9 | 51 => 184 | 55 => 187 | 57 => 199 | 58 => 200 | 33 => 129 | n => n, fun | n => n⟩
theorem Ytnkjhicokcmmpaa.sortedL : Go.Proofs.SlLaysZI.n6 Try.prog Ytnkjhicokcmmpaa.sortedL_ren := {
  mixed := by kernel_rfl
  f6 := ⟨Try.f92.name, by decide, Try.func92.trans (congrArg some (by kernel_rfl))⟩
  f8 := ⟨Try.f115.name, by decide, Try.func115.trans (congrArg some (by kernel_rfl))⟩
  f11 := ⟨Try.f135.name, by decide, Try.func135.trans (congrArg some (by kernel_rfl))⟩
  t0 := Try.underlying0
  a0 := Try.isAgg0
  z0 := Try.sizeOf0
  v0 := Try.zeroValue0
  t24 := Try.underlying52
  a24 := Try.isAgg52
  z24 := Try.sizeOf52
  v24 := Try.zeroValue52
  t26 := Try.underlying3
  a26 := Try.isAgg3
  z26 := Try.sizeOf3
  v26 := Try.zeroValue3
  t28 := Try.underlying140
  a28 := Try.isAgg140
  z28 := Try.sizeOf140
  v28 := Try.zeroValue140
  i26 := by kernel_rfl }
def Ytnkjhicokcmmpaa.sortL_ren : Go.Shelf.Ren := ⟨fun | 5 => 116 | 8 => 112 | 7 => 136 | 19 => 131 | 20 => 132 | 10 => 145 | 11 => 146 | 12 => 147 | 13 => 148 | 14 => 149 | 15 => 150 | 16 => 151 | 17 => 152 | 18 => 153 | 30 => 156 | 31 => 140 | 32 => 141 | 33 => 157 | 34 => 158 | 35 => 159 | 40 => 161 | n => n, fun | 23 => 52 | 25 => 3 | 3 => 3 | 32 => 40 | 22 => 52 | 0 => 0 | 44 => 23 | 46 => 22 | 4 => 4 | 36 => 169 | 35 => 168 | 41 => 173 | 5 => 5 | 9 => 9 | 53 => 184 | 57 => 187 | 63 => 199 | 64 => 200 | n => n, fun | n => n⟩
theorem Ytnkjhicokcmmpaa.sortL : Go.Proofs.SlLaysM.n5 Try.prog Ytnkjhicokcmmpaa.sortL_ren := {
  mixed := by kernel_rfl
  f5 := ⟨Try.f116.name, by decide, Try.func116.trans (congrArg some (by kernel_rfl))⟩
  f7 := ⟨Try.f136.name, by decide, Try.func136.trans (congrArg some (by kernel_rfl))⟩
  f8 := Try.func112.trans (congrArg some (by kernel_rfl))
  f10 := ⟨Try.f145.name, by decide, Try.func145.trans (congrArg some (by kernel_rfl))⟩
  f11 := ⟨Try.f146.name, by decide, Try.func146.trans (congrArg some (by kernel_rfl))⟩
  f12 := ⟨Try.f147.name, by decide, Try.func147.trans (congrArg some (by kernel_rfl))⟩
  f13 := ⟨Try.f148.name, by decide, Try.func148.trans (congrArg some (by kernel_rfl))⟩
  f14 := ⟨Try.f149.name, by decide, Try.func149.trans (congrArg some (by kernel_rfl))⟩
  f15 := ⟨Try.f150.name, by decide, Try.func150.trans (congrArg some (by kernel_rfl))⟩
  f16 := ⟨Try.f151.name, by decide, Try.func151.trans (congrArg some (by kernel_rfl))⟩
  f17 := ⟨Try.f152.name, by decide, Try.func152.trans (congrArg some (by kernel_rfl))⟩
  f18 := ⟨Try.f153.name, by decide, Try.func153.trans (congrArg some (by kernel_rfl))⟩
  f19 := Try.func131.trans (congrArg some (by kernel_rfl))
  f20 := Try.func132.trans (congrArg some (by kernel_rfl))
  f30 := ⟨Try.f156.name, by decide, Try.func156.trans (congrArg some (by kernel_rfl))⟩
  f31 := Try.func140.trans (congrArg some (by kernel_rfl))
  f32 := Try.func141.trans (congrArg some (by kernel_rfl))
  f33 := ⟨Try.f157.name, by decide, Try.func157.trans (congrArg some (by kernel_rfl))⟩
  f34 := ⟨Try.f158.name, by decide, Try.func158.trans (congrArg some (by kernel_rfl))⟩
  f35 := ⟨Try.f159.name, by decide, Try.func159.trans (congrArg some (by kernel_rfl))⟩
  f40 := ⟨Try.f161.name, by decide, Try.func161.trans (congrArg some (by kernel_rfl))⟩
  t0 := Try.underlying0
  a0 := Try.isAgg0
  z0 := Try.sizeOf0
  v0 := Try.zeroValue0
  t3 := Try.underlying3
  a3 := Try.isAgg3
  z3 := Try.sizeOf3
  v3 := Try.zeroValue3
  t4 := Try.underlying4
  a4 := Try.isAgg4
  z4 := Try.sizeOf4
  v4 := Try.zeroValue4
  t5 := Try.underlying5
  a5 := Try.isAgg5
  z5 := Try.sizeOf5
  v5 := Try.zeroValue5
  t9 := Try.underlying9
  a9 := Try.isAgg9
  z9 := Try.sizeOf9
  v9 := Try.zeroValue9
  t22 := Try.underlying52
  a22 := Try.isAgg52
  z22 := Try.sizeOf52
  v22 := Try.zeroValue52
  t23 := Try.underlying52
  a23 := Try.isAgg52
  z23 := Try.sizeOf52
  v23 := Try.zeroValue52
  t25 := Try.underlying3
  a25 := Try.isAgg3
  z25 := Try.sizeOf3
  v25 := Try.zeroValue3
  t32 := Try.underlying40
  a32 := Try.isAgg40
  z32 := Try.sizeOf40
  v32 := Try.zeroValue40
  t35 := Try.underlying168
  a35 := Try.isAgg168
  z35 := Try.sizeOf168
  v35 := Try.zeroValue168
  t36 := Try.underlying169
  a36 := Try.isAgg169
  z36 := Try.sizeOf169
  v36 := Try.zeroValue169
  t41 := Try.underlying173
  a41 := Try.isAgg173
  z41 := Try.sizeOf173
  v41 := Try.zeroValue173
  t44 := Try.underlying23
  a44 := Try.isAgg23
  z44 := Try.sizeOf23
  v44 := Try.zeroValue23
  t46 := Try.underlying22
  a46 := Try.isAgg22
  z46 := Try.sizeOf22
  v46 := Try.zeroValue22
  t53 := Try.underlying184
  a53 := Try.isAgg184
  z53 := Try.sizeOf184
  v53 := Try.zeroValue184
  t57 := Try.underlying187
  a57 := Try.isAgg187
  z57 := Try.sizeOf187
  v57 := Try.zeroValue187
  t63 := Try.underlying199
  a63 := Try.isAgg199
  z63 := Try.sizeOf199
  v63 := Try.zeroValue199
  t64 := Try.underlying200
  a64 := Try.isAgg200
  z64 := Try.sizeOf200
  v64 := Try.zeroValue200 }
end Go.Proofs

/-
  What waits, as the map's keys, sorted.
-/
namespace Go.Proofs.Ytnkjhicokcmmpaa
open Go.RowKit Go.Maps Go.Sort Go.Shelf Go.MapKept Go.WideShapes

/-- A map whose keys are these ints. -/
def MapZ (w : World) (b : Nat) (ks : List Int) : Prop := ∃ es clock, w.heap[b]? = some (.map es clock) ∧ Stamped es clock ∧ es.toList.map (·.key) = ks.map encZ ∧ es.size ≤ 1000000 ∧ ∀ k ∈ ks, (Lit.int .i64 k).wf = true
def rAny (_ : Value) : Option (DataW Unit × List MemPlace) := some (.lit (.bool true), [])

theorem MapZ.own {w : World} {b : Nat} {ks : List Int} (h : MapZ w b ks) : ∃ D : DataW Unit, w.ownsMap Try.prog 3 rAny b ks.length D ∧ (intKeys D).Perm ks ∧ Maps.size D = ks.length := by
  obtain ⟨es, clock, hb, hs, hk, hsz, hwf⟩ := h
  have hlen : es.size = ks.length := by
    have := congrArg List.length hk
    simpa using this
  have hrd : ∀ x ∈ es.toList, ∃ k : Int, x.key = encZ k ∧ k ∈ ks := by
    intro x hx
    have : x.key ∈ es.toList.map (·.key) := List.mem_map.2 ⟨x, hx, rfl⟩
    rw [hk] at this
    obtain ⟨k, hk, e⟩ := List.mem_map.1 this
    exact ⟨k, e.symm, hk⟩
  have hread : ∀ x ∈ es.toList, ∀ k : Int, x.key = encZ k → k ∈ ks → Go.WideElems.rd Try.prog 3 rAny x = some (.int .i64 k, .lit (.bool true)) := by
    intro x hx k e hk
    have hkey : keyOf Try.prog 3 x.key = some (.int .i64 k) := by
      rw [e]
      exact keyOf_int_mk Try.underlying3 (hwf k hk)
    unfold Go.WideElems.rd rAny
    simp [hkey]
  refine ⟨_, ⟨es, clock, hb, ⟨by unfold maxLen; omega, hs, fun x hx => ?_⟩, by omega, rfl⟩, ?_, ?_⟩
  · obtain ⟨k, e, hk⟩ := hrd x hx
    exact ⟨_, hread x hx k e hk⟩
  · have hp := sorted_perm (es.toList.map (Go.WideElems.rg Try.prog 3 rAny))
    have : intKeys (H := Unit) (DataW.map ((es.toList.map (Go.WideElems.rg Try.prog 3 rAny)).foldr DataW.insert [])) = ((es.toList.map (Go.WideElems.rg Try.prog 3 rAny)).foldr DataW.insert []).map (fun p : Lit × DataW Unit => Go.intOf p.1) := rfl
    rw [this]
    refine (hp.map _).trans (List.Perm.of_eq ?_)
    have hmap : (es.toList.map (Go.WideElems.rg Try.prog 3 rAny)).map (fun p => encZ (Go.intOf p.1)) = es.toList.map (·.key) := by
      rw [List.map_map]
      refine List.map_congr_left fun x hx => ?_
      obtain ⟨k, e, hk⟩ := hrd x hx
      have := hread x hx k e hk
      simp [Function.comp, Go.WideElems.rg_of this, Go.intOf, e]
    have h2 : (((es.toList.map (Go.WideElems.rg Try.prog 3 rAny)).map fun p => Go.intOf p.1).map encZ) = ks.map encZ := by
      rw [← hk, ← hmap]
      simp
    exact (List.map_inj_right (fun x y e => encZ_inj e)).1 h2
  · have hp := (sorted_perm (es.toList.map (Go.WideElems.rg Try.prog 3 rAny))).length_eq
    show ((es.toList.map (Go.WideElems.rg Try.prog 3 rAny)).foldr DataW.insert []).length = _
    rw [hp]
    simpa using hlen

theorem sortsA (m : Nat) : AnyZI.SortsIn Try.prog Ytnkjhicokcmmpaa.sortedL_ren Fence.wide m :=
  ⟨fun blk off cap ss W hH hblk hsz => callsIn_wide.2 (AnyM.slices_Sort_int Ytnkjhicokcmmpaa.sortL blk off cap ss W hH hblk hsz),
   fun p cap W => callsIn_wide.2 (AnyM.slices_Sort_int_none Ytnkjhicokcmmpaa.sortL p cap W)⟩

def sortZ (ks : List Int) : List Int := ks.mergeSort leI


/-- A disk's first two cells. -/
theorem noneD_ok (b n c : Nat) (a : Option Addr) (w : World) (h0 : w.cell? ⟨b, 0, none⟩ = some (.slice a n c)) (hn : n ≤ 100000) :
    Calls Try.prog 81 #[.pointer (some ⟨b, 0, none⟩)] w fun e w' => e = .returned (.bool (n == 0)) ∧ w = w' := by
  have hn' : ((n : Int) == 0) = (n == 0) := by
    rw [Bool.eq_iff_iff]; simp
  go_enter Try.func81, Try.ntmps81
  go_wp2
  go_ret
  exact ⟨by simp [hn'], rfl⟩
theorem noneD_nil (w : World) : Calls Try.prog 81 #[.pointer none] w fun e w' => e = .returned (.bool true) ∧ w = w' := by
  go_enter Try.func81, Try.ntmps81
  go_wp2
  go_ret
  exact ⟨rfl, rfl⟩

set_option maxHeartbeats 2000000 in
theorem waits_ok (b m n c : Nat) (a : Option Addr) (ks : List Int) (w : World) (h0 : w.cell? ⟨b, 0, none⟩ = some (.slice a n c)) (hn0 : 0 < n) (hn : n ≤ 100000) (h1 : w.cell? ⟨b, 1, none⟩ = some (.map (some m))) (hm : MapZ w m ks) :
    Calls Try.prog 50 #[.pointer (some ⟨b, 0, none⟩)] w fun e w' => ∃ v, e = .returned v ∧ Own w' 3 1 v ks.length ((sortZ ks).map encZ) ∧ (v = .slice none 0 0 ↔ ks = []) ∧ (∀ k, v.ownBlock = some k → w.heap.size ≤ k) ∧ Fr No w w' := by
  refine (callsIn_wide (n := 6)).1 ?_
  obtain ⟨D0, hown, hperm, hsize⟩ := hm.own
  have hksz : ks.length ≤ 1000000 := by
    obtain ⟨es, clock, _, _, hk, hsz, _⟩ := hm
    have := congrArg List.length hk
    simp at this
    omega
  have hmax : Maps.size D0 ≤ maxLen := by rw [hsize]; unfold maxLen; omega
  have hbytes : Maps.size D0 * 8 ≤ 140737488355328 := by rw [hsize]; omega
  have hbl := hown.lt
  have hseq : SeqGives Fence.wide 2 Try.prog 117 #[.pointer (some ⟨w.heap.size, 0, none⟩)] encZ (fun ss => ss.Perm (intKeys D0)) (Maps.size D0) (w.alloc (.cells #[.map (some m)] 106)) :=
    AnyZI.keys_gives (ρ := Ytnkjhicokcmmpaa.keysL_ren) { Ytnkjhicokcmmpaa.keysL with } Fence.wide _ trivial rfl (by omega) w.heap.size m ks.length D0 _ (by simp) (by simp) (by
      obtain ⟨es, clock, hb, Ft, hs, hD⟩ := hown
      exact ⟨es, clock, (Below.heap_alloc _ _ m hbl).trans hb, Ft, hs, hD⟩)
  have cK : ∀ mb W, CallsIn Fence.wide 5 Try.prog 93 #[.map mb] W fun e w' => e = .returned (.func (.func 117) #[] #[.pointer (some ⟨W.heap.size, 0, none⟩)]) ∧ w' = W.alloc (.cells #[.map mb] 106) := fun mb W => AnyZI.keys_in Ytnkjhicokcmmpaa.keysL Fence.wide 5 trivial rfl mb W
  have cS := AnyZI.sorted_in Ytnkjhicokcmmpaa.sortedL Fence.wide 5 trivial trivial trivial trivial rfl (by omega) (sortsA _) (enters_of Try.func116 (by kernel_rfl) rfl) 117 #[.pointer (some ⟨w.heap.size, 0, none⟩)] trivial (enters_of Try.func117 (by kernel_rfl) rfl) _ _ hmax hbytes _ hseq
  change CallsIn _ _ Try.prog 92 _ _ _ at cS
  have cN : CallsIn Fence.wide 5 Try.prog 81 #[.pointer (some ⟨b, 0, none⟩)] w fun e w' => e = .returned (.bool false) ∧ w = w' :=
    callsIn_wide.2 ((noneD_ok b n c a w h0 hn).mono fun e w' ⟨he, hw⟩ => ⟨by rw [he]; congr 2; simp; omega, hw⟩)
  have hfK : Fence.wide.fn 93 := trivial
  have hfS : Fence.wide.fn 92 := trivial
  have hfN : Fence.wide.fn 81 := trivial
  refine callsIn_of_wp Try.func50 rfl trivial ?_ rfl
  simp only [Try.ntmps50, List.size_toArray, List.length_cons, List.length_nil, Nat.reduceAdd, Nat.reduceSub, Array.replicate_succ, Array.replicate_zero, List.push_toArray, List.append_toArray, List.nil_append, List.cons_append]
  gi_wp2_with (first
    | (gi_at_call 81; refine cN.mono ?_; rintro e w' ⟨rfl, rfl⟩)
    | (gi_at_call 93; refine (cK _ _).mono ?_; rintro e w' ⟨rfl, rfl⟩)
    | (gi_at_call 92; refine cS.mono ?_; rintro e w' ⟨v, ss, rfl, hS, hrow, hnil, hb⟩))
  go_ret
  have hp : ss.Perm ks := hS.trans hperm
  have hsort : ss.mergeSort (fun x y => decide (x ≤ y)) = sortZ ks := mergeSort_of_perm_i hp
  rw [hsort, hp.length_eq] at hrow
  refine ⟨v, rfl, Own.weak hrow, ?_, fun k hk => ?_, ?_⟩
  · rw [hnil]
    constructor
    · rintro rfl; exact hp.nil_eq.symm
    · rintro rfl; exact hp.eq_nil
  · have := (World.ownsRow.lt hrow k hk).1
    simp at this
    omega
  · exact ((Fr.refl No w).alloc _).thn (Fr.of_below hb)
end Go.Proofs.Ytnkjhicokcmmpaa

/-
  What waits, and a sector of one byte, as hooks of the small machine.
-/
namespace Go.Proofs.Ytnkjhicokcmmpaa
open Go Go.RowKit
namespace Sm

/-- Insertion, and sorting by it. -/
def insZ (x : Int) : List Int → List Int
  | [] => [x]
  | y :: l => cond (decide (x ≤ y)) (x :: y :: l) (y :: insZ x l)
def isortZ : List Int → List Int
  | [] => []
  | x :: l => insZ x (isortZ l)
theorem insZ_perm (x : Int) : ∀ l, (insZ x l).Perm (x :: l)
  | [] => .refl _
  | y :: l => by
    unfold insZ
    cases decide (x ≤ y) with
    | true => exact .refl _
    | false => exact ((insZ_perm x l).cons y).trans (.swap x y l)
theorem isortZ_perm : ∀ l, (isortZ l).Perm l
  | [] => .refl _
  | x :: l => (insZ_perm x _).trans ((isortZ_perm l).cons x)
theorem insZ_sorted (x : Int) : ∀ l, l.Pairwise (· ≤ ·) → (insZ x l).Pairwise (· ≤ ·)
  | [], _ => by simp [insZ]
  | y :: l, h => by
    unfold insZ
    rw [List.pairwise_cons] at h
    cases hd : decide (x ≤ y) with
    | true =>
      have hxy := of_decide_eq_true hd
      rw [cond_true, List.pairwise_cons, List.pairwise_cons]
      refine ⟨fun z hz => ?_, h⟩
      rcases List.mem_cons.1 hz with rfl | hz
      · exact hxy
      · exact Int.le_trans hxy (h.1 z hz)
    | false =>
      have hxy := of_decide_eq_false hd
      rw [cond_false, List.pairwise_cons]
      refine ⟨fun z hz => ?_, insZ_sorted x l h.2⟩
      rcases List.mem_cons.1 ((insZ_perm x l).mem_iff.1 hz) with rfl | hz
      · omega
      · exact h.1 z hz
theorem isortZ_sorted : ∀ l, (isortZ l).Pairwise (· ≤ ·)
  | [] => .nil
  | x :: l => insZ_sorted x _ (isortZ_sorted l)
theorem sortZ_eq (l : List Int) : sortZ l = isortZ l := by
  have tr : ∀ a b c : Int, leI a b = true → leI b c = true → leI a c = true := fun a b c h1 h2 => by simp only [leI, decide_eq_true_eq] at *; exact Int.le_trans h1 h2
  have tot : ∀ a b : Int, (leI a b || leI b a) = true := fun a b => by simp only [leI, Bool.or_eq_true, decide_eq_true_eq]; exact Int.le_total a b
  refine List.Perm.eq_of_pairwise (le := fun a b => a ≤ b) (fun a b _ _ h1 h2 => Int.le_antisymm h1 h2) ((List.pairwise_mergeSort tr tot l).imp (fun h => by simpa [leI] using h)) (isortZ_sorted l) ((List.mergeSort_perm l leI).trans (isortZ_perm l).symm)

/-- A map's keys, as ints; each entry's stamp is below the clock, no stamp and no key comes twice. -/
def keysZ : List (Value × AV × Nat) → Option (List Int)
  | [] => some []
  | (.int .i64 k, _, _) :: l => match keysZ l with
    | some r => some (k :: r)
    | none => none
  | _ => none
def wfZ (k : Int) : Bool := (Lit.int .i64 k).wf
def memN (b : Nat) : List Nat → Bool
  | [] => false
  | x :: l => cond (Nat.beq b x) true (memN b l)
def nodupN : List Nat → Bool
  | [] => true
  | x :: l => !memN x l && nodupN l
def memZ (b : Int) : List Int → Bool
  | [] => false
  | x :: l => cond (decide (b = x)) true (memZ b l)
def nodupZ : List Int → Bool
  | [] => true
  | x :: l => !memZ x l && nodupZ l
theorem memN_iff (b : Nat) : ∀ l, memN b l = true ↔ b ∈ l
  | [] => by simp [memN]
  | x :: l => by
    unfold memN
    rw [beq_dec]
    by_cases h : b = x
    · simp [h]
    · simp [h, memN_iff b l]
theorem nodupN_spec : ∀ l, nodupN l = true → l.Nodup
  | [], _ => .nil
  | x :: l, h => by
    simp only [nodupN, Bool.and_eq_true, Bool.not_eq_true'] at h
    exact List.nodup_cons.2 ⟨fun hx => by rw [(memN_iff x l).2 hx] at h; exact absurd h.1 (by simp), nodupN_spec l h.2⟩
theorem memZ_iff (b : Int) : ∀ l, memZ b l = true ↔ b ∈ l
  | [] => by simp [memZ]
  | x :: l => by
    unfold memZ
    by_cases h : b = x
    · simp [h]
    · simp [h, memZ_iff b l]
theorem nodupZ_spec : ∀ l, nodupZ l = true → l.Nodup
  | [], _ => .nil
  | x :: l, h => by
    simp only [nodupZ, Bool.and_eq_true, Bool.not_eq_true'] at h
    exact List.nodup_cons.2 ⟨fun hx => by rw [(memZ_iff x l).2 hx] at h; exact absurd h.1 (by simp), nodupZ_spec l h.2⟩
theorem keysZ_sound {ρ : Env} {l : List (Value × AV × Nat)} {m : List MapEntry} (h : ERs ρ l m) : ∀ {ks : List Int}, keysZ l = some ks → m.map (·.key) = ks.map encZ ∧ m.map (·.born) = l.map (·.2.2) ∧ m.length = ks.length := by
  induction h with
  | nil => intro ks h; simp [keysZ] at h; subst h; exact ⟨rfl, rfl, rfl⟩
  | cons hx t ih =>
    intro ks h
    unfold keysZ at h
    split at h
    · rename_i heq; cases heq
    · rename_i k x' b' l' heq
      cases heq
      split at h
      · rename_i r hr
        cases h
        obtain ⟨h1, h2, h3⟩ := ih hr
        exact ⟨by simp [h1, encZ], by simp [h2], by simp [h3]⟩
      · cases h
    · cases h

/-- Is what the first cell holds a slice of some elements? -/
def someLen : AV → Bool
  | .sl _ _ n _ => Nat.ble 1 n && Nat.ble n 100000
  | .su _ _ n _ _ => Nat.ble 1 n && Nat.ble n 100000
  | _ => false
theorem someLen_sound {ρ : Env} {x : AV} {u : Value} (h : someLen x = true) (hx : VR ρ x u) : ∃ a n c, u = .slice a n c ∧ 0 < n ∧ n ≤ 100000 := by
  unfold someLen at h
  split at h
  · simp only [Bool.and_eq_true, Nat.ble_eq] at h
    cases hx; exact ⟨_, _, _, rfl, h.1, h.2⟩
  · simp only [Bool.and_eq_true, Nat.ble_eq] at h
    cases hx; exact ⟨_, _, _, rfl, h.1, h.2⟩
  · cases h
/-- The contract of Waits. -/
def waitsHook : Hook := fun f args H n =>
  cond (Nat.beq f 50) (match args with
    | [.ptr i 0] => match H.get i with
      | some (.mem _ _ (x0 :: .mp j :: _)) => match H.get j with
        | some (.map l c) => match keysZ l with
          | some ks => cond (someLen x0 && ks.all wfZ && nodupZ ks && nodupN (l.map (·.2.2)) && (l.all fun e => Nat.blt e.2.2 c) && Nat.ble ks.length 100000)
            (match ks with
             | [] => some (.v (.slice none 0 0), H, n)
             | _ => some (.su n 0 ks.length 0 ks.length, tput H n (.mem 3 (some 1) (((isortZ ks).map encZ).map .v)), n + 1)) none
          | none => none
        | _ => none
      | _ => none
    | _ => none) none

theorem tab : (Try.prog.funcs.toList.all fun fn => !(fn.name == "runtime.NumGoroutine")) = true := by kernel_rfl
theorem waitsHook_ok : HKo Try.prog waitsHook := by
  intro f args H n x H' n' h
  unfold waitsHook at h
  cases hf : Nat.beq f 50 with
  | false => simp [hf] at h
  | true =>
    simp only [hf, cond_true] at h
    have hf' : f = 50 := by simpa using hf
    subst hf'
    refine ⟨fun xs w => hook_call tab Try.func50 (by kernel_rfl) xs w, ?_⟩
    intro w0 ρ w vs hr hvs
    split at h
    · rename_i i
      split at h
      · rename_i T z x0 j rest hB
        split at h
        · rename_i l c hM
          split at h
          · rename_i ks hks
            cases hc : (someLen x0 && ks.all wfZ && nodupZ ks && nodupN (l.map (·.2.2)) && (l.all fun e => Nat.blt e.2.2 c) && Nat.ble ks.length 100000) with
            | false => rw [hc] at h; cases h
            | true =>
              rw [hc, cond_true] at h
              simp only [Bool.and_eq_true, Nat.ble_eq, List.all_eq_true, Nat.blt_eq] at hc
              obtain ⟨⟨⟨⟨⟨c1, c2⟩, c3⟩, c4⟩, c5⟩, c6⟩ := hc
              cases hvs with
              | cons e1 t1 =>
              cases t1
              cases e1 with
              | @ptr _ b d _ hi =>
              obtain ⟨o, hob, us, sp, fz, hv, rfl, _, _⟩ := hr.blk hi hB
              cases hv with
              | @cons _ u0 _ _ y0 s1 =>
              cases s1 with
              | @cons _ u1 _ us' y1 s2 =>
              cases y1 with
              | @mp _ mb md hj =>
              obtain ⟨om, hom, es, hes, rfl⟩ := hr.blk hj hM
              obtain ⟨a, nn, cc, rfl, hn0, hn⟩ := someLen_sound c1 y0
              obtain ⟨hk1, hk2, hk3⟩ := keysZ_sound hes hks
              have hm : MapZ w mb ks := by
                refine ⟨es.toArray, c, hom, ⟨fun q hq => ?_, ?_, ?_⟩, ?_, ?_, fun k hk => c2 k hk⟩
                · have : q.born ∈ es.map (·.born) := List.mem_map.2 ⟨q, by simpa using hq, rfl⟩
                  rw [hk2] at this
                  obtain ⟨e, he, hq⟩ := List.mem_map.1 this
                  rw [← hq]; exact c5 e he
                · simp only [hk2]; exact nodupN_spec _ c4
                · simp only [hk1]
                  exact List.Pairwise.map _ (fun x y hxy e => hxy (encZ_inj e)) (nodupZ_spec _ c3)
                · simpa using hk1
                · simp [hk3]; omega
              have h0 : w.cell? ⟨b, 0, none⟩ = some (.slice a nn cc) := by rw [cells_cell hob]; rfl
              have h1 : w.cell? ⟨b, 1, none⟩ = some (.map (some mb)) := by rw [cells_cell hob]; rfl
              refine (waits_ok b mb nn cc a ks w h0 hn0 hn h1 hm).mono ?_
              rintro e w' ⟨v, rfl, hown, hnil, hnew, hfr⟩
              rw [sortZ_eq] at hown
              cases ks with
              | nil =>
                simp only [Option.some.injEq, Prod.mk.injEq] at h
                obtain ⟨rfl, rfl, rfl⟩ := h
                obtain rfl := hnil.2 rfl
                exact ⟨ρ, _, rfl, .v _, hr.old hfr, Ext.refl _ _ _⟩
              | cons k0 kr =>
                simp only [Option.some.injEq, Prod.mk.injEq] at h
                obtain ⟨rfl, rfl, rfl⟩ := h
                rcases hown.cases with ⟨_, e0, _⟩ | ⟨g, cg, rfl⟩
                · cases e0
                · obtain ⟨q1, q2, q3⟩ := hr.newOwn hfr hown (hnew g rfl) (VRs.of_vals _)
                  exact ⟨_, _, rfl, q3, q1, q2⟩
          · cases h
        · cases h
      · cases h
    · cases h

/-- A sector of one byte: by a run of the machine itself, whatever the byte. -/
def allV (c : Int) : List Value := List.replicate 128 (.int .u8 c)
theorem mix : Try.prog.follows .mixedOrders = true := Try.checked.mixed
theorem all_run (c : Int) : runMem (fun _ _ _ _ => none) Try.prog 62 [.v (.int .u8 c)] 3600 = some (.sl 0 0 128 128, .mem 5 none ((allV c).map .v)) := by kernel_rfl
theorem all_ok (c : Int) (w : World) : Calls Try.prog 62 #[.int .u8 c] w (fun e w' => ∃ g fz, e = .returned (.slice (some ⟨g, 0, none⟩) 128 128) ∧ w.heap.size ≤ g ∧ w'.heap[g]? = some (.cells (allV c).toArray 5 fz) ∧ unfrozen fz 128 ∧ Fr No w w') := by
  refine (calls_of_runMem tab (fun h => by cases h) mix (vs := [.int .u8 c]) (.cons (.v _) .nil) (all_run c) w).mono ?_
  rintro e w' ⟨ρ, v, rfl, hv, hfr, hb⟩
  cases hv with
  | @sl _ b cc _ _ _ hi =>
    obtain ⟨h1, o, ho, us, sp, fz, hus, rfl, hz, hsp⟩ := hb b cc hi
    have := VRs.vals_eq hus
    subst this
    have hsp' : sp = [] := hsp
    subst hsp'
    exact ⟨b, fz, rfl, h1, by simpa using ho, by simpa [allV] using hz, hfr⟩
def allHook : Hook := fun f args H n =>
  cond (Nat.beq f 62) (match args with
    | [.v (.int .u8 c)] => some (.sl n 0 128 128, tput H n (.mem 5 none ((allV c).map .v)), n + 1)
    | _ => none) none
theorem allHook_ok : HKo Try.prog allHook := by
  intro f args H n x H' n' h
  unfold allHook at h
  cases hf : Nat.beq f 62 with
  | false => simp [hf] at h
  | true =>
    simp only [hf, cond_true] at h
    have hf' : f = 62 := by simpa using hf
    subst hf'
    refine ⟨fun xs w => hook_call tab Try.func62 (by kernel_rfl) xs w, ?_⟩
    intro w0 ρ w vs hr hvs
    split at h
    · rename_i c
      simp only [Option.some.injEq, Prod.mk.injEq] at h
      obtain ⟨rfl, rfl, rfl⟩ := h
      cases hvs with
      | cons e1 t1 =>
      cases t1
      cases e1
      refine (all_ok c w).mono ?_
      rintro e w' ⟨g, fz, rfl, hg, ho, hz, hfr⟩
      obtain ⟨q1, q2⟩ := hr.newAt (c := 0) (B := .mem 5 none ((allV c).map .v)) hfr ho hg rfl ⟨allV c, [], fz, VRs.of_vals _, by simp, by simpa [allV] using hz, rfl⟩
      exact ⟨_, _, rfl, .sl 0 128 128 (Env.set_same _ _ _), q1, q2⟩
    · cases h
def hkD : Hook := hkOr waitsHook allHook
theorem hkD_ok : HKo Try.prog hkD := hkOr_ok waitsHook_ok allHook_ok
end Sm
end Go.Proofs.Ytnkjhicokcmmpaa

/-
  The writer of bytes: what its functions come to.
-/
namespace Go.Proofs.Ytnkjhicokcmmpaa
open Go.RowKit

theorem Try.infoU8 : (Try.prog.info? 5).map (fun i => (i.zero, i.size, i.bytes)) = some (some (.int .u8 0), 1, 1) := by kernel_rfl

theorem sized_yes (n : Nat) (hs : n = 1 ∨ n = 2 ∨ n = 4 ∨ n = 8) (w : World) : Calls Try.prog 103 #[.int .i64 n] w fun e w' => e = .returned (.bool true) ∧ w = w' := by
  rcases hs with rfl | rfl | rfl | rfl
  all_goals
    go_enter Try.func103, Try.ntmps103
    go_wp2
    go_ret
    exact ⟨rfl, rfl⟩

/-- A writer in block b: its slice, and what it holds. -/
structure WrAt (w : World) (b : Nat) (v : Value) (bs : List UInt8) : Prop where
  blk : Blk w b 110 [v]
  own : Own w 5 1 v bs.length (bs.map byt)

/-- The byte at place i of a number of so many bytes. -/
def numByte (size n i : Nat) : UInt8 := UInt8.ofNat (n / 2 ^ (8 * (size - 1 - i)))
def numTo (size n k : Nat) : List UInt8 := (List.range k).map (numByte size n)
def num (size n : Nat) : List UInt8 := numTo size n size
theorem numTo_succ (size n k : Nat) : numTo size n (k + 1) = numTo size n k ++ [numByte size n k] := by simp [numTo, List.range_succ]
theorem num_len (size n : Nat) : (num size n).length = size := by simp [num, numTo]
theorem byte_u8 (x : Nat) : Value.int .u8 (IntKind.u8.wrap (x : Int)) = byt (UInt8.ofNat x) := by
  unfold byt
  congr 1
theorem new_cell {w : World} {T : TypeId} {x : Value} : ∀ (j : Nat) (u : Value), [x][j]? = some u → (w.alloc (.cells #[x] T)).cell? ((⟨w.heap.size, 0, none⟩ : Addr).add j) = some u := by
  intro j u hj
  match j, hj with
  | 0, hj => simp at hj; subst hj; simp [Addr.add]

theorem app_keep {w0 w w' : World} {T T' : TypeId} {size n m b : Nat} {v v' : Value} {l l' : List Value} (hap : Appended w T size v n m l v' w') (h0 : Fr No w0 w) (hB : Blk w0 b T' l') (hn : ∀ k, v.ownBlock = some k → k ≠ b) : Blk w' b T' l' :=
  (hB.fr h0 (No.no _)).fr hap.fr (fun e => hn _ e rfl)
theorem WrAt.ne {w : World} {b : Nat} {v : Value} {bs : List UInt8} (h : WrAt w b v bs) : ∀ k, v.ownBlock = some k → k ≠ b := h.blk.neOwn h.own (by decide)
/-- A writer's bytes are appended to. -/
theorem WrAt.app {w0 w w' : World} {b m : Nat} {v v' : Value} {bs cs : List UInt8} (h : WrAt w0 b v bs) (h0 : Fr No w0 w) (hap : Appended w 5 1 v bs.length m (bs.map byt ++ cs.map byt) v' w') (hm : cs.length = m) :
    WrAt (w'.setCell ⟨b, 0, none⟩ v') b v' (bs ++ cs) ∧ Fr (fun k => k = b ∨ v.ownBlock = some k) w0 (w'.setCell ⟨b, 0, none⟩ v') ∧ AtOr w0 v v' := by
  subst hm
  have hB := app_keep hap h0 h.blk h.ne
  have hb := h.blk.lt
  have hz := h0.size
  have ha := hap.atOr hz
  refine ⟨⟨hB.set 0 _, ?_⟩, ?_, ha⟩
  · have ho := hap.own
    rw [← List.map_append, ← List.length_append] at ho
    refine ho.other (fun e => ?_) _
    rcases ha _ e with e' | e'
    · exact h.ne _ e' rfl
    · have e2 : w0.heap.size ≤ b := e'
      omega
  · exact ((h0.no_any.trans hap.fr (fun k hk => .inl (.inr hk))).setCell (.inl (.inl rfl)) _)

set_option maxHeartbeats 1000000 in
set_option maxRecDepth 100000 in
theorem wnum_any (b : Nat) (v : Value) (bs : List UInt8) (size n : Nat) (hs : size = 1 ∨ size = 2 ∨ size = 4 ∨ size = 8) (hn : n < 2 ^ (8 * size)) (hl : bs.length ≤ 1000000) (w : World) (h : WrAt w b v bs) :
    Calls Try.prog 65 #[.pointer (some ⟨b, 0, none⟩), .int .i64 size, .int .u64 n] w fun e w' => ∃ v', e = .returned (.int .i64 0) ∧ WrAt w' b v' (bs ++ num size n) ∧ Fr (fun k => k = b ∨ v.ownBlock = some k) w w' ∧ AtOr w v v' := by
  have hs8 : size ≤ 8 := by omega
  have hs1 : 1 ≤ size := by omega
  have hq : (n : Int) / 2 ^ (8 * size) = 0 := by
    have : n / 2 ^ (8 * size) = 0 := Nat.div_eq_of_lt hn
    exact_mod_cast this
  have hd : decide (0 < (n : Int) / 2 ^ (8 * size)) = false := by rw [hq]; rfl
  have HD : decide (0 < (n : Int) / 2 ^ (8 * size)) = false := hd
  obtain ⟨i0, hi0, hz0, hz1, hz2⟩ := info_parts Try.infoU8
  clear hq hd hn
  by_cases h8 : size < 8
  all_goals
    go_enter Try.func65, Try.ntmps65
    go_wp2_with (go_at_call 103; refine (sized_yes _ hs _).mono ?_; rintro e w1 ⟨rfl, rfl⟩)
    go_loopw [7] (fun s wr => ∃ (k : Nat) (v' : Value), k ≤ size ∧ s = .int .i64 ((size : Int) - 1 - (k : Nat)) ∧ WrAt wr b v' (bs ++ numTo size n k) ∧ Fr (fun k => k = b ∨ v.ownBlock = some k) w wr ∧ AtOr w v v') (fun s _ => (intOf s + 1).toNat)
    case atStart => exact ⟨0, v, Nat.zero_le _, by simp, by simpa [numTo] using h, Fr.refl _ _, AtOr.refl _ _⟩
    case round =>
      obtain ⟨k, v', hk, rfl, hW, hfr, hat⟩ := hrel
      by_cases hlt : k < size
      · obtain ⟨i, hi⟩ : ∃ i : Nat, i = size - 1 - k := ⟨_, rfl⟩
        have e1 : (size : Int) - 1 - (k : Nat) = (i : Nat) := by omega
        rw [e1]
        have HI := Lib.hid hi
        have HE := Lib.hid e1
        have hib : i ≤ 7 := by omega
        have hwr : IntKind.i64.wrap (8 * (i : Int)) = 8 * (i : Int) := by rw [IntKind.wrap_i64]; omega
        have hp0 : (0 : Int) ≤ 8 * (i : Int) := by omega
        have hp2 : (8 * (i : Int)).toNat = 8 * i := by omega
        clear hi e1
        have hB := hW.blk
        have c0 := hB.cell (j := 0) rfl
        have hBl := hB.lt
        have hBf := hB.free
        have hlb : (bs ++ numTo size n k).length ≤ 1000008 := by simp [numTo]; omega
        obtain ⟨cs, hcs⟩ : ∃ cs, cs = bs ++ numTo size n k := ⟨_, rfl⟩
        rw [← hcs] at hW hlb
        have HCS := Lib.hid hcs
        clear hcs
        have hval : Hid (Value.int .u8 (IntKind.u8.wrap ((n : Int) / 2 ^ (8 * i))) = byt (numByte size n k)) := by
          have e2 : (n : Int) / 2 ^ (8 * i) = ((n / 2 ^ (8 * i) : Nat) : Int) := by simp
          rw [e2, byte_u8]
          unfold numByte
          rw [HI.out]
          exact rfl
        have hO := hW.own
        have hl1 : Hid ([Value.int .u8 (IntKind.u8.wrap ((n : Int) / 2 ^ (8 * i)))].length = 1 * 1) := rfl
        have h1c : Hid (∀ u ∈ [Value.int .u8 (IntKind.u8.wrap ((n : Int) / 2 ^ (8 * i)))], u.oneCell' = true) := fun u hu => by simp at hu; subst hu; rfl
        have hm1 : cs.length + 1 ≤ maxLen := by unfold maxLen; omega
        have hm2 : (cs.length + 1) * 1 ≤ 140737488355328 := by omega
        go_wp2_with fail
        go_region_law (refine step_app _ rfl (.tmp 35) (.tmp 41) 26 rfl 5 i0 (.int .u8 0) 1 1 Try.underlying26 hi0 hz0 hz1 hz2 rfl v' _ _ (by simp [Act.eval, Act.put]) (by first | exact hO.drew.alloc _ | exact (hO.alloc _).drew) ⟨wr.heap.size, 0, none⟩ 1 1 [Value.int .u8 (IntKind.u8.wrap ((n : Int) / 2 ^ (8 * i)))] (by simp [Act.eval, Act.put]) hl1.out (by first | exact new_cell | exact new_cell (w := wr)) h1c.out hm1 hm2 ?_; intro v2 w2 hap; obtain ⟨g2, c2, rfl⟩ := hap.some (by omega); have hB2 := app_keep hap (w0 := wr) (by first | exact ((Fr.refl No wr).drew).alloc _ | exact ((Fr.refl No wr).alloc _).drew) hB hW.ne; have d0 := hB2.cell (j := 0) rfl; have dl := hB2.lt; have df := hB2.free)
        all_goals
          rw [show [Value.int .u8 (IntKind.u8.wrap ((n : Int) / 2 ^ (8 * i)))] = [numByte size n k].map byt from by rw [hval.out]; rfl] at hap
          have hfin := hW.app (by first | exact ((Fr.refl No wr).drew).alloc _ | exact ((Fr.refl No wr).alloc _).drew) hap rfl
          have HF := Lib.hid hfin
          clear hfin hap d0 dl df hB2 hO hW
          go_wp2
          go_roundw
          case rel =>
            refine ⟨k + 1, _, by omega, ?_, by rw [numTo_succ, ← List.append_assoc, ← HCS.out]; exact HF.out.1, hfr.trans HF.out.2.1 ?_, hat.trans HF.out.2.2 hfr.size⟩
            · have := HE.out
              congr 1
              omega
            · rintro x (hx | hx)
              · exact .inl (.inl hx)
              · rcases hat x hx with h1 | h1
                · exact .inl (.inr h1)
                · exact .inr h1
          case measure => (simp [intOf]; try omega)
      · obtain rfl : k = size := by omega
        have e1 : (k : Int) - 1 - (k : Nat) = -1 := by omega
        rw [e1]
        go_wp2
        go_ret
        exact ⟨v', rfl, hW, hfr, hat⟩

end Go.Proofs.Ytnkjhicokcmmpaa

/-
  The writer of bytes: raw bytes, how many there are, what they are; copies of bytes.
-/
namespace Go.Proofs.Ytnkjhicokcmmpaa
open Go.RowKit

theorem Try.eqU8 (w : World) (a : Option Addr) (n c n' c' : Nat) : (binOp .eql 26 (.slice a n c) (.slice none n' c')).run Try.prog w = .ok (.bool a.isNone) w :=
  Lib.run_eql_slice_nil w 26 5 a n c n' c' Try.underlying26

set_option maxRecDepth 100000 in
set_option maxHeartbeats 400000 in
theorem cloneB_any (a : Option Addr) (n c : Nat) (bs : List UInt8) (w : World) (h : Win w a n c (bs.map byt)) (hb : n ≤ 1000000) :
    Calls Try.prog 89 #[.slice a n c] w fun e w' => ∃ v, e = .returned v ∧ IsClone 5 w a n (bs.map byt) v w' := by
  have hnil := Try.eqU8
  obtain ⟨i0, hi, hz0, hz1, hz2⟩ := info_parts Try.infoU8
  cases a with
  | none =>
    obtain ⟨rfl, rfl, hx⟩ := h.nil_inv
    rw [hx]
    clear hx
    go_enter Try.func89, Try.ntmps89
    go_wp2
    go_ret
    exact ⟨_, rfl, World.ownsRow_nil _ _ _ _, fun k hk => by simp [Value.ownBlock] at hk, by simp, Fr.refl _ _⟩
  | some ad =>
    have hm : Hid (Own (w.alloc (.cells #[] 5)) 5 1 (.slice (some ⟨w.heap.size, 0, none⟩) 0 0) 0 []) := Own.weak (World.ownsRow_made w #[] 0 (Nat.le_refl _) (Nat.zero_le _) rfl)
    have hw : Hid (Win (w.alloc (.cells #[] 5)) (some ad) n c (bs.map byt)) := h.no ((Fr.refl No w).alloc _)
    have HK : Hid (∀ u ∈ bs.map byt, u.oneCell' = true) := byt_one bs
    have hm1 : 0 + n ≤ maxLen := by unfold maxLen; omega
    have hm2 : (0 + n) * 1 ≤ 140737488355328 := by omega
    go_enter Try.func89, Try.ntmps89
    go_wp2_with (at_builtin; refine wpList_appW _ rfl (.tmp 5) (.tmp 6) 26 rfl 5 i0 (.int .u8 0) 1 Try.underlying26 hi hz0 hz1 hz2 rfl (.slice (some ⟨w.heap.size, 0, none⟩) 0 0) 0 [] rfl hm.out (some ad) n c (bs.map byt) rfl hw.out HK.out hm1 hm2 ?_; intro v' w' hap)
    go_ret
    have ho := hap.own
    rw [Nat.zero_add, List.nil_append] at ho
    refine ⟨v', rfl, ho, fun k hk => ?_, ?_, ((Fr.refl No w).alloc _).trans hap.fr (fun k hk => .inr ?_)⟩
    · rcases hap.blk with e | ⟨k', e, hk'⟩
      · rw [e] at hk
        simp [Value.ownBlock] at hk
        omega
      · rw [e] at hk
        cases hk
        simp at hk'
        omega
    · rw [hap.isNil]; simp
    · simp [Value.ownBlock] at hk; omega

set_option maxRecDepth 100000 in
set_option maxHeartbeats 400000 in
/-- The document's copy of bytes: nil of nothing. -/
theorem twin_any (a : Option Addr) (n c : Nat) (bs : List UInt8) (w : World) (h : Win w a n c (bs.map byt)) (hb : n ≤ 1000000) :
    Calls Try.prog 17 #[.slice a n c] w fun e w' => ∃ v, e = .returned v ∧ Own w' 5 1 v n (bs.map byt) ∧ (∀ k, v.ownBlock = some k → w.heap.size ≤ k) ∧ (v = .slice none 0 0 ↔ n = 0) ∧ Fr No w w' := by
  obtain ⟨i0, hi, hz0, hz1, hz2⟩ := info_parts Try.infoU8
  have hw := Lib.hid h
  have HK : Hid (∀ u ∈ bs.map byt, u.oneCell' = true) := byt_one bs
  have hm1 : 0 + n ≤ maxLen := by unfold maxLen; omega
  have hm2 : (0 + n) * 1 ≤ 140737488355328 := by omega
  have hm : Hid (Own w 5 1 (.slice none 0 0) 0 []) := World.ownsRow_nil _ _ _ _
  clear h
  go_enter Try.func17, Try.ntmps17
  go_wp2_with (at_builtin; refine wpList_appW _ rfl (.tmp 4) (.tmp 5) 26 rfl 5 i0 (.int .u8 0) 1 Try.underlying26 hi hz0 hz1 hz2 rfl (.slice none 0 0) 0 [] rfl hm.out a n c (bs.map byt) rfl hw.out HK.out hm1 hm2 ?_; intro v' w' hap)
  go_ret
  have ho := hap.own
  rw [Nat.zero_add, List.nil_append] at ho
  refine ⟨v', rfl, ho, fun k hk => ?_, ?_, (Fr.refl No w).trans hap.fr (fun k hk => ?_)⟩
  · rcases hap.blk with e | ⟨k', e, hk'⟩
    · rw [e] at hk
      simp [Value.ownBlock] at hk
    · rw [e] at hk
      cases hk
      exact hk'
  · rw [hap.isNil]; simp
  · simp [Value.ownBlock] at hk

set_option maxRecDepth 100000 in
set_option maxHeartbeats 400000 in
theorem wraw_any (b : Nat) (v : Value) (bs cs : List UInt8) (a : Option Addr) (n c : Nat) (hl : bs.length + n ≤ 1000000) (w : World) (h : WrAt w b v bs) (hw : Win w a n c (cs.map byt)) :
    Calls Try.prog 64 #[.pointer (some ⟨b, 0, none⟩), .slice a n c] w fun e w' => ∃ v', e = .returned (.int .i64 0) ∧ WrAt w' b v' (bs ++ cs) ∧ Fr (fun k => k = b ∨ v.ownBlock = some k) w w' ∧ AtOr w v v' := by
  obtain ⟨i0, hi, hz0, hz1, hz2⟩ := info_parts Try.infoU8
  have hB := h.blk
  have c0 := hB.cell (j := 0) rfl
  have hBl := hB.lt
  have hBf := hB.free
  have HW := Lib.hid hw
  have HO := Lib.hid h.own
  have HK : Hid (∀ u ∈ cs.map byt, u.oneCell' = true) := byt_one cs
  have hm1 : bs.length + n ≤ maxLen := by unfold maxLen; omega
  have hm2 : (bs.length + n) * 1 ≤ 140737488355328 := by omega
  have hcl : cs.length = n := by have := hw.len; simpa using this
  have HCL := Lib.hid hcl
  have HH := Lib.hid h
  clear hw hcl h
  go_enter Try.func64, Try.ntmps64
  go_wp2_with (at_builtin; refine wpList_appW _ rfl (.tmp 11) (.tmp 12) 26 rfl 5 i0 (.int .u8 0) 1 Try.underlying26 hi hz0 hz1 hz2 rfl v _ _ rfl HO.out a n c (cs.map byt) rfl HW.out HK.out hm1 hm2 ?_; intro v2 w2 hap; obtain ⟨a2, c2, rfl⟩ := app_slice hap; have hB2 := app_keep hap (w0 := w) (Fr.refl No w) hB HH.out.ne; have d0 := hB2.cell (j := 0) rfl; have dl := hB2.lt; have df := hB2.free)
  go_ret
  have hfin := HH.out.app (Fr.refl No w) hap HCL.out
  exact ⟨_, rfl, hfin.1, hfin.2.1, hfin.2.2⟩

set_option maxRecDepth 100000 in
set_option maxHeartbeats 400000 in
theorem wlen_any (b : Nat) (v : Value) (bs : List UInt8) (w : World) (h : WrAt w b v bs) :
    Calls Try.prog 66 #[.pointer (some ⟨b, 0, none⟩)] w fun e w' => e = .returned (.int .i64 (bs.length : Nat)) ∧ w = w' := by
  have hB := h.blk
  have c0 := hB.cell (j := 0) rfl
  have hBl := hB.lt
  obtain ⟨a, c, rfl⟩ := own_slice h.own
  clear h hB
  go_enter Try.func66, Try.ntmps66
  go_wp2
  go_ret
  exact ⟨rfl, rfl⟩

set_option maxRecDepth 100000 in
set_option maxHeartbeats 400000 in
theorem wbytes_any (b : Nat) (v : Value) (bs : List UInt8) (w : World) (h : WrAt w b v bs) (hl : bs.length ≤ 1000000) :
    Calls Try.prog 68 #[.pointer (some ⟨b, 0, none⟩)] w fun e w' => ∃ v', e = .returned v' ∧ Own w' 5 1 v' bs.length (bs.map byt) ∧ (∀ k, v'.ownBlock = some k → w.heap.size ≤ k) ∧ (v' = .slice none 0 0 ↔ v = .slice none 0 0) ∧ Fr No w w' := by
  have hB := h.blk
  have c0 := hB.cell (j := 0) rfl
  have hBl := hB.lt
  obtain ⟨a, c, rfl, hw⟩ := Win.of_own h.own
  clear h hB
  go_enter Try.func68, Try.ntmps68
  go_wp2_with (go_at_call 89; refine (cloneB_any a _ c bs _ hw hl).mono ?_; rintro e w1 ⟨v1, rfl, hc⟩)
  go_ret
  refine ⟨v1, rfl, hc.own, hc.new, ?_, hc.fr⟩
  rw [hc.nil]
  constructor
  · rintro rfl
    obtain ⟨h1, h2, _⟩ := hw.nil_inv
    rw [h1, h2]
  · intro e
    injection e

end Go.Proofs.Ytnkjhicokcmmpaa

/-
  A range over a function, met in a plain walk; a function's end behind it.
-/
namespace Go.Proofs.Ytnkjhicokcmmpaa
open Go.RowKit Go.Shelf

theorem Fr.putObj {S : Nat → Prop} {a w : World} (h : Fr S a w) {D : Nat} (hD : S D ∨ a.heap.size ≤ D) (o : Obj) : Fr S a (w.putObj D o) :=
  h.grown (grownBy_putObj' w D o) (fun k hk => by cases hk; exact hD)
theorem Blk.putObj {w : World} {b : Nat} {T : TypeId} {l : List Value} (h : Blk w b T l) {D : Nat} (hD : b ≠ D) (o : Obj) : Blk (w.putObj D o) b T l := (World.putObj_heap_other (fun e => hD e)).trans h
/-- The block at which a loop's deferred calls lie holds no cells. -/
theorem Blk.neDef {w : World} {b D : Nat} {T : TypeId} {l : List Value} {o : Option (List Deferred)} (h : Blk w b T l) (hD : w.heap[D]? = some (.deferred o)) : b ≠ D := by
  intro e
  subst e
  have := h.symm.trans hD
  simp at this

variable {P : Program}
/-- A range over a function in a plain walk. -/
theorem wp_range {α : Type} {g : Operand} {ps : Array Tmp} {assign body : Code} {Q : Exit → Act → World → Prop} {a : Act} {w : World}
    {gf : Nat} {lb : Array Value} (hg : a.eval g = .func (.func gf) #[] lb) (eg : ∀ args w, (callFunc gf args).run P w = .ok (.enter gf args) w)
    {encs : α → Array Value} {Kp : World → World → Prop} {S Sp : List α → Prop} {N : Nat} {w0 : World} (hseq : SeqStopsK Fence.wide 4 P gf lb encs Kp S Sp N w0)
    (hKt : ∀ {A B C : World}, Kp A B → Kp B C → Kp A C) (hKb : ∀ (W : World) (l : Nat) (o o' : Obj), w.heap.size ≤ l → W.heap[l]? = some o → o.isCells = false → o.isWalk = false → Kp W (W.putObj l o')) (hb0 : Below w0.heap.size w0 w) (hps : ∀ x, (encs x).size = ps.size)
    (I : List α → World → Prop) (Ix : Code → List α → World → Prop) (hI : OwnFrom w.heap.size I) (hIx : ∀ c, OwnFrom w.heap.size (Ix c)) (h0 : I [] w) (a₁ : α → Act)
    (hassign : ∀ (l : Nat) (x : α) (W : World) (K : Act → World → Prop), K (a₁ x) W →
      assign.wpIn (Fence.wide.inRound l) 3 P (Exit.then K (fun _ _ _ => False)) { tmps := (ps.zip (encs x)).foldl (fun t (p, v) => t.setIfInBounds p v) a.tmps, defers := [] } W)
    (hbody : ∀ (l : Nat) (pre : List α) (x : α) (W : World), I pre W → pre.length < N → body.wpIn (Fence.wide.inRound l) 3 P (ownPostK Kp I Ix (pre ++ [x]) W) (a₁ x) W)
    (hdone : ∀ (D : Nat) (xs : List α) (W : World), w.heap.size ≤ D → S xs → I xs W → W.heap[D]? = some (.deferred (some [])) → Q .normal { a with defers := { target := .collected D, args := #[] } :: a.defers } W)
    (hstop : ∀ (D : Nat) (c : Code) (pre : List α) (W : World), w.heap.size ≤ D → Sp pre → Ix c pre W → W.heap[D]? = some (.deferred (some [])) → c.wp P Q { a with defers := { target := .collected D, args := #[] } :: a.defers } W) :
    (Code.rangeFunc g ps assign body).wp P Q a w :=
  wpIn_wide.1 (wpIn_rangeFunc_ownF (n := 5) rfl (by omega) hg trivial eg hseq hKt hKb hb0 hps I Ix hI hIx h0 a₁ hassign hbody hdone (fun D c pre W h1 h2 h3 h4 => wpIn_wide.2 (hstop D c pre W h1 h2 h3 h4)))

/-- A post in which no panic is borne. -/
def noPanic (Q : Exit → Act → World → Prop) : Exit → Act → World → Prop
  | .panic _, _, _ => False
  | e, a, w => Q e a w
theorem noPanic_le {Q : Exit → Act → World → Prop} (e : Exit) (a : Act) (w : World) (h : noPanic Q e a w) : Q e a w := by
  cases e <;> first | exact h | exact h.elim

/-- A function that holds a range over a function, entered by a plain walk. -/
theorem calls_of_marks {f : FuncId} {fn : Func} {c : Code} {args : Array Value} {w : World} {R : Ending → World → Prop} (hf : P.funcs[f]? = some fn) (hb : fn.body = some c)
    (h : c.wp P (noPanic (bodyPostM Fence.wide 5 P fn R)) { tmps := args ++ Array.replicate (fn.ntmps - args.size) undef, defers := [] } w) : Calls P f args w R :=
  callsIn_wide.1 (callsIn_of_wp_marks (F := Fence.wide) (n := 5) hf hb trivial (wpIn_wide.2 (wp_mono h noPanic_le)) rfl)

/-- Its end, behind one loop. -/
theorem end_marks {fn : Func} {R : Ending → World → Prop} {tmps : Array Value} {D : Nat} {w : World} {v : Value} (hK : w.heap[D]? = some (.deferred (some [])))
    (hr : (results fn tmps).run P (w.putObj D (.deferred none)) = .ok v (w.putObj D (.deferred none))) (h : R (.returned v) (w.putObj D (.deferred none))) :
    noPanic (bodyPostM Fence.wide 5 P fn R) .ret { tmps := tmps, defers := [{ target := .collected D, args := #[] }] } w := by
  show LeavesInM Fence.wide 5 P fn tmps R [_] .returning w
  refine ⟨by simp, .inl ⟨_, _, rfl, run_takeDeferred hK, ?_⟩⟩
  exact ⟨v, hr, h⟩

end Go.Proofs.Ytnkjhicokcmmpaa

/-
  The reader of bytes: the bytes that are left, told one by one.
-/
namespace Go.Proofs.Ytnkjhicokcmmpaa
open Go.RowKit Go.Shelf
attribute [local go_sem] Oper.semAt_some

/-- A reader in block rb: its bytes, and how many were read. -/
structure RdAt (w : World) (rb : Nat) (v : Value) (bs : List UInt8) (pos : Nat) : Prop where
  blk : Blk w rb 149 [v, .int .i64 pos, .bool true]
  own : Own w 5 1 v bs.length (bs.map byt)
theorem RdAt.fr {S : Nat → Prop} {w w' : World} {rb pos : Nat} {v : Value} {bs : List UInt8} (h : RdAt w rb v bs pos) (hf : Fr S w w') (h1 : ¬ S rb) (h2 : ∀ k, v.ownBlock = some k → ¬ S k) : RdAt w' rb v bs pos :=
  ⟨h.blk.fr hf h1, h.own.fr hf h2⟩
theorem RdAt.no {w w' : World} {rb pos : Nat} {v : Value} {bs : List UInt8} (h : RdAt w rb v bs pos) (hf : Fr No w w') : RdAt w' rb v bs pos := h.fr hf (No.no _) (fun _ _ => No.no _)
theorem RdAt.ne {w : World} {rb pos : Nat} {v : Value} {bs : List UInt8} (h : RdAt w rb v bs pos) : ∀ k, v.ownBlock = some k → k ≠ rb := h.blk.neOwn h.own (by decide)

/-- The first k of some bytes, each with its place. -/
def told (l : List UInt8) (k : Nat) : List (Nat × UInt8) := (List.range k).map fun i => (i, l[i]?.getD 0)
def toldAll (l : List UInt8) : List (Nat × UInt8) := told l l.length
theorem told_succ (l : List UInt8) (k : Nat) : told l (k + 1) = told l k ++ [(k, l[k]?.getD 0)] := by simp [told, List.range_succ]
theorem told_len (l : List UInt8) (k : Nat) : (told l k).length = k := by simp [told]
theorem told_prefix {l : List UInt8} {k : Nat} (hk : k ≤ l.length) : told l k <+: toldAll l := by
  unfold toldAll told
  obtain ⟨d, hd⟩ := Nat.exists_eq_add_of_le hk
  rw [hd, List.range_add, List.map_append]
  exact List.prefix_append _ _

set_option maxRecDepth 100000 in
set_option maxHeartbeats 2000000 in
theorem ahead1_in (n : Nat) (hn : 1 ≤ n) (l Bs n₀ rb pos : Nat) (v : Value) (bs : List UInt8) (hpos : pos ≤ bs.length) (hlen : bs.length ≤ 1000000) (J Jx : List (Nat × UInt8) → World → Prop)
    (hY : ∀ pre x W, J pre W → pre.length < (bs.drop pos).length → YieldAt Fence.wide (n - 1) Try.prog l #[.int .i64 (x.1 : Nat), byt x.2] W fun e W' =>
      (e = .returned (.bool true) ∧ J (pre ++ [x]) W' ∧ Below n₀ W W') ∨ (e = .returned (.bool false) ∧ Jx (pre ++ [x]) W'))
    (W : World) (hBs : Blk W Bs 115 [.pointer (some ⟨rb, 0, none⟩)]) (hR : RdAt W rb v bs pos) (hn0 : ∀ k, v.ownBlock = some k → k < n₀) (hN : ∀ N, J [] (W.drewN N)) :
    CallsIn Fence.wide n Try.prog 138 #[.func (.yield l) #[] #[], .pointer (some ⟨Bs, 0, none⟩)] W fun e W' => (∃ v, e = .returned v) ∧
      ((∃ ys, ys = toldAll (bs.drop pos) ∧ J ys W') ∨ (∃ pre, pre <+: toldAll (bs.drop pos) ∧ Jx pre W')) := by
  have b0 := hBs.cell (j := 0) rfl
  have r0 := hR.blk.cell (j := 0) rfl
  have r1 := hR.blk.cell (j := 1) rfl
  obtain ⟨a, c, rfl, hw⟩ := Win.of_own hR.own
  have hcap := hw.cap
  have hmax := hw.max
  unfold maxLen at hmax
  have hbl := hBs.lt
  have hrl := hR.blk.lt
  refine callsIn_of_wp Try.func138 rfl trivial ?_ rfl
  simp only [Try.ntmps138, List.size_toArray, List.length_cons, List.length_nil, Nat.reduceAdd, Nat.reduceSub, Array.replicate_succ, Array.replicate_zero, List.push_toArray, List.append_toArray, List.nil_append, List.cons_append]
  gi_wp2
  gi_quiet_th (fail)
  have hwd := hw.drop hpos
  rw [← List.map_drop] at hwd
  obtain ⟨a', ha'⟩ : ∃ a', a' = (if c = pos then a else Option.map (fun x => x.add pos) a) := ⟨_, rfl⟩
  obtain ⟨m, hm⟩ : ∃ m, m = bs.length - pos := ⟨_, rfl⟩
  have hwd : Win W a' m (c - pos) ((bs.drop pos).map byt) := by rw [ha', hm]; exact hwd
  have hlm : (bs.drop pos).length = m := by rw [List.length_drop, hm]
  have hbk : ∀ ad, a' = some ad → ad.block < n₀ := by
    intro ad hd
    rw [ha'] at hd
    split at hd
    · exact hn0 ad.block (by rw [hd]; rfl)
    · cases a with
      | none => cases hd
      | some ad0 => cases hd; rw [add_block]; exact hn0 ad0.block rfl
  rw [← ha', ← hm]
  obtain ⟨ds, hds⟩ : ∃ ds, ds = bs.drop pos := ⟨_, rfl⟩
  rw [← hds] at hwd hlm hY
  have HDS := Lib.hid hds
  have hml : m ≤ 1000000 := by omega
  have HL := Lib.hid hlm
  have HNN := Lib.hid (hN nq)
  clear hds ha' hm b0 r0 r1 hN hlm hcap hmax hbl hrl hw hpos hlen hBs hR hn0
  gi_wp2
  gi_loopw [15] (fun t wr => ∃ k : Nat, k ≤ m ∧ t = .int .i64 k ∧ J (told ds k) wr ∧ Below n₀ (W.drewN nq) wr) (fun t _ => m - (intOf t).toNat)
  case atStart => exact ⟨0, Nat.zero_le _, rfl, HNN.out, Below.refl _ _⟩
  case round =>
    obtain ⟨k, hk, rfl, hJs, hnx⟩ := hrel
    by_cases hlt : k < m
    · have hkd : k < ds.length := by rw [HL.out]; exact hlt
      obtain ⟨ad, u, rfl, hu, hcell⟩ := hwd.at hlt
      have hu' : u = byt (ds[k]?.getD 0) := by
        rw [List.getElem?_map, List.getElem?_eq_getElem hkd] at hu
        rw [List.getElem?_eq_getElem hkd]
        exact (Option.some.inj hu).symm
      subst hu'
      have hc1 : wr.cell? (ad.add k) = some (byt (ds[k]?.getD 0)) := by
        have h1 : (W.drewN nq).cell? (ad.add k) = some (byt (ds[k]?.getD 0)) := hcell
        exact (hnx.cell (p := ad.add k) (by rw [add_block]; exact hbk ad rfl)).trans h1
      obtain ⟨fn, tmps, assign, body, hy, hR⟩ := hY _ (k, ds[k]?.getD 0) wr hJs (by rw [told_len]; exact hkd)
      dsimp only at hy
      have HT : Hid (told ds (k + 1) = told ds k ++ [(k, ds[k]?.getD 0)]) := told_succ ds k
      generalize ds[k]?.getD 0 = x at *
      clear hcell hu
      gi_wp2
      refine hR.mono ?_
      rintro e W3 (⟨rfl, hJ3, hk3⟩ | ⟨rfl, hJx3⟩)
      · gi_wp2
        go_roundw
        case rel => exact ⟨k + 1, by omega, by simp, by rw [HT.out]; exact hJ3, hnx.trans hk3⟩
        case measure => (simp [intOf]; try omega)
      · gi_wp2
        refine bodyPost_ret (results_none rfl _ _ _) rfl ?_
        exact ⟨⟨_, rfl⟩, .inr ⟨_, by rw [← HDS.out, ← HT.out]; exact told_prefix (by omega), hJx3⟩⟩
    · obtain rfl : k = m := by omega
      gi_wp2
      go_end0
      exact ⟨⟨_, rfl⟩, .inl ⟨_, by unfold toldAll; rw [← HDS.out, HL.out], hJs⟩⟩

end Go.Proofs.Ytnkjhicokcmmpaa

/-
  The reader of bytes: the number that the next bytes are.
-/
namespace Go.Proofs.Ytnkjhicokcmmpaa
open Go.RowKit Go.Shelf
attribute [local go_sem] Oper.semAt_some

theorem ahead_in (n : Nat) (a : Option Addr) (w : World) :
    CallsIn Fence.wide n Try.prog 122 #[.pointer a] w fun e w' => e = .returned (.func (.func 138) #[] #[.pointer (some ⟨w.heap.size, 0, none⟩)]) ∧ w.alloc (.cells #[.pointer a] 115) = w' := by
  refine callsIn_of_wp Try.func122 rfl trivial ?_ rfl
  simp only [Try.ntmps122, List.size_toArray, List.length_cons, List.length_nil, Nat.reduceAdd, Nat.reduceSub, Array.replicate_succ, Array.replicate_zero, List.push_toArray, List.append_toArray, List.nil_append, List.cons_append]
  gi_wp2
  go_ret
  exact ⟨rfl, rfl⟩

theorem ahead_stops (n : Nat) (hn : 1 ≤ n) (Bs n₀ rb pos : Nat) (v : Value) (bs : List UInt8) (hpos : pos ≤ bs.length) (hlen : bs.length ≤ 1000000) (w : World)
    (hBs : Blk w Bs 115 [.pointer (some ⟨rb, 0, none⟩)]) (hR : RdAt w rb v bs pos) (hn0 : ∀ k, v.ownBlock = some k → k < n₀) :
    SeqStopsK Fence.wide n Try.prog 138 #[.pointer (some ⟨Bs, 0, none⟩)] (fun x : Nat × UInt8 => #[Value.int .i64 (x.1 : Nat), byt x.2]) (Below n₀) (fun ys => ys = toldAll (bs.drop pos)) (fun pre => pre <+: toldAll (bs.drop pos)) (bs.drop pos).length w := fun l J Jx W hW hJ _ hY h0 => by
  have hB' : Blk W Bs 115 [.pointer (some ⟨rb, 0, none⟩)] := (hW.block Bs hBs.lt).trans hBs
  have hR' : RdAt W rb v bs pos := hR.fr (S := fun k => w.heap.size ≤ k) ⟨hW.os, hW.tape, hW.output, hW.size, fun k hk hn => hW.block k hk⟩ (by have := hR.blk.lt; omega) (fun k hk => by have := hR.own.lt hk; omega)
  refine ahead1_in n hn l Bs n₀ rb pos v bs hpos hlen J Jx hY W hB' hR' hn0 (fun N => ?_)
  exact hJ [] W (W.drewN N) none h0 ⟨rfl, rfl, rfl, Nat.le_refl _, fun _ _ _ => rfl⟩ (fun k hk => by cases hk)

/-- The number of some bytes, the first one going highest. -/
def wh (l : List UInt8) : Nat := l.foldl (fun n c => n * 256 + c.toNat) 0

/-- The register behind bytes. -/
def accS (m : Int) (c : UInt8) : Int := bits .or .u64 (IntKind.u64.wrap (m * 256)) (IntKind.u64.wrap (c.toNat : Int))
def accN (l : List (Nat × UInt8)) : Int := l.foldl (fun n x => accS n x.2) 0
theorem accN_snoc (l : List (Nat × UInt8)) (x : Nat × UInt8) : accN (l ++ [x]) = accS (accN l) x.2 := by simp [accN]
theorem wh_snoc (l : List UInt8) (c : UInt8) : wh (l ++ [c]) = wh l * 256 + c.toNat := by simp [wh]
theorem wh_lt (l : List UInt8) : wh l < 256 ^ l.length := by
  induction hn : l.length generalizing l with
  | zero =>
    have : l = [] := List.eq_nil_of_length_eq_zero hn
    subst this
    simp [wh]
  | succ n ih =>
    rcases List.eq_nil_or_concat l with rfl | ⟨l', c, rfl⟩
    · simp at hn
    · rw [List.concat_eq_append] at *
      simp at hn
      have h1 := ih l' hn
      have h2 : c.toNat < 256 := c.toNat_lt
      rw [wh_snoc, Nat.pow_succ]
      omega
theorem wrap_u64 (a : Nat) (h : a < 2 ^ 64) : IntKind.u64.wrap (a : Int) = a := by
  simp [IntKind.wrap, IntKind.signed, IntKind.bits]
  omega
theorem accS_nat (m : Nat) (c : UInt8) (hm : m < 2 ^ 56) : accS m c = ((m * 256 + c.toNat : Nat) : Int) := by
  have hc : c.toNat < 256 := c.toNat_lt
  unfold accS
  rw [show (m : Int) * 256 = ((m * 256 : Nat) : Int) by simp, wrap_u64 _ (by omega), wrap_u64 _ (by omega), bits_or_u64_nat _ _ (by omega) (by omega)]
  congr 1
  have := Nat.shiftLeft_add_eq_or_of_lt (i := 8) (b := c.toNat) hc m
  rw [Nat.shiftLeft_eq, show (2 : Nat) ^ 8 = 256 from rfl] at this
  omega
theorem accN_eq (l : List (Nat × UInt8)) : l.length ≤ 8 → accN l = (wh (l.map (·.2)) : Nat) := by
  induction hn : l.length generalizing l with
  | zero =>
    intro _
    have : l = [] := List.eq_nil_of_length_eq_zero hn
    subst this
    rfl
  | succ n ih =>
    intro h8
    rcases List.eq_nil_or_concat l with rfl | ⟨l', c, rfl⟩
    · simp at hn
    · rw [List.concat_eq_append] at *
      simp at hn
      have h1 := ih l' hn (by omega)
      have h2 := wh_lt (l'.map (·.2))
      rw [List.length_map, hn] at h2
      have h3 : 256 ^ n ≤ 256 ^ 7 := Nat.pow_le_pow_right (by decide) (by omega)
      rw [accN_snoc, h1, accS_nat _ _ (by omega), List.map_append]
      show _ = ((wh (l'.map (·.2) ++ [c.2]) : Nat) : Int)
      rw [wh_snoc]
theorem told_snd (l : List UInt8) (k : Nat) (hk : k ≤ l.length) : (told l k).map (·.2) = l.take k := by
  apply List.ext_getElem
  · simp [told]; omega
  · intro i h1 h2
    simp [told] at h1 ⊢
    have : i < l.length := by omega
    simp [this]
theorem told_fst {l : List UInt8} {k : Nat} {x : Nat × UInt8} (hx : x ∈ told l k) : x.1 < k := by
  obtain ⟨i, hi, rfl⟩ := List.mem_map.1 hx
  simpa using hi
theorem told_mem (l : List UInt8) {k i : Nat} (hi : i < k) : (i, l[i]?.getD 0) ∈ told l k := List.mem_map.2 ⟨i, by simpa using hi, rfl⟩

/-- A world in which two boxes were stored to, and the block of deferred calls is struck. -/
theorem two_boxes {w W : World} {N1 N2 D : Nat} {T1 T2 : TypeId} {x1 x2 y1 y2 : Value} (h1 : Blk W N1 T1 [x1]) (h2 : Blk W N2 T2 [x2]) (hne : N1 ≠ N2) (hK : W.heap[D]? = some (.deferred (some []))) (hf : Fr (fun k => k = N1 ∨ k = N2) w W) (hD : w.heap.size ≤ D) (o : Obj) :
    (((W.setCell ⟨N1, 0, none⟩ y1).setCell ⟨N2, 0, none⟩ y2).drew).heap[D]? = some (.deferred (some [])) ∧ Blk ((((W.setCell ⟨N1, 0, none⟩ y1).setCell ⟨N2, 0, none⟩ y2).drew).putObj D o) N1 T1 [y1] ∧ Blk ((((W.setCell ⟨N1, 0, none⟩ y1).setCell ⟨N2, 0, none⟩ y2).drew).putObj D o) N2 T2 [y2] ∧ Fr (fun k => k = N1 ∨ k = N2) w ((((W.setCell ⟨N1, 0, none⟩ y1).setCell ⟨N2, 0, none⟩ y2).drew).putObj D o) := by
  have n1 := h1.neDef hK
  have n2 := h2.neDef hK
  have b1 : Blk (((W.setCell ⟨N1, 0, none⟩ y1).setCell ⟨N2, 0, none⟩ y2).drew) N1 T1 [y1] := ((h1.set 0 y1).other (by show N1 ≠ N2; exact hne) y2).drew
  have b2 : Blk (((W.setCell ⟨N1, 0, none⟩ y1).setCell ⟨N2, 0, none⟩ y2).drew) N2 T2 [y2] := ((h2.other (by show N2 ≠ N1; exact fun e => hne e.symm) y1).set 0 y2).drew
  have hk : (((W.setCell ⟨N1, 0, none⟩ y1).setCell ⟨N2, 0, none⟩ y2).drew).heap[D]? = some (.deferred (some [])) := by
    refine Eq.trans (Below.heap_setCell _ ⟨N2, 0, none⟩ y2 D (fun e => n2 e.symm)) ?_
    exact Eq.trans (Below.heap_setCell _ ⟨N1, 0, none⟩ y1 D (fun e => n1 e.symm)) hK
  refine ⟨hk, b1.putObj n1 o, b2.putObj n2 o, ?_⟩
  exact (((hf.setCell (p := ⟨N1, 0, none⟩) (.inl (.inl rfl)) y1).setCell (p := ⟨N2, 0, none⟩) (.inl (.inr rfl)) y2).drew).putObj (.inr hD) o

set_option maxRecDepth 100000 in
set_option maxHeartbeats 4000000 in
theorem number_any (rb pos size : Nat) (v : Value) (bs : List UInt8) (hpos : pos ≤ bs.length) (hlen : bs.length ≤ 1000000) (hs1 : 1 ≤ size) (hs8 : size ≤ 8) (w : World) (h : RdAt w rb v bs pos) :
    Calls Try.prog 109 #[.pointer (some ⟨rb, 0, none⟩), .int .i64 size] w fun e w' =>
      (∃ x : Int, e = .returned (.tuple #[.int .u64 x, .bool (decide (pos + size ≤ bs.length))]) ∧ (pos + size ≤ bs.length → x = wh ((bs.drop pos).take size))) ∧ Fr No w w' := by
  refine calls_of_marks Try.func109 rfl ?_
  simp only [Try.ntmps109, List.size_toArray, List.length_cons, List.length_nil, Nat.reduceAdd, Nat.reduceSub, Array.replicate_succ, Array.replicate_zero, List.push_toArray, List.append_toArray, List.nil_append, List.cons_append]
  go_wp2
  go_step3
  go_wp2
  go_step3
  go_wp2_with (go_at_call 122; refine (callsIn_wide.1 (ahead_in 5 _ _)).mono ?_; rintro e w1 ⟨rfl, rfl⟩)
  have hS : Blk ((((w.alloc (.cells #[.int .i64 size] 3)).alloc (.cells #[.int .u64 0] 22)).alloc (.cells #[.bool false] 4)).alloc (.cells #[.pointer (some ⟨rb, 0, none⟩)] 115)) w.heap.size 3 [.int .i64 size] := (((Blk.new w _ _).alloc _).alloc _).alloc _
  have hN : Blk ((((w.alloc (.cells #[.int .i64 size] 3)).alloc (.cells #[.int .u64 0] 22)).alloc (.cells #[.bool false] 4)).alloc (.cells #[.pointer (some ⟨rb, 0, none⟩)] 115)) (w.heap.size + 1) 22 [.int .u64 0] := by
    have := Blk.new (w.alloc (.cells #[.int .i64 size] 3)) 22 [.int .u64 0]
    rw [World.size_alloc] at this
    exact (this.alloc _).alloc _
  have hI : Blk ((((w.alloc (.cells #[.int .i64 size] 3)).alloc (.cells #[.int .u64 0] 22)).alloc (.cells #[.bool false] 4)).alloc (.cells #[.pointer (some ⟨rb, 0, none⟩)] 115)) (w.heap.size + 1 + 1) 4 [.bool false] := by
    have := Blk.new ((w.alloc (.cells #[.int .i64 size] 3)).alloc (.cells #[.int .u64 0] 22)) 4 [.bool false]
    rw [World.size_alloc, World.size_alloc] at this
    exact this.alloc _
  have hX : Blk ((((w.alloc (.cells #[.int .i64 size] 3)).alloc (.cells #[.int .u64 0] 22)).alloc (.cells #[.bool false] 4)).alloc (.cells #[.pointer (some ⟨rb, 0, none⟩)] 115)) (w.heap.size + 1 + 1 + 1) 115 [.pointer (some ⟨rb, 0, none⟩)] := by
    have := Blk.new (((w.alloc (.cells #[.int .i64 size] 3)).alloc (.cells #[.int .u64 0] 22)).alloc (.cells #[.bool false] 4)) 115 [.pointer (some ⟨rb, 0, none⟩)]
    rwa [World.size_alloc, World.size_alloc, World.size_alloc] at this
  have hfr1 : Fr No w ((((w.alloc (.cells #[.int .i64 size] 3)).alloc (.cells #[.int .u64 0] 22)).alloc (.cells #[.bool false] 4)).alloc (.cells #[.pointer (some ⟨rb, 0, none⟩)] 115)) := ((((Fr.refl No w).alloc _).alloc _).alloc _).alloc _
  generalize (((w.alloc (.cells #[.int .i64 size] 3)).alloc (.cells #[.int .u64 0] 22)).alloc (.cells #[.bool false] 4)).alloc (.cells #[.pointer (some ⟨rb, 0, none⟩)] 115) = w1 at *
  have h1 := h.no hfr1
  have hz := hX.lt
  have hrl := h.blk.lt
  have hvl : ∀ k, v.ownBlock = some k → k < w.heap.size := fun k hk => h.own.lt hk
  refine wp_range (gf := 138) (lb := #[.pointer (some ⟨w.heap.size + 1 + 1 + 1, 0, none⟩)]) rfl (enters_of Try.func138 (by kernel_rfl) rfl)
    (ahead_stops 4 (by omega) (w.heap.size + 1 + 1 + 1) w.heap.size rb pos v bs hpos hlen w1 hX h1 hvl) belowK_t (belowK_b (by omega)) (Below.refl _ _) (fun _ => rfl)
    (fun pre W => Blk W (w.heap.size + 1) 22 [.int .u64 (accN pre)] ∧ (∀ x ∈ pre, x.1 + 1 ≠ size) ∧ Fr (fun k => k = w.heap.size + 1) w1 W)
    (fun c pre W => c = .exit 0 ∧ ∃ pre' x, pre = pre' ++ [x] ∧ x.1 + 1 = size ∧ (∀ x ∈ pre', x.1 + 1 ≠ size) ∧ Blk W (w.heap.size + 1) 22 [.int .u64 (accN pre)] ∧ Blk W (w.heap.size + 1 + 1) 4 [.bool true] ∧ Fr (fun k => k = w.heap.size + 1 ∨ k = w.heap.size + 1 + 1) w1 W)
    ?hI ?hIx ⟨hN, by simp, Fr.refl _ _⟩ (fun x : Nat × UInt8 => { tmps := #[.pointer (some ⟨rb, 0, none⟩), .int .i64 size, undef, .pointer (some ⟨w.heap.size, 0, none⟩), .pointer (some ⟨w.heap.size + 1, 0, none⟩), .pointer (some ⟨w.heap.size + 1 + 1, 0, none⟩), .int .i64 (x.1 : Nat), byt x.2, .pointer (some ⟨rb, 0, none⟩), .func (.func 138) #[] #[.pointer (some ⟨w.heap.size + 1 + 1 + 1, 0, none⟩)], .int .i64 (x.1 : Nat), byt x.2, undef, undef, undef, undef, undef, undef, undef, undef, undef, undef, undef], defers := [] }) ?assign ?body ?done ?stop
  case hI =>
    rintro s A B row ⟨h1, h2, h3⟩ hg hr
    exact ⟨h1.fr ((Fr.refl (fun k => w1.heap.size ≤ k) A).grown hg (fun k hk => .inl (hr k hk).1)) (by omega), h2, h3.grown hg (fun k hk => .inr (hr k hk).1)⟩
  case hIx =>
    rintro cc s A B row ⟨h0, pre', x, h1, h2, h3, h4, h5, h6⟩ hg hr
    exact ⟨h0, pre', x, h1, h2, h3, h4.fr ((Fr.refl (fun k => w1.heap.size ≤ k) A).grown hg (fun k hk => .inl (hr k hk).1)) (by omega), h5.fr ((Fr.refl (fun k => w1.heap.size ≤ k) A).grown hg (fun k hk => .inl (hr k hk).1)) (by omega), h6.grown hg (fun k hk => .inr (hr k hk).1)⟩
  case assign =>
    intro ll x W K hK
    gi_wp2
    exact hK
  case body =>
    rintro ll pre x W ⟨hW1, hW2, hW3⟩ _
    have hb0 := hW1.cell (j := 0) rfl
    have hbf := hW1.free
    have hbl := hW1.lt
    have hSW := hS.fr hW3 (by omega)
    have hIW := hI.fr hW3 (by omega)
    have s0 := hSW.cell (j := 0) rfl
    have i0 := hIW.cell (j := 0) rfl
    have if' := hIW.free
    have il := hIW.lt
    have hw1 : IntKind.i64.wrap ((size : Int) - 1) = (size : Int) - 1 := by rw [IntKind.wrap_i64]; omega
    obtain ⟨i, c⟩ := x
    obtain ⟨m, hm⟩ : ∃ m, m = accN pre := ⟨_, rfl⟩
    rw [← hm] at hb0
    have HM := Lib.hid hm
    clear hm
    by_cases hi : i + 1 = size
    · have ht : ((i : Int) == (size : Int) - 1) = true := by simp; omega
      unfold byt
      gi_wp2
      refine ⟨((KeepsOthers.setCell _ _ _).trans (KeepsOthers.setCell _ _ _)), rfl, pre, (i, c), rfl, hi, hW2, ?_, ?_, ?_⟩
      · rw [accN_snoc, ← HM.out]
        exact (hW1.set 0 _).other (by show w.heap.size + 1 ≠ w.heap.size + 1 + 1; omega) _
      · exact (hIW.other (by show w.heap.size + 1 + 1 ≠ w.heap.size + 1; omega) _).set 0 _
      · exact ((hW3.mono (fun k hk => .inl hk)).setCell (p := ⟨w.heap.size + 1, 0, none⟩) (.inl (.inl rfl)) _).setCell (p := ⟨w.heap.size + 1 + 1, 0, none⟩) (.inl (.inr rfl)) _
    · have ht : ((i : Int) == (size : Int) - 1) = false := by simp; omega
      unfold byt
      gi_wp2
      refine ⟨KeepsOthers.setCell _ _ _, (Below.refl _ _).setCell (p := ⟨w.heap.size + 1, 0, none⟩) (by show w.heap.size ≤ w.heap.size + 1; omega) _, ?_, ?_, hW3.setCell (p := ⟨w.heap.size + 1, 0, none⟩) (.inl rfl) _⟩
      · rw [accN_snoc, ← HM.out]
        exact hW1.set 0 _
      · intro x hx
        rcases List.mem_append.1 hx with hx | hx
        · exact hW2 x hx
        · simp at hx; subst hx; exact hi
  case done =>
    rintro D ys W hD rfl ⟨hW1, hW2, hW3⟩ hK
    have hno : ¬ pos + size ≤ bs.length := by
      intro hle
      have h1 : size - 1 < (bs.drop pos).length := by rw [List.length_drop]; omega
      exact hW2 _ (told_mem (bs.drop pos) h1) (by show size - 1 + 1 = size; omega)
    have hb0 := hW1.cell (j := 0) rfl
    have hbf := hW1.free
    have hbl := hW1.lt
    have hIW := hI.fr hW3 (by omega)
    have i0 := hIW.cell (j := 0) rfl
    have if' := hIW.free
    have il := hIW.lt
    go_wp2
    go_region
    all_goals go_wp2
    all_goals
      rw [Exit.noGoto_ret]
      obtain ⟨hk2, q1, q2, q3⟩ := two_boxes hW1 hIW (by omega) hK (hW3.mono (fun k hk => .inl hk)) hD (.deferred none) (y1 := .int .u64 (accN (toldAll (List.drop pos bs)))) (y2 := .bool false)
      have z1 := q1.cell (j := 0) rfl
      have z2 := q2.cell (j := 0) rfl
      have l1 := q1.lt
      have l2 := q2.lt
      refine end_marks (v := .tuple #[.int .u64 (accN (toldAll (List.drop pos bs))), .bool false]) hk2 (by simp [results, Try.results109, go_sem, z1, z2]) ⟨⟨_, by rw [decide_eq_false hno], fun hc => absurd hc hno⟩, ?_⟩
      exact hfr1.trans q3 (fun k hk => .inr (by omega))
  case stop =>
    rintro D cc pre W hD hSp ⟨rfl, pre', x, rfl, hx, hpre, hW1, hIW, hW3⟩ hK
    have hpl := hSp.length_le
    obtain ⟨k, hk⟩ : ∃ k, pre' ++ [x] = told (bs.drop pos) k ∧ k ≤ (bs.drop pos).length := by
      refine ⟨(pre' ++ [x]).length, ?_, ?_⟩
      · have h2 := told_prefix (l := bs.drop pos) (k := (pre' ++ [x]).length) (by unfold toldAll at hpl; rwa [told_len] at hpl)
        exact (List.prefix_of_prefix_length_le hSp h2 (by rw [told_len]; exact Nat.le_refl _)).eq_of_length (by rw [told_len])
      · unfold toldAll at hpl; rwa [told_len] at hpl
    obtain ⟨hk, hkl⟩ := hk
    have hk1 : k = pre'.length + 1 := by
      have := congrArg List.length hk
      rw [told_len] at this
      simpa using this.symm
    have hxl : x = (pre'.length, (bs.drop pos)[pre'.length]?.getD 0) := by
      rw [hk1, told_succ] at hk
      have := List.append_inj_right hk (by rw [told_len])
      simpa using this
    have hsz : k = size := by rw [hxl] at hx; omega
    have hyes : pos + size ≤ bs.length := by rw [List.length_drop] at hkl; omega
    have hval : accN (pre' ++ [x]) = (wh ((bs.drop pos).take size) : Nat) := by
      rw [hk, accN_eq _ (by rw [told_len]; omega), told_snd _ _ hkl, hsz]
    have hb0 := hW1.cell (j := 0) rfl
    have hbf := hW1.free
    have hbl := hW1.lt
    have i0 := hIW.cell (j := 0) rfl
    have if' := hIW.free
    have il := hIW.lt
    have HV := Lib.hid hval
    clear hval hxl hk hSp
    generalize accN (pre' ++ [x]) = m at *
    go_wp2
    go_region
    all_goals go_wp2
    all_goals
      rw [Exit.noGoto_ret]
      obtain ⟨hk2, q1, q2, q3⟩ := two_boxes hW1 hIW (by omega) hK hW3 hD (.deferred none) (y1 := .int .u64 m) (y2 := .bool true)
      have z1 := q1.cell (j := 0) rfl
      have z2 := q2.cell (j := 0) rfl
      refine end_marks (v := .tuple #[.int .u64 m, .bool true]) hk2 (by simp [results, Try.results109, go_sem, z1, z2]) ⟨⟨_, by rw [decide_eq_true hyes], fun _ => HV.out⟩, ?_⟩
      exact hfr1.trans q3 (fun k hk => .inr (by omega))

end Go.Proofs.Ytnkjhicokcmmpaa

/-
  The reader of bytes: numbers, raw bytes, a new reader.
-/
namespace Go.Proofs.Ytnkjhicokcmmpaa
open Go.RowKit Go.Shelf
attribute [local go_sem] Oper.semAt_some

theorem rnone_no (rb pos : Nat) (v : Value) (bs : List UInt8) (w : World) (h : RdAt w rb v bs pos) :
    Calls Try.prog 107 #[.pointer (some ⟨rb, 0, none⟩)] w fun e w' => e = .returned (.bool false) ∧ w = w' := by
  have r2 := h.blk.cell (j := 2) rfl
  go_enter Try.func107, Try.ntmps107
  go_wp2
  go_ret
  exact ⟨rfl, rfl⟩

theorem rleft_any (rb pos : Nat) (v : Value) (bs : List UInt8) (hpos : pos ≤ bs.length) (hl : bs.length ≤ 1000000) (w : World) (h : RdAt w rb v bs pos) :
    Calls Try.prog 108 #[.pointer (some ⟨rb, 0, none⟩)] w fun e w' => e = .returned (.int .i64 ((bs.length - pos : Nat) : Int)) ∧ Fr No w w' := by
  have r0 := h.blk.cell (j := 0) rfl
  have r1 := h.blk.cell (j := 1) rfl
  obtain ⟨a, c, rfl⟩ := own_slice h.own
  have hw : IntKind.i64.wrap ((bs.length : Int) - (pos : Int)) = ((bs.length - pos : Nat) : Int) := by rw [IntKind.wrap_i64]; omega
  have hrl := h.blk.lt
  go_enter Try.func108, Try.ntmps108
  go_wp2_with (go_at_call 107; refine (rnone_no rb pos _ bs _ h).mono ?_; rintro e w1 ⟨rfl, rfl⟩)
  go_quiet (fail)
  go_wp2
  go_ret
  exact ⟨rfl, (Fr.refl No w).drewN _⟩

/-- A reader's place has moved. -/
theorem RdAt.moved {w : World} {rb pos : Nat} {v : Value} {bs : List UInt8} (h : RdAt w rb v bs pos) (q : Nat) : RdAt (w.setCell ⟨rb, 1, none⟩ (.int .i64 q)) rb v bs q :=
  ⟨h.blk.set 1 _, h.own.other (fun e => h.ne _ e rfl) _⟩

set_option maxHeartbeats 1000000 in
theorem rnum_yes (rb pos size : Nat) (v : Value) (bs : List UInt8) (hpos : pos + size ≤ bs.length) (hl : bs.length ≤ 1000000) (hs : size = 1 ∨ size = 2 ∨ size = 4 ∨ size = 8) (w : World) (h : RdAt w rb v bs pos) :
    Calls Try.prog 73 #[.pointer (some ⟨rb, 0, none⟩), .int .i64 size] w fun e w' => e = .returned (.tuple #[.int .u64 (wh ((bs.drop pos).take size) : Nat), .int .i64 0]) ∧ RdAt w' rb v bs (pos + size) ∧ Fr (fun k => k = rb) w w' := by
  have hd : decide (pos + size ≤ bs.length) = true := decide_eq_true hpos
  have hw : IntKind.i64.wrap ((pos : Int) + (size : Int)) = ((pos + size : Nat) : Int) := by rw [IntKind.wrap_i64]; omega
  have HP := Lib.hid hpos
  clear hpos
  go_enter Try.func73, Try.ntmps73
  go_wp2_with (first | (go_at_call 107; refine (rnone_no rb pos _ bs _ h).mono ?_; rintro e w1 ⟨rfl, rfl⟩) | (go_at_call 103; refine (sized_yes _ hs _).mono ?_; rintro e w1 ⟨rfl, rfl⟩) | (go_at_call 109; refine (number_any rb pos size v bs (by have := HP.out; omega) hl (by omega) (by omega) _ h).mono ?_; rintro e w1 ⟨⟨x, rfl, hx⟩, hf1⟩; rw [hd]; have h1 := h.no hf1; have r1 := h1.blk.cell (j := 1) rfl; have rl := h1.blk.lt; have rf := h1.blk.free))
  go_ret2
  exact ⟨by rw [hx HP.out]; rfl, h1.moved (pos + size), (hf1.no_any (S := fun k => k = rb)).setCell (p := ⟨rb, 1, none⟩) (.inl rfl) _⟩

set_option maxHeartbeats 1000000 in
theorem rnum_no (rb pos size : Nat) (v : Value) (bs : List UInt8) (hpos : pos ≤ bs.length) (hno : ¬ pos + size ≤ bs.length) (hl : bs.length ≤ 1000000) (hs : size = 1 ∨ size = 2 ∨ size = 4 ∨ size = 8) (w : World) (h : RdAt w rb v bs pos) :
    Calls Try.prog 73 #[.pointer (some ⟨rb, 0, none⟩), .int .i64 size] w fun e w' => e = .returned (.tuple #[.int .u64 0, .int .i64 10]) ∧ Fr No w w' := by
  have hd : decide (pos + size ≤ bs.length) = false := decide_eq_false hno
  have HN := Lib.hid hno
  clear hno
  go_enter Try.func73, Try.ntmps73
  go_wp2_with (first | (go_at_call 107; refine (rnone_no rb pos _ bs _ h).mono ?_; rintro e w1 ⟨rfl, rfl⟩) | (go_at_call 103; refine (sized_yes _ hs _).mono ?_; rintro e w1 ⟨rfl, rfl⟩) | (go_at_call 109; refine (number_any rb pos size v bs hpos hl (by omega) (by omega) _ h).mono ?_; rintro e w1 ⟨⟨x, rfl, hx⟩, hf1⟩; rw [hd]))
  go_ret2
  exact ⟨rfl, hf1⟩

set_option maxHeartbeats 1000000 in
theorem rraw_yes (rb pos n : Nat) (v : Value) (bs : List UInt8) (hpos : pos + n ≤ bs.length) (hl : bs.length ≤ 1000000) (w : World) (h : RdAt w rb v bs pos) :
    Calls Try.prog 72 #[.pointer (some ⟨rb, 0, none⟩), .int .i64 n] w fun e w' => ∃ v', e = .returned (.tuple #[v', .int .i64 0]) ∧ Own w' 5 1 v' n (((bs.drop pos).take n).map byt) ∧ (∀ k, v'.ownBlock = some k → w.heap.size ≤ k) ∧ RdAt w' rb v bs (pos + n) ∧ Fr (fun k => k = rb) w w' := by
  have hw : IntKind.i64.wrap ((pos : Int) + (n : Int)) = ((pos + n : Nat) : Int) := by rw [IntKind.wrap_i64]; omega
  have hgt : decide (bs.length - pos < n) = false := by simp; omega
  obtain ⟨a, c, rfl, hwin⟩ := Win.of_own h.own
  have hcap := hwin.cap
  have hmax := hwin.max
  unfold maxLen at hmax
  have hp0 : pos ≤ bs.length := by omega
  have hwd := (hwin.drop hp0).take (k := n) (by omega)
  rw [← List.map_drop, ← List.map_take] at hwd
  obtain ⟨a', ha'⟩ : ∃ a', a' = (if c = pos then a else Option.map (fun x => x.add pos) a) := ⟨_, rfl⟩
  have HA := Lib.hid ha'
  have hwd : Win w a' n (c - pos) (((bs.drop pos).take n).map byt) := by rw [ha']; exact hwd
  have HW := Lib.hid hwd
  have hle1 : (pos : Int) ≤ ((pos + n : Nat) : Int) := by omega
  have hle2 : ((pos + n : Nat) : Int) ≤ (c : Int) := by omega
  have hsub : pos + n - pos = n := by omega
  have r0 := h.blk.cell (j := 0) rfl
  have r1 := h.blk.cell (j := 1) rfl
  have rl := h.blk.lt
  have rf := h.blk.free
  have HH := Lib.hid h
  have hnl : n ≤ 1000000 := by omega
  clear hwd ha' hwin hpos h
  go_enter Try.func72, Try.ntmps72
  go_wp2_with (first | (go_at_call 107; refine (rnone_no rb pos _ bs _ HH.out).mono ?_; rintro e w1 ⟨rfl, rfl⟩) | (go_at_call 108; refine (rleft_any rb pos _ bs hp0 hl _ HH.out).mono ?_; rintro e w1 ⟨rfl, hf1⟩; have h1 := HH.out.no hf1; have s0 := h1.blk.cell (j := 0) rfl; have s1 := h1.blk.cell (j := 1) rfl; have sl := h1.blk.lt; have sf := h1.blk.free))
  go_quiet (fail)
  rw [← HA.out]
  rename Nat => nq
  obtain ⟨w2, hw2⟩ : ∃ w2, w2 = w1.drewN nq := ⟨_, rfl⟩
  rw [← hw2]
  have hf2 : Fr No w w2 := by rw [hw2]; exact hf1.drewN _
  clear hw2 h1 s0 s1 sl sf
  have h2 := HH.out.no hf2
  have s0 := h2.blk.cell (j := 0) rfl
  have s1 := h2.blk.cell (j := 1) rfl
  have sl := h2.blk.lt
  have sf := h2.blk.free
  have hf3 : Fr (fun k => k = rb) w (w2.setCell ⟨rb, 1, none⟩ (.int .i64 ((pos + n : Nat) : Int))) := (hf2.no_any (S := fun k => k = rb)).setCell (p := ⟨rb, 1, none⟩) (.inl rfl) _
  have hb' : ∀ ad, a' = some ad → ad.block ≠ rb := by
    intro ad hd
    rw [HA.out] at hd
    split at hd
    · exact HH.out.ne ad.block (by rw [hd]; rfl)
    · cases a with
      | none => cases hd
      | some ad0 => cases hd; rw [add_block]; exact HH.out.ne ad0.block rfl
  go_wp2_with (go_at_call 89; refine (cloneB_any a' n (c - pos) ((bs.drop pos).take n) _ ?_ hnl).mono ?_; exact HW.out.fr hf3 hb'; rintro e w3 ⟨v3, rfl, hc3⟩)
  go_ret2
  exact ⟨v3, rfl, hc3.own, fun k hk => Nat.le_trans hf3.size (hc3.new k hk), (h2.moved (pos + n)).no hc3.fr, hf3.thn hc3.fr⟩

set_option maxHeartbeats 1000000 in
theorem rraw_no (rb pos n : Nat) (v : Value) (bs : List UInt8) (hpos : pos ≤ bs.length) (hno : ¬ pos + n ≤ bs.length) (hl : bs.length ≤ 1000000) (w : World) (h : RdAt w rb v bs pos) :
    Calls Try.prog 72 #[.pointer (some ⟨rb, 0, none⟩), .int .i64 n] w fun e w' => e = .returned (.tuple #[.slice none 0 0, .int .i64 10]) ∧ Fr No w w' := by
  have hgt : decide (bs.length - pos < n) = true := by simp; omega
  have HH := Lib.hid h
  clear h
  go_enter Try.func72, Try.ntmps72
  go_wp2_with (first | (go_at_call 107; refine (rnone_no rb pos _ bs _ HH.out).mono ?_; rintro e w1 ⟨rfl, rfl⟩) | (go_at_call 108; refine (rleft_any rb pos _ bs hpos hl _ HH.out).mono ?_; rintro e w1 ⟨rfl, hf1⟩))
  go_ret2
  exact ⟨rfl, hf1⟩

set_option maxHeartbeats 1000000 in
/-- A new reader. -/
theorem read_any (a : Option Addr) (n c : Nat) (bs : List UInt8) (w : World) (h : Win w a n c (bs.map byt)) (hb : n ≤ 1000000) :
    Calls Try.prog 71 #[.slice a n c] w fun e w' => ∃ rb v, e = .returned (.pointer (some ⟨rb, 0, none⟩)) ∧ RdAt w' rb v bs 0 ∧ w.heap.size ≤ rb ∧ (∀ k, v.ownBlock = some k → w.heap.size ≤ k) ∧ Fr No w w' := by
  have hl : bs.length = n := by have := h.len; simpa using this
  have HL := Lib.hid hl
  clear hl
  go_enter Try.func71, Try.ntmps71
  go_wp2_with (go_at_call 89; refine (cloneB_any a n c bs _ ?_ hb).mono ?_; exact h; rintro e w1 ⟨v1, rfl, hc⟩; obtain ⟨a1, c1, rfl⟩ := own_slice hc.own)
  go_ret
  have hf := hc.fr.thn ((Fr.refl No w1).alloc (.cells #[.slice a1 n c1, .int .i64 0, .bool true] 149))
  refine ⟨w1.heap.size, _, rfl, ⟨Blk.new w1 _ _, ?_⟩, hc.fr.size, hc.new, hf⟩
  rw [HL.out]
  exact hc.own.alloc _

end Go.Proofs.Ytnkjhicokcmmpaa

/-
  Numbers as bytes: what the document's functions come to.
-/
namespace Go.Proofs.Ytnkjhicokcmmpaa
open Go.RowKit Go.Shelf

theorem rsized_yes (n : Nat) (hs : n = 1 ∨ n = 2 ∨ n = 4 ∨ n = 8) (w : World) : Calls Try.prog 105 #[.int .i64 n] w fun e w' => e = .returned (.bool true) ∧ w = w' := by
  rcases hs with rfl | rfl | rfl | rfl
  all_goals
    go_enter Try.func105, Try.ntmps105
    go_wp2
    go_ret
    exact ⟨rfl, rfl⟩

theorem num_succ (k n : Nat) : num (k + 1) n = UInt8.ofNat (n / 2 ^ (8 * k)) :: num k n := by
  unfold num numTo
  rw [List.range_succ_eq_map, List.map_cons, List.map_map]
  congr 1
  apply List.map_congr_left
  intro i hi
  have hi' : i < k := by simpa using hi
  show numByte (k + 1) n (i + 1) = numByte k n i
  unfold numByte
  congr 3
  omega

set_option maxRecDepth 100000 in
set_option maxHeartbeats 4000000 in
theorem refNum_any (size n : Nat) (hs : size = 1 ∨ size = 2 ∨ size = 4 ∨ size = 8) (hn : n < 2 ^ (8 * size)) (w : World) :
    Calls Try.prog 69 #[.int .i64 size, .int .u64 n] w fun e w' => ∃ v, e = .returned (.tuple #[v, .int .i64 0]) ∧ Own w' 5 1 v size ((num size n).map byt) ∧ (∀ k, v.ownBlock = some k → w.heap.size ≤ k) ∧ Fr No w w' := by
  obtain ⟨i0, hi0, hz0, hz1, hz2⟩ := info_parts Try.infoU8
  have hs8 : size ≤ 8 := by omega
  have HN := Lib.hid hn
  clear hn
  go_enter Try.func69, Try.ntmps69
  go_wp2_with (go_at_call 105; refine (rsized_yes _ hs _).mono ?_; rintro e w1 ⟨rfl, rfl⟩)
  go_loopw [1, 6, 7] (fun m v t wr => ∃ k : Nat, k ≤ size ∧ m = .int .u64 (n / 2 ^ (8 * k) : Nat) ∧ t = .int .i64 k ∧ Own wr 5 1 v k ((num k n).map byt) ∧ (∀ b, v.ownBlock = some b → w.heap.size ≤ b) ∧ Fr No w wr) (fun _ _ t _ => size - (intOf t).toNat)
  case atStart => exact ⟨0, Nat.zero_le _, by simp, rfl, World.ownsRow_nil _ _ _ _, by simp [Value.ownBlock], Fr.refl _ _⟩
  case round =>
    obtain ⟨k, hk, rfl, rfl, hO, hnew, hfr⟩ := hrel
    by_cases hlt : k < size
    · obtain ⟨a, c, rfl, hw⟩ := Win.of_own hO
      obtain ⟨m, hm⟩ : ∃ m, m = n / 2 ^ (8 * k) := ⟨_, rfl⟩
      rw [← hm]
      have HM := Lib.hid hm
      clear hm
      have hval : Hid (Value.int .u8 ((m : Int) % 256) = byt (UInt8.ofNat m)) := by
        show Value.int .u8 ((m : Int) % 256) = Value.int .u8 ((UInt8.ofNat m).toNat : Int)
        congr 1
      have hnew1 : Hid (Own (wr.alloc (.cells #[Value.int .u8 ((m : Int) % 256)] 5)) 5 1 (.slice (some ⟨wr.heap.size, 0, none⟩) 1 1) 1 [Value.int .u8 ((m : Int) % 256)]) :=
        Own.weak (B := 0) (World.ownsRow_lit (size := 1) wr #[Value.int .u8 ((m : Int) % 256)] 1 (Nat.zero_le _) (by unfold maxLen; omega) rfl)
      have HW := Lib.hid hw
      have hm1 : 1 + k ≤ maxLen := by unfold maxLen; omega
      have hm2 : (1 + k) * 1 ≤ 140737488355328 := by omega
      have h1c : Hid (∀ u ∈ (num k n).map byt, u.oneCell' = true) := byt_one _
      clear hw hO
      go_wp2_with (at_builtin; refine wpList_appW _ rfl (.tmp 19) (.tmp 20) 26 rfl 5 i0 (.int .u8 0) 1 Try.underlying26 hi0 hz0 hz1 hz2 rfl (.slice (some ⟨wr.heap.size, 0, none⟩) 1 1) 1 [Value.int .u8 ((m : Int) % 256)] rfl hnew1.out a k c ((num k n).map byt) rfl (HW.out.no ((Fr.refl No wr).alloc _)) h1c.out hm1 hm2 ?_; intro v2 w2 hap)
      go_roundw
      case rel =>
        have ho := hap.own
        rw [hval.out] at ho
        refine ⟨k + 1, by omega, ?_, by go_num, ?_, ?_, hfr.trans (((Fr.refl No wr).alloc _).trans hap.fr (fun x hx => .inr ?_)) (fun x hx => hx.elim)⟩
        · rw [show 8 * (k + 1) = 8 * k + 8 by omega, Nat.pow_add, ← Nat.div_div_eq_div_mul, ← HM.out]
          congr 1
          rw [show (m : Int) / 256 = ((m / 2 ^ 8 : Nat) : Int) by omega]
          refine wrap_u64 _ (Nat.lt_of_le_of_lt (Nat.div_le_self _ _) ?_)
          rw [HM.out]
          exact Nat.lt_of_le_of_lt (Nat.div_le_self _ _) (Nat.lt_of_lt_of_le HN.out (Nat.pow_le_pow_right (by decide) (by omega)))
        · rw [num_succ, ← HM.out, Nat.add_comm]
          exact ho
        · intro b hb
          have := hfr.size
          rcases hap.blk with e | ⟨k', e, hk'⟩
          · rw [e] at hb
            simp [Value.ownBlock] at hb
            omega
          · rw [e] at hb
            cases hb
            simp at hk'
            omega
        · simp [Value.ownBlock] at hx; omega
      case measure => (simp [intOf]; omega)
    · obtain rfl : k = size := by omega
      have h0 : n / 2 ^ (8 * k) = 0 := Nat.div_eq_of_lt HN.out
      rw [h0]
      clear h0
      go_wp2
      go_ret2
      exact ⟨_, rfl, hO, hnew, hfr⟩

def whTo (l : List UInt8) (k : Nat) : Nat := wh (l.take k)
theorem whTo_succ (l : List UInt8) (k : Nat) (hk : k < l.length) : whTo l (k + 1) = whTo l k * 256 + (l[k]).toNat := by
  unfold whTo
  rw [List.take_succ_eq_append_getElem hk, wh_snoc]
theorem whTo_lt (l : List UInt8) (k : Nat) (hk : k ≤ 7) : whTo l k < 2 ^ 56 := by
  unfold whTo
  refine Nat.lt_of_lt_of_le (wh_lt _) ?_
  have h1 : (l.take k).length ≤ 7 := by simp; omega
  exact Nat.le_trans (Nat.pow_le_pow_right (by decide) h1) (by decide)

set_option maxRecDepth 100000 in
set_option maxHeartbeats 4000000 in
theorem refWhole_any (a : Option Addr) (n c : Nat) (bs : List UInt8) (hn : n ≤ 8) (w : World) (h : Win w a n c (bs.map byt)) :
    Calls Try.prog 75 #[.slice a n c] w fun e w' => e = .returned (.int .u64 (wh bs : Nat)) ∧ w = w' := by
  have hl : bs.length = n := by have := h.len; simpa using this
  have HL := Lib.hid hl
  have hw := Lib.hid h
  clear hl h
  go_enter Try.func75, Try.ntmps75
  go_wp2
  go_loop [3, 4] (fun r t => ∃ k : Nat, k ≤ n ∧ r = .int .u64 (whTo bs k : Nat) ∧ t = .int .i64 k) (fun _ t => n - (intOf t).toNat)
  case atStart => exact ⟨0, Nat.zero_le _, rfl, rfl⟩
  case round =>
    obtain ⟨k, hk, rfl, rfl⟩ := hrel
    by_cases hlt : k < n
    · have hkb : k < bs.length := by rw [HL.out]; exact hlt
      obtain ⟨ad, u, rfl, hu, hcell⟩ := hw.out.at hlt
      have hc := whTo_lt bs k (by omega)
      have hsuc := whTo_succ bs k hkb
      have hx := (bs[k]).toNat_lt
      have hu' : u = .int .u8 ((bs[k]).toNat : Int) := by
        rw [List.getElem?_map, List.getElem?_eq_getElem hkb] at hu
        exact (Option.some.inj hu).symm
      subst hu'
      generalize (bs[k]).toNat = x at *
      obtain ⟨m, hm⟩ : ∃ m, m = whTo bs k := ⟨_, rfl⟩
      rw [← hm] at hc hsuc ⊢
      have HS := Lib.hid hsuc
      have hx1 : IntKind.u64.wrap (x : Int) = (x : Int) := wrap_u64 x (by omega)
      have hx2 : IntKind.u64.wrap (256 * (m : Int)) = 256 * (m : Int) := by
        rw [show 256 * (m : Int) = ((256 * m : Nat) : Int) by simp]
        exact wrap_u64 _ (by omega)
      have hx3 : IntKind.u64.wrap (256 * (m : Int) + (x : Int)) = 256 * (m : Int) + (x : Int) := by
        rw [show 256 * (m : Int) + (x : Int) = ((256 * m + x : Nat) : Int) by simp]
        exact wrap_u64 _ (by omega)
      have HX1 := Lib.hid hx1
      have HX2 := Lib.hid hx2
      have HX3 := Lib.hid hx3
      clear hsuc hm hu hc hx hx1 hx2 hx3
      have hx1 := HX1.out
      have hx2 := HX2.out
      have hx3 := HX3.out
      go_wp2
      go_round
      case rel => exact ⟨k + 1, by omega, (by rw [HS.out]; congr 1; simp [Int.mul_comm]), by go_num⟩
      case measure => (simp [intOf]; omega)
    · obtain rfl : k = n := by omega
      have hend : whTo bs k = wh bs := by unfold whTo; rw [List.take_of_length_le (by rw [HL.out]; exact Nat.le_refl _)]
      rw [hend]
      clear hend
      go_wp2
      go_ret
      exact ⟨rfl, rfl⟩

end Go.Proofs.Ytnkjhicokcmmpaa

/-
  A writer whose memory lies from some block on; a reader, whatever is left.
-/
namespace Go.Proofs.Ytnkjhicokcmmpaa
open Go.RowKit Go.Shelf

/-- A writer all of whose blocks lie from N on. -/
structure WIn (N : Nat) (w : World) (b : Nat) (v : Value) (bs : List UInt8) : Prop where
  at' : WrAt w b v bs
  lo : N ≤ b
  new : ∀ k, v.ownBlock = some k → N ≤ k
theorem WIn.no {N : Nat} {w w' : World} {b : Nat} {v : Value} {bs : List UInt8} (h : WIn N w b v bs) (hf : Fr No w w') : WIn N w' b v bs :=
  ⟨⟨h.at'.blk.fr hf (No.no _), h.at'.own.fr hf (fun _ _ => No.no _)⟩, h.lo, h.new⟩
/-- Only blocks from N on may have changed. -/
abbrev From (N : Nat) (w w' : World) : Prop := Fr (fun k => N ≤ k) w w'
theorem From.t {N : Nat} {a b c : World} (h : From N a b) (k : From N b c) : From N a c := h.trans k (fun _ h => .inl h)
theorem From.no {N : Nat} {a b : World} (h : From N a b) (hN : a.heap.size ≤ N) : Fr No a b :=
  ⟨h.os, h.tape, h.output, h.size, fun k hk _ => h.block k hk (by omega)⟩
theorem Blk.from {N : Nat} {w w' : World} {b : Nat} {T : TypeId} {l : List Value} (h : Blk w b T l) (hf : From N w w') (hn : b < N) : Blk w' b T l := h.fr hf (by omega)

/-- What a writer's call comes to. -/
def Wrote1 (N b : Nat) (bs : List UInt8) (w : World) (e : Ending) (w' : World) : Prop := ∃ v', e = .returned (.int .i64 0) ∧ WIn N w' b v' bs ∧ From N w w'

theorem wrote_of {N b : Nat} {v v' : Value} {bs cs : List UInt8} {w w' : World} (h : WIn N w b v bs) (hz : N ≤ w.heap.size) (h1 : WrAt w' b v' cs) (h2 : Fr (fun k => k = b ∨ v.ownBlock = some k) w w') (h3 : AtOr w v v') : WIn N w' b v' cs ∧ From N w w' := by
  refine ⟨⟨h1, h.lo, fun k hk => (h3 k hk).elim (h.new k) (fun q => Nat.le_trans hz q)⟩, h2.mono ?_⟩
  rintro x (rfl | hx)
  · exact h.lo
  · exact h.new _ hx

theorem wnumN (N b : Nat) (v : Value) (bs : List UInt8) (size n : Nat) (hs : size = 1 ∨ size = 2 ∨ size = 4 ∨ size = 8) (hn : n < 2 ^ (8 * size)) (hl : bs.length ≤ 1000000) (w : World) (hz : N ≤ w.heap.size) (h : WIn N w b v bs) :
    Calls Try.prog 65 #[.pointer (some ⟨b, 0, none⟩), .int .i64 size, .int .u64 n] w (Wrote1 N b (bs ++ num size n) w) :=
  (wnum_any b v bs size n hs hn hl w h.at').mono fun e w' ⟨v', h1, h2, h3, h4⟩ => ⟨v', h1, wrote_of h hz h2 h3 h4⟩
theorem wrawN (N b : Nat) (v : Value) (bs cs : List UInt8) (a : Option Addr) (n c : Nat) (hl : bs.length + n ≤ 1000000) (w : World) (hz : N ≤ w.heap.size) (h : WIn N w b v bs) (hw : Win w a n c (cs.map byt)) :
    Calls Try.prog 64 #[.pointer (some ⟨b, 0, none⟩), .slice a n c] w (Wrote1 N b (bs ++ cs) w) :=
  (wraw_any b v bs cs a n c hl w h.at' hw).mono fun e w' ⟨v', h1, h2, h3, h4⟩ => ⟨v', h1, wrote_of h hz h2 h3 h4⟩
theorem wlenN (N b : Nat) (v : Value) (bs : List UInt8) (m : Nat) (hm : bs.length = m) (w : World) (h : WIn N w b v bs) :
    Calls Try.prog 66 #[.pointer (some ⟨b, 0, none⟩)] w fun e w' => e = .returned (.int .i64 (m : Nat)) ∧ w = w' := by
  subst hm
  exact wlen_any b v bs w h.at'
theorem wbytesN (N b : Nat) (v : Value) (bs : List UInt8) (m : Nat) (hm : bs.length = m) (h0 : 0 < m) (w : World) (h : WIn N w b v bs) (hl : m ≤ 1000000) :
    Calls Try.prog 68 #[.pointer (some ⟨b, 0, none⟩)] w fun e w' => ∃ g c, e = .returned (.slice (some ⟨g, 0, none⟩) m c) ∧ Own w' 5 1 (.slice (some ⟨g, 0, none⟩) m c) m (bs.map byt) ∧ w.heap.size ≤ g ∧ Fr No w w' := by
  subst hm
  refine (wbytes_any b v bs w h.at' hl).mono ?_
  rintro e w' ⟨v', rfl, h1, h2, _, h3⟩
  rcases h1.cases with ⟨_, e, _⟩ | ⟨g, c, rfl⟩
  · omega
  · exact ⟨g, c, rfl, h1, h2 g rfl, h3⟩

/-- A reader all of whose blocks lie from N on. -/
structure RIn (N : Nat) (w : World) (rb : Nat) (v : Value) (bs : List UInt8) (pos : Nat) : Prop where
  at' : RdAt w rb v bs pos
  pos : pos ≤ bs.length
  lo : N ≤ rb
  new : ∀ k, v.ownBlock = some k → N ≤ k
theorem RIn.no {N : Nat} {w w' : World} {rb pos : Nat} {v : Value} {bs : List UInt8} (h : RIn N w rb v bs pos) (hf : Fr No w w') : RIn N w' rb v bs pos := ⟨h.at'.no hf, h.pos, h.lo, h.new⟩

/-- A number is read, if there are bytes enough. -/
theorem rnumN (N rb pos size : Nat) (v : Value) (bs : List UInt8) (hl : bs.length ≤ 1000000) (hs : size = 1 ∨ size = 2 ∨ size = 4 ∨ size = 8) (w : World) (h : RIn N w rb v bs pos) :
    Calls Try.prog 73 #[.pointer (some ⟨rb, 0, none⟩), .int .i64 size] w fun e w' => ∃ (x : Nat) (c : Int) (pos' : Nat), e = .returned (.tuple #[.int .u64 x, .int .i64 c]) ∧ x < 256 ^ size ∧ (pos + size ≤ bs.length → x = wh ((bs.drop pos).take size) ∧ pos' = pos + size) ∧ RIn N w' rb v bs pos' ∧ From N w w' := by
  by_cases hp : pos + size ≤ bs.length
  · refine (rnum_yes rb pos size v bs hp hl hs w h.at').mono ?_
    rintro e w' ⟨rfl, h1, h2⟩
    refine ⟨_, _, _, rfl, ?_, fun _ => ⟨rfl, rfl⟩, ⟨h1, hp, h.lo, h.new⟩, h2.mono (fun k hk => by rw [hk]; exact h.lo)⟩
    have h3 := wh_lt ((bs.drop pos).take size)
    rwa [show ((bs.drop pos).take size).length = size by rw [List.length_take, List.length_drop]; omega] at h3
  · refine (rnum_no rb pos size v bs h.pos hp hl hs w h.at').mono ?_
    rintro e w' ⟨rfl, h1⟩
    exact ⟨0, 10, pos, rfl, Nat.pow_pos (by decide), fun hc => absurd hc hp, h.no h1, h1.no_any⟩
theorem rrawN (N rb pos n : Nat) (v : Value) (bs : List UInt8) (hl : bs.length ≤ 1000000) (w : World) (hz : N ≤ w.heap.size) (h : RIn N w rb v bs pos) :
    Calls Try.prog 72 #[.pointer (some ⟨rb, 0, none⟩), .int .i64 n] w fun e w' => ∃ (u : Value) (c : Int) (m pos' : Nat) (cs : List UInt8), e = .returned (.tuple #[u, .int .i64 c]) ∧ Own w' 5 1 u m (cs.map byt) ∧ m ≤ n ∧ (∀ k, u.ownBlock = some k → w.heap.size ≤ k) ∧ (pos + n ≤ bs.length → cs = (bs.drop pos).take n ∧ m = n ∧ pos' = pos + n) ∧ RIn N w' rb v bs pos' ∧ From N w w' := by
  by_cases hp : pos + n ≤ bs.length
  · refine (rraw_yes rb pos n v bs hp hl w h.at').mono ?_
    rintro e w' ⟨u, rfl, h1, h2, h3, h4⟩
    exact ⟨u, _, n, _, _, rfl, h1, Nat.le_refl _, h2, fun _ => ⟨rfl, rfl, rfl⟩, ⟨h3, hp, h.lo, h.new⟩, h4.mono (fun k hk => by rw [hk]; exact h.lo)⟩
  · refine (rraw_no rb pos n v bs h.pos hp hl w h.at').mono ?_
    rintro e w' ⟨rfl, h1⟩
    exact ⟨_, 10, 0, pos, [], rfl, World.ownsRow_nil _ _ _ _, Nat.zero_le _, fun k hk => by simp [Value.ownBlock] at hk, fun hc => absurd hc hp, h.no h1, h1.no_any⟩
theorem readN (a : Option Addr) (n c : Nat) (bs : List UInt8) (w : World) (h : Win w a n c (bs.map byt)) (hb : n ≤ 1000000) :
    Calls Try.prog 71 #[.slice a n c] w fun e w' => ∃ rb v, e = .returned (.pointer (some ⟨rb, 0, none⟩)) ∧ RIn w.heap.size w' rb v bs 0 ∧ Fr No w w' :=
  (read_any a n c bs w h hb).mono fun e w' ⟨rb, v, h1, h2, h3, h4, h5⟩ => ⟨rb, v, h1, ⟨h2, Nat.zero_le _, h3, h4⟩, h5⟩

/-- New bytes, all noughts. -/
theorem Try.makeB (n : Nat) (hn : n ≤ 1000000) (u : World) : (Instr.makeSlice 26 (.int .i64 n) (.int .i64 n)).run Try.prog u = .ok (.slice (some ⟨u.heap.size, 0, none⟩) n n) (u.alloc (.cells ((List.replicate n (0 : UInt8)).map byt).toArray 5)) := by
  obtain ⟨i0, hi, hz0, hz1, hz2⟩ := info_parts Try.infoU8
  have := run_makeSlice (P := Try.prog) u 26 5 i0 (.int .u8 0) Try.underlying26 hi hz0 .i64 .i64 n n (by omega) (Int.le_refl _) (by rw [hz1]; simp; omega) (by rw [hz2]; simp; omega) (by omega)
  rw [this]
  have e : madeCells (Value.int .u8 0).cells n = ((List.replicate n (0 : UInt8)).map byt).toArray := by
    apply Array.ext'
    rw [show (Value.int .u8 0).cells = #[Value.int .u8 0] from rfl, toList_madeCells_one]
    simp [byt]
  simp [hz1, e]

/-- Comparing bytes. -/
theorem equal_any (a a' : Option Addr) (n c n' c' : Nat) (bs cs : List UInt8) (w : World) (h : Win w a n c (bs.map byt)) (h' : Win w a' n' c' (cs.map byt)) :
    Calls Try.prog 74 #[.slice a n c, .slice a' n' c'] w fun e w' => e = .returned (.bool (decide (bs = cs))) ∧ w = w' := by
  have h1 := run_str (P := Try.prog) (src := 26) (dst := 9) Try.underlying26 Try.underlying5 Try.underlying9 h
  have h2 := run_str (P := Try.prog) (src := 26) (dst := 9) Try.underlying26 Try.underlying5 Try.underlying9 h'
  have he : ((str bs).toList == (str cs).toList) = decide (bs = cs) := by
    rw [str_list, str_list]
    by_cases hc : bs = cs <;> simp [hc]
  clear h h'
  go_enter Try.func74, Try.ntmps74
  go_wp2
  go_ret
  exact ⟨by rw [← he]; rfl, rfl⟩

end Go.Proofs.Ytnkjhicokcmmpaa

/-
  The plain law of the checksum: a table's step is eight steps of a bit. No program in sight.
-/
namespace Go.Proofs.Ytnkjhicokcmmpaa

def poly : Nat := 3988292384
/-- One step of the register. -/
def cs1 (c : Nat) : Nat := if c % 2 = 1 then (c / 2) ^^^ poly else c / 2
def csN : Nat → Nat → Nat
  | 0, c => c
  | k + 1, c => cs1 (csN k c)
/-- The table's entry. -/
def tab (i : Nat) : Nat := csN 8 i

theorem half_xor (a b : Nat) : (a ^^^ b) / 2 = a / 2 ^^^ b / 2 := by
  apply Nat.eq_of_testBit_eq
  intro i
  have h : ∀ x : Nat, (x / 2).testBit i = x.testBit (i + 1) := fun x => by
    have := Nat.testBit_div_two_pow (n := 1) x (i := i)
    simpa [Nat.add_comm] using this
  rw [h, Nat.testBit_xor, Nat.testBit_xor, h, h]
theorem odd_xor (a b : Nat) : (a ^^^ 2 * b) % 2 = a % 2 := by
  have h : ∀ x : Nat, x % 2 = (x.testBit 0).toNat := fun x => by
    rw [Nat.testBit_zero]
    have := Nat.mod_two_eq_zero_or_one x
    rcases this with h | h <;> simp [h]
  rw [h, h, Nat.testBit_xor]
  simp [Nat.testBit_zero]
theorem cs1_xor (a y : Nat) : cs1 (a ^^^ 2 * y) = cs1 a ^^^ y := by
  unfold cs1
  rw [odd_xor, half_xor, Nat.mul_div_cancel_left _ (by decide)]
  split
  · rw [Nat.xor_assoc, Nat.xor_assoc, Nat.xor_comm y poly]
  · rfl
theorem csN_xor (k a y : Nat) : csN k (a ^^^ 2 ^ k * y) = csN k a ^^^ y := by
  induction k generalizing y with
  | zero => simp [csN]
  | succ k ih =>
    show cs1 (csN k _) = cs1 (csN k a) ^^^ y
    rw [show 2 ^ (k + 1) * y = 2 ^ k * (2 * y) by rw [Nat.pow_succ]; simp [Nat.mul_assoc], ih, cs1_xor]
theorem split_xor (d k : Nat) : d = d % 2 ^ k ^^^ 2 ^ k * (d / 2 ^ k) := by
  apply Nat.eq_of_testBit_eq
  intro i
  rw [Nat.testBit_xor, Nat.testBit_mod_two_pow, Nat.testBit_two_pow_mul]
  by_cases h : i < k
  · simp [h, Nat.not_le.2 h]
  · have h' : k ≤ i := by omega
    simp [h, h', Nat.testBit_div_two_pow]
/-- Eight steps at once. -/
theorem csN_8 (d : Nat) : csN 8 d = (d / 256) ^^^ tab (d % 256) := by
  have h1 := csN_xor 8 (d % 2 ^ 8) (d / 2 ^ 8)
  rw [← split_xor d 8] at h1
  rw [h1, Nat.xor_comm]
  rfl

/-- A step of the register with a bit, as the document has it. -/
def rs1 (c b : Nat) : Nat := if (c ^^^ b) % 2 = 1 then (c / 2) ^^^ poly else c / 2
theorem rs1_eq (c b : Nat) (hb : b < 2) : rs1 c b = cs1 (c ^^^ b) := by
  unfold rs1 cs1
  have : (c ^^^ b) / 2 = c / 2 := by rw [half_xor, Nat.div_eq_of_lt hb, Nat.xor_zero]
  rw [this]
def rsN (x : Nat) : Nat → Nat → Nat
  | 0, c => c
  | k + 1, c => rs1 (rsN x k c) (x / 2 ^ k % 2)
theorem rsN_eq (x k c : Nat) : csN k (c ^^^ x) = rsN x k c ^^^ x / 2 ^ k := by
  induction k with
  | zero => simp [csN, rsN]
  | succ k ih =>
    show cs1 (csN k _) = rs1 (rsN x k c) _ ^^^ _
    rw [ih, rs1_eq _ _ (Nat.mod_lt _ (by decide))]
    obtain ⟨y, hy⟩ : ∃ y, y = x / 2 ^ k := ⟨_, rfl⟩
    have e : x / 2 ^ (k + 1) = y / 2 := by rw [hy, Nat.pow_succ, Nat.div_div_eq_div_mul]
    rw [e, ← hy]
    have h1 := split_xor y 1
    have h2 : y = y % 2 ^^^ 2 * (y / 2) := by simpa using h1
    have h3 : rsN x k c ^^^ y = (rsN x k c ^^^ y % 2) ^^^ 2 * (y / 2) := by
      rw [Nat.xor_assoc, ← h2]
    rw [h3, cs1_xor]
/-- A byte's step. -/
def csB (c x : Nat) : Nat := (c / 256) ^^^ tab ((c % 256) ^^^ x)
theorem csB_eq (c x : Nat) (hx : x < 256) : csB c x = rsN x 8 c := by
  have h1 := rsN_eq x 8 c
  rw [Nat.div_eq_of_lt (show x < 2 ^ 8 from hx), Nat.xor_zero] at h1
  rw [← h1, csN_8]
  unfold csB
  have hd : (c ^^^ x) / 256 = c / 256 := by
    apply Nat.eq_of_testBit_eq
    intro i
    have h : ∀ y : Nat, (y / 256).testBit i = y.testBit (i + 8) := fun y => by
      have := Nat.testBit_div_two_pow (n := 8) y (i := i)
      simpa [Nat.add_comm] using this
    rw [h, h, Nat.testBit_xor]
    have : x.testBit (i + 8) = false := Nat.testBit_lt_two_pow (Nat.lt_of_lt_of_le hx (by
      have : 2 ^ 8 ≤ 2 ^ (i + 8) := Nat.pow_le_pow_right (by decide) (by omega)
      simpa using this))
    simp [this]
  have hm : (c ^^^ x) % 256 = c % 256 ^^^ x := by
    have h2 : (c ^^^ x) % 2 ^ 8 = c % 2 ^ 8 ^^^ x % 2 ^ 8 := Nat.xor_mod_two_pow
    have h3 : x % 256 = x := Nat.mod_eq_of_lt hx
    simpa [h3] using h2
  rw [hd, hm]

theorem poly_lt : poly < 2 ^ 32 := by decide
theorem cs1_lt {c : Nat} (h : c < 2 ^ 32) : cs1 c < 2 ^ 32 := by
  unfold cs1
  split
  · exact Nat.xor_lt_two_pow (by omega) poly_lt
  · omega
theorem csN_lt {c : Nat} (h : c < 2 ^ 32) : ∀ k, csN k c < 2 ^ 32
  | 0 => h
  | k + 1 => cs1_lt (csN_lt h k)
theorem tab_lt {i : Nat} (h : i < 2 ^ 32) : tab i < 2 ^ 32 := csN_lt h 8
theorem csB_lt {c x : Nat} (h : c < 2 ^ 32) (hx : x < 256) : csB c x < 2 ^ 32 := by
  unfold csB
  refine Nat.xor_lt_two_pow (by omega) (tab_lt ?_)
  exact Nat.lt_of_lt_of_le (Nat.xor_lt_two_pow (n := 8) (Nat.mod_lt _ (by decide)) hx) (by decide)
theorem rs1_lt {c b : Nat} (h : c < 2 ^ 32) : rs1 c b < 2 ^ 32 := by
  unfold rs1
  split
  · exact Nat.xor_lt_two_pow (by omega) poly_lt
  · omega
theorem rsN_lt {c x : Nat} (h : c < 2 ^ 32) : ∀ k, rsN x k c < 2 ^ 32
  | 0 => h
  | k + 1 => rs1_lt (rsN_lt h k)

/-- The register behind bytes. -/
def regTo (l : List UInt8) (c : Nat) : Nat := l.foldl (fun c x => csB c x.toNat) c
theorem regTo_snoc (l : List UInt8) (x : UInt8) (c : Nat) : regTo (l ++ [x]) c = csB (regTo l c) x.toNat := by simp [regTo]
theorem regTo_lt {l : List UInt8} {c : Nat} (h : c < 2 ^ 32) : regTo l c < 2 ^ 32 := by
  unfold regTo
  induction l generalizing c with
  | nil => exact h
  | cons x l ih => exact ih (csB_lt h x.toNat_lt)
/-- The sum of bytes. -/
def sumOf (l : List UInt8) : Nat := 4294967295 - regTo l 4294967295
theorem sumOf_lt (l : List UInt8) : sumOf l < 2 ^ 32 := by unfold sumOf; omega

end Go.Proofs.Ytnkjhicokcmmpaa

/-
  A range over a function that keeps state of its own in a cell (a variable that its closure has captured): a law for a plain walk.
-/
namespace Go.Proofs.Ytnkjhicokcmmpaa
open Go.RowKit Go.Shelf

section
variable {P : Program}
/-- An iterator that writes no block but its own (cb), and tells a list in S, whatever its rounds do that leave cb as it is. -/
def Tells {α : Type} (P : Program) (gf : Nat) (lb : Array Value) (encs : α → Array Value) (cb : Nat) (S : List α → Prop) (w : World) : Prop :=
  ∀ (l : Nat) (J : List α → World → Prop) (W : World), Below w.heap.size w W → (∀ pre A B, J pre A → Fr (fun k => k = cb) A B → J pre B) →
    (∀ pre x W1, J pre W1 → YieldAt Fence.wide 3 P l (encs x) W1 fun e W' => e = .returned (.bool true) ∧ J (pre ++ [x]) W' ∧ W'.heap[cb]? = W1.heap[cb]?) →
    J [] W →
    CallsIn Fence.wide 4 P gf (#[.func (.yield l) #[] #[]] ++ lb) W fun e W' => (∃ v, e = .returned v) ∧ ∃ xs, S xs ∧ J xs W'

theorem wp_tells {α : Type} {g : Operand} {ps : Array Tmp} {assign body : Code} {Q : Exit → Act → World → Prop} {a : Act} {w : World}
    {gf : Nat} {lb : Array Value} (hg : a.eval g = .func (.func gf) #[] lb) (eg : ∀ args w, (callFunc gf args).run P w = .ok (.enter gf args) w)
    {encs : α → Array Value} {cb : Nat} (hcb : cb < w.heap.size) {S : List α → Prop} (hseq : Tells P gf lb encs cb S w) (hps : ∀ x, (encs x).size = ps.size)
    (I : List α → World → Prop) (hI : OwnFrom w.heap.size I) (hIc : ∀ pre A B, I pre A → Fr (fun k => k = cb) A B → I pre B) (h0 : I [] w) (a₁ : α → Act)
    (hassign : ∀ (l : Nat) (x : α) (W : World) (K : Act → World → Prop), K (a₁ x) W →
      assign.wpIn (Fence.wide.inRound l) 3 P (Exit.then K (fun _ _ _ => False)) { tmps := (ps.zip (encs x)).foldl (fun t (p, v) => t.setIfInBounds p v) a.tmps, defers := [] } W)
    (hbody : ∀ (l : Nat) (pre : List α) (x : α) (W : World), I pre W → body.wpIn (Fence.wide.inRound l) 3 P (fun e _ W' => e = .normal ∧ KeepsOthers W W' ∧ W'.heap[cb]? = W.heap[cb]? ∧ I (pre ++ [x]) W') (a₁ x) W)
    (hdone : ∀ (D : Nat) (xs : List α) (W : World), w.heap.size ≤ D → S xs → I xs W → W.heap[D]? = some (.deferred (some [])) → Q .normal { a with defers := { target := .collected D, args := #[] } :: a.defers } W) :
    (Code.rangeFunc g ps assign body).wp P Q a w := by
  refine wpIn_wide.1 (wpIn_rangeFunc (F := Fence.wide) (n := 5) fun fn hfn => ?_)
  let rec_ : LoopState → Option Code → Loop := fun st pe => { state := st, pending := pe, fn, tmps := a.tmps, params := ps, assign, body, defers := w.heap.size }
  obtain ⟨W1, hW1⟩ : ∃ W1, W1 = (w.alloc (.deferred (some []))).alloc (.loop (rec_ .ready none)) := ⟨_, rfl⟩
  have hL1 : W1.heap[w.heap.size + 1]? = some (.loop (rec_ .ready none)) := by
    have := World.alloc_heap_new (w.alloc (.deferred (some []))) (.loop (rec_ .ready none))
    rw [World.size_alloc] at this
    rw [hW1]; exact this
  have hK1 : W1.heap[w.heap.size]? = some (.deferred (some [])) := by
    rw [hW1]; exact (Below.heap_alloc _ _ _ (by simp)).trans (World.alloc_heap_new w _)
  have hb1 : Below w.heap.size w W1 := by rw [hW1]; exact ((Below.refl _ w).alloc (Nat.le_refl _) _).alloc (by simp) _
  refine ⟨w.heap.size + 1, [{ target := .collected w.heap.size, args := #[] }], W1, { target := .fn (.func gf) lb, args := #[.func (.yield (w.heap.size + 1)) #[] #[]] }, W1, gf,
    #[.func (.yield (w.heap.size + 1)) #[] #[]] ++ lb, W1, ?_, ?_, ?_, ?_, fun _ => by omega, ?_⟩
  · rw [hW1]; exact run_enterLoop_outer _ _ _ _ _
  · simp only [resolve, hg]
    simp [go_sem]
  · intro f' _; trivial
  · simp [invoke, go_sem, eg]
  · refine (hseq (w.heap.size + 1) (fun pre W => I pre W ∧ W.heap[w.heap.size + 1]? = some (.loop (rec_ .ready none)) ∧ W.heap[w.heap.size]? = some (.deferred (some []))) W1 hb1 ?_ ?_ ⟨?_, hL1, hK1⟩).mono ?_
    · rintro pre A B ⟨h1, h2, h3⟩ hf
      exact ⟨hIc pre A B h1 hf, (hf.heap (Array.getElem?_eq_some_iff.1 h2).1 (by omega)).trans h2, (hf.heap (Array.getElem?_eq_some_iff.1 h3).1 (by omega)).trans h3⟩
    · rintro pre x W ⟨hi, hl, hk⟩
      have hlt : w.heap.size + 1 < W.heap.size := (Array.getElem?_eq_some_iff.1 hl).1
      have hy := run_yield (P := P) (args := encs x) hl (hps x)
      refine ⟨fn, _, assign, body, hy, roundIn_of_wpIn hfn (hassign _ x W _ ⟨_, run_beginRound hl rfl, ?_⟩)⟩
      have hl2 : (W.putObj (w.heap.size + 1) (.loop { rec_ .ready none with state := .busy })).heap[w.heap.size + 1]? = some (.loop { rec_ .ready none with state := .busy }) := World.putObj_heap_same hlt
      have hk2 : (W.putObj (w.heap.size + 1) (.loop { rec_ .ready none with state := .busy })).heap[w.heap.size]? = some (.deferred (some [])) := (World.putObj_heap_other (by omega)).trans hk
      refine wpIn_mono (hbody _ pre x _ (hI.putObj _ hi (by omega) hl rfl)) ?_
      rintro e a3 W3 ⟨rfl, hk3, hc3, hi3⟩
      have hl3 := hk3.same _ _ hl2 rfl
      refine ⟨_, _, run_endRound (P := P) none hl3, rfl, ⟨hI.putObj _ hi3 (by omega) hl3 rfl, World.putObj_heap_same (Array.getElem?_eq_some_iff.1 hl3).1, (World.putObj_heap_other (by omega)).trans (hk3.same _ _ hk2 rfl)⟩, ?_⟩
      rw [World.putObj_heap_other (by omega), hc3, World.putObj_heap_other (by omega)]
    · rw [hW1]; exact hI.alloc _ (hI.alloc _ h0)
    · rintro e W2 ⟨⟨v, rfl⟩, xs, hS, hi, hl, hk⟩
      exact ⟨none, _, run_endLoop (P := P) hl (by simp [rec_]), hdone _ xs _ (Nat.le_refl _) hS (hI.putObj _ hi (by omega) hl rfl) ((World.putObj_heap_other (by omega)).trans hk)⟩

/-- The end of a function without results, behind one loop. -/
theorem end_marks0 {fn : Func} {R : Ending → World → Prop} {tmps : Array Value} {D : Nat} {w : World} (hf : fn.results = #[]) (hK : w.heap[D]? = some (.deferred (some []))) (h : R (.returned (.tuple #[])) (w.putObj D (.deferred none))) :
    Exit.noGoto (noPanic (bodyPostM Fence.wide 5 P fn R)) .normal { tmps := tmps, defers := [{ target := .collected D, args := #[] }] } w := by
  show LeavesInM Fence.wide 5 P fn tmps R [_] .returning w
  refine ⟨by simp, .inl ⟨_, _, rfl, run_takeDeferred hK, ?_⟩⟩
  exact ⟨_, results_none hf _ _ _, h⟩
end

end Go.Proofs.Ytnkjhicokcmmpaa

/-
  The checksum's table: what its functions come to.
-/
namespace Go.Proofs.Ytnkjhicokcmmpaa
open Go.RowKit Go.Shelf
attribute [local go_sem] Oper.semAt_some

theorem ofInt_32 (a : Nat) (ha : a < 2 ^ 32) : (BitVec.ofInt 32 (a : Int)).toNat = a := by
  rw [BitVec.ofInt_natCast, BitVec.toNat_ofNat]
  exact Nat.mod_eq_of_lt ha
theorem wrap_u32 (a : Nat) (h : a < 2 ^ 32) : IntKind.u32.wrap (a : Int) = a := by
  simp [IntKind.wrap, IntKind.signed, IntKind.bits]
  omega
theorem and1_u32 (c : Nat) (hc : c < 2 ^ 32) : bits .and .u32 (c : Int) 1 = ((c % 2 : Nat) : Int) := by
  show IntKind.u32.wrap ((BitVec.ofInt 32 (c : Int) &&& BitVec.ofInt 32 ((1 : Nat) : Int)).toNat : Int) = _
  rw [BitVec.toNat_and, ofInt_32 _ hc, ofInt_32 _ (by decide), Nat.and_one_is_mod, wrap_u32 _ (by omega)]
theorem xor_u32 (a b : Nat) (ha : a < 2 ^ 32) (hb : b < 2 ^ 32) : bits .xor .u32 (a : Int) (b : Int) = ((a ^^^ b : Nat) : Int) := by
  show IntKind.u32.wrap ((BitVec.ofInt 32 (a : Int) ^^^ BitVec.ofInt 32 (b : Int)).toNat : Int) = _
  rw [BitVec.toNat_xor, ofInt_32 _ ha, ofInt_32 _ hb, wrap_u32 _ (Nat.xor_lt_two_pow ha hb)]

def lowsTo (c k : Nat) : List (Nat × Bool) := (List.range k).map fun k => (csN k c / 2, csN k c % 2 == 1)
theorem lowsTo_succ (c k : Nat) : lowsTo c (k + 1) = lowsTo c k ++ [(csN k c / 2, csN k c % 2 == 1)] := by simp [lowsTo, List.range_succ]

set_option maxRecDepth 100000 in
set_option maxHeartbeats 2000000 in
theorem lows1_tells (cb c0 : Nat) (hc0 : c0 < 2 ^ 32) (w : World) (hcb : Blk w cb 23 [.int .u32 c0]) :
    Tells Try.prog 160 #[.pointer (some ⟨cb, 0, none⟩)] (fun x : Nat × Bool => #[Value.int .u32 (x.1 : Nat), .bool x.2]) cb (fun xs => xs = lowsTo c0 8) w := by
  intro l J W hW hJ hY h0
  have hB : Blk W cb 23 [.int .u32 c0] := (hW.block cb hcb.lt).trans hcb
  clear hcb hW
  refine callsIn_of_wp Try.func160 rfl trivial ?_ rfl
  simp only [Try.ntmps160, List.size_toArray, List.length_cons, List.length_nil, Nat.reduceAdd, Nat.reduceSub, Array.replicate_succ, Array.replicate_zero, List.push_toArray, List.append_toArray, List.nil_append, List.cons_append]
  gi_wp2
  gi_loopw [4] (fun t wr => ∃ k : Nat, k ≤ 8 ∧ t = .int .i64 k ∧ J (lowsTo c0 k) wr ∧ Blk wr cb 23 [.int .u32 (csN k c0)]) (fun t _ => 8 - (intOf t).toNat)
  case atStart => exact ⟨0, Nat.zero_le _, rfl, h0, hB⟩
  case round =>
    obtain ⟨k, hk, rfl, hJs, hBr⟩ := hrel
    by_cases hlt : k < 8
    · have hc := csN_lt hc0 k
      obtain ⟨c, hcd⟩ : ∃ c, c = csN k c0 := ⟨_, rfl⟩
      rw [← hcd] at hBr hc
      have HT : Hid (lowsTo c0 (k + 1) = lowsTo c0 k ++ [(c / 2, c % 2 == 1)]) := by rw [hcd]; exact lowsTo_succ c0 k
      have HC : Hid (csN (k + 1) c0 = cs1 c) := by rw [hcd]; rfl
      clear hcd hB hc0
      have b0 := hBr.cell (j := 0) rfl
      have bf := hBr.free
      have bl := hBr.lt
      have hfs : Fr (fun k => k = cb) wr (wr.setCell ⟨cb, 0, none⟩ (.int .u32 ((c : Int) / 2))) := (Fr.refl (fun k => k = cb) wr).setCell (p := ⟨cb, 0, none⟩) (.inl rfl) _
      have hB2 : Blk (wr.setCell ⟨cb, 0, none⟩ (.int .u32 ((c : Int) / 2))) cb 23 [.int .u32 ((c : Int) / 2)] := hBr.set 0 _
      have hd2 : ((c / 2 : Nat) : Int) = (c : Int) / 2 := by omega
      by_cases hp : c % 2 = 1
      · have hand : bits .and .u32 (c : Int) 1 = 1 := by
          have := and1_u32 c hc
          rw [hp] at this
          exact this
        have hxor : bits .xor .u32 ((c : Int) / 2) 3988292384 = ((cs1 c : Nat) : Int) := by
          have := xor_u32 (c / 2) poly (by omega) (by decide)
          rw [hd2] at this
          rw [show ((3988292384 : Int)) = ((poly : Nat) : Int) by rfl, this]
          unfold cs1
          rw [if_pos hp]
        obtain ⟨fn, tmps, assign, body, hy, hR⟩ := hY (lowsTo c0 k) (c / 2, c % 2 == 1) _ (hJ _ _ _ hJs hfs)
        dsimp only at hy
        rw [hp, hd2, show ((1 : Nat) == 1) = true from rfl] at hy
        have HX := Lib.hid hxor
        clear hxor hd2
        gi_wp2
        refine hR.mono ?_
        rintro e W3 ⟨rfl, hJ3, hk3⟩
        have hB3 : Blk W3 cb 23 [.int .u32 ((c : Int) / 2)] := hk3.trans hB2
        have d0 := hB3.cell (j := 0) rfl
        have df := hB3.free
        have dl := hB3.lt
        have hxor := HX.out
        gi_wp2
        go_roundw
        case rel =>
          refine ⟨k + 1, by omega, by simp, ?_, ?_⟩
          · rw [HT.out]
            exact hJ _ _ _ hJ3 ((Fr.refl (fun k => k = cb) W3).setCell (p := ⟨cb, 0, none⟩) (.inl rfl) _)
          · rw [HC.out]
            exact hB3.set 0 _
        case measure => (simp [intOf]; try omega)
      · have hp0 : c % 2 = 0 := by omega
        have hand : bits .and .u32 (c : Int) 1 = 0 := by
          have := and1_u32 c hc
          rw [hp0] at this
          exact this
        have hcs : cs1 c = c / 2 := by unfold cs1; rw [if_neg hp]
        obtain ⟨fn, tmps, assign, body, hy, hR⟩ := hY (lowsTo c0 k) (c / 2, c % 2 == 1) _ (hJ _ _ _ hJs hfs)
        dsimp only at hy
        rw [hp0, hd2, show ((0 : Nat) == 1) = false from rfl] at hy
        have HX : Hid (((cs1 c : Nat) : Int) = (c : Int) / 2) := by rw [hcs]; exact hd2
        clear hd2 hcs
        gi_wp2
        refine hR.mono ?_
        rintro e W3 ⟨rfl, hJ3, hk3⟩
        have hB3 : Blk W3 cb 23 [.int .u32 ((c : Int) / 2)] := hk3.trans hB2
        gi_wp2
        go_roundw
        case rel =>
          refine ⟨k + 1, by omega, by simp, ?_, ?_⟩
          · rw [HT.out]
            exact hJ3
          · rw [HC.out, HX.out]
            exact hB3
        case measure => (simp [intOf]; try omega)
    · obtain rfl : k = 8 := by omega
      gi_wp2
      go_end0
      exact ⟨⟨_, rfl⟩, _, rfl, hJs⟩

theorem lows_any (c : Int) (w : World) : Calls Try.prog 154 #[.int .u32 c] w fun e w' => e = .returned (.func (.func 160) #[] #[.pointer (some ⟨w.heap.size, 0, none⟩)]) ∧ w.alloc (.cells #[.int .u32 c] 23) = w' := by
  go_enter Try.func154, Try.ntmps154
  go_wp2
  go_ret
  exact ⟨rfl, rfl⟩

/-- What a round of 'fill' makes of what it is told. -/
def fillS (x : Nat × Bool) : Int := if x.2 then bits .xor .u32 (x.1 : Int) 3988292384 else x.1
def fillN (i : Nat) (l : List (Nat × Bool)) : Int := match l.getLast? with | some x => fillS x | none => i
theorem fillN_snoc (i : Nat) (l : List (Nat × Bool)) (x : Nat × Bool) : fillN i (l ++ [x]) = fillS x := by simp [fillN]
theorem fillN_8 (i : Nat) (hi : i < 2 ^ 32) : fillN i (lowsTo i 8) = ((tab i : Nat) : Int) := by
  rw [lowsTo_succ, fillN_snoc]
  have hc := csN_lt hi 7
  have hx := xor_u32 (csN 7 i / 2) poly (by omega) (by decide)
  show (if (csN 7 i % 2 == 1) = true then _ else _) = ((cs1 (csN 7 i) : Nat) : Int)
  unfold cs1
  by_cases hp : csN 7 i % 2 = 1
  · rw [if_pos hp, if_pos (by simp [hp])]
    exact hx
  · rw [if_neg hp, if_neg (by simp [hp])]

set_option maxRecDepth 100000 in
set_option maxHeartbeats 4000000 in
theorem fill_any (tb i : Nat) (hi : i < 256) (l : List Value) (hl : l.length = 256) (w : World) (h : Blk w tb 181 l) :
    Calls Try.prog 137 #[.pointer (some ⟨tb, 0, none⟩), .int .i64 i] w fun e w' => (∃ v, e = .returned v) ∧ Blk w' tb 181 (l.set i (.int .u32 (tab i))) ∧ Fr (fun k => k = tb) w w' := by
  have hi32 : i < 2 ^ 32 := by omega
  have hwr : IntKind.u32.wrap (i : Int) = i := wrap_u32 _ hi32
  have htl := h.lt
  refine calls_of_marks Try.func137 rfl ?_
  simp only [Try.ntmps137, List.size_toArray, List.length_cons, List.length_nil, Nat.reduceAdd, Nat.reduceSub, Array.replicate_succ, Array.replicate_zero, List.push_toArray, List.append_toArray, List.nil_append, List.cons_append]
  go_wp2
  go_step3
  go_wp2
  go_step3
  go_wp2_with (go_at_call 154; refine (lows_any _ _).mono ?_; rintro e w1 ⟨rfl, rfl⟩)
  have hN : Blk ((w.alloc (.cells #[.int .u32 i] 23)).alloc (.cells #[.int .u32 i] 23)) w.heap.size 23 [.int .u32 i] := (Blk.new w _ _).alloc _
  have hC : Blk ((w.alloc (.cells #[.int .u32 i] 23)).alloc (.cells #[.int .u32 i] 23)) (w.heap.size + 1) 23 [.int .u32 i] := by
    have := Blk.new (w.alloc (.cells #[.int .u32 i] 23)) 23 [.int .u32 i]
    rwa [World.size_alloc] at this
  have hfr1 : Fr No w ((w.alloc (.cells #[.int .u32 i] 23)).alloc (.cells #[.int .u32 i] 23)) := ((Fr.refl No w).alloc _).alloc _
  generalize (w.alloc (.cells #[.int .u32 i] 23)).alloc (.cells #[.int .u32 i] 23) = w1 at *
  have hz := hC.lt
  refine wp_tells (gf := 160) (lb := #[.pointer (some ⟨w.heap.size + 1, 0, none⟩)]) rfl (enters_of Try.func160 (by kernel_rfl) rfl) (cb := w.heap.size + 1) hz
    (lows1_tells (w.heap.size + 1) i hi32 w1 hC) (fun _ => rfl)
    (fun pre W => Blk W w.heap.size 23 [.int .u32 (fillN i pre)] ∧ Fr (fun k => k = w.heap.size ∨ k = w.heap.size + 1) w1 W)
    ?hI ?hIc ⟨hN, Fr.refl _ _⟩ (fun x : Nat × Bool => { tmps := #[.pointer (some ⟨tb, 0, none⟩), .int .i64 i, undef, undef, .pointer (some ⟨w.heap.size, 0, none⟩), .int .u32 (x.1 : Nat), .bool x.2, .int .i64 i, .int .u32 i, .int .u32 i, .func (.func 160) #[] #[.pointer (some ⟨w.heap.size + 1, 0, none⟩)], .int .u32 (x.1 : Nat), .bool x.2, undef, undef, undef, undef, undef, undef, undef, undef, undef, undef, undef], defers := [] }) ?assign ?body ?done
  case hI =>
    rintro s A B row ⟨h1, h3⟩ hg hr
    exact ⟨h1.fr ((Fr.refl (fun k => w1.heap.size ≤ k) A).grown hg (fun k hk => .inl (hr k hk).1)) (by omega), h3.grown hg (fun k hk => .inr (hr k hk).1)⟩
  case hIc =>
    rintro pre A B ⟨h1, h3⟩ hf
    exact ⟨h1.fr hf (by omega), h3.trans hf (fun k hk => .inl (.inr hk))⟩
  case assign =>
    intro ll x W K hK
    gi_wp2
    exact hK
  case body =>
    rintro ll pre x W ⟨hW1, hW3⟩
    have hb0 := hW1.cell (j := 0) rfl
    have hbf := hW1.free
    have hbl := hW1.lt
    obtain ⟨low, out⟩ := x
    cases out
    · gi_wp2
      refine ⟨KeepsOthers.setCell _ _ _, Below.heap_setCell _ _ _ _ (by show w.heap.size + 1 ≠ w.heap.size; omega), ?_, hW3.setCell (p := ⟨w.heap.size, 0, none⟩) (.inl (.inl rfl)) _⟩
      rw [fillN_snoc]
      exact hW1.set 0 _
    · gi_wp2
      refine ⟨(KeepsOthers.setCell _ _ _).trans (KeepsOthers.setCell _ _ _), (Below.heap_setCell _ _ _ _ (by show w.heap.size + 1 ≠ w.heap.size; omega)).trans (Below.heap_setCell _ _ _ _ (by show w.heap.size + 1 ≠ w.heap.size; omega)), ?_, (hW3.setCell (p := ⟨w.heap.size, 0, none⟩) (.inl (.inl rfl)) _).setCell (p := ⟨w.heap.size, 0, none⟩) (.inl (.inl rfl)) _⟩
      rw [fillN_snoc]
      exact (hW1.set 0 _).set 0 _
  case done =>
    rintro D ys W hD rfl ⟨hW1, hW3⟩ hK
    rw [fillN_8 i hi32] at hW1
    have hb0 := hW1.cell (j := 0) rfl
    have hbl := hW1.lt
    have hT := (h.fr hfr1 (No.no _)).fr hW3 (by omega)
    have t0 := hT.cell (j := i) (v := l[i]'(by omega)) (List.getElem?_eq_getElem (by omega))
    have tf := hT.free
    have tl := hT.lt
    go_wp2
    go_region
    all_goals go_wp2
    all_goals
      have hB2 : Blk (W.setCell ⟨tb, i, none⟩ (.int .u32 (tab i))).drew tb 181 (l.set i (.int .u32 (tab i))) := (hT.set i _).drew
      have hk2 : (W.setCell ⟨tb, i, none⟩ (.int .u32 (tab i))).drew.heap[D]? = some (.deferred (some [])) := (Below.heap_setCell W ⟨tb, i, none⟩ _ D (fun e => hT.neDef hK e.symm)).trans hK
      refine end_marks0 rfl hk2 ⟨⟨_, rfl⟩, hB2.putObj (hB2.neDef hk2) _, ?_⟩
      have hf1 : Fr (fun k => k = tb) w W := (hfr1.no_any (S := fun k => k = tb)).trans hW3 (fun k hk => .inr (by omega))
      exact ((hf1.setCell (p := ⟨tb, i, none⟩) (.inl rfl) _).drew).putObj (.inr (by have := hfr1.size; omega)) _

end Go.Proofs.Ytnkjhicokcmmpaa

/-
  The checksum of bytes: what the program's functions come to.
-/
namespace Go.Proofs.Ytnkjhicokcmmpaa
open Go.RowKit Go.Shelf
attribute [local go_sem] Oper.semAt_some

/-- The table, filled up to k. -/
def tabTo (k : Nat) : List Value := (List.range 256).map fun j => if j < k then .int .u32 (tab j : Nat) else .int .u32 0
theorem tabTo_len (k : Nat) : (tabTo k).length = 256 := by simp [tabTo]
theorem tabTo_succ (k : Nat) (hk : k < 256) : (tabTo k).set k (.int .u32 (tab k : Nat)) = tabTo (k + 1) := by
  apply List.ext_getElem
  · simp [tabTo]
  · intro i h1 h2
    rw [List.getElem_set]
    simp only [tabTo, List.getElem_map, List.getElem_range]
    split
    · rename_i e; subst e; rw [if_pos (by omega)]
    · rename_i e
      by_cases hi : i < k
      · rw [if_pos hi, if_pos (by omega)]
      · rw [if_neg hi, if_neg (by omega)]
theorem tabTo_get (i : Nat) (hi : i < 256) : (tabTo 256)[i]? = some (.int .u32 (tab i : Nat)) := by
  simp [tabTo, hi]

/-- The register behind the first k bytes. -/
def crcTo (l : List UInt8) (k : Nat) : Nat := regTo (l.take k) 4294967295
theorem crcTo_lt (l : List UInt8) (k : Nat) : crcTo l k < 2 ^ 32 := regTo_lt (by decide)
theorem crcTo_succ (l : List UInt8) (k : Nat) (hk : k < l.length) : crcTo l (k + 1) = csB (crcTo l k) (l[k]).toNat := by
  unfold crcTo
  rw [List.take_succ_eq_append_getElem hk, regTo_snoc]
theorem not_u32 (c : Nat) (h : c < 2 ^ 32) : bits .xor .u32 IntKind.u32.max (c : Int) = ((4294967295 - c : Nat) : Int) := by
  have h1 := xor_u32 4294967295 c (by decide) h
  have h2 : 4294967295 ^^^ c = 4294967295 - c := by
    apply Nat.eq_of_testBit_eq
    intro i
    have h3 := Nat.testBit_two_pow_sub_succ h i
    rw [show 2 ^ 32 - (c + 1) = 4294967295 - c by omega] at h3
    rw [h3, Nat.testBit_xor]
    have h4 : (4294967295 : Nat).testBit i = decide (i < 32) := Nat.testBit_two_pow_sub_one 32 i
    rw [h4]
    by_cases hi : i < 32
    · simp [hi]
    · have : c.testBit i = false := Nat.testBit_lt_two_pow (Nat.lt_of_lt_of_le h (Nat.pow_le_pow_right (by decide) (by omega)))
      simp [hi, this]
  rw [h2] at h1
  exact h1
theorem xor_u8 (c x : Nat) (hx : x < 256) : bits .xor .u8 ((c : Int) % 256) (x : Int) = ((c % 256 ^^^ x : Nat) : Int) := by
  have h8 : ∀ a : Nat, a < 256 → (BitVec.ofInt 8 (a : Int)).toNat = a := fun a ha => by
    rw [BitVec.ofInt_natCast, BitVec.toNat_ofNat]
    exact Nat.mod_eq_of_lt ha
  have hl : c % 256 ^^^ x < 256 := Nat.xor_lt_two_pow (n := 8) (Nat.mod_lt _ (by decide)) hx
  show IntKind.u8.wrap ((BitVec.ofInt 8 ((c : Int) % 256) ^^^ BitVec.ofInt 8 (x : Int)).toNat : Int) = _
  rw [show (c : Int) % 256 = ((c % 256 : Nat) : Int) by simp, BitVec.toNat_xor, h8 _ (Nat.mod_lt _ (by decide)), h8 _ hx]
  generalize c % 256 ^^^ x = m at *
  simp [IntKind.wrap, IntKind.signed, IntKind.bits]
  omega

theorem tab0 : (tabTo 0).toArray = Try.zeroCells181 := by kernel_rfl

set_option maxRecDepth 100000 in
set_option maxHeartbeats 4000000 in
theorem known_any (w : World) : Calls Try.prog 120 #[] w fun e w' => e = .returned (.pointer (some ⟨w.heap.size, 0, none⟩)) ∧ Blk w' w.heap.size 181 (tabTo 256) ∧ Fr No w w' := by
  go_enter Try.func120, Try.ntmps120
  go_wp2
  have hB : Blk (w.alloc (.cells Try.zeroCells181 181)) w.heap.size 181 (tabTo 0) := by
    have h := Blk.new w 181 (tabTo 0)
    rw [tab0] at h
    exact h
  have hf : Fr No w (w.alloc (.cells Try.zeroCells181 181)) := (Fr.refl No w).alloc _
  generalize w.alloc (.cells Try.zeroCells181 181) = w0 at *
  go_loopw [5] (fun t wr => ∃ k : Nat, k ≤ 256 ∧ t = .int .i64 k ∧ Blk wr w.heap.size 181 (tabTo k) ∧ Fr No w wr) (fun t _ => 256 - (intOf t).toNat)
  case atStart => exact ⟨0, Nat.zero_le _, rfl, hB, hf⟩
  case round =>
    obtain ⟨k, hk, rfl, hT, hfr⟩ := hrel
    clear hB hf
    by_cases hlt : k < 256
    · go_wp2_with (go_at_call 137; refine (fill_any w.heap.size k hlt _ (tabTo_len k) _ hT).mono ?_; rintro e w1 ⟨⟨v, rfl⟩, h1, h2⟩)
      go_roundw
      case rel =>
        rw [tabTo_succ k hlt] at h1
        exact ⟨k + 1, by omega, by go_num, h1, hfr.trans h2 (fun x hx => .inr (by omega))⟩
      case measure => (simp [intOf]; omega)
    · obtain rfl : k = 256 := by omega
      have hl := hT.lt
      go_wp2
      go_ret
      exact ⟨rfl, hT, hfr⟩

set_option maxRecDepth 100000 in
set_option maxHeartbeats 4000000 in
theorem crcMore_any (a : Option Addr) (n c : Nat) (bs : List UInt8) (w : World) (h : Win w a n c (bs.map byt)) (hb : n ≤ 1000000) :
    Calls Try.prog 104 #[.int .u32 0, .slice a n c] w fun e w' => e = .returned (.int .u32 (sumOf bs : Nat)) ∧ Fr No w w' := by
  have hl : bs.length = n := by have := h.len; simpa using this
  have HL := Lib.hid hl
  have hw := Lib.hid h
  clear hl h
  go_enter Try.func104, Try.ntmps104
  go_wp2_with (go_at_call 120; refine (known_any _).mono ?_; rintro e w1 ⟨rfl, hT, hf1⟩)
  have hst : Value.int .u32 (bits .xor .u32 IntKind.u32.max 0) = .int .u32 (crcTo bs 0 : Nat) := by
    have h0 : bits .xor .u32 IntKind.u32.max 0 = ((4294967295 - 0 : Nat) : Int) := not_u32 0 (by decide)
    rw [h0]
    rfl
  rw [hst]
  have HT := Lib.hid hT
  clear hst hT
  go_loopw [6, 14] (fun r t wr => ∃ k : Nat, k ≤ n ∧ r = .int .u32 (crcTo bs k : Nat) ∧ t = .int .i64 k ∧ Fr No w1 wr) (fun _ t _ => n - (intOf t).toNat)
  case atStart => exact ⟨0, Nat.zero_le _, rfl, rfl, Fr.refl _ _⟩
  case round =>
    obtain ⟨k, hk, rfl, rfl, hfr⟩ := hrel
    by_cases hlt : k < n
    · have hkb : k < bs.length := by rw [HL.out]; exact hlt
      obtain ⟨ad, u, rfl, hu, hcell⟩ := (hw.out.no (hf1.thn hfr)).at hlt
      have hc := crcTo_lt bs k
      have hsuc := crcTo_succ bs k hkb
      obtain ⟨c', hcd⟩ : ∃ c', c' = crcTo bs k := ⟨_, rfl⟩
      rw [← hcd] at hc hsuc ⊢
      have hx := (bs[k]).toNat_lt
      have hu' : u = .int .u8 ((bs[k]).toNat : Int) := by
        rw [List.getElem?_map, List.getElem?_eq_getElem hkb] at hu
        exact (Option.some.inj hu).symm
      subst hu'
      generalize (bs[k]).toNat = x at *
      obtain ⟨m, hm⟩ : ∃ m, m = c' % 256 ^^^ x := ⟨_, rfl⟩
      have hml : m < 256 := by rw [hm]; exact Nat.xor_lt_two_pow (n := 8) (Nat.mod_lt _ (by decide)) hx
      have hidx : bits .xor .u8 ((c' : Int) % 256) (x : Int) = (m : Int) := by rw [xor_u8 c' x hx, hm]
      have hTr := HT.out.fr hfr (No.no _)
      have ht := hTr.cell (j := m) (tabTo_get m hml)
      have hxor : bits .xor .u32 ((c' : Int) / 256) ((tab m : Nat) : Int) = ((csB c' x : Nat) : Int) := by
        have h1 := xor_u32 (c' / 256) (tab m) (by omega) (tab_lt (by omega))
        rw [show ((c' / 256 : Nat) : Int) = (c' : Int) / 256 by omega] at h1
        rw [h1]
        unfold csB
        rw [hm]
      have HS := Lib.hid hsuc
      have hmi : (m : Int) < 256 := by omega
      have htl := hTr.lt
      clear hsuc hm hcd hu
      go_wp2
      go_roundw
      case rel => exact ⟨k + 1, by omega, by rw [HS.out], by go_num, hfr⟩
      case measure => (simp [intOf]; omega)
    · obtain rfl : k = n := by omega
      have hend : bits .xor .u32 IntKind.u32.max ((crcTo bs k : Nat) : Int) = ((sumOf bs : Nat) : Int) := by
        rw [not_u32 _ (crcTo_lt bs k)]
        unfold sumOf crcTo
        rw [List.take_of_length_le (by rw [HL.out]; exact Nat.le_refl _)]
      have HE := Lib.hid hend
      clear hend
      go_wp2
      go_ret
      exact ⟨by rw [← HE.out]; rfl, hf1.thn hfr⟩

theorem crcOf_any (a : Option Addr) (n c : Nat) (bs : List UInt8) (w : World) (h : Win w a n c (bs.map byt)) (hb : n ≤ 1000000) :
    Calls Try.prog 67 #[.slice a n c] w fun e w' => e = .returned (.int .u32 (sumOf bs : Nat)) ∧ Fr No w w' := by
  go_enter Try.func67, Try.ntmps67
  go_wp2_with (go_at_call 104; refine (crcMore_any a n c bs _ h hb).mono ?_; rintro e w1 ⟨rfl, hf1⟩)
  go_ret
  exact ⟨rfl, hf1⟩

end Go.Proofs.Ytnkjhicokcmmpaa

/-
  The checksum of bytes: what the document's functions come to.
-/
namespace Go.Proofs.Ytnkjhicokcmmpaa
open Go.RowKit Go.Shelf

theorem step_any (c b : Nat) (hc : c < 2 ^ 32) (hb : b < 2) (w : World) : Calls Try.prog 121 #[.int .u32 c, .int .u32 b] w fun e w' => e = .returned (.int .u32 (rs1 c b : Nat)) ∧ w = w' := by
  have hx : bits .xor .u32 (c : Int) (b : Int) = ((c ^^^ b : Nat) : Int) := xor_u32 c b hc (by omega)
  have hc2 : ((c / 2 : Nat) : Int) = (c : Int) / 2 := by omega
  have hxp : bits .xor .u32 ((c : Int) / 2) 3988292384 = ((c / 2 ^^^ poly : Nat) : Int) := by
    have := xor_u32 (c / 2) poly (by omega) (by decide)
    rw [hc2] at this
    exact this
  by_cases hp : (c ^^^ b) % 2 = 1
  · have hd : rs1 c b = c / 2 ^^^ poly := by unfold rs1; rw [if_pos hp]
    have ht : (((c ^^^ b : Nat) : Int) % 2 == 1) = true := by simp; omega
    rw [hd]
    clear hd hc2
    go_enter Try.func121, Try.ntmps121
    go_wp2
    go_ret
    exact ⟨rfl, rfl⟩
  · have hd : rs1 c b = c / 2 := by unfold rs1; rw [if_neg hp]
    have ht : (((c ^^^ b : Nat) : Int) % 2 == 1) = false := by simp; omega
    rw [hd, hc2]
    clear hd hc2 hxp
    go_enter Try.func121, Try.ntmps121
    go_wp2
    go_ret
    exact ⟨rfl, rfl⟩

theorem step_mod (c y : Nat) (hc : c < 2 ^ 32) (w : World) : Calls Try.prog 121 #[.int .u32 c, .int .u32 ((y : Int) % 2)] w fun e w' => e = .returned (.int .u32 (rs1 c (y % 2) : Nat)) ∧ w = w' := by
  rw [show (y : Int) % 2 = ((y % 2 : Nat) : Int) by omega]
  exact step_any c (y % 2) hc (Nat.mod_lt _ (by decide)) w

set_option maxRecDepth 100000 in
set_option maxHeartbeats 4000000 in
theorem refMore_any (a : Option Addr) (n c : Nat) (bs : List UInt8) (w : World) (h : Win w a n c (bs.map byt)) (hb : n ≤ 1000000) :
    Calls Try.prog 106 #[.int .u32 0, .slice a n c] w fun e w' => e = .returned (.int .u32 (sumOf bs : Nat)) ∧ w = w' := by
  have hl : bs.length = n := by have := h.len; simpa using this
  have HL := Lib.hid hl
  have hw := Lib.hid h
  clear hl h
  go_enter Try.func106, Try.ntmps106
  go_wp2
  have hst : Value.int .u32 4294967295 = .int .u32 (crcTo bs 0 : Nat) := rfl
  rw [hst]
  clear hst
  go_loop [5, 6] (fun r t => ∃ k : Nat, k ≤ n ∧ r = .int .u32 (crcTo bs k : Nat) ∧ t = .int .i64 k) (fun _ t => n - (intOf t).toNat)
  case atStart => exact ⟨0, Nat.zero_le _, rfl, rfl⟩
  case round =>
    obtain ⟨k, hk, rfl, rfl⟩ := hrel
    by_cases hlt : k < n
    · have hkb : k < bs.length := by rw [HL.out]; exact hlt
      obtain ⟨ad, u, rfl, hu, hcell⟩ := hw.out.at hlt
      have hc := crcTo_lt bs k
      have hsuc := crcTo_succ bs k hkb
      obtain ⟨c', hcd⟩ : ∃ c', c' = crcTo bs k := ⟨_, rfl⟩
      rw [← hcd] at hc hsuc ⊢
      have hx := (bs[k]).toNat_lt
      have hu' : u = .int .u8 ((bs[k]).toNat : Int) := by
        rw [List.getElem?_map, List.getElem?_eq_getElem hkb] at hu
        exact (Option.some.inj hu).symm
      subst hu'
      generalize (bs[k]).toNat = x at *
      rw [csB_eq c' x hx] at hsuc
      have HS := Lib.hid hsuc
      have hxw : IntKind.u32.wrap (x : Int) = (x : Int) := wrap_u32 x (by omega)
      clear hsuc hcd hu
      go_wp2
      go_loop [5, 7, 8] (fun r y j => ∃ m : Nat, m ≤ 8 ∧ r = .int .u32 (rsN x m c' : Nat) ∧ y = .int .u32 (x / 2 ^ m : Nat) ∧ j = .int .i64 m) (fun _ _ j => 8 - (intOf j).toNat)
      case atStart => exact ⟨0, Nat.zero_le _, rfl, by simp, rfl⟩
      case round =>
        obtain ⟨m, hm, rfl, rfl, rfl⟩ := hrel
        by_cases hml : m < 8
        · have hr := rsN_lt (x := x) hc m
          have hs1 : Hid (rsN x (m + 1) c' = rs1 (rsN x m c') (x / 2 ^ m % 2)) := rfl
          have hs2 : Hid (x / 2 ^ (m + 1) = x / 2 ^ m / 2) := by
            show x / 2 ^ (m + 1) = x / 2 ^ m / 2
            rw [Nat.pow_succ, Nat.div_div_eq_div_mul]
          have hyb : x / 2 ^ m ≤ 255 := Nat.le_trans (Nat.div_le_self _ _) (by omega)
          generalize rsN x m c' = r at *
          generalize x / 2 ^ m = y at *
          go_wp2_with (go_at_call 121; refine (step_mod r y hr _).mono ?_; rintro e w1 ⟨rfl, rfl⟩)
          go_round
          case rel => exact ⟨m + 1, by omega, by rw [hs1.out], (by rw [hs2.out]; congr 1), by go_num⟩
          case measure => (simp [intOf]; omega)
        · obtain rfl : m = 8 := by omega
          go_wp2
          go_round
          case rel => exact ⟨k + 1, by omega, by rw [HS.out], by go_num⟩
          case measure => (simp [intOf]; omega)
    · obtain rfl : k = n := by omega
      have hend : sumOf bs = 4294967295 - crcTo bs k := by
        unfold sumOf crcTo
        rw [List.take_of_length_le (by rw [HL.out]; exact Nat.le_refl _)]
      have hlt2 := crcTo_lt bs k
      have HE := Lib.hid hend
      clear hend
      generalize crcTo bs k = c' at *
      have hsub : IntKind.u32.wrap (4294967295 - (c' : Int)) = ((4294967295 - c' : Nat) : Int) := by
        rw [show (4294967295 - (c' : Int)) = ((4294967295 - c' : Nat) : Int) by omega]
        exact wrap_u32 _ (by omega)
      go_wp2
      go_ret
      exact ⟨by rw [HE.out]; rfl, rfl⟩

theorem refOf_any (a : Option Addr) (n c : Nat) (bs : List UInt8) (w : World) (h : Win w a n c (bs.map byt)) (hb : n ≤ 1000000) :
    Calls Try.prog 70 #[.slice a n c] w fun e w' => e = .returned (.int .u32 (sumOf bs : Nat)) ∧ w = w' := by
  go_enter Try.func70, Try.ntmps70
  go_wp2_with (go_at_call 106; refine (refMore_any a n c bs _ h hb).mono ?_; rintro e w1 ⟨rfl, rfl⟩)
  go_ret
  exact ⟨rfl, rfl⟩

end Go.Proofs.Ytnkjhicokcmmpaa

/-
  A record's sector: what the program's Encode comes to.
-/
namespace Go.Proofs.Ytnkjhicokcmmpaa
open Go.RowKit Go.Shelf

/-- What is ahead of the sum. -/
def recFront (e n : Nat) (p : List UInt8) : List UInt8 := [81, 74, 1] ++ num 1 p.length ++ (num 8 e ++ num 8 n) ++ p ++ List.replicate (88 - p.length) 0
def recBytes (e n : Nat) (p : List UInt8) : List UInt8 := recFront e n p ++ num 4 (sumOf (recFront e n p)) ++ (num 8 e ++ num 8 n)
theorem recFront_len (e n : Nat) (p : List UInt8) (hp : p.length ≤ 64) : (recFront e n p).length = 108 := by simp [recFront, num_len]; omega
theorem recBytes_len (e n : Nat) (p : List UInt8) (hp : p.length ≤ 64) : (recBytes e n p).length = 128 := by simp [recBytes, recFront_len e n p hp, num_len]

set_option maxRecDepth 100000 in
set_option maxHeartbeats 1000000 in
/-- The marks. -/
theorem marks_any (N be bn : Nat) (e n : Nat) (he : e < 2 ^ 64) (hn : n < 2 ^ 64) (hbe : be < N) (hbn : bn < N) (v : Value) (bs : List UInt8) (hl : bs.length ≤ 1000) (w : World) (hz : N ≤ w.heap.size) (h : WIn N w N v bs) (k0 : w.cell? ⟨be, 0, none⟩ = some (.int .u64 e)) (k1 : w.cell? ⟨bn, 0, none⟩ = some (.int .u64 n)) :
    Calls Try.prog 84 #[.pointer (some ⟨N, 0, none⟩), .pointer (some ⟨be, 0, none⟩), .pointer (some ⟨bn, 0, none⟩)] w fun o w' => ∃ v', o = .returned (.tuple #[]) ∧ WIn N w' N v' (bs ++ (num 8 e ++ num 8 n)) ∧ From N w w' := by
  go_enter Try.func84, Try.ntmps84
  go_wp2_with fail
  refine (wnumN N N v bs 8 e (by omega) he (by omega) _ hz h).mono ?_
  rintro o w1 ⟨v1, rfl, h1, g1⟩
  have k1' := (g1.cell (p := ⟨bn, 0, none⟩) (World.block_lt_of_cell? w _ k1) (by simp; omega)).trans k1
  have z1 : N ≤ w1.heap.size := Nat.le_trans hz g1.size
  clear h k0 k1
  go_wp2_with fail
  refine (wnumN N N v1 _ 8 n (by omega) hn (by simp [num_len]; omega) _ z1 h1).mono ?_
  rintro o w2 ⟨v2, rfl, h2, g2⟩
  clear h1 k1'
  go_wp2
  refine bodyPost_end (results_none rfl _ _ _) rfl ?_
  exact ⟨v2, rfl, by rw [← List.append_assoc]; exact h2, g1.t g2⟩


set_option maxRecDepth 100000 in
set_option maxHeartbeats 2000000 in
theorem jencode_ok (e n : Nat) (he : e < 2 ^ 64) (hn : n < 2 ^ 64) (hn0 : n ≠ 0) (a : Option Addr) (c : Nat) (p : List UInt8) (hp : p.length ≤ 64) (w : World) (hw : Win w a p.length c (p.map byt)) :
    Calls Try.prog 33 #[.int .u64 e, .int .u64 n, .slice a p.length c] w fun o w' => ∃ g c, o = .returned (.tuple #[.slice (some ⟨g, 0, none⟩) 128 c, .int .i64 0]) ∧ Own w' 5 1 (.slice (some ⟨g, 0, none⟩) 128 c) 128 ((recBytes e n p).map byt) ∧ w.heap.size ≤ g ∧ Fr No w w' := by
  obtain ⟨m, hm⟩ : ∃ m, m = p.length := ⟨_, rfl⟩
  rw [← hm] at hw hp ⊢
  have h0 : ((n : Int) == 0) = false := by simp; omega
  have hd : decide (64 < (m : Int)) = false := by simp; omega
  have hmw : IntKind.u64.wrap (m : Int) = (m : Int) := wrap_u64 m (by omega)
  have kc := fun (w : World) (C : Array Value) (n c g : Nat) (hg : g = w.heap.size) => Joins.run_convert_bytes_const_at (P := Try.prog) w 26 5 C n c g hg Try.underlying26 Try.underlying5
  have HM := Lib.hid hm
  have HWP := Lib.hid hw
  clear hm hw
  go_enter Try.func33, Try.ntmps33
  go_wp2_with fail
  obtain ⟨N, hN⟩ : ∃ N, N = w.heap.size + 1 + 1 := ⟨_, rfl⟩
  have kE : Blk ((((w.alloc (.cells #[.int .u64 e] 22)).alloc (.cells #[.int .u64 n] 22)).alloc (.cells #[.slice none 0 0] 110)).alloc (.cells #[.int .u8 81, .int .u8 74, .int .u8 1] 5 (3, 4))) w.heap.size 22 [.int .u64 e] := (((Blk.new w _ _).alloc _).alloc _).alloc _
  have kM : Blk ((((w.alloc (.cells #[.int .u64 e] 22)).alloc (.cells #[.int .u64 n] 22)).alloc (.cells #[.slice none 0 0] 110)).alloc (.cells #[.int .u8 81, .int .u8 74, .int .u8 1] 5 (3, 4))) (w.heap.size + 1) 22 [.int .u64 n] := by
    have := Blk.new (w.alloc (.cells #[.int .u64 e] 22)) 22 [.int .u64 n]
    rw [World.size_alloc] at this
    exact (this.alloc _).alloc _
  have hW0 : WIn N ((((w.alloc (.cells #[.int .u64 e] 22)).alloc (.cells #[.int .u64 n] 22)).alloc (.cells #[.slice none 0 0] 110)).alloc (.cells #[.int .u8 81, .int .u8 74, .int .u8 1] 5 (3, 4))) N (.slice none 0 0) [] := by
    refine ⟨⟨?_, World.ownsRow_nil _ _ _ _⟩, Nat.le_refl _, fun k hk => by simp [Value.ownBlock] at hk⟩
    have := Blk.new ((w.alloc (.cells #[.int .u64 e] 22)).alloc (.cells #[.int .u64 n] 22)) 110 [.slice none 0 0]
    rw [World.size_alloc, World.size_alloc, ← hN] at this
    exact this.alloc _
  have hC : Win ((((w.alloc (.cells #[.int .u64 e] 22)).alloc (.cells #[.int .u64 n] 22)).alloc (.cells #[.slice none 0 0] 110)).alloc (.cells #[.int .u8 81, .int .u8 74, .int .u8 1] 5 (3, 4))) (some ⟨w.heap.size + 1 + 1 + 1, 0, none⟩) 3 3 (([81, 74, 1] : List UInt8).map byt) := by
    have := win_const (((w.alloc (.cells #[.int .u64 e] 22)).alloc (.cells #[.int .u64 n] 22)).alloc (.cells #[.slice none 0 0] 110)) 5 [.int .u8 81, .int .u8 74, .int .u8 1] (by unfold maxLen; simp)
    rw [World.size_alloc, World.size_alloc, World.size_alloc] at this
    exact this
  have f0 : Fr No w ((((w.alloc (.cells #[.int .u64 e] 22)).alloc (.cells #[.int .u64 n] 22)).alloc (.cells #[.slice none 0 0] 110)).alloc (.cells #[.int .u8 81, .int .u8 74, .int .u8 1] 5 (3, 4))) := ((((Fr.refl No w).alloc _).alloc _).alloc _).alloc _
  have hz0 : N ≤ ((((w.alloc (.cells #[.int .u64 e] 22)).alloc (.cells #[.int .u64 n] 22)).alloc (.cells #[.slice none 0 0] 110)).alloc (.cells #[.int .u8 81, .int .u8 74, .int .u8 1] 5 (3, 4))).heap.size := by simp; omega
  generalize (((w.alloc (.cells #[.int .u64 e] 22)).alloc (.cells #[.int .u64 n] 22)).alloc (.cells #[.slice none 0 0] 110)).alloc (.cells #[.int .u8 81, .int .u8 74, .int .u8 1] 5 (3, 4)) = w0 at *
  obtain ⟨be, hbe⟩ : ∃ be, be = w.heap.size := ⟨_, rfl⟩
  obtain ⟨bn, hbn⟩ : ∃ bn, bn = w.heap.size + 1 := ⟨_, rfl⟩
  rw [← hN]
  rw [← hN] at hC
  rw [← hbn, ← hbe]
  rw [← hbe] at kE
  rw [← hbn] at kM
  have leN : be < N := by omega
  have lnN : bn < N := by omega
  have HN := Lib.hid hN
  have HBE := Lib.hid hbe
  clear hN kc hbe hbn
  refine (wrawN N N _ [] [81, 74, 1] _ 3 3 (by simp) _ hz0 hW0 hC).mono ?_
  rintro o w1 ⟨v1, rfl, h1, g1⟩
  have k1 := kE.from g1 leN
  have l1 := kM.from g1 lnN
  have z1 : N ≤ w1.heap.size := Nat.le_trans hz0 g1.size
  clear hW0 hC kE kM
  go_wp2_with fail
  refine (wnumN N N v1 _ 1 m (by omega) (by omega) (by simp) _ z1 h1).mono ?_
  rintro o w2 ⟨v2, rfl, h2, g2⟩
  have k2 := k1.from g2 leN
  have l2 := l1.from g2 lnN
  have z2 : N ≤ w2.heap.size := Nat.le_trans z1 g2.size
  clear h1 k1 l1
  go_wp2_with fail
  refine (marks_any N be bn e n he hn leN lnN v2 _ (by simp [num_len]) _ z2 h2 (k2.cell (j := 0) rfl) (l2.cell (j := 0) rfl)).mono ?_
  rintro o w3 ⟨v3, rfl, h3, g3⟩
  have k3 := k2.from g3 leN
  have l3 := l2.from g3 lnN
  have z3 : N ≤ w3.heap.size := Nat.le_trans z2 g3.size
  have h03 : From N w0 w3 := (g1.t g2).t g3
  clear h2 k2 l2
  go_wp2_with fail
  refine (wrawN N N v3 _ p a m c (by simp [num_len]; omega) _ z3 h3 (HWP.out.old ((show From N w w0 from f0.no_any).t h03) (fun k hk => by have := HBE.out; omega))).mono ?_
  rintro o w4 ⟨v4, rfl, h4, g4⟩
  have k4 := k3.from g4 leN
  have l4 := l3.from g4 lnN
  have z4 : N ≤ w4.heap.size := Nat.le_trans z3 g4.size
  clear h3 k3 l3
  obtain ⟨q, hq⟩ : ∃ q, q = 20 + m := ⟨_, rfl⟩
  obtain ⟨z, hz⟩ : ∃ z, z = 88 - m := ⟨_, rfl⟩
  have hqz : IntKind.i64.wrap (108 - (q : Int)) = (z : Int) := by rw [IntKind.wrap_i64]; omega
  have HQ := Lib.hid hq
  have HZ := Lib.hid hz
  clear hq hz
  go_wp2_with fail
  refine (wlenN N N v4 _ q (by have := HM.out; have := HQ.out; simp [num_len]; omega) _ h4).mono ?_
  rintro o w5 ⟨rfl, rfl⟩
  have hmk : ∀ u : World, (Instr.makeSlice 26 (.int .i64 z) (.int .i64 z)).run Try.prog u = .ok (.slice (some ⟨u.heap.size, 0, none⟩) z z) (u.alloc (.cells ((List.replicate z (0 : UInt8)).map byt).toArray 5)) := Try.makeB z (by have := HZ.out; omega)
  obtain ⟨zz, hzz⟩ : ∃ zz : Array Value, zz = ((List.replicate z (0 : UInt8)).map byt).toArray := ⟨_, rfl⟩
  rw [← hzz] at hmk
  have HZZ := Lib.hid hzz
  clear hzz
  go_wp2_with fail
  have f4 : Fr No w4 (w4.alloc (.cells zz 5)) := (Fr.refl No w4).alloc _
  have hZ : Win (w4.alloc (.cells zz 5)) (some ⟨w4.heap.size, 0, none⟩) z z ((List.replicate z (0 : UInt8)).map byt) := by
    rw [HZZ.out]
    exact Win.of_own' (Own.of_blk (sp := []) (by rw [List.append_nil]; exact Blk.new w4 _ _) (by simp) (by simp) (Nat.le_refl _) (by have := HZ.out; unfold maxLen; omega))
  have z4' : N ≤ (w4.alloc (.cells zz 5)).heap.size := Nat.le_trans z4 f4.size
  have h4' := h4.no f4
  have hl4 : (([] : List UInt8) ++ [81, 74, 1] ++ num 1 m ++ (num 8 e ++ num 8 n) ++ p).length + z ≤ 1000000 := by have := HM.out; have := HZ.out; simp [num_len]; omega
  refine (wrawN N N v4 _ (List.replicate z 0) _ z z hl4 _ z4' h4' hZ).mono ?_
  rintro o w5 ⟨v5, rfl, h5, g5⟩
  have k5 := (k4.fr f4 (No.no _)).from g5 leN
  have l5 := (l4.fr f4 (No.no _)).from g5 lnN
  have z5 : N ≤ w5.heap.size := Nat.le_trans z4' g5.size
  have hfr5 : From N w0 w5 := ((h03.t g4).t (f4.no_any)).t g5
  have hfront : [] ++ [81, 74, 1] ++ num 1 m ++ (num 8 e ++ num 8 n) ++ p ++ List.replicate z 0 = recFront e n p := by rw [HZ.out, HM.out]; rfl
  rw [hfront] at h5
  clear h4 h4' hZ hmk k4 l4 g1 g2 g3 g4 g5 h03 hl4 hfront hqz
  obtain ⟨fr, hfrd⟩ : ∃ fr, fr = recFront e n p := ⟨_, rfl⟩
  have hfl : fr.length = 108 := by rw [hfrd]; exact recFront_len e n p (by rw [← HM.out]; exact hp)
  rw [← hfrd] at h5
  have HFR := Lib.hid hfrd
  clear hfrd
  go_wp2_with fail
  refine (wbytesN N N v5 fr 108 hfl (by decide) _ h5 (by decide)).mono ?_
  rintro o w6 ⟨ga, ca, rfl, o6, p6, g6⟩
  go_wp2_with fail
  refine (crcOf_any _ 108 ca fr _ (Win.of_own' o6) (by decide)).mono ?_
  rintro o w7 ⟨rfl, g7⟩
  have h7 := (h5.no g6).no g7
  have z7 : N ≤ w7.heap.size := Nat.le_trans z5 (Nat.le_trans g6.size g7.size)
  have k7 := (k5.fr g6 (No.no _)).fr g7 (No.no _)
  have l7 := (l5.fr g6 (No.no _)).fr g7 (No.no _)
  have hcw : IntKind.u64.wrap ((sumOf fr : Nat) : Int) = ((sumOf fr : Nat) : Int) := wrap_u64 _ (Nat.lt_trans (sumOf_lt fr) (by decide))
  clear h5 o6 k5 l5
  go_wp2_with fail
  refine (wnumN N N v5 fr 4 (sumOf fr) (by omega) (sumOf_lt fr) (by omega) _ z7 h7).mono ?_
  rintro o w8 ⟨v8, rfl, h8, g8⟩
  have k8 := k7.from g8 leN
  have l8 := l7.from g8 lnN
  have z8 : N ≤ w8.heap.size := Nat.le_trans z7 g8.size
  clear h7 hcw
  go_wp2_with fail
  refine (marks_any N be bn e n he hn leN lnN v8 _ (by simp [num_len, hfl]) _ z8 h8 (k8.cell (j := 0) rfl) (l8.cell (j := 0) rfl)).mono ?_
  rintro o w9 ⟨v9, rfl, h9, g9⟩
  clear h8
  go_wp2_with fail
  refine (wbytesN N N v9 _ 128 (by simp [num_len, hfl]) (by decide) _ h9 (by decide)).mono ?_
  rintro o w10 ⟨gb, cb, rfl, o10, p10, g10⟩
  go_wp2
  go_ret2
  have hall : From N w0 w10 := (((hfr5.t (g6.thn g7).no_any).t g8).t g9).t g10.no_any
  refine ⟨gb, cb, rfl, ?_, ?_, f0.trans hall (fun k hk => .inr (by have := HN.out; omega))⟩
  · rw [HFR.out] at o10
    exact o10
  · have := f0.size
    have := hall.size
    have := g9.size
    have := hfr5.size
    have := g6.size
    have := g7.size
    have := g8.size
    omega
end Go.Proofs.Ytnkjhicokcmmpaa

/-
  A root's sector: what the program's Encode comes to.
-/
namespace Go.Proofs.Ytnkjhicokcmmpaa
open Go.RowKit Go.Shelf

/-- A root. -/
structure RootD where
  n : Nat
  len : Int
  sum : Nat
structure RootD.Fits (r : RootD) : Prop where
  n : r.n < 2 ^ 64
  sum : r.sum < 2 ^ 32
def RootD.cells (r : RootD) : List Value := [.int .u64 r.n, .int .i64 r.len, .int .u32 r.sum]
/-- May it be? -/
def RootD.ok (r : RootD) : Bool := !(r.n == 0) && !(decide (r.len < 0)) && !(decide (3072 < r.len))
/-- What is ahead of the sum. -/
def rootFront (r : RootD) : List UInt8 := [81, 82, 1, 0] ++ num 8 r.n ++ num 4 r.len.toNat ++ num 4 r.sum ++ List.replicate 96 0
def rootBytes (r : RootD) : List UInt8 := rootFront r ++ num 4 (sumOf (rootFront r)) ++ num 8 r.n
theorem rootFront_len (r : RootD) : (rootFront r).length = 116 := by simp [rootFront, num_len]
theorem rootBytes_len (r : RootD) : (rootBytes r).length = 128 := by simp [rootBytes, rootFront_len, num_len]

set_option maxRecDepth 100000 in
set_option maxHeartbeats 1000000 in
theorem encode_ok (r : RootD) (hf : r.Fits) (hr : r.ok = true) (w : World) :
    Calls Try.prog 18 #[.agg r.cells.toArray] w fun e w' => ∃ g c, e = .returned (.tuple #[.slice (some ⟨g, 0, none⟩) 128 c, .int .i64 0]) ∧ Own w' 5 1 (.slice (some ⟨g, 0, none⟩) 128 c) 128 ((rootBytes r).map byt) ∧ w.heap.size ≤ g ∧ Fr No w w' := by
  obtain ⟨n, len, sum⟩ := r
  simp only [RootD.ok, Bool.and_eq_true, Bool.not_eq_true', beq_eq_false_iff_ne, decide_eq_false_iff_not] at hr
  obtain ⟨⟨hr1, hr2⟩, hr3⟩ := hr
  obtain ⟨L, rfl⟩ : ∃ L : Nat, len = (L : Int) := ⟨len.toNat, by omega⟩
  have hL : L ≤ 3072 := by omega
  have hn0 : ((n : Int) == 0) = false := by simp; omega
  have hLw : IntKind.u64.wrap (L : Int) = (L : Int) := wrap_u64 L (by omega)
  have hsw : IntKind.u64.wrap (sum : Int) = (sum : Int) := wrap_u64 sum (Nat.lt_of_lt_of_le hf.sum (by decide))
  have kc := fun (w : World) (C : Array Value) (n c g : Nat) (hg : g = w.heap.size) => Joins.run_convert_bytes_const_at (P := Try.prog) w 26 5 C n c g hg Try.underlying26 Try.underlying5
  have hd1 : decide ((L : Int) < 0) = false := by simp
  have hd2 : decide (3072 < (L : Int)) = false := by simp; omega
  have HF := Lib.hid hf
  clear hf hr1 hr2 hr3
  show Calls _ _ #[.agg #[.int .u64 n, .int .i64 (L : Int), .int .u32 sum]] _ _
  go_enter Try.func18, Try.ntmps18
  go_wp2_with fail
  obtain ⟨N, hN⟩ : ∃ N, N = w.heap.size + 1 := ⟨_, rfl⟩
  have kR : Blk (((w.alloc (.cells #[.int .u64 n, .int .i64 L, .int .u32 sum] 25)).alloc (.cells #[.slice none 0 0] 110)).alloc (.cells #[.int .u8 81, .int .u8 82, .int .u8 1, .int .u8 0] 5 (4, 5))) w.heap.size 25 [.int .u64 n, .int .i64 L, .int .u32 sum] := ((Blk.new w _ _).alloc _).alloc _
  have hW0 : WIn N (((w.alloc (.cells #[.int .u64 n, .int .i64 L, .int .u32 sum] 25)).alloc (.cells #[.slice none 0 0] 110)).alloc (.cells #[.int .u8 81, .int .u8 82, .int .u8 1, .int .u8 0] 5 (4, 5))) N (.slice none 0 0) [] := by
    refine ⟨⟨?_, World.ownsRow_nil _ _ _ _⟩, Nat.le_refl _, fun k hk => by simp [Value.ownBlock] at hk⟩
    have := Blk.new (w.alloc (.cells #[.int .u64 n, .int .i64 L, .int .u32 sum] 25)) 110 [.slice none 0 0]
    rw [World.size_alloc, ← hN] at this
    exact this.alloc _
  have hC : Win (((w.alloc (.cells #[.int .u64 n, .int .i64 L, .int .u32 sum] 25)).alloc (.cells #[.slice none 0 0] 110)).alloc (.cells #[.int .u8 81, .int .u8 82, .int .u8 1, .int .u8 0] 5 (4, 5))) (some ⟨w.heap.size + 1 + 1, 0, none⟩) 4 4 (([81, 82, 1, 0] : List UInt8).map byt) := by
    have := win_const ((w.alloc (.cells #[.int .u64 n, .int .i64 L, .int .u32 sum] 25)).alloc (.cells #[.slice none 0 0] 110)) 5 [.int .u8 81, .int .u8 82, .int .u8 1, .int .u8 0] (by unfold maxLen; simp)
    rw [World.size_alloc, World.size_alloc] at this
    exact this
  have f0 : Fr No w (((w.alloc (.cells #[.int .u64 n, .int .i64 L, .int .u32 sum] 25)).alloc (.cells #[.slice none 0 0] 110)).alloc (.cells #[.int .u8 81, .int .u8 82, .int .u8 1, .int .u8 0] 5 (4, 5))) := (((Fr.refl No w).alloc _).alloc _).alloc _
  have hz0 : N ≤ (((w.alloc (.cells #[.int .u64 n, .int .i64 L, .int .u32 sum] 25)).alloc (.cells #[.slice none 0 0] 110)).alloc (.cells #[.int .u8 81, .int .u8 82, .int .u8 1, .int .u8 0] 5 (4, 5))).heap.size := by simp; omega
  generalize ((w.alloc (.cells #[.int .u64 n, .int .i64 L, .int .u32 sum] 25)).alloc (.cells #[.slice none 0 0] 110)).alloc (.cells #[.int .u8 81, .int .u8 82, .int .u8 1, .int .u8 0] 5 (4, 5)) = w0 at *
  have hbN : w.heap.size < N := by omega
  rw [← hN]
  rw [← hN] at hC
  have HN := Lib.hid hN
  clear hN kc
  refine (wrawN N N _ [] [81, 82, 1, 0] _ 4 4 (by simp) _ hz0 hW0 hC).mono ?_
  rintro e w1 ⟨v1, rfl, h1, g1⟩
  have k1 := kR.from g1 hbN
  have z1 : N ≤ w1.heap.size := Nat.le_trans hz0 g1.size
  have c1 := k1.cell (j := 0) rfl
  clear hW0 hC
  go_wp2_with fail
  refine (wnumN N N v1 _ 8 n (by omega) HF.out.n (by simp) _ z1 h1).mono ?_
  rintro e w2 ⟨v2, rfl, h2, g2⟩
  have k2 := k1.from g2 hbN
  have z2 : N ≤ w2.heap.size := Nat.le_trans z1 g2.size
  have c2 := k2.cell (j := 1) rfl
  clear c1 h1
  go_wp2_with fail
  refine (wnumN N N v2 _ 4 L (by omega) (by omega) (by simp [num_len]) _ z2 h2).mono ?_
  rintro e w3 ⟨v3, rfl, h3, g3⟩
  have k3 := k2.from g3 hbN
  have z3 : N ≤ w3.heap.size := Nat.le_trans z2 g3.size
  have c3 := k3.cell (j := 2) rfl
  clear c2 h2
  go_wp2_with fail
  refine (wnumN N N v3 _ 4 sum (by omega) HF.out.sum (by simp [num_len]) _ z3 h3).mono ?_
  rintro e w4 ⟨v4, rfl, h4, g4⟩
  have k4 := k3.from g4 hbN
  have z4 : N ≤ w4.heap.size := Nat.le_trans z3 g4.size
  clear c3 h3
  go_wp2_with fail
  refine (wlenN N N v4 _ 20 (by simp [num_len]) _ h4).mono ?_
  rintro e w5 ⟨rfl, rfl⟩
  have hmk : ∀ u : World, (Instr.makeSlice 26 (.int .i64 96) (.int .i64 96)).run Try.prog u = .ok (.slice (some ⟨u.heap.size, 0, none⟩) 96 96) (u.alloc (.cells ((List.replicate 96 (0 : UInt8)).map byt).toArray 5)) := Try.makeB 96 (by decide)
  obtain ⟨zz, hzz⟩ : ∃ zz : Array Value, zz = ((List.replicate 96 (0 : UInt8)).map byt).toArray := ⟨_, rfl⟩
  rw [← hzz] at hmk
  have HZZ := Lib.hid hzz
  clear hzz
  go_wp2_with fail
  have f4 : Fr No w4 (w4.alloc (.cells zz 5)) := (Fr.refl No w4).alloc _
  have hZ : Win (w4.alloc (.cells zz 5)) (some ⟨w4.heap.size, 0, none⟩) 96 96 ((List.replicate 96 (0 : UInt8)).map byt) := by
    rw [HZZ.out]
    exact Win.of_own' (Own.of_blk (sp := []) (by rw [List.append_nil]; exact Blk.new w4 _ _) (by simp) (by simp) (Nat.le_refl _) (by unfold maxLen; simp))
  have z4' : N ≤ (w4.alloc (.cells zz 5)).heap.size := Nat.le_trans z4 f4.size
  have h4' := h4.no f4
  refine (wrawN N N v4 _ (List.replicate 96 0) _ 96 96 (by simp [num_len]) _ z4' h4' hZ).mono ?_
  rintro e w5 ⟨v5, rfl, h5, g5⟩
  have k5 := (k4.fr f4 (No.no _)).from g5 hbN
  have z5 : N ≤ w5.heap.size := Nat.le_trans z4' g5.size
  have hfr5 : From N w0 w5 := ((((g1.t g2).t g3).t g4).t (f4.no_any)).t g5
  clear h4 h4' hZ hmk k4 k3 k2 k1 kR g1 g2 g3 g4 g5
  have hfront : [81, 82, 1, 0] ++ num 8 n ++ num 4 L ++ num 4 sum ++ List.replicate 96 0 = rootFront ⟨n, L, sum⟩ := rfl
  rw [List.nil_append, hfront] at h5
  clear hfront
  obtain ⟨fr, hfrd⟩ : ∃ fr, fr = rootFront ⟨n, (L : Int), sum⟩ := ⟨_, rfl⟩
  have hfl : fr.length = 116 := by rw [hfrd]; exact rootFront_len _
  rw [← hfrd] at h5
  have HFR := Lib.hid hfrd
  clear hfrd
  go_wp2_with fail
  refine (wbytesN N N v5 fr 116 hfl (by decide) _ h5 (by decide)).mono ?_
  rintro e w6 ⟨ga, ca, rfl, o6, p6, g6⟩
  go_wp2_with fail
  refine (crcOf_any _ 116 ca fr _ (Win.of_own' o6) (by decide)).mono ?_
  rintro e w7 ⟨rfl, g7⟩
  have h7 := (h5.no g6).no g7
  have z7 : N ≤ w7.heap.size := Nat.le_trans z5 (Nat.le_trans g6.size g7.size)
  have k7 := (k5.fr g6 (No.no _)).fr g7 (No.no _)
  have hcw : IntKind.u64.wrap ((sumOf fr : Nat) : Int) = ((sumOf fr : Nat) : Int) := wrap_u64 _ (Nat.lt_trans (sumOf_lt fr) (by decide))
  clear h5 o6 k5
  go_wp2_with fail
  refine (wnumN N N v5 fr 4 (sumOf fr) (by omega) (sumOf_lt fr) (by omega) _ z7 h7).mono ?_
  rintro e w8 ⟨v8, rfl, h8, g8⟩
  have k8 := k7.from g8 hbN
  have z8 : N ≤ w8.heap.size := Nat.le_trans z7 g8.size
  have c8 := k8.cell (j := 0) rfl
  clear h7 hcw
  go_wp2_with fail
  refine (wnumN N N v8 _ 8 n (by omega) HF.out.n (by simp [num_len, hfl]) _ z8 h8).mono ?_
  rintro e w9 ⟨v9, rfl, h9, g9⟩
  clear c8 h8
  go_wp2_with fail
  refine (wbytesN N N v9 _ 128 (by simp [num_len, hfl]) (by decide) _ h9 (by decide)).mono ?_
  rintro e w10 ⟨gb, cb, rfl, o10, p10, g10⟩
  go_wp2
  go_ret2
  have hall : From N w0 w10 := (((hfr5.t (g6.thn g7).no_any).t g8).t g9).t g10.no_any
  refine ⟨gb, cb, rfl, ?_, ?_, f0.trans hall (fun k hk => .inr (by omega))⟩
  · rw [HFR.out] at o10
    exact o10
  · have := f0.size
    have := hall.size
    have := g9.size
    have := hfr5.size
    have := g6.size
    have := g7.size
    have := g8.size
    omega

end Go.Proofs.Ytnkjhicokcmmpaa

/-
  A root's sector: what the document's Encode comes to; refusals; areas.
-/
namespace Go.Proofs.Ytnkjhicokcmmpaa
open Go.RowKit Go.Shelf

set_option maxRecDepth 100000 in
set_option maxHeartbeats 1000000 in
theorem encode_bad (r : RootD) (hr : r.ok = false) (w : World) :
    Calls Try.prog 18 #[.agg r.cells.toArray] w fun e w' => e = .returned (.tuple #[.slice none 0 0, .int .i64 60]) ∧ Fr No w w' := by
  obtain ⟨n, L, sum⟩ := r
  have h3 : n = 0 ∨ (n ≠ 0 ∧ L < 0) ∨ (n ≠ 0 ∧ ¬ L < 0 ∧ 3072 < L) := by
    by_cases h0 : n = 0
    · exact .inl h0
    · by_cases h1 : L < 0
      · exact .inr (.inl ⟨h0, h1⟩)
      · refine .inr (.inr ⟨h0, h1, ?_⟩)
        simp [RootD.ok, h0, h1] at hr
        omega
  clear hr
  show Calls _ _ #[.agg #[.int .u64 n, .int .i64 L, .int .u32 sum]] _ _
  rcases h3 with rfl | ⟨h0, h1⟩ | ⟨h0, h1, h2⟩
  · go_enter Try.func18, Try.ntmps18
    go_wp2
    go_ret2
    exact ⟨rfl, (Fr.refl No w).alloc _⟩
  · have hn0 : ((n : Int) == 0) = false := by simp; omega
    have hd1 : decide (L < 0) = true := by simp; omega
    go_enter Try.func18, Try.ntmps18
    go_wp2
    go_ret2
    exact ⟨rfl, (Fr.refl No w).alloc _⟩
  · have hn0 : ((n : Int) == 0) = false := by simp; omega
    have hd1 : decide (L < 0) = false := by simp; omega
    have hd2 : decide (3072 < L) = true := by simp; omega
    go_enter Try.func18, Try.ntmps18
    go_wp2
    go_ret2
    exact ⟨rfl, (Fr.refl No w).alloc _⟩

set_option maxRecDepth 100000 in
set_option maxHeartbeats 1000000 in
theorem refEncode_bad (r : RootD) (hr : r.ok = false) (w : World) :
    Calls Try.prog 19 #[.agg r.cells.toArray] w fun e w' => e = .returned (.tuple #[.slice none 0 0, .int .i64 60]) ∧ Fr No w w' := by
  obtain ⟨n, L, sum⟩ := r
  have h3 : n = 0 ∨ (n ≠ 0 ∧ L < 0) ∨ (n ≠ 0 ∧ ¬ L < 0 ∧ 3072 < L) := by
    by_cases h0 : n = 0
    · exact .inl h0
    · by_cases h1 : L < 0
      · exact .inr (.inl ⟨h0, h1⟩)
      · refine .inr (.inr ⟨h0, h1, ?_⟩)
        simp [RootD.ok, h0, h1] at hr
        omega
  clear hr
  show Calls _ _ #[.agg #[.int .u64 n, .int .i64 L, .int .u32 sum]] _ _
  rcases h3 with rfl | ⟨h0, h1⟩ | ⟨h0, h1, h2⟩
  · go_enter Try.func19, Try.ntmps19
    go_wp2
    go_ret2
    exact ⟨rfl, (Fr.refl No w).alloc _⟩
  · have hn0 : ((n : Int) == 0) = false := by simp; omega
    have hd1 : decide (L < 0) = true := by simp; omega
    go_enter Try.func19, Try.ntmps19
    go_wp2
    go_ret2
    exact ⟨rfl, (Fr.refl No w).alloc _⟩
  · have hn0 : ((n : Int) == 0) = false := by simp; omega
    have hd1 : decide (L < 0) = false := by simp; omega
    have hd2 : decide (3072 < L) = true := by simp; omega
    go_enter Try.func19, Try.ntmps19
    go_wp2
    go_ret2
    exact ⟨rfl, (Fr.refl No w).alloc _⟩

/-- The area of a number. -/
def areaOf (n : Nat) : Nat := if n % 2 = 0 then 2 else 26
theorem place_any (n : Nat) (hn : n < 2 ^ 64) (w : World) (v1 v2 : Value) :
    Calls Try.prog 76 #[.agg #[.int .u64 n, v1, v2]] w fun e w' => e = .returned (.int .i64 (n % 2 : Nat)) ∧ Fr No w w' := by
  clear hn
  have hw : wrap64 ((n : Int) % 2) = (n : Int) % 2 := Go.IntWalk.wrap64_in _ (by omega)
  go_enter Try.func76, Try.ntmps76
  go_wp2
  go_ret
  exact ⟨by simp, (Fr.refl No w).alloc _⟩

theorem area_any (n : Nat) (hn : n < 2 ^ 64) (w : World) : Calls Try.prog 22 #[.int .u64 n] w fun e w' => e = .returned (.int .i64 (areaOf n : Nat)) ∧ Fr No w w' := by
  have h2 : n % 2 = 0 ∨ n % 2 = 1 := by omega
  have HN := Lib.hid hn
  clear hn
  rcases h2 with h2 | h2
  all_goals
    have HH := Lib.hid h2
    clear h2
    go_enter Try.func22, Try.ntmps22
    go_wp2_with (go_at_call 76; refine (place_any n HN.out _ _ _).mono ?_; rintro e w1 ⟨rfl, hf1⟩; rw [HH.out])
    go_ret
    exact ⟨by unfold areaOf; rw [HH.out]; rfl, hf1⟩

theorem refArea_any (n : Nat) (w : World) : Calls Try.prog 23 #[.int .u64 n] w fun e w' => e = .returned (.int .i64 (areaOf n : Nat)) ∧ w = w' := by
  unfold areaOf
  by_cases h2 : n % 2 = 0
  · have ht : ((n : Int) % 2 == 0) = true := by simp; omega
    rw [if_pos h2]
    go_enter Try.func23, Try.ntmps23
    go_wp2
    go_ret
    exact ⟨rfl, rfl⟩
  · have ht : ((n : Int) % 2 == 0) = false := by simp; omega
    rw [if_neg h2]
    go_enter Try.func23, Try.ntmps23
    go_wp2
    go_ret
    exact ⟨rfl, rfl⟩

/-- Bytes that are owned, in blocks from N on. -/
structure OIn (N : Nat) (w : World) (v : Value) (bs : List UInt8) : Prop where
  own : Own w 5 1 v bs.length (bs.map byt)
  new : ∀ k, v.ownBlock = some k → N ≤ k
theorem OIn.no {N : Nat} {w w' : World} {v : Value} {bs : List UInt8} (h : OIn N w v bs) (hf : Fr No w w') : OIn N w' v bs := ⟨h.own.fr hf (fun _ _ => No.no _), h.new⟩
theorem OIn.app {N : Nat} {w0 w w' : World} {m : Nat} {v v' : Value} {bs cs : List UInt8} (h : OIn N w0 v bs) (hz : N ≤ w0.heap.size) (h0 : Fr No w0 w) (hap : Appended w 5 1 v bs.length m (bs.map byt ++ cs.map byt) v' w') (hm : cs.length = m) : OIn N w' v' (bs ++ cs) ∧ From N w0 w' := by
  subst hm
  have ho := hap.own
  rw [← List.map_append, ← List.length_append] at ho
  refine ⟨⟨ho, fun k hk => ?_⟩, h0.no_any.trans hap.fr (fun k hk => .inl (h.new k hk))⟩
  rcases hap.atOr (Nat.le_refl _) k hk with e | e
  · exact h.new k e
  · exact Nat.le_trans hz (Nat.le_trans h0.size e)

theorem OIn.step {N : Nat} {w0 w w' : World} {m : Nat} {v v' : Value} {bs : List UInt8} (cs : List UInt8) (h : OIn N w0 v bs) (hz : N ≤ w0.heap.size) (h0 : Fr No w0 w) (hap : Appended w 5 1 v bs.length m (bs.map byt ++ cs.map byt) v' w') (hm : cs.length = m) :
    ∃ b1, Hid (b1 = bs ++ cs) ∧ Hid (b1.length = bs.length + m) ∧ OIn N w' v' b1 ∧ From N w0 w' := by
  obtain ⟨h1, h2⟩ := h.app hz h0 hap hm
  exact ⟨bs ++ cs, rfl, by show (bs ++ cs).length = bs.length + m; rw [List.length_append, hm], h1, h2⟩

end Go.Proofs.Ytnkjhicokcmmpaa

/-
  A root's sector: what the document's Encode comes to, where a root may be.
-/
namespace Go.Proofs.Ytnkjhicokcmmpaa
open Go.RowKit Go.Shelf

/-- New bytes, in blocks from where the heap ended. -/
theorem OIn.of {w w' : World} {v : Value} {n : Nat} {bs : List UInt8} (h : Own w' 5 1 v n (bs.map byt)) (hn : bs.length = n) (h2 : ∀ k, v.ownBlock = some k → w.heap.size ≤ k) : OIn w.heap.size w' v bs := ⟨by rw [hn]; exact h, h2⟩

set_option maxRecDepth 100000 in
set_option maxHeartbeats 1000000 in
theorem refEncode_ok (r : RootD) (hf : r.Fits) (hr : r.ok = true) (w : World) :
    Calls Try.prog 19 #[.agg r.cells.toArray] w fun e w' => ∃ v, e = .returned (.tuple #[v, .int .i64 0]) ∧ OIn w.heap.size w' v (rootBytes r) ∧ Fr No w w' := by
  obtain ⟨i0, hi0, hz0, hz1, hz2⟩ := info_parts Try.infoU8
  obtain ⟨n, len, sum⟩ := r
  simp only [RootD.ok, Bool.and_eq_true, Bool.not_eq_true', beq_eq_false_iff_ne, decide_eq_false_iff_not] at hr
  obtain ⟨⟨hr1, hr2⟩, hr3⟩ := hr
  obtain ⟨L, rfl⟩ : ∃ L : Nat, len = (L : Int) := ⟨len.toNat, by omega⟩
  have hL : L ≤ 3072 := by omega
  have hn0 : ((n : Int) == 0) = false := by simp; omega
  have hLw : IntKind.u64.wrap (L : Int) = (L : Int) := wrap_u64 L (by omega)
  have hsw : IntKind.u64.wrap (sum : Int) = (sum : Int) := wrap_u64 sum (Nat.lt_of_lt_of_le hf.sum (by decide))
  have hd1 : decide ((L : Int) < 0) = false := by simp
  have hd2 : decide (3072 < (L : Int)) = false := by simp; omega
  have HF := Lib.hid hf
  clear hf hr1 hr2 hr3
  show Calls _ _ #[.agg #[.int .u64 n, .int .i64 (L : Int), .int .u32 sum]] _ _
  have kR : Blk (w.alloc (.cells #[.int .u64 n, .int .i64 L, .int .u32 sum] 25)) w.heap.size 25 [.int .u64 n, .int .i64 L, .int .u32 sum] := Blk.new w _ _
  have f0 : Fr No w (w.alloc (.cells #[.int .u64 n, .int .i64 L, .int .u32 sum] 25)) := (Fr.refl No w).alloc _
  have hz0' : w.heap.size < (w.alloc (.cells #[.int .u64 n, .int .i64 L, .int .u32 sum] 25)).heap.size := by simp
  go_enter Try.func19, Try.ntmps19
  go_wp2_with fail
  generalize w.alloc (.cells #[.int .u64 n, .int .i64 L, .int .u32 sum] 25) = w0 at *
  refine (refNum_any 8 n (by omega) HF.out.n _).mono ?_
  rintro e w1 ⟨vn, rfl, on, nn, g1⟩
  have k1 := kR.fr g1 (No.no _)
  have c1 := k1.cell (j := 1) rfl
  obtain ⟨an, cn, rfl, wn⟩ := Win.of_own on
  go_wp2_with fail
  refine (refNum_any 4 L (by omega) (by omega) _).mono ?_
  rintro e w2 ⟨vl, rfl, ol, nl, g2⟩
  obtain ⟨al, cl, rfl, wl⟩ := Win.of_own ol
  have k2 := k1.fr g2 (No.no _)
  have c2 := k2.cell (j := 2) rfl
  have hz2' : w.heap.size < w2.heap.size := Nat.lt_of_lt_of_le hz0' (Nat.le_trans g1.size g2.size)
  have fz : Fr No w2 (w2.alloc (.cells #[.int .u8 81, .int .u8 82, .int .u8 1, .int .u8 0] 5)) := (Fr.refl No w2).alloc _
  have hB0 : OIn w2.heap.size (w2.alloc (.cells #[.int .u8 81, .int .u8 82, .int .u8 1, .int .u8 0] 5)) (.slice (some ⟨w2.heap.size, 0, none⟩) 4 4) [81, 82, 1, 0] :=
    ⟨Own.of_blk (n := 4) (cap := 4) (xs := ([81, 82, 1, 0] : List UInt8).map byt) (sp := []) (Blk.new w2 5 (([81, 82, 1, 0] : List UInt8).map byt)) rfl rfl (Nat.le_refl _) (by unfold maxLen; decide), fun k hk => by simp [Value.ownBlock] at hk; omega⟩
  have HB0 := Lib.hid hB0
  have WN := Lib.hid ((wn.no g2).no fz)
  have WL := Lib.hid wl
  have HK : Hid (∀ l : List UInt8, ∀ u ∈ l.map byt, u.oneCell' = true) := byt_one
  have hmx : ∀ a : Nat, a ≤ 1000 → a ≤ maxLen := fun a h => by unfold maxLen; omega
  have HMX := Lib.hid hmx
  have hlb : ∀ ad, al = some ad → ¬ w2.heap.size ≤ ad.block := fun ad hd => by have := ol.lt (k := ad.block) (by rw [hd]; rfl); omega
  have HLB := Lib.hid hlb
  have hnb : ∀ ad, an = some ad → ¬ w2.heap.size ≤ ad.block := fun ad hd => by have := on.lt (k := ad.block) (by rw [hd]; rfl); have := g2.size; omega
  have HNB := Lib.hid hnb
  clear on nn ol nl c1 hB0 wn wl hmx hlb hnb
  go_wp2_with (first
    | (at_builtin; refine wpList_appW _ rfl (.tmp 39) (.tmp 40) 26 rfl 5 i0 (.int .u8 0) 1 Try.underlying26 hi0 hz0 hz1 hz2 rfl (.slice (some ⟨w2.heap.size, 0, none⟩) 4 4) 4 (([81, 82, 1, 0] : List UInt8).map byt) rfl HB0.out.own an 8 cn ((num 8 n).map byt) rfl WN.out (HK.out _) (HMX.out _ (by omega)) (by omega) ?_; intro v3 w3 hap3; obtain ⟨b3, e3, l3, q3, r3⟩ := HB0.out.step (num 8 n) (by simp) (Fr.refl No _) hap3 (num_len _ _); have z3 := (fz.thn (Fr.refl No _)).size)
    | (at_builtin; refine wpList_appW _ rfl (.tmp 42) (.tmp 43) 26 rfl 5 i0 (.int .u8 0) 1 Try.underlying26 hi0 hz0 hz1 hz2 rfl v3 _ _ rfl q3.own al 4 cl ((num 4 L).map byt) rfl (WL.out.fr (S := fun k => w2.heap.size ≤ k) (fz.no_any.trans r3 (fun k h => .inl h)) (HLB.out)) (HK.out _) (HMX.out _ (by have := l3.out; simp at this; omega)) (by have := l3.out; simp at this; omega) ?_; intro v4 w4 hap4; obtain ⟨b4, e4, l4, q4, r4⟩ := q3.step (num 4 L) (Nat.le_trans z3 r3.size) (Fr.refl No _) hap4 (num_len _ _); have k4 := ((k2.fr fz (No.no _)).from r3 hz2').from r4 hz2'; have c4 := k4.cell (j := 2) rfl))
  have z4 : w2.heap.size ≤ w4.heap.size := Nat.le_trans (Nat.le_trans z3 r3.size) r4.size
  refine (refNum_any 4 sum (by omega) HF.out.sum _).mono ?_
  rintro e w5 ⟨vs, rfl, os, ns, g5⟩
  obtain ⟨as', cs, rfl, ws⟩ := Win.of_own os
  have WS := Lib.hid ws
  have q5 := q4.no g5
  have z5 : w2.heap.size ≤ w5.heap.size := Nat.le_trans z4 g5.size
  clear ws os ns c4 hap3 hap4
  go_wp2_with (at_builtin; refine wpList_appW _ rfl (.tmp 52) (.tmp 53) 26 rfl 5 i0 (.int .u8 0) 1 Try.underlying26 hi0 hz0 hz1 hz2 rfl v4 _ _ rfl q5.own as' 4 cs ((num 4 sum).map byt) rfl WS.out (HK.out _) (HMX.out _ (by have := l4.out; have := l3.out; simp at this; omega)) (by have := l4.out; have := l3.out; simp at this; omega) ?_; intro v6 w6 hap6; obtain ⟨b6, e6, l6, q6, r6⟩ := q5.step (num 4 sum) z5 (Fr.refl No _) hap6 (num_len _ _))
  have hl6 : b6.length = 20 := by have := l6.out; have := l4.out; have := l3.out; simp at this; omega
  have he6 : b6 = [81, 82, 1, 0] ++ num 8 n ++ num 4 L ++ num 4 sum := by rw [e6.out, e4.out, e3.out]
  have hr6 : From w2.heap.size w2 w6 := From.t (From.t (fz.no_any.trans r3 (fun k h => .inl h)) r4) (From.t g5.no_any r6)
  have HE6 := Lib.hid he6
  have hR : From w2.heap.size (w2.alloc (.cells #[.int .u8 81, .int .u8 82, .int .u8 1, .int .u8 0] 5)) w6 := From.t (From.t r3 r4) (From.t g5.no_any r6)
  have HR := Lib.hid hR
  clear hR
  have HL6 := Lib.hid hl6
  clear hap6 he6 hl6 r3 r4 r6 e3 e4 e6 l3 l4 l6
  obtain ⟨a6, c6, hv6⟩ := own_slice q6.own
  rw [HL6.out] at hv6
  subst hv6
  have z6 : w2.heap.size ≤ w6.heap.size := hr6.size
  have q6' : OIn w2.heap.size w6 (.slice a6 20 c6) (b6 ++ List.replicate 0 0) := by simpa using q6
  have Q6 := Lib.hid q6'
  clear q6 q6' q5 q4 q3
  go_loopw [8] (fun s wr => ∃ (k : Nat) (a : Option Addr) (c : Nat), k ≤ 96 ∧ s = .slice a (20 + k) c ∧ OIn w2.heap.size wr (.slice a (20 + k) c) (b6 ++ List.replicate k 0) ∧ From w2.heap.size w6 wr) (fun s _ => 116 - (match s with | .slice _ n _ => n | _ => 0))
  case atStart => exact ⟨0, a6, c6, Nat.zero_le _, rfl, Q6.out, Fr.refl _ _⟩
  case round =>
    obtain ⟨k, a, c, hk, rfl, hO, hfr⟩ := hrel
    have hbl : (b6 ++ List.replicate k 0).length = 20 + k := by rw [List.length_append, HL6.out, List.length_replicate]
    obtain ⟨bk, hbk⟩ : ∃ bk, bk = b6 ++ List.replicate k 0 := ⟨_, rfl⟩
    rw [← hbk] at hO hbl
    have HBK := Lib.hid hbk
    have HBL := Lib.hid hbl
    have zr : w2.heap.size ≤ wr.heap.size := Nat.le_trans z6 hfr.size
    have hown : Own wr 5 1 (.slice a (20 + k) c) (20 + k) (bk.map byt) := by have h := hO.own; rw [hbl] at h; exact h
    clear hbk hbl
    by_cases hlt : k < 96
    · have hn1 : Hid (Win (wr.alloc (.cells #[.int .u8 0] 5)) (some ⟨wr.heap.size, 0, none⟩) 1 1 (([0] : List UInt8).map byt)) :=
        Win.of_own' (T := 5) (Own.of_blk (n := 1) (cap := 1) (xs := ([0] : List UInt8).map byt) (sp := []) (Blk.new wr 5 (([0] : List UInt8).map byt)) rfl rfl (Nat.le_refl _) (by unfold maxLen; decide))
      have hownA : Hid (Own (wr.alloc (.cells #[.int .u8 0] 5)) 5 1 (.slice a (20 + k) c) (20 + k) (bk.map byt)) := hown.alloc _
      have hd : decide (20 + k < 116) = true := by simp; omega
      have fa : Fr No wr (wr.alloc (.cells #[.int .u8 0] 5)) := (Fr.refl No wr).alloc _
      clear hown
      go_wp2_with (at_builtin; refine wpList_appW _ rfl (.tmp 58) (.tmp 59) 26 rfl 5 i0 (.int .u8 0) 1 Try.underlying26 hi0 hz0 hz1 hz2 rfl (.slice a (20 + k) c) (20 + k) (bk.map byt) rfl hownA.out (some ⟨wr.heap.size, 0, none⟩) 1 1 (([0] : List UInt8).map byt) rfl hn1.out (HK.out _) (HMX.out _ (by omega)) (by omega) ?_; intro v7 w7 hap7; obtain ⟨a7, c7, rfl⟩ := app_slice hap7)
      go_roundw
      case rel =>
        have hap7' : Appended (wr.alloc (.cells #[.int .u8 0] 5)) 5 1 (.slice a (20 + k) c) bk.length 1 (bk.map byt ++ ([0] : List UInt8).map byt) (.slice a7 (20 + k + 1) c7) w7 := by rw [HBL.out]; exact hap7
        obtain ⟨q1, q2⟩ := hO.app zr fa hap7' rfl
        refine ⟨k + 1, a7, c7, by omega, rfl, ?_, hfr.t q2⟩
        rw [HBK.out, List.append_assoc] at q1
        rw [List.replicate_succ']
        exact q1
      case measure => (simp; omega)
    · obtain rfl : k = 96 := by omega
      have hbf : bk = rootFront ⟨n, (L : Int), sum⟩ := by rw [HBK.out, HE6.out]; rfl
      have HBF := Lib.hid hbf
      have hd : decide (20 + 96 < 116) = false := by decide
      have hcw : IntKind.u64.wrap ((sumOf bk : Nat) : Int) = ((sumOf bk : Nat) : Int) := wrap_u64 _ (Nat.lt_trans (sumOf_lt bk) (by decide))
      clear hbf hd
      have hown' : Own wr 5 1 (.slice a 116 c) 116 (bk.map byt) := hown
      have hO' : OIn w2.heap.size wr (.slice a 116 c) bk := hO
      obtain ⟨a', c', ev, hwin⟩ := Win.of_own hown'
      injection ev with ev1 ev2 ev3
      subst ev1
      subst ev3
      clear hown hO hown'
      go_wp2_with fail
      refine (refOf_any a 116 c bk _ hwin (by decide)).mono ?_
      rintro e w8 ⟨rfl, rfl⟩
      go_wp2_with fail
      refine (refNum_any 4 (sumOf bk) (by omega) (sumOf_lt bk) _).mono ?_
      rintro e w9 ⟨vo, rfl, oo, no, g9⟩
      obtain ⟨ao, co, rfl, wo⟩ := Win.of_own oo
      have WO := Lib.hid wo
      have q9 := hO'.no g9
      have z9 : w2.heap.size ≤ w9.heap.size := Nat.le_trans zr g9.size
      clear wo oo no hcw hwin
      go_wp2_with (first
        | (at_builtin; refine wpList_appW _ rfl (.tmp 68) (.tmp 69) 26 rfl 5 i0 (.int .u8 0) 1 Try.underlying26 hi0 hz0 hz1 hz2 rfl (.slice a 116 c) bk.length (bk.map byt) rfl q9.own ao 4 co ((num 4 (sumOf bk)).map byt) rfl WO.out (HK.out _) (HMX.out _ (by have := HBL.out; omega)) (by have := HBL.out; omega) ?_; intro v10 w10 hap10; obtain ⟨b10, e10, l10, q10, r10⟩ := q9.step (num 4 (sumOf bk)) z9 (Fr.refl No _) hap10 (num_len _ _); have z10 := Nat.le_trans z9 r10.size)
        | (at_builtin; refine wpList_appW _ rfl (.tmp 70) (.tmp 71) 26 rfl 5 i0 (.int .u8 0) 1 Try.underlying26 hi0 hz0 hz1 hz2 rfl v10 _ _ rfl q10.own an 8 cn ((num 8 n).map byt) rfl (WN.out.fr (S := fun k => w2.heap.size ≤ k) (HR.out.t (hfr.t (From.t g9.no_any r10))) HNB.out) (HK.out _) (HMX.out _ (by have := HBL.out; have := l10.out; omega)) (by have := HBL.out; have := l10.out; omega) ?_; intro v11 w11 hap11; obtain ⟨b11, e11, l11, q11, r11⟩ := q10.step (num 8 n) z10 (Fr.refl No _) hap11 (num_len _ _)))
      go_ret2
      have hall : From w2.heap.size w2 w11 := From.t (hr6.t hfr) (From.t (From.t g9.no_any r10) r11)
      have hlo : w.heap.size ≤ w2.heap.size := by omega
      refine ⟨v11, rfl, ⟨?_, fun k hk => Nat.le_trans hlo (q11.new k hk)⟩, (((f0.thn g1).thn g2).trans hall (fun k hk => .inr (Nat.le_trans hlo hk)))⟩
      have hfin : b11 = rootBytes ⟨n, (L : Int), sum⟩ := by rw [e11.out, e10.out, HBF.out]; rfl
      rw [← hfin]
      exact q11.own

end Go.Proofs.Ytnkjhicokcmmpaa

/-
  A record's sector: refusals; what the document's Encode comes to.
-/
namespace Go.Proofs.Ytnkjhicokcmmpaa
open Go.RowKit Go.Shelf

/-- May it be? -/
def recOk (n m : Nat) : Bool := !(n == 0) && decide (m ≤ 64)

set_option maxRecDepth 100000 in
set_option maxHeartbeats 1000000 in
theorem jencode_bad (e n : Nat) (a : Option Addr) (m c : Nat) (hr : recOk n m = false) (w : World) :
    Calls Try.prog 33 #[.int .u64 e, .int .u64 n, .slice a m c] w fun o w' => o = .returned (.tuple #[.slice none 0 0, .int .i64 80]) ∧ Fr No w w' := by
  have h3 : n = 0 ∨ (n ≠ 0 ∧ 64 < m) := by
    by_cases h0 : n = 0
    · exact .inl h0
    · refine .inr ⟨h0, ?_⟩
      simp [recOk, h0] at hr
      omega
  clear hr
  rcases h3 with rfl | ⟨h0, h1⟩
  · go_enter Try.func33, Try.ntmps33
    go_wp2
    go_ret2
    exact ⟨rfl, ((Fr.refl No w).alloc _).alloc _⟩
  · have hn0 : ((n : Int) == 0) = false := by simp; omega
    have hd1 : decide (64 < (m : Int)) = true := by simp; omega
    go_enter Try.func33, Try.ntmps33
    go_wp2
    go_ret2
    exact ⟨rfl, ((Fr.refl No w).alloc _).alloc _⟩

set_option maxRecDepth 100000 in
set_option maxHeartbeats 1000000 in
theorem jrefEncode_bad (e n : Nat) (a : Option Addr) (m c : Nat) (hr : recOk n m = false) (w : World) :
    Calls Try.prog 34 #[.int .u64 e, .int .u64 n, .slice a m c] w fun o w' => o = .returned (.tuple #[.slice none 0 0, .int .i64 80]) ∧ Fr No w w' := by
  have h3 : n = 0 ∨ (n ≠ 0 ∧ 64 < m) := by
    by_cases h0 : n = 0
    · exact .inl h0
    · refine .inr ⟨h0, ?_⟩
      simp [recOk, h0] at hr
      omega
  clear hr
  rcases h3 with rfl | ⟨h0, h1⟩
  · go_enter Try.func34, Try.ntmps34
    go_wp2
    go_ret2
    exact ⟨rfl, Fr.refl No w⟩
  · have hn0 : ((n : Int) == 0) = false := by simp; omega
    have hd1 : decide (64 < (m : Int)) = true := by simp; omega
    go_enter Try.func34, Try.ntmps34
    go_wp2
    go_ret2
    exact ⟨rfl, Fr.refl No w⟩

set_option maxRecDepth 100000 in
set_option maxHeartbeats 2000000 in
theorem jrefEncode_ok (e n : Nat) (he : e < 2 ^ 64) (hn : n < 2 ^ 64) (hn0 : n ≠ 0) (a : Option Addr) (c : Nat) (p : List UInt8) (hp : p.length ≤ 64) (w : World) (hw : Win w a p.length c (p.map byt)) :
    Calls Try.prog 34 #[.int .u64 e, .int .u64 n, .slice a p.length c] w fun o w' => ∃ v, o = .returned (.tuple #[v, .int .i64 0]) ∧ OIn w.heap.size w' v (recBytes e n p) ∧ Fr No w w' := by
  obtain ⟨i0, hi0, hz0, hz1, hz2⟩ := info_parts Try.infoU8
  obtain ⟨m, hm⟩ : ∃ m, m = p.length := ⟨_, rfl⟩
  rw [← hm] at hw hp ⊢
  have h0 : ((n : Int) == 0) = false := by simp; omega
  have hd : decide (64 < (m : Int)) = false := by simp; omega
  have hmw : IntKind.u8.wrap (m : Int) = (m : Int) := by rw [IntKind.wrap_u8]; omega
  have HM := Lib.hid hm
  have HW := Lib.hid hw
  clear hm hw
  go_enter Try.func34, Try.ntmps34
  go_wp2_with fail
  refine (refNum_any 8 e (by omega) he _).mono ?_
  rintro o w1 ⟨ve, rfl, oe, ne, g1⟩
  obtain ⟨ae, ce, rfl, we⟩ := Win.of_own oe
  go_wp2_with fail
  refine (refNum_any 8 n (by omega) hn _).mono ?_
  rintro o w2 ⟨vn, rfl, on, nn, g2⟩
  obtain ⟨an, cn, rfl, wn⟩ := Win.of_own on
  have WE := Lib.hid (we.no g2)
  have WN := Lib.hid wn
  have WP := Lib.hid ((HW.out.no g1).no g2)
  have hlo : w.heap.size ≤ w2.heap.size := Nat.le_trans g1.size g2.size
  have f02 := g1.thn g2
  clear oe ne on nn we wn HW
  obtain ⟨b0, hb0⟩ : ∃ b0 : List UInt8, b0 = [81, 74, 1] ++ num 1 m := ⟨_, rfl⟩
  have hb0l : b0.length = 4 := by rw [hb0]; simp [num_len]
  have hb0m : b0.map byt = [.int .u8 81, .int .u8 74, .int .u8 1, .int .u8 m] := by
    have e1 : num 1 m = [UInt8.ofNat m] := by rw [num_succ 0 m]; simp [num, numTo]
    rw [hb0, e1]
    show [byt 81, byt 74, byt 1, byt (UInt8.ofNat m)] = _
    rw [← byte_u8, hmw]
    rfl
  have fz : Fr No w2 (w2.alloc (.cells #[.int .u8 81, .int .u8 74, .int .u8 1, .int .u8 m] 5)) := (Fr.refl No w2).alloc _
  have hB0 : OIn w2.heap.size (w2.alloc (.cells #[.int .u8 81, .int .u8 74, .int .u8 1, .int .u8 m] 5)) (.slice (some ⟨w2.heap.size, 0, none⟩) 4 4) b0 :=
    ⟨by rw [hb0l]; exact Own.of_blk (n := 4) (cap := 4) (xs := b0.map byt) (sp := []) (by rw [List.append_nil, hb0m]; exact Blk.new w2 5 _) (by rw [List.length_map, hb0l]) (by rw [List.append_nil, List.length_map, hb0l]) (Nat.le_refl _) (by unfold maxLen; decide), fun k hk => by simp [Value.ownBlock] at hk; omega⟩
  have hB0' : Own (w2.alloc (.cells #[.int .u8 81, .int .u8 74, .int .u8 1, .int .u8 m] 5)) 5 1 (.slice (some ⟨w2.heap.size, 0, none⟩) 4 4) 4 (b0.map byt) := by have h := hB0.own; rw [hb0l] at h; exact h
  have HB0 := Lib.hid hB0
  have HB0' := Lib.hid hB0'
  have HBL := Lib.hid hb0l
  have HBE := Lib.hid hb0
  have HK : Hid (∀ l : List UInt8, ∀ u ∈ l.map byt, u.oneCell' = true) := byt_one
  have hmx : ∀ a : Nat, a ≤ 1000 → a ≤ maxLen := fun a h => by unfold maxLen; omega
  have HMX := Lib.hid hmx
  clear hB0 hB0' hb0l hb0 hb0m hmx
  go_wp2_with (first
    | (at_builtin; refine wpList_appW _ rfl (.tmp 36) (.tmp 37) 26 rfl 5 i0 (.int .u8 0) 1 Try.underlying26 hi0 hz0 hz1 hz2 rfl (.slice (some ⟨w2.heap.size, 0, none⟩) 4 4) b0.length (b0.map byt) rfl HB0.out.own ae 8 ce ((num 8 e).map byt) rfl (WE.out.no fz) (HK.out _) (HMX.out _ (by have := HBL.out; omega)) (by have := HBL.out; omega) ?_; intro v3 w3 hap3; obtain ⟨b3, e3, l3, q3, r3⟩ := HB0.out.step (num 8 e) (by simp) (Fr.refl No _) hap3 (num_len _ _); have z3 := (fz.thn (Fr.refl No _)).size; have t3 : From w2.heap.size w2 w3 := fz.no_any.trans r3 (fun k h => .inl h))
    | (at_builtin; refine wpList_appW _ rfl (.tmp 38) (.tmp 39) 26 rfl 5 i0 (.int .u8 0) 1 Try.underlying26 hi0 hz0 hz1 hz2 rfl v3 _ _ rfl q3.own an 8 cn ((num 8 n).map byt) rfl (WN.out.old t3 (fun k hk => by omega)) (HK.out _) (HMX.out _ (by have := l3.out; have := HBL.out; omega)) (by have := l3.out; have := HBL.out; omega) ?_; intro v4 w4 hap4; obtain ⟨b4, e4, l4, q4, r4⟩ := q3.step (num 8 n) (Nat.le_trans z3 r3.size) (Fr.refl No _) hap4 (num_len _ _); have t4 := t3.t r4)
    | (at_builtin; refine wpList_appW _ rfl (.tmp 40) (.tmp 41) 26 rfl 5 i0 (.int .u8 0) 1 Try.underlying26 hi0 hz0 hz1 hz2 rfl v4 _ _ rfl q4.own a m c (p.map byt) rfl (WP.out.old t4 (fun k hk => by omega)) (HK.out _) (HMX.out _ (by have := l4.out; have := l3.out; have := HBL.out; omega)) (by have := l4.out; have := l3.out; have := HBL.out; omega) ?_; intro v5 w5 hap5; obtain ⟨b5, e5, l5, q5, r5⟩ := q4.step p (Nat.le_trans (Nat.le_trans z3 r3.size) r4.size) (Fr.refl No _) hap5 HM.out.symm; have t5 := t4.t r5))
  have z5 : w2.heap.size ≤ w5.heap.size := t5.size
  obtain ⟨q, hq⟩ : ∃ q, q = b5.length := ⟨_, rfl⟩
  have hqm : q = 20 + m := by have := l5.out; have := l4.out; have := l3.out; have := HBL.out; omega
  obtain ⟨z, hz⟩ : ∃ z, z = 88 - m := ⟨_, rfl⟩
  have hqz : q + z = 108 := by omega
  have he5 : b5 = [81, 74, 1] ++ num 1 m ++ num 8 e ++ num 8 n ++ p := by rw [e5.out, e4.out, e3.out, HBE.out]
  obtain ⟨a5, c5, hv5⟩ := own_slice q5.own
  rw [← hq] at hv5
  subst hv5
  have q5' : OIn w2.heap.size w5 (.slice a5 (q + 0) c5) (b5 ++ List.replicate 0 0) := by simpa using q5
  have Q5 := Lib.hid q5'
  have HQ := Lib.hid hq
  have HZ := Lib.hid hz
  have HE5 := Lib.hid he5
  have T5 := Lib.hid t5
  have HQZ := Lib.hid hqz
  have hqc : q + z ≤ 108 := by omega
  clear hqm hqz hap3 hap4 hap5 hq hz he5 q5' q5 q4 q3 e3 e4 e5 l3 l4 l5 r3 r4 r5 t3 t4 t5 z3 HB0 HB0' HBL HBE
  go_loopw [12] (fun s wr => ∃ (k : Nat) (a : Option Addr) (c : Nat), k ≤ z ∧ s = .slice a (q + k) c ∧ OIn w2.heap.size wr (.slice a (q + k) c) (b5 ++ List.replicate k 0) ∧ From w2.heap.size w5 wr) (fun s _ => 108 - (match s with | .slice _ n _ => n | _ => 0))
  case atStart => exact ⟨0, a5, c5, Nat.zero_le _, rfl, Q5.out, Fr.refl _ _⟩
  case round =>
    obtain ⟨k, a', c', hk, rfl, hO, hfr⟩ := hrel
    have hbl : (b5 ++ List.replicate k 0).length = q + k := by rw [List.length_append, ← HQ.out, List.length_replicate]
    obtain ⟨bk, hbk⟩ : ∃ bk, bk = b5 ++ List.replicate k 0 := ⟨_, rfl⟩
    rw [← hbk] at hO hbl
    have HBK := Lib.hid hbk
    have HBL := Lib.hid hbl
    have zr : w2.heap.size ≤ wr.heap.size := Nat.le_trans z5 hfr.size
    have hown : Own wr 5 1 (.slice a' (q + k) c') (q + k) (bk.map byt) := by have h := hO.own; rw [hbl] at h; exact h
    clear hbk hbl
    by_cases hlt : k < z
    · have hn1 : Hid (Win (wr.alloc (.cells #[.int .u8 0] 5)) (some ⟨wr.heap.size, 0, none⟩) 1 1 (([0] : List UInt8).map byt)) :=
        Win.of_own' (T := 5) (Own.of_blk (n := 1) (cap := 1) (xs := ([0] : List UInt8).map byt) (sp := []) (Blk.new wr 5 (([0] : List UInt8).map byt)) rfl rfl (Nat.le_refl _) (by unfold maxLen; decide))
      have hownA : Hid (Own (wr.alloc (.cells #[.int .u8 0] 5)) 5 1 (.slice a' (q + k) c') (q + k) (bk.map byt)) := hown.alloc _
      have hd : decide (q + k < 108) = true := by simp; omega
      have fa : Fr No wr (wr.alloc (.cells #[.int .u8 0] 5)) := (Fr.refl No wr).alloc _
      clear hown
      go_wp2_with (at_builtin; refine wpList_appW _ rfl (.tmp 46) (.tmp 47) 26 rfl 5 i0 (.int .u8 0) 1 Try.underlying26 hi0 hz0 hz1 hz2 rfl (.slice a' (q + k) c') (q + k) (bk.map byt) rfl hownA.out (some ⟨wr.heap.size, 0, none⟩) 1 1 (([0] : List UInt8).map byt) rfl hn1.out (HK.out _) (HMX.out _ (by omega)) (by omega) ?_; intro v7 w7 hap7; obtain ⟨a7, c7, rfl⟩ := app_slice hap7)
      go_roundw
      case rel =>
        have hap7' : Appended (wr.alloc (.cells #[.int .u8 0] 5)) 5 1 (.slice a' (q + k) c') bk.length 1 (bk.map byt ++ ([0] : List UInt8).map byt) (.slice a7 (q + k + 1) c7) w7 := by rw [HBL.out]; exact hap7
        obtain ⟨q1, q2⟩ := hO.app zr fa hap7' rfl
        refine ⟨k + 1, a7, c7, by omega, rfl, ?_, hfr.t q2⟩
        rw [HBK.out, List.append_assoc] at q1
        rw [List.replicate_succ']
        exact q1
      case measure => (simp; omega)
    · obtain rfl : k = z := by omega
      have hbf : bk = recFront e n p := by rw [HBK.out, HE5.out, HZ.out, HM.out]; simp [recFront]
      have HBF := Lib.hid hbf
      have hcw : IntKind.u64.wrap ((sumOf bk : Nat) : Int) = ((sumOf bk : Nat) : Int) := wrap_u64 _ (Nat.lt_trans (sumOf_lt bk) (by decide))
      rw [HQZ.out] at hown hO ⊢
      have HBL' : Hid (bk.length = 108) := by show bk.length = 108; rw [HBL.out, HQZ.out]
      obtain ⟨a8, c8, ev, hwin⟩ := Win.of_own hown
      injection ev with ev1 ev2 ev3
      subst ev1
      subst ev3
      have hO' : OIn w2.heap.size wr (.slice a' 108 c') bk := hO
      have TF := Lib.hid (T5.out.t hfr)
      clear hown hO hbf hlt hfr T5 Q5
      go_wp2_with fail
      refine (refOf_any a' 108 c' bk _ hwin (by decide)).mono ?_
      rintro o w8 ⟨rfl, rfl⟩
      go_wp2_with fail
      refine (refNum_any 4 (sumOf bk) (by omega) (sumOf_lt bk) _).mono ?_
      rintro o w9 ⟨vo, rfl, oo, no, g9⟩
      obtain ⟨ao, co, rfl, wo⟩ := Win.of_own oo
      have WO := Lib.hid wo
      have q9 := hO'.no g9
      have z9 : w2.heap.size ≤ w9.heap.size := Nat.le_trans zr g9.size
      have t9 : From w2.heap.size w2 w9 := TF.out.t g9.no_any
      clear wo oo no hcw hwin
      go_wp2_with (first
        | (at_builtin; refine wpList_appW _ rfl (.tmp 56) (.tmp 57) 26 rfl 5 i0 (.int .u8 0) 1 Try.underlying26 hi0 hz0 hz1 hz2 rfl (.slice a' 108 c') bk.length (bk.map byt) rfl q9.own ao 4 co ((num 4 (sumOf bk)).map byt) rfl WO.out (HK.out _) (HMX.out _ (by have := HBL'.out; omega)) (by have := HBL'.out; omega) ?_; intro v10 w10 hap10; obtain ⟨b10, e10, l10, q10, r10⟩ := q9.step (num 4 (sumOf bk)) z9 (Fr.refl No _) hap10 (num_len _ _); have z10 := Nat.le_trans z9 r10.size; have t10 := t9.t r10)
        | (at_builtin; refine wpList_appW _ rfl (.tmp 58) (.tmp 59) 26 rfl 5 i0 (.int .u8 0) 1 Try.underlying26 hi0 hz0 hz1 hz2 rfl v10 _ _ rfl q10.own ae 8 ce ((num 8 e).map byt) rfl (WE.out.old t10 (fun k hk => by omega)) (HK.out _) (HMX.out _ (by have := HBL'.out; have := l10.out; omega)) (by have := HBL'.out; have := l10.out; omega) ?_; intro v11 w11 hap11; obtain ⟨b11, e11, l11, q11, r11⟩ := q10.step (num 8 e) z10 (Fr.refl No _) hap11 (num_len _ _); have z11 := Nat.le_trans z10 r11.size; have t11 := t10.t r11)
        | (at_builtin; refine wpList_appW _ rfl (.tmp 60) (.tmp 61) 26 rfl 5 i0 (.int .u8 0) 1 Try.underlying26 hi0 hz0 hz1 hz2 rfl v11 _ _ rfl q11.own an 8 cn ((num 8 n).map byt) rfl (WN.out.old t11 (fun k hk => by omega)) (HK.out _) (HMX.out _ (by have := HBL'.out; have := l10.out; have := l11.out; omega)) (by have := HBL'.out; have := l10.out; have := l11.out; omega) ?_; intro v12 w12 hap12; obtain ⟨b12, e12, l12, q12, r12⟩ := q11.step (num 8 n) z11 (Fr.refl No _) hap12 (num_len _ _); have t12 := t11.t r12))
      go_ret2
      refine ⟨v12, rfl, ⟨?_, fun k hk => Nat.le_trans hlo (q12.new k hk)⟩, f02.trans t12 (fun k hk => .inr (Nat.le_trans hlo hk))⟩
      have hfin : b12 = recBytes e n p := by rw [e12.out, e11.out, e10.out, HBF.out]; simp [recBytes]
      rw [← hfin]
      exact q12.own

end Go.Proofs.Ytnkjhicokcmmpaa

/-
  A sector's root: what the program's Decode comes to.
-/
namespace Go.Proofs.Ytnkjhicokcmmpaa
open Go.RowKit Go.Shelf

/-- The root that a sector could be. -/
def rootAt (b : List UInt8) : RootD := ⟨wh ((b.drop 4).take 8), (wh ((b.drop 12).take 4) : Nat), wh ((b.drop 16).take 4)⟩
/-- A sector's root. -/
def decRoot (b : List UInt8) : Option RootD := if b.length = 128 ∧ (rootAt b).ok = true ∧ rootBytes (rootAt b) = b then some (rootAt b) else none
def RootD.zero : RootD := ⟨0, 0, 0⟩
def decV (b : List UInt8) : Value := .agg ((decRoot b).getD .zero).cells.toArray
def decE (b : List UInt8) : Int := if (decRoot b).isSome then 0 else 60
theorem dec_some {b : List UInt8} {r : RootD} (hX : b.length = 128 → r = rootAt b) (hok : r.ok = true) (h : rootBytes r = b) : decRoot b = some r := by
  have hl : b.length = 128 := by rw [← h]; exact rootBytes_len r
  have := hX hl
  subst this
  unfold decRoot
  rw [if_pos ⟨hl, hok, h⟩]
theorem dec_none {b : List UInt8} {r : RootD} (hX : b.length = 128 → r = rootAt b) (h : r.ok = false ∨ rootBytes r ≠ b) : decRoot b = none := by
  unfold decRoot
  refine if_neg (fun ⟨h1, h2, h3⟩ => ?_)
  rw [← hX h1] at h2 h3
  rcases h with h | h
  · rw [h] at h2; cases h2
  · exact h h3

/-- What changes the block just behind the heap alone changes nothing that was there. -/
theorem Fr.fresh {w w' : World} (h : Fr (fun k => k = w.heap.size) w w') : Fr No w w' := ⟨h.os, h.tape, h.output, h.size, fun k hk _ => h.block k hk (by omega)⟩

set_option maxRecDepth 100000 in
set_option maxHeartbeats 1000000 in
theorem decode_any (a : Option Addr) (n c : Nat) (b : List UInt8) (w : World) (h : Win w a n c (b.map byt)) (hb : n ≤ 1000) :
    Calls Try.prog 20 #[.slice a n c] w fun e w' => e = .returned (.tuple #[decV b, .int .i64 (decE b)]) ∧ Fr No w w' := by
  have hbl : b.length = n := by have := h.len; simpa using this
  have hbm : b.length ≤ 1000000 := by omega
  have kB : Blk (w.alloc (.cells #[.int .u64 0, .int .i64 0, .int .u32 0] 25)) w.heap.size 25 [.int .u64 0, .int .i64 0, .int .u32 0] := Blk.new w _ _
  have f0 : Fr No w (w.alloc (.cells #[.int .u64 0, .int .i64 0, .int .u32 0] 25)) := (Fr.refl No w).alloc _
  have hz0 : w.heap.size < (w.alloc (.cells #[.int .u64 0, .int .i64 0, .int .u32 0] 25)).heap.size := by simp
  have HBL := Lib.hid hbl
  clear hbl
  go_enter Try.func20, Try.ntmps20
  go_wp2_with fail
  generalize w.alloc (.cells #[.int .u64 0, .int .i64 0, .int .u32 0] 25) = w0 at *
  refine (readN a n c b _ (h.no f0) (by omega)).mono ?_
  rintro e w1 ⟨rb, v, rfl, h1, g1⟩
  go_wp2_with fail
  refine (rrawN w0.heap.size rb 0 4 v b hbm _ g1.size h1).mono ?_
  rintro e w2 ⟨u2, c2, m2, p2, cs2, rfl, _, _, _, e2, h2, g2⟩
  have E2 := Lib.hid e2
  clear e2 h1
  go_wp2_with fail
  refine (rnumN w0.heap.size rb p2 8 v b hbm (by omega) _ h2).mono ?_
  rintro e w3 ⟨x3, c3, p3, rfl, l3, e3, h3, g3⟩
  have E3 := Lib.hid e3
  clear e3 h2
  go_wp2_with fail
  refine (rnumN w0.heap.size rb p3 4 v b hbm (by omega) _ h3).mono ?_
  rintro e w4 ⟨x4, c4, p4, rfl, l4, e4, h4, g4⟩
  have E4 := Lib.hid e4
  clear e4 h3
  go_wp2_with fail
  refine (rnumN w0.heap.size rb p4 4 v b hbm (by omega) _ h4).mono ?_
  rintro e w5 ⟨x5, c5, p5, rfl, l5, e5, h5, g5⟩
  have E5 := Lib.hid e5
  clear e5 h4
  have hX : b.length = 128 → (⟨x3, (x4 : Int), x5⟩ : RootD) = rootAt b := by
    intro hl
    obtain ⟨-, -, hp2⟩ := E2.out (by omega)
    obtain ⟨hx3, hp3⟩ := E3.out (by omega)
    obtain ⟨hx4, hp4⟩ := E4.out (by omega)
    obtain ⟨hx5, hp5⟩ := E5.out (by omega)
    unfold rootAt
    rw [hx3, hx4, hx5, hp4, hp3, hp2]
  have hF : RootD.Fits ⟨x3, (x4 : Int), x5⟩ := ⟨by simpa using l3, by simpa using l5⟩
  have hall : From w0.heap.size w0 w5 := From.t (g1.no_any) ((From.t g2 g3).t (From.t g4 g5))
  have k5 := kB.from hall hz0
  have hw4 : wrap64 (x4 : Int) = (x4 : Int) := Go.IntWalk.wrap64_in _ (by simp at l4; omega)
  have hw5 : IntKind.u32.wrap (x5 : Int) = (x5 : Int) := wrap_u32 x5 (by simpa using l5)
  have HX := Lib.hid hX
  have HF := Lib.hid hF
  clear g1 g2 g3 g4 g5 h5 kB hX hF l3 l4 l5 E2 E3 E4 E5
  have hfa : Fr No w0 w0 := Fr.refl No w0
  have hfin : ∀ W : World, From w0.heap.size w0 W → Fr (fun k => k = w.heap.size) w W := fun W hW => (f0.no_any (S := fun k => k = w.heap.size)).trans hW (fun k hk => .inr (by omega))
  have HFIN := Lib.hid hfin
  clear hfin hfa
  obtain ⟨X, hXd⟩ : ∃ X : RootD, X = ⟨x3, (x4 : Int), x5⟩ := ⟨_, rfl⟩
  rcases Bool.eq_false_or_eq_true X.ok with hok | hok
  · go_wp2_with fail
    have fb : Fr No w5 (w5.alloc (.cells #[.int .u64 x3, .int .i64 x4, .int .u32 x5] 25)) := (Fr.refl No w5).alloc _
    have kX : Blk (w5.alloc (.cells #[.int .u64 x3, .int .i64 x4, .int .u32 x5] 25)) w5.heap.size 25 [.int .u64 x3, .int .i64 x4, .int .u32 x5] := Blk.new w5 _ _
    refine (encode_ok ⟨x3, (x4 : Int), x5⟩ HF.out (by rw [← hXd]; exact hok) _).mono ?_
    rintro e w6 ⟨g6, c6, rfl, o6, n6, f6⟩
    have k6 := (k5.fr fb (No.no _)).fr f6 (No.no _)
    have kX6 := kX.fr f6 (No.no _)
    have hw6 : Win w6 a n c (b.map byt) := h.old (S := fun k => w0.heap.size ≤ k) (f0.no_any.trans (hall.t ((fb.thn f6).no_any)) (fun k hk => .inl hk)) (fun k hk => by omega)
    rw [← hXd] at o6
    have HX2 := Lib.hid hXd
    clear hXd
    have q0 := kX6.cell (j := 0) rfl
    have q1 := kX6.cell (j := 1) rfl
    have q2 := kX6.cell (j := 2) rfl
    have rl := k6.lt
    have rf := k6.free
    have r0 := k6.cell (j := 0) rfl
    have r1 := k6.cell (j := 1) rfl
    have r2 := k6.cell (j := 2) rfl
    have hall6 : From w0.heap.size w0 w6 := hall.t ((fb.thn f6).no_any)
    by_cases heq : rootBytes X = b
    · have hd : decide (rootBytes X = b) = true := decide_eq_true heq
      have hdec : decRoot b = some X := dec_some (by rw [HX2.out]; exact HX.out) hok heq
      have HD := Lib.hid hdec
      clear hdec heq
      go_wp2_with (go_at_call 74; refine (equal_any _ _ 128 c6 n c (rootBytes X) b _ (Win.of_own' o6) hw6).mono ?_; rintro e w7 ⟨rfl, rfl⟩; rw [hd])
      have kE : Blk (((w6.setCell ⟨w.heap.size, 0, none⟩ (.int .u64 x3)).setCell ⟨w.heap.size, 1, none⟩ (.int .i64 x4)).setCell ⟨w.heap.size, 2, none⟩ (.int .u32 x5)) w.heap.size 25 [.int .u64 x3, .int .i64 x4, .int .u32 x5] := ((k6.set 0 _).set 1 _).set 2 _
      have z0 := kE.cell (j := 0) rfl
      have z1 := kE.cell (j := 1) rfl
      have z2 := kE.cell (j := 2) rfl
      refine bodyPost_ret (v := .tuple #[decV b, .int .i64 (decE b)]) ?_ rfl ⟨rfl, ?_⟩
      · unfold decV decE
        rw [HD.out, HX2.out]
        simp [results, Try.results20, go_sem, z0, z1, z2, RootD.cells]
      · exact (((HFIN.out w6 hall6).setCell (p := ⟨w.heap.size, 0, none⟩) (.inl rfl) _).setCell (p := ⟨w.heap.size, 1, none⟩) (.inl rfl) _).setCell (p := ⟨w.heap.size, 2, none⟩) (.inl rfl) _ |>.fresh
    · have hd : decide (rootBytes X = b) = false := decide_eq_false heq
      have hdec : decRoot b = none := dec_none (by rw [HX2.out]; exact HX.out) (.inr heq)
      have HD := Lib.hid hdec
      clear hdec heq
      go_wp2_with (go_at_call 74; refine (equal_any _ _ 128 c6 n c (rootBytes X) b _ (Win.of_own' o6) hw6).mono ?_; rintro e w7 ⟨rfl, rfl⟩; rw [hd])
      have kE : Blk (((w6.setCell ⟨w.heap.size, 0, none⟩ (.int .u64 0)).setCell ⟨w.heap.size, 1, none⟩ (.int .i64 0)).setCell ⟨w.heap.size, 2, none⟩ (.int .u32 0)) w.heap.size 25 [.int .u64 0, .int .i64 0, .int .u32 0] := ((k6.set 0 _).set 1 _).set 2 _
      have z0 := kE.cell (j := 0) rfl
      have z1 := kE.cell (j := 1) rfl
      have z2 := kE.cell (j := 2) rfl
      refine bodyPost_ret (v := .tuple #[decV b, .int .i64 (decE b)]) ?_ rfl ⟨rfl, ?_⟩
      · unfold decV decE
        rw [HD.out]
        simp [results, Try.results20, go_sem, z0, z1, z2, RootD.cells, RootD.zero]
      · exact (((HFIN.out w6 hall6).setCell (p := ⟨w.heap.size, 0, none⟩) (.inl rfl) _).setCell (p := ⟨w.heap.size, 1, none⟩) (.inl rfl) _).setCell (p := ⟨w.heap.size, 2, none⟩) (.inl rfl) _ |>.fresh
  · have hdec : decRoot b = none := dec_none (by rw [hXd]; exact HX.out) (.inl hok)
    have HD := Lib.hid hdec
    clear hdec
    go_wp2_with fail
    have fb : Fr No w5 (w5.alloc (.cells #[.int .u64 x3, .int .i64 x4, .int .u32 x5] 25)) := (Fr.refl No w5).alloc _
    refine (encode_bad ⟨x3, (x4 : Int), x5⟩ (by rw [← hXd]; exact hok) _).mono ?_
    rintro e w6 ⟨rfl, f6⟩
    have k6 := (k5.fr fb (No.no _)).fr f6 (No.no _)
    have hall6 : From w0.heap.size w0 w6 := hall.t ((fb.thn f6).no_any)
    have rl := k6.lt
    have rf := k6.free
    have r0 := k6.cell (j := 0) rfl
    have r1 := k6.cell (j := 1) rfl
    have r2 := k6.cell (j := 2) rfl
    clear hXd
    go_wp2
    have kE : Blk (((w6.setCell ⟨w.heap.size, 0, none⟩ (.int .u64 0)).setCell ⟨w.heap.size, 1, none⟩ (.int .i64 0)).setCell ⟨w.heap.size, 2, none⟩ (.int .u32 0)) w.heap.size 25 [.int .u64 0, .int .i64 0, .int .u32 0] := ((k6.set 0 _).set 1 _).set 2 _
    have z0 := kE.cell (j := 0) rfl
    have z1 := kE.cell (j := 1) rfl
    have z2 := kE.cell (j := 2) rfl
    refine bodyPost_ret (v := .tuple #[decV b, .int .i64 (decE b)]) ?_ rfl ⟨rfl, ?_⟩
    · unfold decV decE
      rw [HD.out]
      simp [results, Try.results20, go_sem, z0, z1, z2, RootD.cells, RootD.zero]
    · exact (((HFIN.out w6 hall6).setCell (p := ⟨w.heap.size, 0, none⟩) (.inl rfl) _).setCell (p := ⟨w.heap.size, 1, none⟩) (.inl rfl) _).setCell (p := ⟨w.heap.size, 2, none⟩) (.inl rfl) _ |>.fresh

end Go.Proofs.Ytnkjhicokcmmpaa

/-
  A sector's record: what the program's Decode comes to.
-/
namespace Go.Proofs.Ytnkjhicokcmmpaa
open Go.RowKit Go.Shelf

/-- A record. -/
structure RecD where
  e : Nat
  n : Nat
  p : List UInt8
/-- How many bytes a payload could have. -/
def recSize (b : List UInt8) : Nat := wh ((b.drop 3).take 1)
/-- The record that a sector could be. -/
def recAt (b : List UInt8) : RecD := ⟨wh ((b.drop 4).take 8), wh ((b.drop 12).take 8), (b.drop 20).take (recSize b)⟩
def decRec (b : List UInt8) : Option RecD := if b.length = 128 ∧ recSize b ≤ 64 ∧ (recAt b).n ≠ 0 ∧ recBytes (recAt b).e (recAt b).n (recAt b).p = b then some (recAt b) else none
def RecD.zero : RecD := ⟨0, 0, []⟩
def decRecOf (b : List UInt8) : RecD := (decRec b).getD .zero
def decRecE (b : List UInt8) : Int := if (decRec b).isSome then 0 else 80

theorem wh_one (k : Nat) (hk : k < 256) : wh (num 1 k) = k := by
  have e1 : num 1 k = [UInt8.ofNat k] := by rw [num_succ 0 k]; simp [num, numTo]
  rw [e1]
  simp [wh]
  omega
theorem recSize_of (e n : Nat) (p : List UInt8) (hp : p.length ≤ 64) : recSize (recBytes e n p) = p.length := by
  have e1 : ∀ R : List UInt8, ((([81, 74, 1] ++ (num 1 p.length ++ R) : List UInt8).drop 3).take 1) = num 1 p.length := by
    intro R
    show ((num 1 p.length ++ R).take 1) = num 1 p.length
    rw [List.take_append_of_le_length (by rw [num_len]; omega)]
    exact List.take_of_length_le (by rw [num_len]; omega)
  have e2 : ∃ R, recBytes e n p = [81, 74, 1] ++ (num 1 p.length ++ R) := by
    unfold recBytes recFront
    simp only [List.append_assoc]
    exact ⟨_, rfl⟩
  obtain ⟨R, hR⟩ := e2
  unfold recSize
  rw [hR, e1]
  exact wh_one _ (by omega)

/-- What was read is the record. -/
theorem rec_some {b : List UInt8} {s e n : Nat} {p : List UInt8} (hX : b.length = 128 → s = recSize b ∧ e = wh ((b.drop 4).take 8) ∧ n = wh ((b.drop 12).take 8)) (hP : b.length = 128 → 20 + s ≤ 128 → p = (b.drop 20).take s) (h0 : n ≠ 0) (hp : p.length ≤ 64) (h : recBytes e n p = b) : decRec b = some ⟨e, n, p⟩ := by
  have hl : b.length = 128 := by rw [← h]; exact recBytes_len e n p hp
  obtain ⟨h1, h2, h3⟩ := hX hl
  have hs : recSize b = p.length := by rw [← h]; exact recSize_of e n p hp
  have h4 := hP hl (by omega)
  have hr : recAt b = ⟨e, n, p⟩ := by unfold recAt; rw [← h2, ← h3, ← h1, ← h4]
  unfold decRec
  rw [hr, if_pos ⟨hl, by omega, h0, h⟩]
theorem rec_none {b : List UInt8} {s e n : Nat} {p : List UInt8} (hX : b.length = 128 → s = recSize b ∧ e = wh ((b.drop 4).take 8) ∧ n = wh ((b.drop 12).take 8)) (hP : b.length = 128 → 20 + s ≤ 128 → p = (b.drop 20).take s) (h : recOk n p.length = false ∨ recBytes e n p ≠ b) : decRec b = none := by
  unfold decRec
  refine if_neg (fun ⟨hl, hs, h0, hb⟩ => ?_)
  obtain ⟨h1, h2, h3⟩ := hX hl
  have h4 := hP hl (by omega)
  have hr : recAt b = ⟨e, n, p⟩ := by unfold recAt; rw [← h2, ← h3, ← h1, ← h4]
  rw [hr] at h0 hb
  rcases h with h | h
  · have hpl : p.length ≤ 64 := by rw [h4, List.length_take]; omega
    have h0' : n ≠ 0 := h0
    simp [recOk, h0'] at h
    omega
  · exact h hb

end Go.Proofs.Ytnkjhicokcmmpaa

/-
  A sector's record: what the program's Decode comes to.
-/
namespace Go.Proofs.Ytnkjhicokcmmpaa
open Go.RowKit Go.Shelf

theorem decRec_of_some {b : List UInt8} {e n : Nat} {p : List UInt8} (h : decRec b = some ⟨e, n, p⟩) : decRecOf b = ⟨e, n, p⟩ ∧ decRecE b = 0 := by
  unfold decRecOf decRecE
  rw [h]
  exact ⟨rfl, rfl⟩
theorem decRec_of_none {b : List UInt8} (h : decRec b = none) : decRecOf b = .zero ∧ decRecE b = 80 := by
  unfold decRecOf decRecE
  rw [h]
  exact ⟨rfl, rfl⟩
theorem OIn.nil (N : Nat) (w : World) : OIn N w (.slice none 0 0) [] := ⟨World.ownsRow_nil _ _ _ _, fun k hk => by simp [Value.ownBlock] at hk⟩

set_option maxRecDepth 100000 in
set_option maxHeartbeats 1000000 in
theorem jdecode_any (a : Option Addr) (n c : Nat) (b : List UInt8) (w : World) (h : Win w a n c (b.map byt)) (hb : n ≤ 1000) :
    Calls Try.prog 35 #[.slice a n c] w fun o w' => ∃ v, o = .returned (.tuple #[.int .u64 (decRecOf b).e, .int .u64 (decRecOf b).n, v, .int .i64 (decRecE b)]) ∧ OIn w.heap.size w' v (decRecOf b).p ∧ Fr No w w' := by
  have hbl : b.length = n := by have := h.len; simpa using this
  have hbm : b.length ≤ 1000000 := by omega
  have HBL := Lib.hid hbl
  clear hbl
  go_enter Try.func35, Try.ntmps35
  go_wp2_with fail
  refine (readN a n c b _ h (by omega)).mono ?_
  rintro o w1 ⟨rb, v, rfl, h1, g1⟩
  go_wp2_with fail
  refine (rrawN w.heap.size rb 0 3 v b hbm _ g1.size h1).mono ?_
  rintro o w2 ⟨u2, c2, m2, p2, cs2, rfl, _, _, _, e2, h2, g2⟩
  have E2 := Lib.hid e2
  clear e2 h1
  go_wp2_with fail
  refine (rnumN w.heap.size rb p2 1 v b hbm (by omega) _ h2).mono ?_
  rintro o w3 ⟨x3, c3, p3, rfl, l3, e3, h3, g3⟩
  have E3 := Lib.hid e3
  clear e3 h2
  go_wp2_with fail
  refine (rnumN w.heap.size rb p3 8 v b hbm (by omega) _ h3).mono ?_
  rintro o w4 ⟨x4, c4, p4, rfl, l4, e4, h4, g4⟩
  have E4 := Lib.hid e4
  clear e4 h3
  go_wp2_with fail
  refine (rnumN w.heap.size rb p4 8 v b hbm (by omega) _ h4).mono ?_
  rintro o w5 ⟨x5, c5, p5, rfl, l5, e5, h5, g5⟩
  have E5 := Lib.hid e5
  clear e5 h4
  have hw3 : wrap64 (x3 : Int) = (x3 : Int) := Go.IntWalk.wrap64_in _ (by simp at l3; omega)
  have hall5 : From w.heap.size w w5 := From.t (g1.no_any) ((From.t g2 g3).t (From.t g4 g5))
  clear g1 g2 g3 g4 g5
  go_wp2_with fail
  refine (rrawN w.heap.size rb p5 x3 v b hbm _ hall5.size h5).mono ?_
  rintro o w6 ⟨u6, c6, m6, p6, p, rfl, o6, m6l, n6, e6, h6, g6⟩
  have E6 := Lib.hid e6
  clear e6 h5 h6
  obtain rfl : m6 = p.length := by have := o6.1; simpa using this.symm
  have hX : b.length = 128 → x3 = recSize b ∧ x4 = wh ((b.drop 4).take 8) ∧ x5 = wh ((b.drop 12).take 8) := by
    intro hl
    obtain ⟨-, -, hp2⟩ := E2.out (by omega)
    obtain ⟨hx3, hp3⟩ := E3.out (by omega)
    obtain ⟨hx4, hp4⟩ := E4.out (by omega)
    obtain ⟨hx5, hp5⟩ := E5.out (by omega)
    unfold recSize
    rw [hx3, hx4, hx5, hp4, hp3, hp2]
    exact ⟨rfl, rfl, rfl⟩
  have hP : b.length = 128 → 20 + x3 ≤ 128 → p = (b.drop 20).take x3 := by
    intro hl hs
    obtain ⟨-, -, hp2⟩ := E2.out (by omega)
    obtain ⟨hx3, hp3⟩ := E3.out (by omega)
    obtain ⟨hx4, hp4⟩ := E4.out (by omega)
    obtain ⟨hx5, hp5⟩ := E5.out (by omega)
    obtain ⟨hx6, _, _⟩ := E6.out (by omega)
    rw [hx6, show p5 = 20 by omega]
  have hlo6 : ∀ k, u6.ownBlock = some k → w.heap.size ≤ k := fun k hk => Nat.le_trans hall5.size (n6 k hk)
  have hall : From w.heap.size w w6 := hall5.t g6
  have hO6 : OIn w.heap.size w6 u6 p := ⟨o6, hlo6⟩
  have l4' : x4 < 2 ^ 64 := by simpa using l4
  have l5' : x5 < 2 ^ 64 := by simpa using l5
  have HX := Lib.hid hX
  have HP := Lib.hid hP
  have HO := Lib.hid hO6
  obtain ⟨au, cu, rfl, wu⟩ := Win.of_own o6
  have HWU := Lib.hid wu
  have HW := Lib.hid h
  clear l3 l4 l5 E2 E3 E4 E5 E6 o6 hlo6 n6 hX hP hO6 g6 hall5 m6l wu h
  rcases Bool.eq_false_or_eq_true (recOk x5 p.length) with hok | hok
  · have h50 : x5 ≠ 0 := by intro h0; simp [recOk, h0] at hok
    have hpl : p.length ≤ 64 := by simp [recOk] at hok; omega
    have HOK := Lib.hid hok
    have H50 := Lib.hid h50
    clear hok h50
    go_wp2_with fail
    refine (jencode_ok x4 x5 l4' l5' H50.out au cu p hpl _ HWU.out).mono ?_
    rintro o w7 ⟨g7, c7, rfl, o7, n7, f7⟩
    have hw7 : Win w7 a n c (b.map byt) := HW.out.old (S := fun k => w.heap.size ≤ k) (hall.t f7.no_any) (fun k hk => by omega)
    obtain ⟨Y, hY⟩ : ∃ Y, Y = recBytes x4 x5 p := ⟨_, rfl⟩
    rw [← hY] at o7
    have HY := Lib.hid hY
    clear hY
    have hO7 := Lib.hid (HO.out.no f7)
    have hfin : Fr No w w7 := (hall.t f7.no_any).no (Nat.le_refl _)
    by_cases heq : Y = b
    · have hd : decide (Y = b) = true := decide_eq_true heq
      have hdec := decRec_of_some (rec_some HX.out HP.out H50.out hpl (by rw [← HY.out]; exact heq))
      have HD := Lib.hid hdec
      clear hdec heq
      go_wp2_with (go_at_call 74; refine (equal_any _ _ 128 c7 n c Y b _ (Win.of_own' o7) hw7).mono ?_; rintro o w8 ⟨rfl, rfl⟩; rw [hd])
      refine bodyPost_ret (v := .tuple #[.int .u64 x4, .int .u64 x5, .slice au p.length cu, .int .i64 0]) (by simp [results, Try.results35, go_sem]) rfl ?_
      refine ⟨.slice au p.length cu, ?_, ?_, hfin⟩
      · rw [HD.out.1, HD.out.2]
      · rw [HD.out.1]; exact hO7.out
    · have hd : decide (Y = b) = false := decide_eq_false heq
      have hdec := decRec_of_none (rec_none HX.out HP.out (.inr (by rw [← HY.out]; exact heq)))
      have HD := Lib.hid hdec
      clear hdec heq
      go_wp2_with (go_at_call 74; refine (equal_any _ _ 128 c7 n c Y b _ (Win.of_own' o7) hw7).mono ?_; rintro o w8 ⟨rfl, rfl⟩; rw [hd])
      refine bodyPost_ret (v := .tuple #[.int .u64 0, .int .u64 0, .slice none 0 0, .int .i64 80]) (by simp [results, Try.results35, go_sem]) rfl ?_
      refine ⟨.slice none 0 0, ?_, ?_, hfin⟩
      · rw [HD.out.1, HD.out.2]; rfl
      · rw [HD.out.1]; exact OIn.nil _ _
  · have hdec := decRec_of_none (rec_none HX.out HP.out (.inl hok))
    have HD := Lib.hid hdec
    have HOK := Lib.hid hok
    clear hdec hok
    go_wp2_with fail
    refine (jencode_bad x4 x5 au p.length cu HOK.out _).mono ?_
    rintro o w7 ⟨rfl, f7⟩
    have hfin : Fr No w w7 := (hall.t f7.no_any).no (Nat.le_refl _)
    go_wp2
    refine bodyPost_ret (v := .tuple #[.int .u64 0, .int .u64 0, .slice none 0 0, .int .i64 80]) (by simp [results, Try.results35, go_sem]) rfl ?_
    refine ⟨.slice none 0 0, ?_, ?_, hfin⟩
    · rw [HD.out.1, HD.out.2]; rfl
    · rw [HD.out.1]; exact OIn.nil _ _

end Go.Proofs.Ytnkjhicokcmmpaa

/-
  A sector's root: what the document's Decode comes to.
-/
namespace Go.Proofs.Ytnkjhicokcmmpaa
open Go.RowKit Go.Shelf

/-- A number in some bytes, wherever they lie. -/
theorem whole_part {w w' : World} {ad : Addr} {n c : Nat} {b : List UInt8} (h : Win w (some ad) n c (b.map byt)) (hf : Fr No w w') (k m : Nat) (hk : k + m ≤ n) (hm : m ≤ 8) (hc : c ≠ k) (hk0 : k ≠ 0) :
    Calls Try.prog 75 #[.slice (some ⟨ad.block, ad.off + k, none⟩) m (c - k)] w' fun e w'' => e = .returned (.int .u64 (wh ((b.drop k).take m) : Nat)) ∧ w' = w'' := by
  have h1 := ((h.no hf).drop (k := k) (by omega)).take (k := m) (by omega)
  rw [if_neg hc, ← List.map_drop, ← List.map_take] at h1
  have e : Option.map (·.add k) (some ad) = some ⟨ad.block, ad.off + k, none⟩ := by simp [Addr.add, hk0]
  rw [e] at h1
  exact refWhole_any _ m (c - k) _ hm w' h1

set_option maxRecDepth 100000 in
set_option maxHeartbeats 1000000 in
theorem refDecode_short (a : Option Addr) (n c : Nat) (b : List UInt8) (w : World) (h : Win w a n c (b.map byt)) (hn : n ≠ 128) :
    Calls Try.prog 21 #[.slice a n c] w fun e w' => e = .returned (.tuple #[decV b, .int .i64 (decE b)]) ∧ Fr No w w' := by
  have hbl : b.length = n := by have := h.len; simpa using this
  have hdec : decRoot b = none := by
    unfold decRoot
    refine if_neg (fun hc => hn (by rw [← hbl]; exact hc.1))
  have HD := Lib.hid hdec
  have kB : Blk (w.alloc (.cells #[.int .u64 0, .int .i64 0, .int .u32 0] 25)) w.heap.size 25 [.int .u64 0, .int .i64 0, .int .u32 0] := Blk.new w _ _
  have f0 : Fr No w (w.alloc (.cells #[.int .u64 0, .int .i64 0, .int .u32 0] 25)) := (Fr.refl No w).alloc _
  have hd : (n == 128) = false := by simp; exact hn
  have hd' : (n != 128) = true := by simp; exact hn
  clear hdec hbl
  go_enter Try.func21, Try.ntmps21
  have rf := kB.free
  go_wp2
  have z0 := kB.cell (j := 0) rfl
  have z1 := kB.cell (j := 1) rfl
  have z2 := kB.cell (j := 2) rfl
  refine bodyPost_ret (v := .tuple #[decV b, .int .i64 (decE b)]) ?_ rfl ⟨rfl, ?_⟩
  · unfold decV decE
    rw [HD.out]
    simp [results, Try.results21, go_sem, z0, z1, z2, RootD.cells, RootD.zero]
  · exact f0

set_option maxRecDepth 100000 in
set_option maxHeartbeats 1000000 in
theorem refDecode_128 (ad : Addr) (c : Nat) (b : List UInt8) (w : World) (h : Win w (some ad) 128 c (b.map byt)) :
    Calls Try.prog 21 #[.slice (some ad) 128 c] w fun e w' => e = .returned (.tuple #[decV b, .int .i64 (decE b)]) ∧ Fr No w w' := by
  have hbl : b.length = 128 := by have := h.len; simpa using this
  have hcap := h.cap
  have hmax := h.max
  unfold maxLen at hmax
  have m12 : (12 : Int) ≤ (c : Int) := by omega
  have m16 : (16 : Int) ≤ (c : Int) := by omega
  have m20 : (20 : Int) ≤ (c : Int) := by omega
  have n4 : ¬ c = 4 := by omega
  have n12 : ¬ c = 12 := by omega
  have n16 : ¬ c = 16 := by omega
  have HBL := Lib.hid hbl
  have hlo : ∀ k : Nat, wh ((b.drop k).take 4) < 2 ^ 32 := fun k => by
    refine Nat.lt_of_lt_of_le (wh_lt _) ?_
    have : ((b.drop k).take 4).length ≤ 4 := by simp; omega
    exact Nat.le_trans (Nat.pow_le_pow_right (by decide) this) (by decide)
  have hw4 : wrap64 ((wh ((b.drop 12).take 4) : Nat) : Int) = ((wh ((b.drop 12).take 4) : Nat) : Int) := Go.IntWalk.wrap64_in _ (by have := hlo 12; omega)
  have hw4' : IntKind.i64.wrap ((wh ((b.drop 12).take 4) : Nat) : Int) = ((wh ((b.drop 12).take 4) : Nat) : Int) := by rw [IntKind.wrap_i64]; have := hlo 12; omega
  have hw5 : IntKind.u32.wrap ((wh ((b.drop 16).take 4) : Nat) : Int) = ((wh ((b.drop 16).take 4) : Nat) : Int) := wrap_u32 _ (hlo 16)
  have kB : Blk (w.alloc (.cells #[.int .u64 0, .int .i64 0, .int .u32 0] 25)) w.heap.size 25 [.int .u64 0, .int .i64 0, .int .u32 0] := Blk.new w _ _
  have f0 : Fr No w (w.alloc (.cells #[.int .u64 0, .int .i64 0, .int .u32 0] 25)) := (Fr.refl No w).alloc _
  have HW := Lib.hid h
  have HLO := Lib.hid hlo
  clear hbl hlo h
  go_enter Try.func21, Try.ntmps21
  go_wp2_with fail
  generalize w.alloc (.cells #[.int .u64 0, .int .i64 0, .int .u32 0] 25) = w0 at *
  go_cut [4] (fun s4 wx => s4 = .pointer (some ⟨w0.heap.size, 0, none⟩) ∧ Blk wx w0.heap.size 25 (rootAt b).cells ∧ Fr No w0 wx)
  case first =>
   go_region_held3 (fun _ => True) (exact trivial) (first | ((with_reducible refine (whole_part HW.out ?_ 4 8 (by decide) (by decide) n4 (by decide)).mono ?_); (first | exact f0.thn ((Fr.refl No w0).drew) | exact f0.thn (((Fr.refl No w0).alloc _).drew)); rintro e w1 ⟨rfl, rfl⟩) | ((with_reducible refine (whole_part HW.out ?_ 12 4 (by decide) (by decide) n12 (by decide)).mono ?_); (first | exact f0.thn ((Fr.refl No w0).drew) | exact f0.thn (((Fr.refl No w0).alloc _).drew)); rintro e w1 ⟨rfl, rfl⟩) | ((with_reducible refine (whole_part HW.out ?_ 16 4 (by decide) (by decide) n16 (by decide)).mono ?_); (first | exact f0.thn ((Fr.refl No w0).drew) | exact f0.thn (((Fr.refl No w0).alloc _).drew)); rintro e w1 ⟨rfl, rfl⟩))
   all_goals go_wp2_with fail
   all_goals go_meet
   all_goals exact ⟨rfl, Blk.new w0 _ _, ((Fr.refl No w0).alloc _).drew⟩
  case rest =>
    rename World => w1
    obtain ⟨rfl, hX, f1⟩ := hcut
    have hF : (rootAt b).Fits := ⟨by
      have := wh_lt ((b.drop 4).take 8)
      refine Nat.lt_of_lt_of_le this (Nat.le_trans (Nat.pow_le_pow_right (by decide) (show _ ≤ 8 by simp; omega)) (by decide)), HLO.out 16⟩
    have hself : rootAt b = ⟨wh ((b.drop 4).take 8), ((wh ((b.drop 12).take 4) : Nat) : Int), wh ((b.drop 16).take 4)⟩ := rfl
    have hw : Win w1 (some ad) 128 c (b.map byt) := HW.out.no (f0.thn f1)
    have k1 := kB.fr f1 (No.no _)
    obtain ⟨x3, h3⟩ : ∃ x, x = wh ((b.drop 4).take 8) := ⟨_, rfl⟩
    obtain ⟨x4, h4⟩ : ∃ x, x = wh ((b.drop 12).take 4) := ⟨_, rfl⟩
    obtain ⟨x5, h5⟩ : ∃ x, x = wh ((b.drop 16).take 4) := ⟨_, rfl⟩
    rw [← h3, ← h4, ← h5] at hself
    rw [hself] at hX hF
    have q0 := hX.cell (j := 0) rfl
    have q1 := hX.cell (j := 1) rfl
    have q2 := hX.cell (j := 2) rfl
    have HS := Lib.hid hself
    have hfw : Fr No w w1 := f0.thn f1
    obtain ⟨X, hXd⟩ : ∃ X : RootD, X = ⟨x3, (x4 : Int), x5⟩ := ⟨_, rfl⟩
    have HXD := Lib.hid hXd
    clear hself h3 h4 h5 hw4 hw4' hw5 kB hXd
    rcases Bool.eq_false_or_eq_true X.ok with hok | hok
    · go_wp2_with fail
      refine (refEncode_ok ⟨x3, (x4 : Int), x5⟩ hF (by rw [← HXD.out]; exact hok) _).mono ?_
      rintro e w6 ⟨v6, rfl, o6, f6⟩
      have k6 := k1.fr f6 (No.no _)
      have kX6 := hX.fr f6 (No.no _)
      have hw6 := hw.no f6
      rw [← HXD.out] at o6
      have ho6 := o6.own
      rw [rootBytes_len] at ho6
      obtain ⟨a6, c6, rfl, wn6⟩ := Win.of_own ho6
      have q0 := kX6.cell (j := 0) rfl
      have q1 := kX6.cell (j := 1) rfl
      have q2 := kX6.cell (j := 2) rfl
      have rl := k6.lt
      have rf := k6.free
      have r0 := k6.cell (j := 0) rfl
      have r1 := k6.cell (j := 1) rfl
      have r2 := k6.cell (j := 2) rfl
      have s1 := run_str (P := Try.prog) (src := 26) (dst := 9) Try.underlying26 Try.underlying5 Try.underlying9 wn6
      have s2 := run_str (P := Try.prog) (src := 26) (dst := 9) Try.underlying26 Try.underlying5 Try.underlying9 hw6
      have hfin := (hfw.thn f6).no_any (S := fun k => k = w.heap.size)
      by_cases heq : rootBytes X = b
      · have hdec : decRoot b = some X := dec_some (fun _ => by rw [HXD.out, HS.out]) hok heq
        have HD := Lib.hid hdec
        have hd : ((str (rootBytes X)).toList == (str b).toList) = true := by rw [heq]; simp
        have hd' : ((str (rootBytes X)).toList != (str b).toList) = false := by rw [heq]; simp
        clear hdec heq
        go_wp2
        have kE : Blk (((w6.setCell ⟨w.heap.size, 0, none⟩ (.int .u64 x3)).setCell ⟨w.heap.size, 1, none⟩ (.int .i64 x4)).setCell ⟨w.heap.size, 2, none⟩ (.int .u32 x5)) w.heap.size 25 [.int .u64 x3, .int .i64 x4, .int .u32 x5] := ((k6.set 0 _).set 1 _).set 2 _
        have z0 := kE.cell (j := 0) rfl
        have z1 := kE.cell (j := 1) rfl
        have z2 := kE.cell (j := 2) rfl
        refine bodyPost_ret (v := .tuple #[decV b, .int .i64 (decE b)]) ?_ rfl ⟨rfl, ?_⟩
        · unfold decV decE
          rw [HD.out, HXD.out]
          simp [results, Try.results21, go_sem, z0, z1, z2, RootD.cells]
        · exact (((hfin).setCell (p := ⟨w.heap.size, 0, none⟩) (.inl rfl) _).setCell (p := ⟨w.heap.size, 1, none⟩) (.inl rfl) _).setCell (p := ⟨w.heap.size, 2, none⟩) (.inl rfl) _ |>.fresh
      · have hdec : decRoot b = none := dec_none (r := X) (fun _ => by rw [HXD.out, HS.out]) (.inr heq)
        have HD := Lib.hid hdec
        have hne : (str (rootBytes X)).toList ≠ (str b).toList := by rw [str_list, str_list]; exact heq
        have hd : ((str (rootBytes X)).toList == (str b).toList) = false := by simpa using hne
        have hd' : ((str (rootBytes X)).toList != (str b).toList) = true := by simpa using hne
        clear hdec heq hne
        go_wp2
        have kE : Blk (((w6.setCell ⟨w.heap.size, 0, none⟩ (.int .u64 0)).setCell ⟨w.heap.size, 1, none⟩ (.int .i64 0)).setCell ⟨w.heap.size, 2, none⟩ (.int .u32 0)) w.heap.size 25 [.int .u64 0, .int .i64 0, .int .u32 0] := ((k6.set 0 _).set 1 _).set 2 _
        have z0 := kE.cell (j := 0) rfl
        have z1 := kE.cell (j := 1) rfl
        have z2 := kE.cell (j := 2) rfl
        refine bodyPost_ret (v := .tuple #[decV b, .int .i64 (decE b)]) ?_ rfl ⟨rfl, ?_⟩
        · unfold decV decE
          rw [HD.out]
          simp [results, Try.results21, go_sem, z0, z1, z2, RootD.cells, RootD.zero]
        · exact (((hfin).setCell (p := ⟨w.heap.size, 0, none⟩) (.inl rfl) _).setCell (p := ⟨w.heap.size, 1, none⟩) (.inl rfl) _).setCell (p := ⟨w.heap.size, 2, none⟩) (.inl rfl) _ |>.fresh
    · have hdec : decRoot b = none := dec_none (r := X) (fun _ => by rw [HXD.out, HS.out]) (.inl hok)
      have HD := Lib.hid hdec
      clear hdec
      go_wp2_with fail
      refine (refEncode_bad ⟨x3, (x4 : Int), x5⟩ (by rw [← HXD.out]; exact hok) _).mono ?_
      rintro e w6 ⟨rfl, f6⟩
      have k6 := k1.fr f6 (No.no _)
      have rl := k6.lt
      have rf := k6.free
      have r0 := k6.cell (j := 0) rfl
      have r1 := k6.cell (j := 1) rfl
      have r2 := k6.cell (j := 2) rfl
      have hfin := (hfw.thn f6).no_any (S := fun k => k = w.heap.size)
      go_wp2
      have kE : Blk (((w6.setCell ⟨w.heap.size, 0, none⟩ (.int .u64 0)).setCell ⟨w.heap.size, 1, none⟩ (.int .i64 0)).setCell ⟨w.heap.size, 2, none⟩ (.int .u32 0)) w.heap.size 25 [.int .u64 0, .int .i64 0, .int .u32 0] := ((k6.set 0 _).set 1 _).set 2 _
      have z0 := kE.cell (j := 0) rfl
      have z1 := kE.cell (j := 1) rfl
      have z2 := kE.cell (j := 2) rfl
      refine bodyPost_ret (v := .tuple #[decV b, .int .i64 (decE b)]) ?_ rfl ⟨rfl, ?_⟩
      · unfold decV decE
        rw [HD.out]
        simp [results, Try.results21, go_sem, z0, z1, z2, RootD.cells, RootD.zero]
      · exact (((hfin).setCell (p := ⟨w.heap.size, 0, none⟩) (.inl rfl) _).setCell (p := ⟨w.heap.size, 1, none⟩) (.inl rfl) _).setCell (p := ⟨w.heap.size, 2, none⟩) (.inl rfl) _ |>.fresh

end Go.Proofs.Ytnkjhicokcmmpaa

/-
  A sector's record: what the document's Decode comes to.
-/
namespace Go.Proofs.Ytnkjhicokcmmpaa
open Go.RowKit Go.Shelf

theorem recSize_at {b : List UInt8} (hb : b.length = 128) : ∃ x : UInt8, b[3]? = some x ∧ recSize b = x.toNat := by
  refine ⟨b[3], List.getElem?_eq_getElem (by omega), ?_⟩
  unfold recSize
  rw [List.drop_eq_getElem_cons (by omega : 3 < b.length), List.take_succ_cons, List.take_zero]
  unfold wh
  simp only [List.foldl]
  omega
theorem wh8_lt (l : List UInt8) : wh (l.take 8) < 2 ^ 64 := by
  refine Nat.lt_of_lt_of_le (wh_lt _) ?_
  have : (l.take 8).length ≤ 8 := by simp; omega
  exact Nat.le_trans (Nat.pow_le_pow_right (by decide) this) (by decide)

set_option maxRecDepth 100000 in
set_option maxHeartbeats 1000000 in
theorem jrefDecode_short (a : Option Addr) (n c : Nat) (b : List UInt8) (w : World) (h : Win w a n c (b.map byt)) (hn : n ≠ 128) :
    Calls Try.prog 36 #[.slice a n c] w fun o w' => ∃ v, o = .returned (.tuple #[.int .u64 (decRecOf b).e, .int .u64 (decRecOf b).n, v, .int .i64 (decRecE b)]) ∧ OIn w.heap.size w' v (decRecOf b).p ∧ Fr No w w' := by
  have hbl : b.length = n := by have := h.len; simpa using this
  have hdec : decRec b = none := by
    unfold decRec
    refine if_neg (fun hc => hn (by rw [← hbl]; exact hc.1))
  have HD := Lib.hid (decRec_of_none hdec)
  have hd : (n == 128) = false := by simp; exact hn
  have hd' : (n != 128) = true := by simp; exact hn
  clear hdec hbl
  go_enter Try.func36, Try.ntmps36
  go_wp2
  refine bodyPost_ret (v := .tuple #[.int .u64 0, .int .u64 0, .slice none 0 0, .int .i64 80]) (by simp [results, Try.results36, go_sem]) rfl ?_
  refine ⟨.slice none 0 0, ?_, ?_, Fr.refl No w⟩
  · rw [HD.out.1, HD.out.2]; rfl
  · rw [HD.out.1]; exact OIn.nil _ _

set_option maxRecDepth 100000 in
set_option maxHeartbeats 1000000 in
theorem jrefDecode_128 (ad : Addr) (c : Nat) (b : List UInt8) (w : World) (h : Win w (some ad) 128 c (b.map byt)) :
    Calls Try.prog 36 #[.slice (some ad) 128 c] w fun o w' => ∃ v, o = .returned (.tuple #[.int .u64 (decRecOf b).e, .int .u64 (decRecOf b).n, v, .int .i64 (decRecE b)]) ∧ OIn w.heap.size w' v (decRecOf b).p ∧ Fr No w w' := by
  have hbl : b.length = 128 := by have := h.len; simpa using this
  have hcap := h.cap
  have hmax := h.max
  unfold maxLen at hmax
  have m12 : (12 : Int) ≤ (c : Int) := by omega
  have m20 : (20 : Int) ≤ (c : Int) := by omega
  have n4 : ¬ c = 4 := by omega
  have n12 : ¬ c = 12 := by omega
  have n20 : ¬ c = 20 := by omega
  obtain ⟨x, hx, hsz⟩ := recSize_at hbl
  have hcell : w.cell? ⟨ad.block, ad.off + 3, none⟩ = some (byt x) := by
    have := h.cell ad rfl 3 (byt x) (by rw [List.getElem?_map, hx]; rfl)
    simpa [Addr.add] using this
  obtain ⟨s, hs⟩ : ∃ s, s = x.toNat := ⟨_, rfl⟩
  unfold byt at hcell
  rw [← hs] at hcell hsz
  have hs2 : s < 256 := by rw [hs]; exact x.toNat_lt
  have HBL := Lib.hid hbl
  have HSZ := Lib.hid hsz
  have HW := Lib.hid h
  clear hbl hx hs hsz h
  by_cases h64 : 64 < s
  · have hdec : decRec b = none := by
      unfold decRec
      refine if_neg (fun hc => ?_)
      have := hc.2.1
      rw [HSZ.out] at this
      omega
    have HD := Lib.hid (decRec_of_none hdec)
    have hd : decide (64 < (s : Int)) = true := by simp; omega
    clear hdec
    go_enter Try.func36, Try.ntmps36
    go_wp2
    refine bodyPost_ret (v := .tuple #[.int .u64 0, .int .u64 0, .slice none 0 0, .int .i64 80]) (by simp [results, Try.results36, go_sem]) rfl ?_
    refine ⟨.slice none 0 0, ?_, ?_, Fr.refl No w⟩
    · rw [HD.out.1, HD.out.2]; rfl
    · rw [HD.out.1]; exact OIn.nil _ _
  · have hd : decide (64 < (s : Int)) = false := by simp; omega
    have hs64 : s ≤ 64 := by omega
    have hsc : (20 : Int) + (s : Int) ≤ (c : Int) := by omega
    go_enter Try.func36, Try.ntmps36
    go_wp2_with fail
    refine (whole_part HW.out (Fr.refl No w) 4 8 (by decide) (by decide) n4 (by decide)).mono ?_
    rintro o w1 ⟨rfl, rfl⟩
    go_wp2_with fail
    refine (whole_part HW.out (Fr.refl No w) 12 8 (by decide) (by decide) n12 (by decide)).mono ?_
    rintro o w1 ⟨rfl, rfl⟩
    go_wp2_with fail
    obtain ⟨p, hpd⟩ : ∃ p, p = (b.drop 20).take s := ⟨_, rfl⟩
    have hpl : s = p.length := by rw [hpd, List.length_take, List.length_drop, HBL.out]; omega
    have hwP : Win w (some ⟨ad.block, ad.off + 20, none⟩) s (c - 20) (p.map byt) := by
      have h1 := (HW.out.drop (k := 20) (by omega)).take (k := s) (by omega)
      rw [if_neg n20, ← List.map_drop, ← List.map_take, ← hpd] at h1
      have e : Option.map (·.add 20) (some ad) = some ⟨ad.block, ad.off + 20, none⟩ := by simp [Addr.add]
      rw [e] at h1
      exact h1
    have l4 := wh8_lt (b.drop 4)
    have l5 := wh8_lt (b.drop 12)
    obtain ⟨x4, h4⟩ : ∃ x4, x4 = wh ((b.drop 4).take 8) := ⟨_, rfl⟩
    obtain ⟨x5, h5⟩ : ∃ x5, x5 = wh ((b.drop 12).take 8) := ⟨_, rfl⟩
    rw [← h4] at l4 ⊢
    rw [← h5] at l5 ⊢
    have HX : Hid (b.length = 128 → s = recSize b ∧ x4 = wh ((b.drop 4).take 8) ∧ x5 = wh ((b.drop 12).take 8)) := fun _ => ⟨HSZ.out.symm, h4, h5⟩
    have HP : Hid (b.length = 128 → 20 + s ≤ 128 → p = (b.drop 20).take s) := fun _ _ => hpd
    clear hpd h4 h5
    refine (twin_any _ s _ p w hwP (by omega)).mono ?_
    rintro o w2 ⟨v2, rfl, o2, n2, _, f2⟩
    subst hpl
    have HO := Lib.hid (⟨o2, n2⟩ : OIn w.heap.size w2 v2 p)
    obtain ⟨a2, c2, rfl, wn2⟩ := Win.of_own o2
    have HWN := Lib.hid wn2
    have HW2 := Lib.hid (HW.out.no f2)
    clear hwP o2 n2 wn2 hcell
    rcases Bool.eq_false_or_eq_true (recOk x5 p.length) with hok | hok
    · have h50 : x5 ≠ 0 := by intro h0; simp [recOk, h0] at hok
      have H50 := Lib.hid h50
      clear hok h50
      go_wp2_with fail
      refine (jrefEncode_ok x4 x5 l4 l5 H50.out a2 c2 p hs64 _ HWN.out).mono ?_
      rintro o w6 ⟨v6, rfl, o6, f6⟩
      have ho6 := o6.own
      rw [recBytes_len x4 x5 p hs64] at ho6
      obtain ⟨a6, c6, rfl, wn6⟩ := Win.of_own ho6
      have hO7 := Lib.hid (HO.out.no f6)
      have hfin : Fr No w w6 := f2.thn f6
      have s1 := run_str (P := Try.prog) (src := 26) (dst := 9) Try.underlying26 Try.underlying5 Try.underlying9 wn6
      have s2 := run_str (P := Try.prog) (src := 26) (dst := 9) Try.underlying26 Try.underlying5 Try.underlying9 (HW2.out.no f6)
      clear o6 ho6 wn6
      by_cases heq : recBytes x4 x5 p = b
      · have HD := Lib.hid (decRec_of_some (rec_some HX.out HP.out H50.out hs64 heq))
        have hd : ((str (recBytes x4 x5 p)).toList == (str b).toList) = true := by rw [heq]; simp
        have hd' : ((str (recBytes x4 x5 p)).toList != (str b).toList) = false := by rw [heq]; simp
        clear heq
        go_wp2
        refine bodyPost_ret (v := .tuple #[.int .u64 x4, .int .u64 x5, .slice a2 p.length c2, .int .i64 0]) (by simp [results, Try.results36, go_sem]) rfl ?_
        refine ⟨.slice a2 p.length c2, ?_, ?_, hfin⟩
        · rw [HD.out.1, HD.out.2]
        · rw [HD.out.1]; exact hO7.out
      · have HD := Lib.hid (decRec_of_none (rec_none HX.out HP.out (.inr heq)))
        have hne : (str (recBytes x4 x5 p)).toList ≠ (str b).toList := by rw [str_list, str_list]; exact heq
        have hd : ((str (recBytes x4 x5 p)).toList == (str b).toList) = false := by simpa using hne
        have hd' : ((str (recBytes x4 x5 p)).toList != (str b).toList) = true := by simpa using hne
        clear heq hne
        go_wp2
        refine bodyPost_ret (v := .tuple #[.int .u64 0, .int .u64 0, .slice none 0 0, .int .i64 80]) (by simp [results, Try.results36, go_sem]) rfl ?_
        refine ⟨.slice none 0 0, ?_, ?_, hfin⟩
        · rw [HD.out.1, HD.out.2]; rfl
        · rw [HD.out.1]; exact OIn.nil _ _
    · have HD := Lib.hid (decRec_of_none (rec_none HX.out HP.out (.inl hok)))
      have HOK := Lib.hid hok
      clear hok
      go_wp2_with fail
      refine (jrefEncode_bad x4 x5 a2 p.length c2 HOK.out _).mono ?_
      rintro o w6 ⟨rfl, f6⟩
      have hfin : Fr No w w6 := f2.thn f6
      go_wp2
      refine bodyPost_ret (v := .tuple #[.int .u64 0, .int .u64 0, .slice none 0 0, .int .i64 80]) (by simp [results, Try.results36, go_sem]) rfl ?_
      refine ⟨.slice none 0 0, ?_, ?_, hfin⟩
      · rw [HD.out.1, HD.out.2]; rfl
      · rw [HD.out.1]; exact OIn.nil _ _

end Go.Proofs.Ytnkjhicokcmmpaa

/-
  What is handed in, opened: a type's reading as a predicate; a slice, a struct taken apart. No program in sight.
-/
namespace Go.Proofs.Ytnkjhicokcmmpaa
open Go.RowKit

/-- These cells read by that type. -/
def Rd (P : Program) (w : World) (t : TypeId) (cs : List Value) : Prop :=
  ∃ (H : Type) (enc : TypeId × Value → H) (fuel : Nat) (x : DataW H × List MemPlace), DataW.trod enc P w 0 (fun _ => true) true fuel t cs = some x

section
variable {P : Program} {w : World} {t : TypeId} {cs : List Value}
theorem Rd.of {H : Type} {enc : TypeId × Value → H} {v : Value} {d : DataW H} {p : List MemPlace} (h : DataW.Trod enc P w 0 (fun _ => true) true t v d p) : Rd P w t v.cells.toList := by
  obtain ⟨fuel, hf⟩ := h
  exact ⟨H, enc, fuel, _, hf⟩
theorem Rd.int {k : IntKind} (ht : P.underlying t = some (.int k)) (h : Rd P w t cs) : ∃ n, cs = [.int k n] ∧ (Lit.int k n).wf = true := by
  obtain ⟨H, enc, fuel, x, hf⟩ := h
  obtain ⟨n, h1, _, h2⟩ := DataW.trod_int ht hf
  exact ⟨n, h1, h2⟩
theorem Rd.bool (ht : P.underlying t = some .bool) (h : Rd P w t cs) : ∃ b, cs = [.bool b] := by
  obtain ⟨H, enc, fuel, x, hf⟩ := h
  obtain ⟨n, h1, _⟩ := DataW.trod_bool ht hf
  exact ⟨n, h1⟩
/-- An element of a slice: its cells, and that they read. -/
structure ElemAt (P : Program) (w : World) (e : TypeId) (size : Nat) (ad : Addr) (i : Nat) (cs : List Value) : Prop where
  len : cs.length = size
  rd : Rd P w e cs
  cell : ∀ (j : Nat) (u : Value), cs[j]? = some u → w.cell? ((ad.add (i * size)).add j) = some u
theorem Rd.slice {e : TypeId} {size : Nat} (ht : P.underlying t = some (.slice e)) (hs : P.cellsOf e = size) (h : Rd P w t cs) :
    ∃ a len cap, cs = [.slice a len cap] ∧ len ≤ cap ∧ cap ≤ maxLen ∧ (a = none → len = 0 ∧ cap = 0) ∧ ∀ ad, a = some ad → ∀ i, i < len → ∃ cs', ElemAt P w e size ad i cs' := by
  subst hs
  obtain ⟨H, enc, fuel, x, hf⟩ := h
  rcases Go.Deep.open_slice ht hf with ⟨h1, _⟩ | ⟨a, len, cap, m, n, D, Pl, h1, _, h2, h3, h4, _, h5⟩
  · exact ⟨none, 0, 0, h1, Nat.le_refl _, Nat.zero_le _, fun _ => ⟨rfl, rfl⟩, fun ad hd => (nomatch hd)⟩
  · refine ⟨some a, len, cap, h1, h2, h3, fun hd => (nomatch hd), ?_⟩
    rintro ad hd i hi
    cases hd
    obtain ⟨cs', h6, h7⟩ := h5 i (by simp only [if_true] at h4; omega)
    obtain ⟨_, h8, h9⟩ := World.cells?_some h6
    refine ⟨cs', h8, ⟨H, enc, n, _, h7⟩, fun j u hu => ?_⟩
    rw [h9 j (by have := (List.getElem?_eq_some_iff.1 hu).1; omega), hu]

/-- The fields of a struct: where each begins, and its type. -/
def fieldsOk (P : Program) (t : TypeId) (l : List (Nat × TypeId)) : Bool :=
  match P.underlying t with
  | some (.struct fs) => fs.toList.map (fun f => (f.offset, f.type)) == l
  | _ => false
theorem Rd.struct {l : List (Nat × TypeId)} (hok : fieldsOk P t l = true) (h : Rd P w t cs) : cs.length = P.cellsOf t ∧ ∀ (j o : Nat) (ft : TypeId), l[j]? = some (o, ft) → Rd P w ft ((cs.drop o).take (P.cellsOf ft)) := by
  unfold fieldsOk at hok
  split at hok
  · rename_i fs ht
    obtain ⟨H, enc, fuel, x, hf⟩ := h
    obtain ⟨xs, n, _, _, h1, h2, h3⟩ := DataW.trod_struct ht hf
    refine ⟨h1, fun j o ft hj => ?_⟩
    rw [beq_iff_eq] at hok
    rw [← hok, List.getElem?_map] at hj
    cases hfj : fs.toList[j]? with
    | none => rw [hfj] at hj; cases hj
    | some f =>
      rw [hfj] at hj
      simp only [Option.map_some, Option.some.injEq, Prod.mk.injEq] at hj
      obtain ⟨rfl, rfl⟩ := hj
      have hfj' : fs[j]? = some f := by simpa using hfj
      have h4 := h3 j f hfj'
      have hlt : j < xs.length := by rw [h2]; exact (Array.getElem?_eq_some_iff.1 hfj').1
      rw [List.getElem?_eq_getElem hlt] at h4
      exact ⟨H, enc, n, _, h4⟩
  · cases hok
end

theorem int64_of {cs : List Value} {P : Program} {w : World} {t : TypeId} (ht : P.underlying t = some (.int .i64)) (h : Rd P w t cs) {v : Value} (e : cs = [v]) : ∃ n : Int, v = .int .i64 n := by
  obtain ⟨n, h1, _⟩ := h.int ht
  rw [e] at h1
  cases h1
  exact ⟨n, rfl⟩

theorem u64_bd {n : Int} (h : (Lit.int .u64 n).wf = true) : 0 ≤ n ∧ n < 2 ^ 64 := by
  simp [Lit.wf, IntKind.min, IntKind.max, IntKind.signed, IntKind.bits] at h
  omega
theorem u32_bd {n : Int} (h : (Lit.int .u32 n).wf = true) : 0 ≤ n ∧ n < 2 ^ 32 := by
  simp [Lit.wf, IntKind.min, IntKind.max, IntKind.signed, IntKind.bits] at h
  omega
theorem u8_bd {n : Int} (h : (Lit.int .u8 n).wf = true) : 0 ≤ n ∧ n < 256 := by
  simp [Lit.wf, IntKind.min, IntKind.max, IntKind.signed, IntKind.bits] at h
  omega

/-- Bytes that are handed in. -/
theorem bytes_open {P : Program} {w : World} {t e : TypeId} (ht : P.underlying t = some (.slice e)) (he : P.underlying e = some (.int .u8)) (hc : P.cellsOf e = 1) {a : Option Addr} {n c : Nat} (h : Rd P w t [.slice a n c]) : ∃ bs : List UInt8, Win w a n c (bs.map byt) := by
  obtain ⟨a', n', c', e1, h1, h2, h3, h4⟩ := h.slice ht hc
  injection e1 with e1 _
  injection e1 with e1 e2 e3
  subst e1
  subst e2
  subst e3
  cases a with
  | none =>
    obtain ⟨rfl, rfl⟩ := h3 rfl
    exact ⟨[], Win.nilw w⟩
  | some ad =>
    have each : ∀ i, i < n → ∃ x : UInt8, w.cell? (ad.add i) = some (byt x) := by
      intro i hi
      obtain ⟨cs, he'⟩ := h4 ad rfl i hi
      obtain ⟨m, rfl, hw⟩ := he'.rd.int he
      have hb := u8_bd hw
      refine ⟨UInt8.ofNat m.toNat, ?_⟩
      have hcell := he'.cell 0 _ rfl
      rw [Nat.mul_one, add_zero] at hcell
      rw [hcell]
      unfold byt
      congr 2
      simp
      omega
    obtain ⟨f, hf⟩ := Go.Deep.choose_lt each
    refine ⟨(List.range n).map f, by simp, h1, h2, fun hd => (nomatch hd), fun ad' hd j u hu => ?_⟩
    cases hd
    simp only [List.map_map, List.getElem?_map] at hu
    cases hr : (List.range n)[j]? with
    | none => rw [hr] at hu; cases hu
    | some i =>
      rw [hr] at hu
      obtain ⟨hj, rfl⟩ := List.getElem?_eq_some_iff.1 hr
      simp only [List.length_range] at hj
      simp only [List.getElem_range] at hu
      cases hu
      exact hf j hj

/-! Arguments by their types. -/
section
open Go.ChangeShapes Go.WideShapes Go.ChangeAt
variable {P : Program} {w : World} {t : TypeId} {r : Reach} {b0 : Nat} {v : Value}
theorem arg_struct {l : List (Nat × TypeId)} (hok : fieldsOk P t l = true) (hv : Value.okWide P w r b0 t v) : ∃ cs, v = .agg cs := by
  unfold fieldsOk at hok
  split at hok
  · rename_i fs ht
    obtain ⟨cs, h, _⟩ := okWide_struct ht hv
    exact ⟨cs, h⟩
  · cases hok
theorem arg_int {H : Type} {enc : TypeId × Value → H} {d : DataW H} {p : List MemPlace} {k : IntKind} (ht : P.underlying t = some (.int k)) (hv : Value.okWide P w r b0 t v) (h : DataW.Trod enc P w 0 (fun _ => true) true t v d p) : ∃ n, v = .int k n ∧ (Lit.int k n).wf = true := by
  obtain ⟨a, h1, _, _, h2⟩ := open_int ht hv h
  exact ⟨a, h1, h2⟩
theorem arg_bool {H : Type} {enc : TypeId × Value → H} {d : DataW H} {p : List MemPlace} (ht : P.underlying t = some .bool) (hv : Value.okWide P w r b0 t v) (h : DataW.Trod enc P w 0 (fun _ => true) true t v d p) : ∃ b, v = .bool b := by
  obtain ⟨a, h1, _⟩ := open_bool ht hv h
  exact ⟨a, h1⟩
theorem arg_slice {e : TypeId} (ht : P.underlying t = some (.slice e)) (hv : Value.okWide P w r b0 t v) : ∃ a n c, v = .slice a n c := okWide_slice ht hv
/-- What was read reads as it did. -/
theorem again_all {H : Type} {enc : TypeId × Value → H} (hl : laidOutB P = true) {W W' : World} (hb : Below W.heap.size W W') : ∀ {ts : List TypeId} {vs : List Value} {ds : List (DataW H)} {ps : List MemPlace}, (ts.all fun t => P.readableRec t && decide (t < P.types.size)) = true → DataW.TrodAll enc P W 0 (fun _ => true) true ts vs ds ps → (∀ x ∈ ps, x.block < W.heap.size) →
    DataW.TrodAll enc P W' 0 (fun b => decide (b < W.heap.size)) true ts vs ds ps := by
  intro ts
  induction ts with
  | nil =>
    intro vs ds ps _ h _
    obtain ⟨rfl, rfl, rfl⟩ := trodAll_nil h
    exact trodAll_mk0
  | cons t ts ih =>
    intro vs ds ps hr h hlt
    obtain ⟨v, vs', d, ds', p, q, rfl, rfl, rfl, h1, h2⟩ := trodAll_cons h
    simp only [List.all_cons, Bool.and_eq_true, decide_eq_true_eq] at hr
    exact trodAll_cons_mk (Below.trod hl hr.1.1 hr.1.2 h1 hb (fun x hx => hlt x (List.mem_append.2 (.inl hx)))) (ih (by simpa using hr.2) h2 (fun x hx => hlt x (List.mem_append.2 (.inr hx))))
end

end Go.Proofs.Ytnkjhicokcmmpaa
