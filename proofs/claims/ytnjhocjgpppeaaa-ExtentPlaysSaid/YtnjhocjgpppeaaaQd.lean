/-
  Texts of this claim, laid together: Ts, Tt, Tz, Tfz, Open, Ty, Ik, Ia, Is, Pa, Pb, Pc, Pd, Pe, Pf, Iu.
-/
import Derived.Test.YtnjhocjgpppeaaaQc
import Derived.Test.YtnjhocjgpppeaaaQa
import Derived.Deep.SlicePairs
import Derived.ProofKit
import Derived.OpenShut
import Derived.Carry
import Derived.Lib.SmallJoins
import Derived.Deep.QuietTactic
import Derived.BigQuiet
import Derived.RegionTactic
import Derived.BigRegion
import Derived.Laws.OwnMore
import Derived.Lib.Hide
import Derived.Test.YtnjhocjgpppeaaaRows
import Derived.Shelf.Spec.SlicesInsertGrow
import Derived.Lib.AppendZerosOnto
import Derived.Deep.RegionLaw

namespace Go.Proofs.Ytnjhocjgpppeaaa.Sm
open Go Go.RowKit
mutual
theorem leA_ren (σ : Nat → Option Nat) : ∀ {x y : AV}, leA x y → leA (renA σ x) (renA σ y) := by
 intro x y h
 have h0 := h
 unfold leA at h
 split at h
 · simp only [renA]; unfold leA; trivial
 · simp only [renA]; exact h0
 · simp only [renA]; exact h0
 · simp only [renA]; exact h0
 · simp only [renA]; exact h0
 · simp only [renA]; exact h0
 · simp only [renA]; exact h0
 · simp only [renA]; exact h0
 · simp only [renA]; exact h0
 · simp only [renA]; exact h0
 · simp only [renA]; exact h0
 · subst h
   simp only [renA]
   split <;> simp [leA]
 · simp only [renA]; exact h0
 · obtain ⟨rfl, rfl⟩ := h; exact leA_refl _
 · simp only [renA]; exact h0
 · simp only [renA]; unfold leA; exact leL_ren σ h
 · simp only [renA]; unfold leA; exact leL_ren σ h
 · subst h; exact leA_refl _
theorem leL_ren (σ : Nat → Option Nat) : ∀ {l m : List AV}, leL l m → leL (renL σ l) (renL σ m)
 | [], [], _ => trivial
 | x :: l, y :: m, h => by
   unfold leL at h
   simp only [renL]; unfold leL
   exact ⟨leA_ren σ h.1, leL_ren σ h.2⟩
 | [], _ :: _, h => by simp [leL] at h
 | _ :: _, [], h => by simp [leL] at h
end
theorem leB_ren (σ : Nat → Option Nat) {B C : AB} (h : leB B C) : leB (renB σ B) (renB σ C) := by
 unfold leB at h
 split at h
 · simp only [renB]; unfold leB; trivial
 · obtain ⟨rfl, rfl, h⟩ := h
   exact ⟨rfl, rfl, leL_ren σ h⟩
 · exact h
 · exact h
 · subst h; rfl
 · subst h; exact leB_refl _
/-! What is bound by a value. -/
mutual
def bindA : AV → List (Nat × Prop)
 | .ptr i _ => [(i, True)]
 | .mp i => [(i, True)]
 | .ow i n => [(i, n ≠ 0)]
 | .agg l => bindL l
 | .tup l => bindL l
 | .fn _ l m => bindL l ++ bindL m
 | _ => []
def bindL : List AV → List (Nat × Prop)
 | [] => []
 | x :: l => bindA x ++ bindL l
end
mutual
theorem VR.bind {ρ : Env} : ∀ {x : AV} {u : Value}, VR ρ x u → ∀ p ∈ bindA x, p.2 → ρ p.1 ≠ none := by
 intro x u h p hp hc
 unfold bindA at hp
 split at hp
 · cases h with | ptr _ e => simp at hp; subst hp; rw [e]; nofun
 · cases h with | mp e => simp at hp; subst hp; rw [e]; nofun
 · cases h with
   | ow _ e => simp at hp; subst hp; rw [e]; nofun
   | ow0 => rw [List.mem_singleton.1 hp] at hc; exact absurd rfl hc
 · cases h with | agg e => exact VRs.bind e p hp hc
 · cases h with | tup e => exact VRs.bind e p hp hc
 · cases h with | fn _ e e' => exact (List.mem_append.1 hp).elim (fun hp => VRs.bind e p hp hc) (fun hp => VRs.bind e' p hp hc)
 · cases hp
theorem VRs.bind {ρ : Env} : ∀ {l : List AV} {vs : List Value}, VRs ρ l vs → ∀ p ∈ bindL l, p.2 → ρ p.1 ≠ none := by
 intro l vs h p hp hc
 cases l with
 | nil => cases hp
 | cons x l =>
   cases h with
   | cons e t =>
     unfold bindL at hp
     rcases List.mem_append.1 hp with hp | hp
     · exact VR.bind e p hp hc
     · exact VRs.bind t p hp hc
end
/-! The contract. -/
structure Ex where
 μ : List Nat
 args : List AV
 L : List AB
 res : AV
 L' : List AB
 E : List (Nat × AB)
 C : Prop
def putL (σ : Nat → Option Nat) : List Nat → List AB → Tr AB → Tr AB
 | i :: μ, B :: L, H => putL σ μ L (tput H i (renB σ B))
 | _, _, H => H
theorem putL_get {σ : Nat → Option Nat} : ∀ {μ : List Nat} {L : List AB} {H : Tr AB}, μ.Nodup → L.length = μ.length → ∀ q : Nat, (∀ j : Nat, μ[j]? = some q → (putL σ μ L H).get q = Option.map (renB σ) (L[j]?)) ∧ (q ∉ μ → (putL σ μ L H).get q = H.get q)
 | [], [], H, _, _, q => ⟨fun j h => by simp at h, fun _ => rfl⟩
 | i :: μ, B :: L, H, hn, hl, q => by
   obtain ⟨h1, h2⟩ := List.nodup_cons.1 hn
   have ih := putL_get (σ := σ) (H := tput H i (renB σ B)) h2 (by simpa using hl) q
   constructor
   · intro j hj
     cases j with
     | zero =>
       simp at hj
       subst hj
       show (putL σ μ L (tput H i (renB σ B))).get i = _
       rw [ih.2 h1, get_tput, if_pos rfl]; rfl
     | succ j => exact ih.1 j (by simpa using hj)
   · intro hq
     show (putL σ μ L (tput H i (renB σ B))).get q = _
     rw [ih.2 (fun h => hq (by simp [h])), get_tput, if_neg (fun e => hq (by simp [e]))]
 | [], _ :: _, _, _, hl, _ => by simp at hl
 | _ :: _, [], _, _, hl, _ => by simp at hl
def Ex.σ (e : Ex) (n : Nat) : Nat → Option Nat := outS e.μ (e.E.map (·.1)) n
def Ex.out (e : Ex) (H : Tr AB) (n : Nat) : (AV × Tr AB × Nat) × Prop :=
 ((renA (e.σ n) e.res, memF (e.E.map fun p => renB (e.σ n) p.2) n (putL (e.σ n) e.μ e.L' H), n + e.E.length), e.C)
def oneX (F : FuncId) (K : List AV → Tr AB → Option Ex) : CF := oneF F fun args H n => match K args H with
 | some e => some (e.out H n)
 | none => none
def endL : List AB → Nat → Tr AB → Prop
 | [], _, _ => True
 | B :: l, k, H => (∃ B0, H.get k = some B0 ∧ leB B0 B) ∧ endL l (k + 1) H
def endE : List (Nat × AB) → Tr AB → Prop
 | [], _ => True
 | p :: l, H => (∃ B0, H.get p.1 = some B0 ∧ leB B0 p.2) ∧ endE l H
theorem endL_at : ∀ {l : List AB} {k : Nat} {H : Tr AB}, endL l k H → ∀ j B, l[j]? = some B → ∃ B0, H.get (k + j) = some B0 ∧ leB B0 B
 | [], _, _, _, j, B, h => by simp at h
 | B :: l, k, H, he, j, C, h => by
   cases j with
   | zero => simp at h; subst h; exact he.1
   | succ j => have := endL_at he.2 j C (by simpa using h); rwa [show k + (j + 1) = k + 1 + j by omega]
theorem endE_at : ∀ {l : List (Nat × AB)} {H : Tr AB}, endE l H → ∀ p ∈ l, ∃ B0, H.get p.1 = some B0 ∧ leB B0 p.2
 | [], _, _, p, h => by simp at h
 | q :: l, H, he, p, h => by
   rcases List.mem_cons.1 h with rfl | h
   · exact he.1
   · exact endE_at he.2 p h
def Ex.end (e : Ex) (x : AV) (H' : Tr AB) (_ : Nat) : Prop := leA x e.res ∧ endL e.L' 0 H' ∧ endE e.E H'
def seenL (H : Tr AB) (σ : Nat → Option Nat) : List Nat → List AB → Prop
 | [], [] => True
 | i :: μ, C :: L => (∃ B, H.get i = some B ∧ B.live = true ∧ leB (renB σ B) C) ∧ seenL H σ μ L
 | _, _ => False
theorem seenL_at {H : Tr AB} {σ : Nat → Option Nat} : ∀ {μ : List Nat} {L : List AB}, seenL H σ μ L → L.length = μ.length ∧ ∀ j i : Nat, μ[j]? = some i → ∃ B, H.get i = some B ∧ B.live = true ∧ ∃ C, L[j]? = some C ∧ leB (renB σ B) C
 | [], [], _ => ⟨rfl, fun j i h => by simp at h⟩
 | i :: μ, C :: L, h => by
   obtain ⟨⟨B, h1, h2, h3⟩, h⟩ := h
   obtain ⟨g1, g2⟩ := seenL_at h
   refine ⟨by simp [g1], fun j k hj => ?_⟩
   cases j with
   | zero => simp at hj; subst hj; exact ⟨B, h1, h2, C, rfl, h3⟩
   | succ j => simpa using g2 j k (by simpa using hj)
 | [], _ :: _, h => by simp [seenL] at h
 | _ :: _, [], h => by simp [seenL] at h
structure Ex.Ok (e : Ex) (S : Sy) (P : Program) (f : FuncId) (args : List AV) (H : Tr AB) (n : Nat) : Prop where
 nd : e.μ.Nodup
 seen : seenL H (inS e.μ) e.μ e.L
 len : e.L'.length = e.μ.length
 arg : leL (renL (inS e.μ) args) e.args
 new : (e.E.map (·.1)).Nodup ∧ ∀ p ∈ e.E, e.μ.length ≤ p.1
 bnd : ∀ {w0 ρ w vs}, HR w0 ρ H n w → VRs ρ args vs → ∀ i ∈ e.μ, ρ i ≠ none ∨ ∀ (T : TypeId) (l : List AV), H.get i ≠ some (.mem T none l)
 st : (startF (tabOf P) f e.args (memF e.L 0 .e) e.μ.length).isSome = true
 run : To S P f (startOf P f e.args (memF e.L 0 .e) e.μ.length) e.end
theorem oneX_ok {S : Sy} {P : Program} (hok : S.Ok P) (ht : (P.funcs.toList.all fun fn => !(fn.name == "runtime.NumGoroutine")) = true) {F : FuncId} {fn : Func} (hF : P.funcs[F]? = some fn) (hb : fn.body.isSome = true) {K : List AV → Tr AB → Option Ex}
   (h : ∀ {args H n e}, K args H = some e → e.C → e.Ok S P F args H n) : FOk P (oneX F K) :=
 oneF_ok ht hF hb fun {args H n r} hk hC {w0 ρ w vs} hr hv => by
   split at hk
   · rename_i e he
     cases hk
     have o := h (n := n) he hC
     obtain ⟨F, hFt⟩ := hr.foot
     obtain ⟨hl, hseen⟩ := seenL_at o.seen
     have hbd := o.bnd hr hv
     have hkm : ∀ i ∈ e.μ, ∀ (T : TypeId) (l : List AV), H.get i = some (.mem T none l) → ρ i ≠ none := fun i hi T l hq => (hbd i hi).elim id (fun h => absurd hq (h T l))
     have hin := hr.inner hFt o.nd hl hseen hkm
     have hva : VRs (inEnv ρ e.μ) e.args vs := leL_VRs o.arg (hv.ren (inEnv_ren o.nd))
     refine (To.calls hok (startOf_some o.st) o.run hin hva).mono ?_
     rintro ev w' ⟨x, H', n', ρ', v, ⟨h1, h2, h3⟩, rfl, hx, hr'⟩
     have hE : ∀ p j : Nat, (e.E.map (·.1))[p]? = some j → ∃ q, e.E[p]? = some q ∧ q.1 = j := fun p j hp => by
       rw [List.getElem?_map] at hp
       cases hq : e.E[p]? with
       | none => rw [hq] at hp; cases hp
       | some q => rw [hq] at hp; cases hp; exact ⟨q, rfl, rfl⟩
     have hlt : ∀ i ∈ e.μ, i < n := fun i hi => by
       rcases Nat.lt_or_ge i n with h | h
       · exact h
       · obtain ⟨j, hj⟩ := List.mem_iff_getElem?.1 hi
         obtain ⟨B, g1, _⟩ := hseen j i hj
         rw [(hr.top h).2] at g1; cases g1
     have hput := fun q => putL_get (σ := e.σ n) (H := H) o.nd o.len q
     have hmem : ∀ q, (memF (e.E.map fun p => renB (e.σ n) p.2) n (putL (e.σ n) e.μ e.L' H)).get q = if n ≤ q ∧ q < n + e.E.length then (e.E.map fun p => renB (e.σ n) p.2)[q - n]? else (putL (e.σ n) e.μ e.L' H).get q := fun q => by
       rw [memF_get, List.length_map]
     have key := hr.outer (H2 := memF (e.E.map fun p => renB (e.σ n) p.2) n (putL (e.σ n) e.μ e.L' H)) (E := e.E.map (·.1)) hFt o.nd (fun i hi => by
         obtain ⟨j, hj⟩ := List.mem_iff_getElem?.1 hi
         obtain ⟨B, g1, g2, _⟩ := hseen j i hj
         exact ⟨B, g1, g2, fun T l e => hkm i hi T l (by rw [g1, e])⟩) o.new.1 (fun j hj => by
         obtain ⟨p, hp, rfl⟩ := List.mem_map.1 hj
         exact o.new.2 p hp) hr' (fun q hq hm => by
         rw [hmem, if_neg (by omega)]
         exact (hput q).2 hm) (fun j i hj => by
         have hi := List.mem_of_getElem? hj
         have := hlt i hi
         have hjl : j < e.μ.length := (List.getElem?_eq_some_iff.1 hj).1
         obtain ⟨B0, g1, g2⟩ := endL_at h2 j _ (List.getElem?_eq_getElem (by rw [o.len]; exact hjl))
         refine ⟨_, ?_, B0, by rwa [Nat.zero_add] at g1, leB_ren _ g2⟩
         rw [hmem, if_neg (by omega), (hput i).1 j hj, List.getElem?_eq_getElem (by rw [o.len]; exact hjl)]; rfl) (fun p j hp => by
         obtain ⟨q, hq, rfl⟩ := hE p j hp
         have hpl : p < e.E.length := (List.getElem?_eq_some_iff.1 hq).1
         obtain ⟨B0, g1, g2⟩ := endE_at h3 q (List.mem_of_getElem? hq)
         refine ⟨_, ?_, B0, g1, leB_ren _ g2⟩
         rw [hmem, if_pos (by omega), Nat.add_sub_cancel_left, List.getElem?_map, hq]; rfl) (fun q hq => by
         rw [List.length_map] at hq
         rw [hmem, if_neg (by omega)]
         by_cases hm : q ∈ e.μ
         · have := hlt q hm; omega
         · rw [(hput q).2 hm]; exact (hr.top (by omega)).2)
     rw [List.length_map] at key
     exact ⟨_, v, rfl, (leA_VR h1 hx).ren (outS_ren hr hlt o.new.1 hr'), key.1, key.2⟩
   · cases hk
def slotL (l : List (Nat × AV)) : Nat → Nat → List AV
 | 0, _ => []
 | n + 1, k => (match getS k l with | some x => x | none => .any) :: slotL l n (k + 1)
def slotT (n : Nat) (l : List (Nat × AV)) : Tr AV := argsT (slotL l n 0) 0 .e
def kidsC : Code → List Code
 | .seq a b => [a, b]
 | .cond _ a b => [a, b]
 | .block _ b => [b]
 | .loop b => [b]
 | .rangeFunc _ _ a b => [a, b]
 | .scope b => [b]
 | _ => []
def subC (c : Code) : List Nat → Code
 | [] => c
 | i :: p => match (kidsC c)[i]? with
   | some d => subC d p
   | none => c
def bodyC (P : Program) (f : FuncId) : Code := match tabOf P f with
 | some fn => (match fn.body with | some b => b | none => .skip)
 | none => .skip
def plC (c : Code) (k : Nat) : ARg := match c with
 | .region _ ops _ => .pl ops (ops.toList.drop k)
 | _ => .no
section
variable {S : Sy} {P : Program} {f : FuncId} {s : ASt} {Q : AV → Tr AB → Nat → Prop}
theorem To.loopX {α : Type} {L : List LN} {kp : List Nat} {ks : List (List Nat)} {st : α → ASt} (ov : α → List (Nat × AV)) (ob : α → List (Nat × AB)) (I : α → Prop) (m : α → Nat) (a : α) (hI : I a) (hB : cutB L ks (ob a) s = true) {C : Prop} (hC : cutC L kp ks (ov a) (ob a) s = C) (hc : C) (he : cutS L kp ks (ov a) (ob a) s = st a)
   (step : ∀ a, I a → (∀ b, I b → m b < m a → To S P f (st b) Q) → To S P f (st a) Q) : To S P f s Q := by
 refine To.cut hB (hC ▸ hc) (he ▸ ?_)
 have key : ∀ (k : Nat) (a : α), m a < k → I a → To S P f (st a) Q := by
   intro k
   induction k with
   | zero => intro a h; omega
   | succ k ih => intro a h hI; exact step a hI fun b hIb hlt => ih b (by omega) hIb
 exact key _ a (Nat.lt_succ_self _) hI
theorem To.backX {s2 : ASt} {L : List LN} {kp : List Nat} {ks : List (List Nat)} {ov : List (Nat × AV)} {ob : List (Nat × AB)} (h : To S P f s2 Q) (hB : cutB L ks ob s = true) {C : Prop} (hC : cutC L kp ks ov ob s = C) (hc : C) (he : cutS L kp ks ov ob s = s2) : To S P f s Q :=
 To.cut hB (hC ▸ hc) (he ▸ h)
end
/-! The same, told shorter: what is plainly so is found by itself. -/
@[reducible] def Same {α : Sort _} (x : α) : Prop := x = x
theorem same_rfl {α : Sort _} {x : α} : Same x := rfl
theorem cl {C : Prop} (h : C := by first | exact True.intro | with_reducible exact same_rfl | with_reducible rfl | omega | with_reducible assumption | with_reducible exact fun _ _ => rfl | (refine fits_i64 ?_ ?_ <;> omega) | (refine fits_u64 ?_ ?_ <;> omega)) : C := h
section
variable {S : Sy} {P : Program} {f : FuncId} {s : ASt} {Q : AV → Tr AB → Nat → Prop}
theorem To.R (k : Nat := 5000) (C : Prop := True) (hC : asks S P k s = C := by kernel_rfl) (hc : C := by and_intros <;> exact cl) (h : To S P f (Sm.seg S P k s) Q) (hok : S.Ok P := by assumption) : To S P f s Q := To.run hok k hC hc h
theorem To.B (b : Bool) (C : Prop := True) (h1 : asksV S P true s = (b = true ∧ C) := by kernel_rfl) (h2 : asksV S P false s = (b = false ∧ C) := by kernel_rfl) (hc : C := by and_intros <;> exact cl) (h : b = true → To S P f (Sm.next S P true s) Q) (g : b = false → To S P f (Sm.next S P false s) Q) (hok : S.Ok P := by assumption) : To S P f s Q := To.br hok b h1 h2 hc h g
theorem To.Bd (p : Prop) [Decidable p] (C : Prop := True) (h1 : asksV S P true s = (decide p = true ∧ C) := by kernel_rfl) (h2 : asksV S P false s = (decide p = false ∧ C) := by kernel_rfl) (hc : C := by and_intros <;> exact cl) (h : p → To S P f (Sm.next S P true s) Q) (g : ¬ p → To S P f (Sm.next S P false s) Q) (hok : S.Ok P := by assumption) : To S P f s Q := To.brd hok p h1 h2 hc h g
theorem To.Bn (p : Prop) [Decidable p] (C : Prop := True) (h1 : asksV S P true s = ((!decide p) = true ∧ C) := by kernel_rfl) (h2 : asksV S P false s = ((!decide p) = false ∧ C) := by kernel_rfl) (hc : C := by and_intros <;> exact cl) (h : ¬ p → To S P f (Sm.next S P true s) Q) (g : p → To S P f (Sm.next S P false s) Q) (hok : S.Ok P := by assumption) : To S P f s Q := To.brn hok p h1 h2 hc h g
theorem To.Y (b : Bool) (C : Prop := True) (hp : b = true := by and_intros <;> exact cl) (hC : asksV S P true s = (b = true ∧ C) := by kernel_rfl) (hc : C := by and_intros <;> exact cl) (h : To S P f (Sm.next S P true s) Q) (hok : S.Ok P := by assumption) : To S P f s Q := To.yes hok b hp hC hc h
theorem To.N (b : Bool) (C : Prop := True) (hp : b = false := by and_intros <;> exact cl) (hC : asksV S P false s = (b = false ∧ C) := by kernel_rfl) (hc : C := by and_intros <;> exact cl) (h : To S P f (Sm.next S P false s) Q) (hok : S.Ok P := by assumption) : To S P f s Q := To.no hok b hp hC hc h
theorem To.Yd (p : Prop) [Decidable p] (C : Prop := True) (hp : p := by and_intros <;> exact cl) (hC : asksV S P true s = (decide p = true ∧ C) := by kernel_rfl) (hc : C := by and_intros <;> exact cl) (h : To S P f (Sm.next S P true s) Q) (hok : S.Ok P := by assumption) : To S P f s Q := To.yesd hok p hp hC hc h
theorem To.Nd (p : Prop) [Decidable p] (C : Prop := True) (hp : ¬ p := by and_intros <;> exact cl) (hC : asksV S P false s = (decide p = false ∧ C) := by kernel_rfl) (hc : C := by and_intros <;> exact cl) (h : To S P f (Sm.next S P false s) Q) (hok : S.Ok P := by assumption) : To S P f s Q := To.nod hok p hp hC hc h
theorem To.Yn (p : Prop) [Decidable p] (C : Prop := True) (hp : ¬ p := by and_intros <;> exact cl) (hC : asksV S P true s = ((!decide p) = true ∧ C) := by kernel_rfl) (hc : C := by and_intros <;> exact cl) (h : To S P f (Sm.next S P true s) Q) (hok : S.Ok P := by assumption) : To S P f s Q := To.yesn hok p hp hC hc h
theorem To.Nn (p : Prop) [Decidable p] (C : Prop := True) (hp : p := by and_intros <;> exact cl) (hC : asksV S P false s = ((!decide p) = false ∧ C) := by kernel_rfl) (hc : C := by and_intros <;> exact cl) (h : To S P f (Sm.next S P false s) Q) (hok : S.Ok P := by assumption) : To S P f s Q := To.non hok p hp hC hc h
theorem To.L {α : Type} (ov : α → List (Nat × AV)) (ob : α → List (Nat × AB)) (I : α → Prop) (m : α → Nat) (a : α) (L : List LN) (kp : List Nat) (ks : List (List Nat) := []) (st : α → ASt) (hI : I a := by and_intros <;> exact cl) (C : Prop := True) (hc : C := by and_intros <;> exact cl)
   (h : ∀ a, I a → (∀ b, I b → m b < m a → To S P f (st b) Q) → To S P f (st a) Q) (hB : cutB L ks (ob a) s = true := by kernel_rfl) (hC : cutC L kp ks (ov a) (ob a) s = C := by kernel_rfl) (he : cutS L kp ks (ov a) (ob a) s = st a := by kernel_rfl) : To S P f s Q := To.loopX ov ob I m a hI hB hC hc he h
theorem To.K {s2 : ASt} (h : To S P f s2 Q) (L : List LN) (kp : List Nat) (ks : List (List Nat) := []) (ov : List (Nat × AV) := []) (ob : List (Nat × AB) := []) (C : Prop := True) (hc : C := by and_intros <;> exact cl) (hB : cutB L ks ob s = true := by kernel_rfl) (hC : cutC L kp ks ov ob s = C := by kernel_rfl) (he : cutS L kp ks ov ob s = s2 := by kernel_rfl) : To S P f s Q :=
 To.backX h hB hC hc he
theorem To.E (x : AV) (h : finalE P (tabOf P) f s = some x := by kernel_rfl) (hq : Q x s.H s.n) : To S P f s Q := To.end x h hq
end
theorem Ex.calls {S : Sy} {P : Program} (hok : S.Ok P) {f : FuncId} {e : Ex} {args : List AV} {H : Tr AB} {n : Nat} (o : e.Ok S P f args H n) {w0 : Bs} {ρ : Env} {w : World} {vs : List Value} (hr : HR w0 ρ H n w) (hv : VRs ρ args vs) :
   Calls P f vs.toArray w (fun ev w' => ∃ ρ' v, ev = .returned v ∧ VR ρ' (e.out H n).1.1 v ∧ HR w0 ρ' (e.out H n).1.2.1 (e.out H n).1.2.2 w' ∧ Ext ρ ρ' H (e.out H n).1.2.1 n (e.out H n).1.2.2) := by
 obtain ⟨F, hFt⟩ := hr.foot
 obtain ⟨hl, hseen⟩ := seenL_at o.seen
 have hbd := o.bnd hr hv
 have hkm : ∀ i ∈ e.μ, ∀ (T : TypeId) (l : List AV), H.get i = some (.mem T none l) → ρ i ≠ none := fun i hi T l hq => (hbd i hi).elim id (fun h => absurd hq (h T l))
 have hin := hr.inner hFt o.nd hl hseen hkm
 have hva : VRs (inEnv ρ e.μ) e.args vs := leL_VRs o.arg (hv.ren (inEnv_ren o.nd))
 refine (To.calls hok (startOf_some o.st) o.run hin hva).mono ?_
 rintro ev w' ⟨x, H', n', ρ', v, ⟨h1, h2, h3⟩, rfl, hx, hr'⟩
 have hE : ∀ p j : Nat, (e.E.map (·.1))[p]? = some j → ∃ q, e.E[p]? = some q ∧ q.1 = j := fun p j hp => by
   rw [List.getElem?_map] at hp
   cases hq : e.E[p]? with
   | none => rw [hq] at hp; cases hp
   | some q => rw [hq] at hp; cases hp; exact ⟨q, rfl, rfl⟩
 have hlt : ∀ i ∈ e.μ, i < n := fun i hi => by
   rcases Nat.lt_or_ge i n with h | h
   · exact h
   · obtain ⟨j, hj⟩ := List.mem_iff_getElem?.1 hi
     obtain ⟨B, g1, _⟩ := hseen j i hj
     rw [(hr.top h).2] at g1; cases g1
 have hput := fun q => putL_get (σ := e.σ n) (H := H) o.nd o.len q
 have hmem : ∀ q, (memF (e.E.map fun p => renB (e.σ n) p.2) n (putL (e.σ n) e.μ e.L' H)).get q = if n ≤ q ∧ q < n + e.E.length then (e.E.map fun p => renB (e.σ n) p.2)[q - n]? else (putL (e.σ n) e.μ e.L' H).get q := fun q => by
   rw [memF_get, List.length_map]
 have key := hr.outer (H2 := memF (e.E.map fun p => renB (e.σ n) p.2) n (putL (e.σ n) e.μ e.L' H)) (E := e.E.map (·.1)) hFt o.nd (fun i hi => by
     obtain ⟨j, hj⟩ := List.mem_iff_getElem?.1 hi
     obtain ⟨B, g1, g2, _⟩ := hseen j i hj
     exact ⟨B, g1, g2, fun T l e => hkm i hi T l (by rw [g1, e])⟩) o.new.1 (fun j hj => by
     obtain ⟨p, hp, rfl⟩ := List.mem_map.1 hj
     exact o.new.2 p hp) hr' (fun q hq hm => by
     rw [hmem, if_neg (by omega)]
     exact (hput q).2 hm) (fun j i hj => by
     have hi := List.mem_of_getElem? hj
     have := hlt i hi
     have hjl : j < e.μ.length := (List.getElem?_eq_some_iff.1 hj).1
     obtain ⟨B0, g1, g2⟩ := endL_at h2 j _ (List.getElem?_eq_getElem (by rw [o.len]; exact hjl))
     refine ⟨_, ?_, B0, by rwa [Nat.zero_add] at g1, leB_ren _ g2⟩
     rw [hmem, if_neg (by omega), (hput i).1 j hj, List.getElem?_eq_getElem (by rw [o.len]; exact hjl)]; rfl) (fun p j hp => by
     obtain ⟨q, hq, rfl⟩ := hE p j hp
     have hpl : p < e.E.length := (List.getElem?_eq_some_iff.1 hq).1
     obtain ⟨B0, g1, g2⟩ := endE_at h3 q (List.mem_of_getElem? hq)
     refine ⟨_, ?_, B0, g1, leB_ren _ g2⟩
     rw [hmem, if_pos (by omega), Nat.add_sub_cancel_left, List.getElem?_map, hq]; rfl) (fun q hq => by
     rw [List.length_map] at hq
     rw [hmem, if_neg (by omega)]
     by_cases hm : q ∈ e.μ
     · have := hlt q hm; omega
     · rw [(hput q).2 hm]; exact (hr.top (by omega)).2)
 rw [List.length_map] at key
 exact ⟨_, v, rfl, (leA_VR h1 hx).ren (outS_ren hr hlt o.new.1 hr'), key.1, key.2⟩
def oneXG (F : FuncId) (K : List AV → Tr AB → Option (Bool × Prop × (Bool → Ex))) : CG := oneG F fun args H => match K args H with
 | some r => some (r.1, r.2.1, fun n v => ((r.2.2 v).out H n).1)
 | none => none
theorem oneXG_ok {S : Sy} {P : Program} (hok : S.Ok P) (ht : (P.funcs.toList.all fun fn => !(fn.name == "runtime.NumGoroutine")) = true) {F : FuncId} {fn : Func} (hF : P.funcs[F]? = some fn) (hb : fn.body.isSome = true) {K : List AV → Tr AB → Option (Bool × Prop × (Bool → Ex))}
   (h : ∀ {args H n r}, K args H = some r → r.2.1 → (r.2.2 r.1).Ok S P F args H n) : GOk P (oneXG F K) :=
 oneG_ok ht hF hb fun {args H r} hk hC {w0 ρ w vs n} hr hv => by
   split at hk
   · rename_i q hq
     cases hk
     exact Ex.calls hok (h (n := n) hq hC) hr hv
   · cases hk
theorem endL_cons {B0 B : AB} {l : List AB} {k : Nat} {H : Tr AB} (h : H.get k = some B0) (hl : leB B0 B) (t : endL l (k + 1) H) : endL (B :: l) k H := ⟨⟨B0, h, hl⟩, t⟩
theorem endL_nil {k : Nat} {H : Tr AB} : endL [] k H := trivial
theorem endE_cons {B0 B : AB} {q : Nat} {l : List (Nat × AB)} {H : Tr AB} (h : H.get q = some B0) (hl : leB B0 B) (t : endE l H) : endE ((q, B) :: l) H := ⟨⟨B0, h, hl⟩, t⟩
theorem endE_nil {H : Tr AB} : endE [] H := trivial
theorem of_eqP {P C : Prop} (h : P = C) (c : C) : P := h ▸ c
/-! The state. -/
def noGz (i : Nat) (H : Tr AB) : Nat → Nat → Bool
 | 0, _ => true
 | k + 1, s => (match H.get s with | some (.mem _ none l) => noL i l | _ => true) && noGz i H k (s + 1)
section
variable {w0 : Bs} {w : World} {ρ : Env} {H : Tr AB} {n i : Nat} {B : AB} {y : Bool}
end
section
variable {S : Sy} {P : Program} {f : FuncId} {s : ASt} {Q : AV → Tr AB → Nat → Prop}
end
/-! Rows are told less closely. -/
theorem bare_VRs' {ρ : Env} : ∀ {l : List AV} {us : List Value}, VRs0 ρ.im l us → VRs ρ l us
 | _, _, .nil => .nil
 | _, _, .cons e t => .cons (bare_VR e) (bare_VRs' t)
theorem leL_VRs0 {I : Im} {l m : List AV} {us : List Value} (h : leL l m) (hb : bareL m = true) (k : VRs0 I l us) : VRs0 I m us :=
 bareL_VRs (ρ := ⟨fun _ => none, I⟩) hb (leL_VRs h (bare_VRs' (ρ := ⟨fun _ => none, I⟩) k))
theorem HR.rows {w0 : Bs} {w : World} {ρ : Env} {H : Tr AB} {n i : Nat} {T : TypeId} {ww m : Nat} {f f' : Nat → List AV} (hr : HR w0 ρ H n w) (hB : H.get i = some (.rw T ww m f)) (hA : ∀ r, r < m → leL (f r) (f' r) ∧ bareL (f' r) = true) : HR w0 ρ (tput H i (.rw T ww m f')) n w := by
 obtain ⟨F, hF⟩ := hr.foot
 have hin : i < n := by
   rcases Nat.lt_or_ge i n with h | h
   · exact h
   · rw [(hr.top h).2] at hB; cases hB
 have get : ∀ {j : Nat} {C : AB}, (tput H i (.rw T ww m f')).get j = some C → ∃ D, H.get j = some D ∧ D.live = C.live ∧ D.isObj = C.isObj ∧ (j ≠ i → C = D) ∧ ∀ x, C = .obj x → D = .obj x := fun {j C} hq => by
   rw [get_tput] at hq
   split at hq
   · rename_i e; subst e; cases hq; exact ⟨_, hB, rfl, rfl, fun h => absurd rfl h, fun x h => by cases h⟩
   · exact ⟨C, hq, rfl, rfl, fun _ => rfl, fun _ h => h⟩
 refine ⟨fun {j b c C} h1 h2 => ?_, ⟨F, fun h1 h2 h3 => ?_, fun h1 h2 => ?_, fun h1 h2 h3 h4 h5 h6 => ?_, fun h1 h2 h3 => ?_⟩, fun {j} hj => ⟨(hr.top hj).1, ?_⟩, hr.base, hr.fr, hr.le, hr.im, hr.imn, fun {j} hk => ⟨(hr.kb hk).1, (hr.kb hk).2.1, fun T' l => ?_⟩⟩
 · rw [get_tput] at h2
   split at h2
   · rename_i e
     subst e
     cases h2
     obtain ⟨o, ho, vs, sp, g1, g2, g3, g4, g5, g6⟩ := hr.blk h1 hB
     exact ⟨o, ho, vs, sp, g1, g2, g3, g4, g5, fun r hr' => leL_VRs0 (hA r hr').1 (hA r hr').2 (g6 r hr')⟩
   · exact hr.blk h1 h2
 · obtain ⟨D, g1, g2, g3, _, _⟩ := get h2
   rw [← g3]; exact hF.one h1 g1 (g2.trans h3)
 · obtain ⟨D, g1, _, _, _, g5⟩ := get h2
   exact hF.obj h1 (g5 _ rfl ▸ g1)
 · obtain ⟨D, g1, g2, _⟩ := get h3
   obtain ⟨D', k1, k2, _⟩ := get h4
   exact hF.apart h1 h2 g1 k1 (g2.trans h5) (k2.trans h6)
 · obtain ⟨D, g1, g2, _⟩ := get h2
   exact hF.there h1 g1 (g2.trans h3)
 · rw [get_tput, if_neg (by omega)]; exact (hr.top hj).2
 · rw [get_tput]
   split
   · exact nofun
   · exact (hr.kb hk).2.2 T' l
def rowS (i : Nat) (f' : Nat → List AV) (s : ASt) : ASt := ⟨s.fr, s.cs, (match s.H.get i with | some (.rw T w n _) => tput s.H i (.rw T w n f') | _ => s.H), s.n⟩
def rowOk (s : ASt) : Bool := okRg s.fr.rg
def rowAsk (i : Nat) (f' : Nat → List AV) (s : ASt) : Prop := match s.H.get i with
 | some (.rw _ _ n f) => ∀ r, r < n → leL (f r) (f' r) ∧ bareL (f' r) = true
 | _ => True
theorem SR.rows [Kx] {P : Program} {w0 : Bs} {s : ASt} {fr : Frame} {cs : List Frame} {w : World} {i : Nat} {f' : Nat → List AV} (h : SR P w0 s fr cs w) (hok : rowOk s = true) (hA : rowAsk i f' s) : SR P w0 (rowS i f' s) fr cs w := by
 obtain ⟨ρ, hr, hf, hlo, hst⟩ := h
 unfold rowAsk at hA
 unfold rowS
 split at hA
 · rename_i T ww m f hB
   have hkeep : ∀ g, Keeps s.H (tput s.H i (.rw T ww m f')) g := fun g T' l hq => by
     rw [get_tput]
     split
     · rename_i e; subst e; rw [hB] at hq; cases hq
     · exact hq
   refine ⟨ρ, hr.rows hB hA, ?_, hlo, ?_⟩
   · obtain ⟨front, rest, g1, g2, g3⟩ := hf.todo
     refine ⟨hf.fn, hf.kind, hf.mode, hf.ds, hf.ro, front, rest, g1, g2, ?_⟩
     show RgR P _ _ s.fr.lo s.n true s.fr.nt _ s.fr.rg front fr.tmps
     unfold rowOk at hok
     cases hrg : s.fr.rg with
     | no => rw [hrg] at g3; exact g3
     | pl ops l => rw [hrg] at g3; exact g3
     | dr => rw [hrg] at hok; cases hok
   · exact hst.mono (Env.le_refl _) fun g _ hn => ⟨hn, hkeep g⟩
 · exact ⟨ρ, hr, hf, hlo, hst⟩
section
variable {S : Sy} {P : Program} {f : FuncId} {s : ASt} {Q : AV → Tr AB → Nat → Prop}
theorem To.rows (i : Nat) (f' : Nat → List AV) (hok : rowOk s = true) {C : Prop} (hC : rowAsk i f' s = C) (hc : C) (h : To S P f (rowS i f' s) Q) : To S P f s Q :=
 fun w0 base fr cs w hr => h w0 base fr cs w (@SR.rows S.true_ _ _ _ _ _ _ _ _ hr hok (hC ▸ hc))
end
/-! A bool that is not written out, in a slot. -/
def setS (t : Nat) (v : AV) (s : ASt) : ASt := ⟨{ s.fr with T := tput s.fr.T t v }, s.cs, s.H, s.n⟩
theorem SR.setS [Kx] {P : Program} {w0 : Bs} {s : ASt} {fr : Frame} {cs : List Frame} {w : World} {t : Nat} {x : Value} (h : SR P w0 s fr cs w) (hok : rowOk s = true) (ht : At s.fr.T t = .sy x) : SR P w0 (Sm.setS t (.v x) s) fr cs w := by
 obtain ⟨ρ, hr, hf, hlo, hst⟩ := h
 refine ⟨ρ, hr, ?_, hlo, hst⟩
 obtain ⟨front, rest, g1, g2, g3⟩ := hf.todo
 have tr : ∀ {ts : Array Value}, TR ρ s.fr.nt s.fr.T ts → TR ρ s.fr.nt (tput s.fr.T t (.v x)) ts := fun h => ⟨h.1, fun q => by
   have e : At (tput s.fr.T t (.v x)) q = if q = t then .v x else At s.fr.T q := by
     unfold At
     rw [get_tput]
     by_cases h : q = t
     · simp [h]
     · simp [h]
   rw [e]
   split
   · rename_i hq
     subst hq
     have := h.2 q
     rw [ht] at this
     cases this
     exact .v _
   · exact h.2 q⟩
 refine ⟨hf.fn, hf.kind, hf.mode, hf.ds, hf.ro, front, rest, g1, g2, ?_⟩
 show RgR P ρ s.H s.fr.lo s.n true s.fr.nt _ s.fr.rg front fr.tmps
 unfold rowOk at hok
 cases hrg : s.fr.rg with
 | no => rw [hrg] at g3; exact ⟨g3.1, tr g3.2⟩
 | pl ops l => rw [hrg] at g3; exact ⟨g3.1, tr g3.2⟩
 | dr => rw [hrg] at hok; cases hok
section
variable {S : Sy} {P : Program} {f : FuncId} {s : ASt} {Q : AV → Tr AB → Nat → Prop}
theorem To.bool1 (t : Nat) {b : Bool} (c : Bool) (ht : At s.fr.T t = .sy (.bool b)) (hok : rowOk s = true) (hb : b = c) (h : To S P f (Sm.setS t (.v (.bool c)) s) Q) : To S P f s Q :=
 fun w0 base fr cs w hr => h w0 base fr cs w (by subst hb; exact @SR.setS S.true_ _ _ _ _ _ _ _ _ hr hok ht)
theorem To.bool2 (t : Nat) (b : Bool) (ht : At s.fr.T t = .sy (.bool b)) (hok : rowOk s = true) (h1 : b = true → To S P f (Sm.setS t (.v (.bool true)) s) Q) (h2 : b = false → To S P f (Sm.setS t (.v (.bool false)) s) Q) : To S P f s Q := by
 cases hb : b with
 | true => exact To.bool1 t true ht hok hb (h1 hb)
 | false => exact To.bool1 t false ht hok hb (h2 hb)
end
end Go.Proofs.Ytnjhocjgpppeaaa.Sm
/-
 What is handed in, opened: a type's reading as a predicate; a slice, a struct taken apart. No program in sight.
-/
namespace Go.Proofs.Ytnjhocjgpppeaaa
open Go.RowKit
def Rd (P : Program) (w : World) (t : TypeId) (cs : List Value) : Prop :=
 ∃ (H : Type) (enc : TypeId × Value → H) (fuel : Nat) (x : DataW H × List MemPlace), DataW.trod enc P w 0 (fun _ => true) true fuel t cs = some x
section
variable {P : Program} {w : World} {t : TypeId} {cs : List Value}
theorem Rd.of {H : Type} {enc : TypeId × Value → H} {v : Value} {d : DataW H} {p : List MemPlace} (h : DataW.Trod enc P w 0 (fun _ => true) true t v d p) : Rd P w t v.cells.toList := by
 obtain ⟨fuel, hf⟩ := h
 exact ⟨H, enc, fuel, _, hf⟩
theorem Rd.int {k : IntKind} (ht : P.underlying t = some (.int k)) (h : Rd P w t cs) : ∃ n, cs = [.int k n] ∧ (Lit.int k n).wf = true := by
 obtain ⟨H, enc, fuel, x, hf⟩ := h
 obtain ⟨n, h1, _, h2⟩ := DataW.trod_int ht hf
 exact ⟨n, h1, h2⟩
structure ElemAt (P : Program) (w : World) (e : TypeId) (size : Nat) (ad : Addr) (i : Nat) (cs : List Value) : Prop where
 len : cs.length = size
 rd : Rd P w e cs
 cell : ∀ (j : Nat) (u : Value), cs[j]? = some u → w.cell? ((ad.add (i * size)).add j) = some u
theorem Rd.slice {e : TypeId} {size : Nat} (ht : P.underlying t = some (.slice e)) (hs : P.cellsOf e = size) (h : Rd P w t cs) :
   ∃ a len cap, cs = [.slice a len cap] ∧ len ≤ cap ∧ cap ≤ maxLen ∧ (a = none → len = 0 ∧ cap = 0) ∧ ∀ ad, a = some ad → ∀ i, i < len → ∃ cs', ElemAt P w e size ad i cs' := by
 subst hs
 obtain ⟨H, enc, fuel, x, hf⟩ := h
 rcases Go.Deep.open_slice ht hf with ⟨h1, _⟩ | ⟨a, len, cap, m, n, D, Pl, h1, _, h2, h3, h4, _, h5⟩
 · exact ⟨none, 0, 0, h1, Nat.le_refl _, Nat.zero_le _, fun _ => ⟨rfl, rfl⟩, fun ad hd => (nomatch hd)⟩
 · refine ⟨some a, len, cap, h1, h2, h3, fun hd => (nomatch hd), ?_⟩
   rintro ad hd i hi
   cases hd
   obtain ⟨cs', h6, h7⟩ := h5 i (by simp only [if_true] at h4; omega)
   obtain ⟨_, h8, h9⟩ := World.cells?_some h6
   refine ⟨cs', h8, ⟨H, enc, n, _, h7⟩, fun j u hu => ?_⟩
   rw [h9 j (by have := (List.getElem?_eq_some_iff.1 hu).1; omega), hu]
def fieldsOk (P : Program) (t : TypeId) (l : List (Nat × TypeId)) : Bool :=
 match P.underlying t with
 | some (.struct fs) => fs.toList.map (fun f => (f.offset, f.type)) == l
 | _ => false
theorem Rd.struct {l : List (Nat × TypeId)} (hok : fieldsOk P t l = true) (h : Rd P w t cs) : cs.length = P.cellsOf t ∧ ∀ (j o : Nat) (ft : TypeId), l[j]? = some (o, ft) → Rd P w ft ((cs.drop o).take (P.cellsOf ft)) := by
 unfold fieldsOk at hok
 split at hok
 · rename_i fs ht
   obtain ⟨H, enc, fuel, x, hf⟩ := h
   obtain ⟨xs, n, _, _, h1, h2, h3⟩ := DataW.trod_struct ht hf
   refine ⟨h1, fun j o ft hj => ?_⟩
   rw [beq_iff_eq] at hok
   rw [← hok, List.getElem?_map] at hj
   cases hfj : fs.toList[j]? with
   | none => rw [hfj] at hj; cases hj
   | some f =>
     rw [hfj] at hj
     simp only [Option.map_some, Option.some.injEq, Prod.mk.injEq] at hj
     obtain ⟨rfl, rfl⟩ := hj
     have hfj' : fs[j]? = some f := by simpa using hfj
     have h4 := h3 j f hfj'
     have hlt : j < xs.length := by rw [h2]; exact (Array.getElem?_eq_some_iff.1 hfj').1
     rw [List.getElem?_eq_getElem hlt] at h4
     exact ⟨H, enc, n, _, h4⟩
 · cases hok
end
/-! Arguments by their types. -/
section
open Go.ChangeShapes Go.WideShapes Go.ChangeAt
variable {P : Program} {w : World} {t : TypeId} {r : Reach} {b0 : Nat} {v : Value}
theorem arg_int {H : Type} {enc : TypeId × Value → H} {d : DataW H} {p : List MemPlace} {k : IntKind} (ht : P.underlying t = some (.int k)) (hv : Value.okWide P w r b0 t v) (h : DataW.Trod enc P w 0 (fun _ => true) true t v d p) : ∃ n, v = .int k n ∧ (Lit.int k n).wf = true := by
 obtain ⟨a, h1, _, _, h2⟩ := open_int ht hv h
 exact ⟨a, h1, h2⟩
theorem arg_slice {e : TypeId} (ht : P.underlying t = some (.slice e)) (hv : Value.okWide P w r b0 t v) : ∃ a n c, v = .slice a n c := okWide_slice ht hv
theorem again_all {H : Type} {enc : TypeId × Value → H} (hl : laidOutB P = true) {W W' : World} (hb : Below W.heap.size W W') : ∀ {ts : List TypeId} {vs : List Value} {ds : List (DataW H)} {ps : List MemPlace}, (ts.all fun t => P.readableRec t && decide (t < P.types.size)) = true → DataW.TrodAll enc P W 0 (fun _ => true) true ts vs ds ps → (∀ x ∈ ps, x.block < W.heap.size) →
   DataW.TrodAll enc P W' 0 (fun b => decide (b < W.heap.size)) true ts vs ds ps := by
 intro ts
 induction ts with
 | nil =>
   intro vs ds ps _ h _
   obtain ⟨rfl, rfl, rfl⟩ := trodAll_nil h
   exact trodAll_mk0
 | cons t ts ih =>
   intro vs ds ps hr h hlt
   obtain ⟨v, vs', d, ds', p, q, rfl, rfl, rfl, h1, h2⟩ := trodAll_cons h
   simp only [List.all_cons, Bool.and_eq_true, decide_eq_true_eq] at hr
   exact trodAll_cons_mk (Below.trod hl hr.1.1 hr.1.2 h1 hb (fun x hx => hlt x (List.mem_append.2 (.inl hx)))) (ih (by simpa using hr.2) h2 (fun x hx => hlt x (List.mem_append.2 (.inr hx))))
end
end Go.Proofs.Ytnjhocjgpppeaaa
namespace Go.Proofs.Ytnjhocjgpppeaaa.Sm
open Go Go.RowKit
def rowsOf {α : Type} [Inhabited α] (g : α → List AV) (l : List α) : Nat → List AV := fun r => g (l.getD r default)
theorem rows_open {P : Program} {α : Type} [Inhabited α] {t e : TypeId} {k : Nat} (hk : 0 < k) (g : α → List AV) (Wf : α → Prop) (ht : P.underlying t = some (.slice e)) (hc : P.cellsOf e = k)
   {w : World} (one : ∀ {cs : List Value}, Rd P w e cs → ∃ o, VRs0 (imOf w) (g o) cs ∧ Wf o) {a : Option Addr} {n c : Nat} (h : Rd P w t [.slice a n c]) :
   ∃ l : List α, l.length = n ∧ VR0 (imOf w) (.im k l.length (rowsOf g l)) (.slice a n c) ∧ ∀ o ∈ l, Wf o := by
 obtain ⟨a', n', c', e1, h1, h2, h3, h4⟩ := h.slice ht hc
 injection e1 with e1 _
 injection e1 with e1 e2 e3
 subst e1
 subst e2
 subst e3
 cases a with
 | none =>
   obtain ⟨rfl, rfl⟩ := h3 rfl
   exact ⟨[], rfl, .im (winE_nil _ _) (fun r hr => absurd hr (Nat.not_lt_zero _)), fun o ho => by cases ho⟩
 | some ad =>
   have each : ∀ i, i < n → ∃ p : α × List Value, (p.2.length = k ∧ ∀ (j : Nat) (u : Value), p.2[j]? = some u → w.cell? ((ad.add (i * k)).add j) = some u) ∧ VRs0 (imOf w) (g p.1) p.2 ∧ Wf p.1 := by
     intro i hi
     obtain ⟨cs, he'⟩ := h4 ad rfl i hi
     obtain ⟨o, h5, h6⟩ := one he'.rd
     exact ⟨(o, cs), ⟨he'.len, he'.cell⟩, h5, h6⟩
   obtain ⟨f, hf⟩ := Go.Deep.choose_lt each
   have hl : ((List.range n).map fun r => (f r).1).length = n := by simp
   have hopf : ∀ r, r < n → rowsOf g ((List.range n).map fun r => (f r).1) r = g (f r).1 := fun r hr => by simp [rowsOf, List.getD_eq_getElem?_getD, hr]
   have hlen7 : ∀ (m : Nat), m ≤ n → (((List.range m).map fun r => (f r).2).flatten).length = m * k := by
     intro m
     induction m with
     | zero => intro _; simp
     | succ m ih =>
       intro hm
       rw [List.range_succ, List.map_append, List.flatten_append, List.length_append, ih (by omega)]
       have := (hf m (by omega)).1.1
       simp [this, Nat.succ_mul]
   have hrow : ∀ (m r : Nat), m ≤ n → r < m → ((((List.range m).map fun r => (f r).2).flatten).drop (r * k)).take k = (f r).2 := by
     intro m
     induction m with
     | zero => intro r _ hr; omega
     | succ m ih =>
       intro r hm hr
       have hlm := hlen7 m (by omega)
       have h7 := (hf r (by omega)).1.1
       rw [List.range_succ, List.map_append, List.flatten_append]
       by_cases e : r = m
       · subst e
         rw [List.drop_append_of_le_length (by omega), List.drop_of_length_le (by omega), List.nil_append]
         simp [List.take_of_length_le (Nat.le_of_eq h7)]
       · have hr' : r < m := by omega
         have hle : (r + 1) * k ≤ m * k := Nat.mul_le_mul_right k hr'
         rw [Nat.succ_mul] at hle
         rw [List.drop_append_of_le_length (by rw [hlm]; omega), List.take_append_of_le_length (by rw [List.length_drop, hlm]; omega)]
         exact ih r (by omega) hr'
   refine ⟨(List.range n).map fun r => (f r).1, hl, ?_, fun o ho => ?_⟩
   · rw [hl]
     refine .im (vs := ((List.range n).map fun r => (f r).2).flatten) ⟨hlen7 n (Nat.le_refl _), h1, h2, (fun e => by cases e), fun ad' hd j u hu => ?_⟩ (fun r hr => ?_)
     · cases hd
       have hj : j < n * k := by
         have := (List.getElem?_eq_some_iff.1 hu).1
         rwa [hlen7 n (Nat.le_refl _)] at this
       have hr : j / k < n := Nat.div_lt_of_lt_mul (by rwa [Nat.mul_comm] at hj)
       have hjk : j / k * k + j % k = j := by rw [Nat.mul_comm]; exact Nat.div_add_mod j k
       have hc := (hf (j / k) hr).1.2 (j % k) u (by
         rw [← hrow n (j / k) (Nat.le_refl _) hr, List.getElem?_take, if_pos (Nat.mod_lt _ hk), List.getElem?_drop]
         rw [hjk]; exact hu)
       have e : (ad.add (j / k * k)).add (j % k) = ad.add j := by
         rw [add_add, hjk]
       rw [e] at hc
       exact imOf_cell hc
     · rw [hrow n r (Nat.le_refl _) hr, hopf r hr]
       exact (hf r hr).2.1
   · obtain ⟨r, hr, rfl⟩ := List.mem_map.1 ho
     exact (hf r (List.mem_range.1 hr)).2.2
end Go.Proofs.Ytnjhocjgpppeaaa.Sm
namespace Go.Proofs.Ytnjhocjgpppeaaa
open Go.RowKit
abbrev Ext := Nat × Nat
def exC (p : Ext) : List Value := [.int .i64 p.1, .int .i64 p.2]
def exs (l : List Ext) : List Value := l.flatMap exC
theorem exs_length (l : List Ext) : (exs l).length = l.length * 2 := by
 induction l with
 | nil => rfl
 | cons p l ih => simp only [exs, List.flatMap_cons, List.length_append, List.length_cons] at ih ⊢; rw [ih]; simp [exC]; omega
theorem exs_one (l : List Ext) : ∀ u ∈ exs l, u.oneCell' = true := by
 intro u hu
 obtain ⟨p, _, hp⟩ := List.mem_flatMap.1 hu
 simp [exC] at hp
 rcases hp with rfl | rfl <;> rfl
theorem exs_append (l m : List Ext) : exs (l ++ m) = exs l ++ exs m := by simp [exs]
theorem exs_cons (p : Ext) (m : List Ext) : exs (p :: m) = .int .i64 p.1 :: .int .i64 p.2 :: exs m := by simp [exs, exC]
theorem exs_take (l : List Ext) (k : Nat) : (exs l).take (k * 2) = exs (l.take k) := by
 induction l generalizing k with
 | nil => simp [exs]
 | cons p l ih =>
   cases k with
   | zero => simp [exs]
   | succ k => rw [show (k + 1) * 2 = k * 2 + 1 + 1 by omega, exs_cons, List.take_succ_cons, List.take_succ_cons, ih, List.take_succ_cons, exs_cons]
theorem exs_drop (l : List Ext) (k : Nat) : (exs l).drop (k * 2) = exs (l.drop k) := by
 induction l generalizing k with
 | nil => simp [exs]
 | cons p l ih =>
   cases k with
   | zero => simp [exs]
   | succ k => rw [show (k + 1) * 2 = k * 2 + 1 + 1 by omega, exs_cons, List.drop_succ_cons, List.drop_succ_cons, ih, List.drop_succ_cons]
theorem Try.infoE : (Try.prog.info? 31).map (fun i => (i.zero, i.size, i.bytes)) = some (some (.agg #[.int .i64 0, .int .i64 0]), 2, 16) := by kernel_rfl
theorem Try.eqE (w : World) (a : Option Addr) (n c n' c' : Nat) : (binOp .eql 26 (.slice a n c) (.slice none n' c')).run Try.prog w = .ok (.bool a.isNone) w :=
 Lib.run_eql_slice_nil w 26 31 a n c n' c' Try.underlying26
set_option maxHeartbeats 400000 in
theorem end_any (a n : Int) (w : World) :
   Calls Try.prog 33 #[.agg #[.int .i64 a, .int .i64 n]] w fun e w' => e = .returned (.int .i64 (wrap64 (a + n))) ∧ w.alloc (.cells #[.int .i64 a, .int .i64 n] 31) = w' := by
 go_enter Try.func33, Try.ntmps33
 go_wp2
 go_ret
 exact ⟨rfl, rfl⟩
structure ClE (w : World) (n : Nat) (xs : List Value) (v : Value) (w' : World) : Prop where
 own : Own w' 31 2 v n xs
 new : ∀ k, v.ownBlock = some k → w.heap.size ≤ k
 fr : Fr No w w'
set_option maxRecDepth 100000 in
set_option maxHeartbeats 400000 in
theorem cloneE_any (v : Value) (l : List Ext) (w : World) (h : Own w 31 2 v l.length (exs l)) (hb : l.length ≤ 1000000) :
   Calls Try.prog 26 #[v] w fun e w' => ∃ v', e = .returned v' ∧ ClE w l.length (exs l) v' w' := by
 have hnil := Try.eqE
 obtain ⟨i0, hi, hz0, hz1, hz2⟩ := info_parts Try.infoE
 rcases h.cases with ⟨rfl, h1, h2⟩ | ⟨g, c, rfl⟩
 · rw [h1, h2]
   clear h h1 h2
   go_enter Try.func26, Try.ntmps26
   go_wp2
   go_ret
   exact ⟨_, rfl, World.ownsRow_nil _ _ _ _, fun k hk => by simp [Value.ownBlock] at hk, Fr.refl _ _⟩
 · have hm : Hid (Own (w.alloc (.cells #[] 31)) 31 2 (.slice (some ⟨w.heap.size, 0, none⟩) 0 0) 0 []) := Own.weak (World.ownsRow_made w #[] 0 (Nat.le_refl _) (Nat.zero_le _) rfl)
   have hw : Hid (Own (w.alloc (.cells #[] 31)) 31 2 (.slice (some ⟨g, 0, none⟩) l.length c) l.length (exs l)) := h.fr ((Fr.refl No w).alloc _) (fun _ _ => No.no _)
   have HK : Hid (∀ u ∈ exs l, u.oneCell' = true) := exs_one l
   have hm1 : 0 + l.length ≤ maxLen := by unfold maxLen; omega
   have hm2 : (0 + l.length) * 16 ≤ 140737488355328 := by omega
   clear h
   go_enter Try.func26, Try.ntmps26
   go_wp2_with (at_builtin; refine wpList_app _ rfl (.tmp 5) (.tmp 6) 26 rfl 31 i0 (.agg #[.int .i64 0, .int .i64 0]) 2 16 Try.underlying26 hi hz0 hz1 hz2 rfl (.slice (some ⟨w.heap.size, 0, none⟩) 0 0) 0 [] rfl hm.out ⟨g, 0, none⟩ l.length c (exs l) rfl (exs_length l) (fun j u hj => hw.out.cells (g := g) rfl j u hj) HK.out hm1 hm2 ?_; intro v' w' hap)
   go_ret
   have ho := hap.own
   rw [Nat.zero_add, List.nil_append] at ho
   refine ⟨v', rfl, ho, fun k hk => ?_, ((Fr.refl No w).alloc _).trans hap.fr (fun k hk => .inr ?_)⟩
   · rcases hap.blk with e | ⟨k', e, hk'⟩
     · rw [e] at hk
       simp [Value.ownBlock] at hk
       omega
     · rw [e] at hk
       cases hk
       simp at hk'
       omega
   · simp [Value.ownBlock] at hk
     omega
end Go.Proofs.Ytnjhocjgpppeaaa
namespace Go.Proofs.Ytnjhocjgpppeaaa
open Go.RowKit Go.Shelf
theorem run_copy_z {P : Program} (w : World) (dT sT ty e : TypeId) (size b o dl dc : Nat) (a : Addr) (sn sc : Nat) (cs : List Value) (hu : P.underlying dT = some (.slice e)) (hsz : (sizeOf e).run P w = .ok size w)
   (hn : cs.length = Nat.min sn dl * size) (hcs : ∀ j v, cs[j]? = some v → w.cell? (a.add j) = some v) (hsp : ∀ j, j < cs.length → (w.cell? ⟨b, o + j, none⟩).isSome = true) (hfz : ∀ j, j < cs.length → w.frozen? ⟨b, o + j, none⟩ = false) (h1 : ∀ v ∈ cs, v.oneCell' = true) :
   (Builtin.copy_ #[dT, sT] ty #[.slice (some ⟨b, o, none⟩) dl dc, .slice (some a) sn sc]).run P w = .ok (goInt (Nat.min sn dl)) (w.setCells b o cs) := by
 have hl : (loadCells a (Nat.min sn dl * size)).run P w = .ok cs.toArray w := by rw [← hn]; exact run_loadCells_list (P := P) w a cs hcs
 have hst := run_storeCells_cells (P := P) b o cs 0 w (by simpa using hsp) (by simpa using hfz) h1
 simp only [Nat.add_zero] at hst
 unfold Builtin.copy_
 simp [run_underlying hu, Builtin.lenOf, hsz, Builtin.firstCells, hl, hst]
theorem blk_range {w : World} {b : Nat} {T : TypeId} {L : List Value} (h : Blk w b T L) (o k : Nat) : ∀ j v, ((L.drop o).take k)[j]? = some v → w.cell? ((⟨b, o, none⟩ : Addr).add j) = some v := fun j v hj => by
 rw [Addr.add_lit]
 rw [List.getElem?_take] at hj
 split at hj
 · rw [List.getElem?_drop] at hj
   exact h.cell hj
 · cases hj
theorem blk_some {w : World} {b : Nat} {T : TypeId} {L : List Value} (h : Blk w b T L) {j : Nat} (hj : j < L.length) : (w.cell? ⟨b, j, none⟩).isSome = true := by
 rw [h.cell (List.getElem?_eq_getElem hj)]; rfl
def Two (w : World) (d : Nat) (x0 x1 : Value) : Prop := ∃ T fz, w.heap[d]? = some (.cells #[x0, x1] T fz)
theorem Two.fr {S : Nat → Prop} {w w' : World} {d : Nat} {x0 x1 : Value} (h : Two w d x0 x1) (hf : Fr S w w') (hn : ¬ S d) : Two w' d x0 x1 := by
 obtain ⟨T, fz, h⟩ := h
 exact ⟨T, fz, (hf.block d (Array.getElem?_eq_some_iff.1 h).1 hn).trans h⟩
theorem Two.drew {w : World} {d : Nat} {x0 x1 : Value} (h : Two w d x0 x1) : Two w.drew d x0 x1 := h
theorem Two.lt {w : World} {d : Nat} {x0 x1 : Value} (h : Two w d x0 x1) : d < w.heap.size := by
 obtain ⟨T, fz, h⟩ := h
 exact (Array.getElem?_eq_some_iff.1 h).1
theorem Two.alloc {w : World} {d : Nat} {x0 x1 : Value} (h : Two w d x0 x1) (o : Obj) : Two (w.alloc o) d x0 x1 := by
 have hl := h.lt
 obtain ⟨T, fz, h⟩ := h
 exact ⟨T, fz, (Below.heap_alloc w o d hl).trans h⟩
theorem Two.cell {w : World} {d : Nat} {x0 x1 : Value} (h : Two w d x0 x1) : ∀ (j : Nat) (v : Value), [x0, x1][j]? = some v → w.cell? ((⟨d, 0, none⟩ : Addr).add j) = some v := by
 obtain ⟨T, fz, h⟩ := h
 intro j v hj
 rw [Addr.add_lit, Nat.zero_add]
 match j, hj with
 | 0, hj => simp at hj; subst hj; simp [World.cell?, h]
 | 1, hj => simp at hj; subst hj; simp [World.cell?, h]
 | j + 2, hj => simp at hj
theorem run_overlaps_own {P : Program} (w : World) (tS tR e : TypeId) (ht : P.underlying tS = some (.slice e)) (size : Nat) (hz : ∀ w, (Go.sizeOf e).run P w = .ok size w)
   (a b : Addr) (la ca lb cb : Nat) (hne : a.block ≠ b.block) (tA tB : TypeId) (kA kB : Nat)
   (hsa : w.shape? a.block = some (tA, kA)) (hsb : w.shape? b.block = some (tB, kB)) (hkA : kA ≠ 0)
   (hfb : w.frozen? b = false) (hfe : w.frozen? { block := b.block, off := kB } = false) :
   (Extern.SlicesOverlaps.overlaps #[tS, tS] #[tR] #[.slice (some a) la ca, .slice (some b) lb cb]).run P w = .ok (.bool false) w := by
 have hnb : (a.block != b.block) = true := by simpa using hne
 have hnb' : (a.block == b.block) = false := by simpa using hne
 change Sem.run P (α := Value) (do
   let some t := (#[tS, tS] : Array TypeId)[0]? | stuck "slices.overlaps: no parameter types"
   let .slice elem ← underlying t | stuck "slices.overlaps: slice type expected"
   let size ← sizeOf elem
   match (some a : Option Addr), (some b : Option Addr) with
   | some a, some b =>
     if la = 0 ∨ lb = 0 ∨ size = 0 then pure (Value.bool false)
     else if a.block != b.block && (← frozen a) && (← frozen b) then unsupported .addressObserved
     else do
       if a.block != b.block then do
         noView a; noView b
         if ← mayBeOne a b then return Value.bool ((← choose (.extern "sameAddr.stringBytes" 2)) == 1)
       pure (Value.bool (a.block == b.block && a.off < b.off + lb * size && b.off < a.off + la * size))
   | _, _ => pure (Value.bool false)) w = _
 by_cases h0 : la = 0 ∨ lb = 0 ∨ size = 0
 · simp [run_underlying ht, hz, h0]
 · cases kA with
   | zero => exact absurd rfl hkA
   | succ kA =>
     cases h1 : w.frozen? a with
     | true => simp [run_underlying ht, hz, h0, hnb, hnb', frozen, noView, viewAt, mayBeOne, stringish, shape, Sem.run, hsa, hsb, hfb, hfe, h1]
     | false =>
       cases h2 : w.frozen? { block := a.block, off := kA + 1 } with
       | true => simp [run_underlying ht, hz, h0, hnb, hnb', frozen, noView, viewAt, mayBeOne, stringish, shape, Sem.run, hsa, hsb, hfb, hfe, h1, h2]
       | false => simp [run_underlying ht, hz, h0, hnb, hnb', frozen, noView, viewAt, mayBeOne, stringish, shape, Sem.run, hsa, hsb, hfb, hfe, h1, h2]
set_option maxHeartbeats 4000000 in
set_option maxRecDepth 100000 in
theorem insert_shift (w : World) (b d n c i : Nat) (L : List Value) (x0 x1 : Value) (hb : Blk w b 31 L) (hd : Two w d x0 x1) (hbd : d ≠ b) (hi : i < n) (hroom : n + 1 ≤ c) (hn31 : n ≤ 2147483648) (hL : L.length = c * 2)
   (h1 : ∀ v ∈ L.take (n * 2), v.oneCell' = true) (hx : ∀ v ∈ [x0, x1], v.oneCell' = true) :
   Calls Try.prog 45 #[.slice (some ⟨b, 0, none⟩) n c, .int .i64 i, .slice (some ⟨d, 0, none⟩) 1 1] w fun e w' =>
     e = .returned (.slice (some ⟨b, 0, none⟩) (n + 1) c) ∧ w' = (w.drew.setCells b ((i + 1) * 2) ((L.drop (i * 2)).take ((n - i) * 2))).setCells b (i * 2) [x0, x1] := by
 have hz2 : ¬ ((i : Int) = (n : Int)) := by omega
 have hz3 : ¬ ((c : Int) < (n : Int) + 1) := by omega
 have hsz : ∀ w, (sizeOf 31).run Try.prog w = .ok 2 w := fun _ => by kernel_rfl
 have hov : ∀ lb cb, (callFunc 46 #[.slice (some ⟨d, 0, none⟩) 1 1, .slice (some ⟨b, (i + 1) * 2, none⟩) lb cb]).run Try.prog w = .ok (.value (.bool false)) w := fun lb cb => by
   obtain ⟨Td, fd, hd'⟩ := hd
   have hsa : w.shape? d = some (Td, 2) := by simp [World.shape?, hd']
   have hsb : w.shape? b = some (31, c * 2) := by
     have : w.heap[b]? = some (.cells L.toArray 31 (0, 0)) := hb
     simp [World.shape?, this, hL]
   rw [run_callFunc_extern Try.func46 (by kernel_rfl) (by kernel_rfl) (by kernel_rfl) (e := Extern.SlicesOverlaps.overlaps #[26, 26] #[4]) (by kernel_rfl),
     run_overlaps_own w 26 4 31 Try.underlying26 2 hsz ⟨d, 0, none⟩ ⟨b, (i + 1) * 2, none⟩ 1 1 lb cb hbd _ _ _ _ hsa hsb (by omega) (hb.free _) (hb.free _)]
   rfl
 have hcl : ((L.drop (i * 2)).take ((n - i) * 2)).length = (n - i) * 2 := by simp; omega
 have hw1 : IntKind.i64.wrap ((i : Int) + 1) = (i : Int) + 1 := by rw [IntKind.wrap_i64]; omega
 have hb1 : (0 : Int) ≤ (i : Int) + 1 := by omega
 have hin : i ≤ n := by omega
 have htn : ((i : Int) + 1).toNat = i + 1 := by omega
 have hb2 : ¬ (c = i + 1) := by omega
 have hb3 : (i : Int) ≤ (n : Int) + 1 := by omega
 have hb4 : ¬ (c = i) := by omega
 have hcp1 : ∀ ty dc sc, (Builtin.copy_ #[26, 26] ty #[.slice (some ⟨b, (i + 1) * 2, none⟩) (n - i) dc, .slice (some ⟨b, i * 2, none⟩) (n + 1 - i) sc]).run Try.prog w.drew = .ok (goInt (n - i : Nat)) (w.drew.setCells b ((i + 1) * 2) ((L.drop (i * 2)).take ((n - i) * 2))) := fun ty dc sc => by
   have hm : Nat.min (n + 1 - i) (n - i) = n - i := by simp only [Nat.min_def]; split <;> omega
   have := run_copy_z (P := Try.prog) w.drew 26 26 ty 31 2 b ((i + 1) * 2) (n - i) dc ⟨b, i * 2, none⟩ (n + 1 - i) sc ((L.drop (i * 2)).take ((n - i) * 2)) Try.underlying26 (hsz _)
     (by rw [hm, hcl]) (blk_range hb.drew _ _) (fun j hj => blk_some hb.drew (by omega)) (fun j hj => hb.drew.free _) (fun v hv => h1 v (by
       rw [show n * 2 = i * 2 + (n - i) * 2 by omega, List.take_add]
       exact List.mem_append.2 (.inr hv)))
   rw [hm] at this
   exact this
 obtain ⟨W1, hW1⟩ : ∃ W1, W1 = w.drew.setCells b ((i + 1) * 2) ((L.drop (i * 2)).take ((n - i) * 2)) := ⟨_, rfl⟩
 have hB1 : Blk W1 b 31 (L.take ((i + 1) * 2) ++ (L.drop (i * 2)).take ((n - i) * 2) ++ L.drop ((i + 1) * 2 + ((L.drop (i * 2)).take ((n - i) * 2)).length)) := by rw [hW1]; exact Blk.setCells ((L.drop (i * 2)).take ((n - i) * 2)) ((i + 1) * 2) hb.drew (by omega)
 have hB1l : (L.take ((i + 1) * 2) ++ (L.drop (i * 2)).take ((n - i) * 2) ++ L.drop ((i + 1) * 2 + ((L.drop (i * 2)).take ((n - i) * 2)).length)).length = c * 2 := by simp; omega
 have hD1 : Two W1 d x0 x1 := by
   have hfr : Fr (fun k => k = b) w.drew (w.drew.setCells b ((i + 1) * 2) ((L.drop (i * 2)).take ((n - i) * 2))) := Fr.setCells _ _ (Fr.refl _ _) (.inl rfl)
   rw [hW1]
   exact hd.drew.fr hfr hbd
 have hcp2 : ∀ ty dc, (Builtin.copy_ #[26, 26] ty #[.slice (some ⟨b, i * 2, none⟩) (n + 1 - i) dc, .slice (some ⟨d, 0, none⟩) 1 1]).run Try.prog W1 = .ok (goInt (1 : Nat)) (W1.setCells b (i * 2) [x0, x1]) := fun ty dc => by
   have hm : Nat.min 1 (n + 1 - i) = 1 := by simp only [Nat.min_def]; split <;> omega
   have := run_copy_z (P := Try.prog) W1 26 26 ty 31 2 b (i * 2) (n + 1 - i) dc ⟨d, 0, none⟩ 1 1 [x0, x1] Try.underlying26 (hsz _)
     (by rw [hm]; rfl) hD1.cell (fun j hj => blk_some hB1 (by rw [hB1l]; simp at hj; omega)) (fun j hj => hB1.free _) hx
   rw [hm] at this
   exact this
 rw [← hW1] at hcp1
 have HB := Lib.hid hb
 have HD := Lib.hid hd
 have HL := Lib.hid hL
 have HW := Lib.hid hW1
 clear hb hd hL hW1 hB1 hB1l hD1 h1 hx hcl
 go_enter Try.func45, Try.ntmps45
 go_wp2_with (simp only [hov])
 go_region_law (refine step_copy_runI rfl _ _ 26 26 rfl _ _ (by simp [Act.eval, Act.put]) (by simp [Act.eval, Act.put]) (hcp1 _ _ _) ?_)
 go_wp2_with (at_builtin; refine wpList_copy_runI _ rfl _ _ 26 26 rfl _ _ rfl rfl (hcp2 _ _) ?_)
 go_ret
 exact ⟨rfl, by rw [HW.out]⟩
def zrow (L : List Value) (i k : Nat) : List Value := L.take (i * 2) ++ (Builtin.zeroCells (Value.cells (.agg #[.int .i64 0, .int .i64 0])) k).toList
set_option maxHeartbeats 4000000 in
set_option maxRecDepth 100000 in
theorem insert_grow (w : World) (b d n c i : Nat) (L : List Value) (x0 x1 : Value) (hb : Blk w b 31 L) (hd : Two w d x0 x1) (hi : i < n) (hnc : n ≤ c) (hroom : c < n + 1) (hbig : (n + 1) * 16 ≤ 140737488355328) (hL : L.length = c * 2)
   (h1 : ∀ v ∈ L.take (n * 2), v.oneCell' = true) (hx : ∀ v ∈ [x0, x1], v.oneCell' = true) :
   Calls Try.prog 45 #[.slice (some ⟨b, 0, none⟩) n c, .int .i64 i, .slice (some ⟨d, 0, none⟩) 1 1] w fun e w' =>
     ∃ (G : Nat) (R : List Value), n + 1 ≤ G ∧ G ≤ maxLen ∧ R.length = G * 2 ∧ R.take (i * 2) = L.take (i * 2) ∧ e = .returned (.slice (some ⟨w.heap.size, 0, none⟩) (n + 1) G) ∧
     w' = (((w.alloc (.cells R.toArray 31)).drew.setCells w.heap.size (i * 2) [x0, x1]).drew).setCells w.heap.size ((i + 1) * 2) ((L.drop (i * 2)).take ((n - i) * 2)) := by
 obtain ⟨i0, hi0, hz0, hzs, hzb⟩ := info_parts (P := Try.prog) (e := 31) (z := .agg #[.int .i64 0, .int .i64 0]) (size := 2) (bytes := 16) (by kernel_rfl)
 have hz2 : ¬ ((i : Int) = (n : Int)) := by omega
 have hz3 : (c : Int) < (n : Int) + 1 := by omega
 have hsz : ∀ w, (sizeOf 31).run Try.prog w = .ok 2 w := fun _ => by kernel_rfl
 have hbw : b < w.heap.size := hb.lt
 have hdw : d < w.heap.size := hd.lt
 have hkk : (n : Int) + 1 - (i : Int) = ((n + 1 - i : Nat) : Int) := by omega
 have hik : i + (n + 1 - i) = n + 1 := by omega
 have hold : (Builtin.firstCells i0.size i (.slice (some ⟨b, 0, none⟩) i c)).run Try.prog w.drew = .ok (L.take (i * 2)).toArray w.drew := by
   rw [hzs]
   exact run_firstCells_some w.drew 2 i ⟨b, 0, none⟩ i c (L.take (i * 2)) (by rw [List.length_take]; omega) (fun j v hj => by
     have := blk_range hb.drew 0 (i * 2) j v (by simpa using hj)
     simpa using this)
 have hrz : ∀ ty, ∃ (G : Nat) (R : List Value), n + 1 ≤ G ∧ G ≤ maxLen ∧ R.length = G * 2 ∧ R.take (i * 2) = L.take (i * 2) ∧ (Builtin.append_ #[26, 3] ty #[.slice (some ⟨b, 0, none⟩) i c, .int .i64 ((n : Int) + 1 - (i : Int))]).run Try.prog w =
     .ok (.slice (some ⟨w.heap.size, 0, none⟩) (n + 1) G) (w.drew.alloc (.cells R.toArray 31)) := fun ty => by
   have h := Lib.run_append_grow_zeros w 26 3 ty 31 i0 _ .i64 .i64 Try.underlying26 Try.underlying3 hi0 hz0 (some ⟨b, 0, none⟩) i c (L.take (i * 2)) hold (n + 1 - i) (by omega) (by omega) (by omega) (by omega) (by rw [hzb]; omega) (by rw [hzb, hik]; exact growslice_fits hroom hbig)
   rw [hik] at h
   rw [hkk]
   refine ⟨grownCap w (n + 1) c 31, zrow L i (n + 1 - i) ++ (Builtin.zeroCells (Value.cells (.agg #[.int .i64 0, .int .i64 0])) (grownCap w (n + 1) c 31 - (n + 1))).toList, grownCap_ge w _ _ _, grownCap_le_maxLen w (n + 1) c _ (by unfold maxLen; omega), ?_, ?_, ?_⟩
   · have := grownCap_ge w (n + 1) c 31
     simp [zrow, Builtin.zeroCells, Value.cells]
     omega
   · rw [zrow, List.append_assoc, List.take_append_of_le_length (by rw [List.length_take]; omega), List.take_take, Nat.min_self]
   · rw [h, zrow]
     congr 3
     apply Array.toList_inj.1
     simp
 obtain ⟨G, R, hG, hGm, hRl, hRt, hrz⟩ : ∃ (G : Nat) (R : List Value), n + 1 ≤ G ∧ G ≤ maxLen ∧ R.length = G * 2 ∧ R.take (i * 2) = L.take (i * 2) ∧ ∀ ty, (Builtin.append_ #[26, 3] ty #[.slice (some ⟨b, 0, none⟩) i c, .int .i64 ((n : Int) + 1 - (i : Int))]).run Try.prog w =
     .ok (.slice (some ⟨w.heap.size, 0, none⟩) (n + 1) G) (w.drew.alloc (.cells R.toArray 31)) := by
   obtain ⟨G, R, hG, hGm, hRl, hRt, hr⟩ := hrz 0
   exact ⟨G, R, hG, hGm, hRl, hRt, fun ty => hr⟩
 have hG63 : G ≤ 9223372036854775807 := by unfold maxLen at hGm; omega
 have hcl : ((L.drop (i * 2)).take ((n - i) * 2)).length = (n - i) * 2 := by simp; omega
 have hbN : b ≠ w.heap.size := by omega
 have hdN : d ≠ w.heap.size := by omega
 have hcpA : ∀ (W : World), Blk W w.heap.size 31 R → Two W d x0 x1 → ∀ ty dc, (Builtin.copy_ #[26, 26] ty #[.slice (some ⟨w.heap.size, i * 2, none⟩) (n + 1 - i) dc, .slice (some ⟨d, 0, none⟩) 1 1]).run Try.prog W = .ok (goInt (1 : Nat)) (W.setCells w.heap.size (i * 2) [x0, x1]) := fun W hN hD ty dc => by
   have hm : Nat.min 1 (n + 1 - i) = 1 := by simp only [Nat.min_def]; split <;> omega
   have := run_copy_z (P := Try.prog) W 26 26 ty 31 2 w.heap.size (i * 2) (n + 1 - i) dc ⟨d, 0, none⟩ 1 1 [x0, x1] Try.underlying26 (hsz _)
     (by rw [hm]; rfl) hD.cell (fun j hj => blk_some hN (by rw [hRl]; simp at hj; omega)) (fun j hj => hN.free _) hx
   rw [hm] at this
   exact this
 have hcpB : ∀ (W : World) (R' : List Value), Blk W w.heap.size 31 R' → R'.length = G * 2 → Blk W b 31 L → ∀ ty dc sc, (Builtin.copy_ #[26, 26] ty #[.slice (some ⟨w.heap.size, (i + 1) * 2, none⟩) (n - i) dc, .slice (some ⟨b, i * 2, none⟩) (n - i) sc]).run Try.prog W = .ok (goInt (n - i : Nat)) (W.setCells w.heap.size ((i + 1) * 2) ((L.drop (i * 2)).take ((n - i) * 2))) := fun W R' hN hR' hB ty dc sc => by
   have hm : Nat.min (n - i) (n - i) = n - i := Nat.min_self _
   have := run_copy_z (P := Try.prog) W 26 26 ty 31 2 w.heap.size ((i + 1) * 2) (n - i) dc ⟨b, i * 2, none⟩ (n - i) sc ((L.drop (i * 2)).take ((n - i) * 2)) Try.underlying26 (hsz _)
     (by rw [hm, hcl]) (blk_range hB _ _) (fun j hj => blk_some hN (by omega)) (fun j hj => hN.free _) (fun v hv => h1 v (by
       rw [show n * 2 = i * 2 + (n - i) * 2 by omega, List.take_add]
       exact List.mem_append.2 (.inr hv)))
   rw [hm] at this
   exact this
 have hN0 : Blk ((w.alloc (.cells R.toArray 31)).drew) w.heap.size 31 R := Blk.new w _ R
 have hD0 : Two ((w.alloc (.cells R.toArray 31)).drew) d x0 x1 := hd.alloc _
 have hN1 := Blk.setCells [x0, x1] (i * 2) hN0 (by rw [hRl]; simp; omega)
 have hN1l : (R.take (i * 2) ++ [x0, x1] ++ R.drop (i * 2 + [x0, x1].length)).length = G * 2 := by simp; omega
 have hB1 : Blk (((w.alloc (.cells R.toArray 31)).drew).setCells w.heap.size (i * 2) [x0, x1]) b 31 L :=
   (hb.alloc _).drew.fr (S := fun k => k = w.heap.size) (Fr.setCells _ _ (Fr.refl _ _) (.inl rfl)) hbN
 have hA := hcpA _ hN0 hD0
 have hB := hcpB _ _ (Blk.drew hN1) hN1l (Blk.drew hB1)
 have hw1 : IntKind.i64.wrap ((i : Int) + 1) = (i : Int) + 1 := by rw [IntKind.wrap_i64]; omega
 have hb1 : (0 : Int) ≤ (i : Int) + 1 := by omega
 have hin : i ≤ n := by omega
 have htn : ((i : Int) + 1).toNat = i + 1 := by omega
 have hb3 : (i : Int) ≤ (n : Int) := by omega
 have hGi : ¬ (G = i) := by omega
 have hGim : ¬ (G = i + 1) := by omega
 have hci : ¬ (c = i) := by omega
 have HB := Lib.hid hb
 have HD := Lib.hid hd
 have HL := Lib.hid hL
 have HR := Lib.hid hRl
 have HT := Lib.hid hRt
 have HG := Lib.hid hGm
 have HG1 := Lib.hid hG
 clear hb hd hL hRl hRt hN0 hD0 hN1 hN1l hB1 h1 hx hcl hcpA hcpB hold hkk hik hGm
 go_enter Try.func45, Try.ntmps45
 go_wp2_with (first
   | (at_builtin; refine Lib.wpList_append_run _ rfl _ _ _ _ rfl _ _ rfl rfl _ _ (hrz _) ?_)
   | (at_builtin; refine wpList_copy_runI _ rfl _ _ 26 26 rfl _ _ rfl rfl (hA _ _) ?_)
   | (at_builtin; refine wpList_copy_runI _ rfl _ _ 26 26 rfl _ _ rfl rfl (hB _ _ _) ?_))
 go_region_law (refine step_copy_runI rfl _ _ 26 26 rfl _ _ (by simp [Act.eval, Act.put]) (by simp [Act.eval, Act.put]) (hB _ _ _) ?_)
 go_wp2
 go_ret
 exact ⟨G, R, HG1.out, HG.out, HR.out, HT.out, rfl, rfl⟩
end Go.Proofs.Ytnjhocjgpppeaaa
namespace Go.Proofs.Ytnjhocjgpppeaaa
open Go.RowKit
theorem ins_shape (L : List Value) (len k : Nat) (u0 u1 : Value) (A M : List Value) (hM : M = (L.drop (k * 2)).take ((len - k) * 2)) (hA : A = L.take (k * 2)) (hk : k < len) (hl : len * 2 ≤ L.length) :
   (L.take ((k + 1) * 2) ++ (L.drop (k * 2)).take ((len - k) * 2) ++ L.drop ((k + 1) * 2 + ((L.drop (k * 2)).take ((len - k) * 2)).length)).take (k * 2) ++ [u0, u1] ++
     (L.take ((k + 1) * 2) ++ (L.drop (k * 2)).take ((len - k) * 2) ++ L.drop ((k + 1) * 2 + ((L.drop (k * 2)).take ((len - k) * 2)).length)).drop (k * 2 + [u0, u1].length) =
   A ++ ([u0, u1] ++ M) ++ L.drop ((len + 1) * 2) := by
 subst hM hA
 have e1 : ((L.drop (k * 2)).take ((len - k) * 2)).length = (len - k) * 2 := by simp; omega
 have e2 : (L.take ((k + 1) * 2)).length = k * 2 + 2 := by simp; omega
 simp only [List.append_assoc, e1]
 rw [List.take_append_of_le_length (by omega), List.take_take, List.drop_left' (by rw [e2]; rfl)]
 rw [show min (k * 2) ((k + 1) * 2) = k * 2 by omega, show (k + 1) * 2 + (len - k) * 2 = (len + 1) * 2 by omega]
set_option maxRecDepth 100000 in
set_option maxHeartbeats 2000000 in
theorem insert_end (v : Value) (l : List Ext) (x : Ext) (d : Nat) (w : World) (h : Own w 31 2 v l.length (exs l)) (hd : Two w d (.int .i64 (x.1 : Nat)) (.int .i64 (x.2 : Nat))) (hl : l.length ≤ 10000) :
   Calls Try.prog 45 #[v, .int .i64 l.length, .slice (some ⟨d, 0, none⟩) 1 1] w fun e w' =>
     ∃ v', e = .returned v' ∧ Appended w 31 2 v l.length 1 (exs (l ++ [x])) v' w' := by
 obtain ⟨i0, hi0, hz0, hz1, hz2⟩ := info_parts Try.infoE
 obtain ⟨a, c, rfl⟩ : ∃ a c, v = .slice a l.length c := by
   rcases h.cases with ⟨e, h1, _⟩ | ⟨g, c, e⟩
   · exact ⟨none, 0, by rw [e, h1]⟩
   · exact ⟨_, _, e⟩
 have HO := Lib.hid h
 have HN : Hid (∀ j u, (exC x)[j]? = some u → w.cell? ((⟨d, 0, none⟩ : Addr).add j) = some u) := hd.cell
 have H1 : Hid (∀ u ∈ exC x, u.oneCell' = true) := fun u hu => by simp [exC] at hu; rcases hu with rfl | rfl <;> rfl
 have HA : Hid (exs (l ++ [x]) = exs l ++ exC x) := Lib.hid (by rw [exs_append]; simp [exs])
 have hm1 : l.length + 1 ≤ maxLen := by unfold maxLen; omega
 have hm2 : (l.length + 1) * 16 ≤ 140737488355328 := by omega
 clear h hd
 by_cases hcl : c = l.length
 · subst hcl
   go_enter Try.func45, Try.ntmps45
   go_wp2_with (at_builtin; refine wpList_app _ rfl _ _ 26 rfl 31 i0 _ 2 16 Try.underlying26 hi0 hz0 hz1 hz2 rfl (.slice a l.length l.length) l.length (exs l) rfl HO.out ⟨d, 0, none⟩ 1 1 (exC x) rfl rfl HN.out H1.out hm1 hm2 ?_; intro v' w2 hap)
   go_ret
   refine ⟨_, rfl, ?_⟩
   rw [HA.out]
   exact hap
 · have hcl' : ¬ ((c : Int) = (l.length : Int)) := by omega
   go_enter Try.func45, Try.ntmps45
   go_wp2_with (at_builtin; refine wpList_app _ rfl _ _ 26 rfl 31 i0 _ 2 16 Try.underlying26 hi0 hz0 hz1 hz2 rfl (.slice a l.length c) l.length (exs l) rfl HO.out ⟨d, 0, none⟩ 1 1 (exC x) rfl rfl HN.out H1.out hm1 hm2 ?_; intro v' w2 hap)
   go_ret
   refine ⟨_, rfl, ?_⟩
   rw [HA.out]
   exact hap
theorem insert_any (v : Value) (l : List Ext) (i : Nat) (x : Ext) (d : Nat) (w : World) (h : Own w 31 2 v l.length (exs l)) (hd : Two w d (.int .i64 (x.1 : Nat)) (.int .i64 (x.2 : Nat))) (hvd : v.ownBlock ≠ some d) (hi : i ≤ l.length) (hl : l.length ≤ 10000) :
   Calls Try.prog 45 #[v, .int .i64 i, .slice (some ⟨d, 0, none⟩) 1 1] w fun e w' =>
     ∃ v', e = .returned v' ∧ Own w' 31 2 v' (l.length + 1) (exs (l.take i ++ (x :: l.drop i))) ∧ Fr (fun k => v.ownBlock = some k) w w' ∧ (v'.ownBlock = v.ownBlock ∨ ∃ k, v'.ownBlock = some k ∧ w.heap.size ≤ k) := by
 rcases Nat.lt_or_ge i l.length with hlt | hge
 · obtain ⟨g, c, rfl⟩ : ∃ g c, v = .slice (some ⟨g, 0, none⟩) l.length c := by
     rcases h.cases with ⟨e, h1, _⟩ | ⟨g, c, e⟩
     · omega
     · exact ⟨g, c, e⟩
   obtain ⟨sp, hb, h1, h2, h3, h4⟩ := h.blk
   have hne : d ≠ g := fun e => hvd (by simp [Value.ownBlock, e])
   have h1c : ∀ u ∈ (exs l ++ sp).take (l.length * 2), u.oneCell' = true := by
     rw [List.take_append_of_le_length (by omega), List.take_of_length_le (by omega)]
     exact exs_one l
   have hxc : ∀ u ∈ [Value.int .i64 (x.1 : Nat), Value.int .i64 (x.2 : Nat)], u.oneCell' = true := fun u hu => by simp at hu; rcases hu with rfl | rfl <;> rfl
   have hmid : ((exs l ++ sp).drop (i * 2)).take ((l.length - i) * 2) = exs (l.drop i) := by
     rw [List.drop_append_of_le_length (by omega), exs_drop, List.take_append_of_le_length (by rw [exs_length, List.length_drop]; exact Nat.le_refl _), List.take_of_length_le (by rw [exs_length, List.length_drop]; exact Nat.le_refl _)]
   have hhead : (exs l ++ sp).take (i * 2) = exs (l.take i) := by
     rw [List.take_append_of_le_length (by omega), exs_take]
   have hnew : exs (l.take i ++ (x :: l.drop i)) = exs (l.take i) ++ ([Value.int .i64 (x.1 : Nat), Value.int .i64 (x.2 : Nat)] ++ exs (l.drop i)) := by
     rw [exs_append, exs_cons]; rfl
   have hnl : (exs (l.take i ++ (x :: l.drop i))).length = (l.length + 1) * 2 := by
     rw [exs_length]; simp; omega
   by_cases hroom : l.length + 1 ≤ c
   · refine (insert_shift w g d l.length c i (exs l ++ sp) _ _ hb hd hne hlt hroom (by omega) h2 h1c hxc).mono fun e w' ⟨he, hw⟩ => ?_
     subst he hw
     have hB1 := Blk.setCells (((exs l ++ sp).drop (i * 2)).take ((l.length - i) * 2)) ((i + 1) * 2) (Blk.drew hb) (by rw [hmid, exs_length, List.length_drop]; omega)
     have hB2 := Blk.setCells [Value.int .i64 (x.1 : Nat), Value.int .i64 (x.2 : Nat)] (i * 2) hB1 (by rw [hmid]; simp [exs_length]; simp [exs_length] at h2; omega)
     rw [ins_shape (exs l ++ sp) l.length i _ _ _ _ hmid.symm hhead.symm hlt (by omega), ← hnew] at hB2
     refine ⟨_, rfl, Own.of_blk hB2 hnl ?_ hroom h4, Fr.setCells _ _ (Fr.setCells _ _ (Fr.refl _ _).drew (.inl rfl)) (.inl rfl), .inl rfl⟩
     rw [List.length_append, hnl, List.length_drop, h2]
     omega
   · refine (insert_grow w g d l.length c i (exs l ++ sp) _ _ hb hd hlt h3 (by omega) (by omega) h2 h1c hxc).mono fun e w' ⟨G, R, hG, hGm, hRl, hRt, he, hw⟩ => ?_
     subst he hw
     have hN0 : Blk ((w.alloc (.cells R.toArray 31)).drew) w.heap.size 31 R := Blk.new w _ R
     have hN1 := Blk.setCells [Value.int .i64 (x.1 : Nat), Value.int .i64 (x.2 : Nat)] (i * 2) hN0 (by rw [hRl]; simp; omega)
     have hN1l : (R.take (i * 2) ++ [Value.int .i64 (x.1 : Nat), Value.int .i64 (x.2 : Nat)] ++ R.drop (i * 2 + [Value.int .i64 (x.1 : Nat), Value.int .i64 (x.2 : Nat)].length)).length = G * 2 := by simp; omega
     have hml : (((exs l ++ sp).drop (i * 2)).take ((l.length - i) * 2)).length = (l.length - i) * 2 := by rw [hmid, exs_length, List.length_drop]
     have hN2 := Blk.setCells (((exs l ++ sp).drop (i * 2)).take ((l.length - i) * 2)) ((i + 1) * 2) (Blk.drew hN1) (by rw [hN1l, hml]; omega)
     have hnew' : exs (l.take i) ++ [Value.int .i64 (x.1 : Nat), Value.int .i64 (x.2 : Nat)] ++ exs (l.drop i) = exs (l.take i ++ (x :: l.drop i)) := by rw [hnew, List.append_assoc]
     rw [List.take_left' (by simp; omega), hmid, hRt, hhead, hnew'] at hN2
     rw [hmid]
     refine ⟨_, rfl, Own.of_blk hN2 hnl ?_ hG hGm, (Fr.setCells _ _ (Fr.setCells _ _ ((Fr.refl _ w).alloc _).drew (.inr (Nat.le_refl _))).drew (.inr (Nat.le_refl _))), .inr ⟨_, rfl, Nat.le_refl _⟩⟩
     rw [List.length_append, hnl, List.length_drop]
     have := hN1l
     rw [hRt, hhead] at this
     rw [this, exs_length, List.length_drop]
     omega
 · obtain rfl : i = l.length := by omega
   refine (insert_end v l x d w h hd hl).mono fun e w' ⟨v', he, hap⟩ => ⟨v', he, ?_, hap.fr, hap.blk⟩
   rw [List.take_length, List.drop_length]
   exact hap.own
end Go.Proofs.Ytnjhocjgpppeaaa
namespace Go.Proofs.Ytnjhocjgpppeaaa.Sm
open Go Go.RowKit
/-! Rows of plain values. -/
def gF {α : Type} [Inhabited α] (g : α → List Value) (l : List α) : Nat → List AV := fun r => (g (l.getD r default)).map .sy
theorem sy_VRs (I : Im) : ∀ l : List Value, VRs0 I (l.map .sy) l
 | [] => .nil
 | x :: l => .cons (.sy x) (sy_VRs I l)
theorem sy_inv (I : Im) : ∀ {l vs : List Value}, VRs0 I (l.map .sy) vs → vs = l
 | [], vs, h => by cases h; rfl
 | x :: l, vs, h => by
   cases h with
   | cons e t => cases e; rw [sy_inv I t]
theorem gF_inv {α : Type} [Inhabited α] {g : α → List Value} {k : Nat} (hg : ∀ x, (g x).length = k) {I : Im} : ∀ {l : List α} {vs : List Value}, vs.length = l.length * k → (∀ r, r < l.length → VRs0 I (gF g l r) ((vs.drop (r * k)).take k)) → vs = l.flatMap g
 | [], vs, hl, _ => by simpa using hl
 | x :: l, vs, hl, h => by
   have h0 := h 0 (by simp)
   have e0 : vs.take k = g x := by
     have := sy_inv I (l := g x) (vs := vs.take k) (by simpa [gF] using h0)
     exact this
   have ih := gF_inv hg (l := l) (vs := vs.drop k) (by rw [List.length_drop, hl, List.length_cons, Nat.succ_mul]; omega) (fun r hr => by
     have := h (r + 1) (by simpa using hr)
     rw [List.drop_drop]
     simpa [gF, Nat.succ_mul, Nat.add_comm] using this)
   rw [List.flatMap_cons, ← ih, ← e0, List.take_append_drop]
theorem gF_rows {α : Type} [Inhabited α] {g : α → List Value} {k : Nat} (hg : ∀ x, (g x).length = k) {I : Im} : ∀ {l : List α} {r : Nat}, r < l.length → VRs0 I (gF g l r) (((l.flatMap g).drop (r * k)).take k)
 | x :: l, 0, _ => by
   rw [List.flatMap_cons, Nat.zero_mul, List.drop_zero, List.take_append_of_le_length (by rw [hg]; exact Nat.le_refl _), List.take_of_length_le (by rw [hg]; exact Nat.le_refl _)]
   exact sy_VRs I (g x)
 | x :: l, r + 1, h => by
   have := gF_rows hg (I := I) (l := l) (r := r) (by simpa using h)
   rw [List.flatMap_cons, show (r + 1) * k = k + r * k by rw [Nat.succ_mul, Nat.add_comm], ← List.drop_drop, List.drop_left' (hg x)]
   simpa [gF] using this
theorem ow_own {w0 : Bs} {ρ : Env} {H : Tr AB} {n : Nat} {w : World} (hr : HR w0 ρ H n w) {i m k : Nat} {T : TypeId} {f : Nat → List AV} {v : Value} (hx : VR ρ (.ow i m) v) (hB : H.get i = some (.rw T k m f)) :
   ∃ xs, Own w T k v m xs ∧ ∀ r, r < m → VRs0 ρ.im (f r) ((xs.drop (r * k)).take k) := by
 cases hx with
 | ow _ hi hn hc =>
   obtain ⟨o, ho, vs, sp, rfl, h1, h2, h3, h4, h5⟩ := hr.blk hi hB
   exact ⟨vs, Own.of_blk (show Blk w _ T _ from ho) h1 h2 h3 h4, h5⟩
 | ow0 => exact ⟨[], World.ownsRow_nil _ _ _ _, fun r hr => absurd hr (Nat.not_lt_zero _)⟩
theorem ow_vals {w0 : Bs} {ρ : Env} {H : Tr AB} {n : Nat} {w : World} (hr : HR w0 ρ H n w) {i k : Nat} {T : TypeId} {f : Nat → List AV} {v : Value} {α : Type} [Inhabited α] {g : α → List Value} (hg : ∀ x, (g x).length = k) {l : List α} (hx : VR ρ (.ow i l.length) v)
   (hB : H.get i = some (.rw T k l.length f)) (hf : ∀ r, r < l.length → f r = gF g l r) : Own w T k v l.length (l.flatMap g) := by
 obtain ⟨xs, h1, h2⟩ := ow_own hr hx hB
 have := gF_inv hg (l := l) (vs := xs) h1.1 (fun r hr => by rw [← hf r hr]; exact h2 r hr)
 rwa [this] at h1
theorem HR.newOw {w0 : Bs} {ρ : Env} {H : Tr AB} {n : Nat} {w w' : World} (hr : HR w0 ρ H n w) (hf : Fr No w w') {T : TypeId} {k m : Nat} {v : Value} {xs : List Value} {f : Nat → List AV} (ho : Own w' T k v m xs) (hnew : ∀ b, v.ownBlock = some b → w.heap.size ≤ b)
   (hrow : ∀ r, r < m → VRs0 ρ.im (f r) ((xs.drop (r * k)).take k)) : ∃ ρ', VR ρ' (.ow n m) v ∧ HR w0 ρ' (tput H n (.rw T k m f)) (n + 1) w' ∧ Ext ρ ρ' H (tput H n (.rw T k m f)) n (n + 1) := by
 rcases ho.cases with ⟨rfl, rfl, rfl⟩ | ⟨g, c, rfl⟩
 · exact ⟨ρ, .ow0 _, (hr.old hf).put _, Ext.put (hr.old hf) _⟩
 · obtain ⟨sp, q1, q2, q3, q4, q5⟩ := ho.blk
   obtain ⟨g1, g2⟩ := hr.newB (B := .rw T k m f) (c := c) hf q1 (hnew g rfl) rfl ⟨xs, sp, rfl, q2, q3, q4, q5, hrow⟩
   exact ⟨_, .ow _ (Env.set_same _ _ _) q4 q5, g1, g2⟩
theorem HR.turned {w0 : Bs} {ρ : Env} {H : Tr AB} {n : Nat} {w w' : World} (h : HR w0 ρ H n w) {i len m size : Nat} {v v' : Value} {e T0 : TypeId} {k0 m0 : Nat} {f0 f : Nat → List AV} {l : List Value} (hx : VR ρ (.ow i len) v) (hB : H.get i = some (.rw T0 k0 m0 f0))
   (ho : Own w' e size v' m l) (hfr : Fr (fun k => v.ownBlock = some k) w w') (hblk : v'.ownBlock = v.ownBlock ∨ ∃ k, v'.ownBlock = some k ∧ w.heap.size ≤ k) (hrow : ∀ r, r < m → VRs0 ρ.im (f r) ((l.drop (r * size)).take size)) :
   ∃ ρ', VR ρ' (.ow n m) v' ∧ HR w0 ρ' (tput (tput H i .dead) n (.rw e size m f)) (n + 1) w' ∧ Ext ρ ρ' H (tput (tput H i .dead) n (.rw e size m f)) n (n + 1) := by
 have hin : i < n := by
   rcases Nat.lt_or_ge i n with h' | h'
   · exact h'
   · rw [(h.top h').2] at hB; cases hB
 have hn := (h.top (Nat.le_refl n)).1
 have kp : ∀ {j : Nat}, j < n → Keeps H (tput (tput H i .dead) n (.rw e size m f)) j := fun {j} hj T l' q => by
   have hji : j ≠ i := fun e => by subst e; rw [hB] at q; cases q
   rw [get_tput, if_neg (by omega), get_tput, if_neg hji]; exact q
 have ext : ∀ {g c : Nat}, Ext ρ (ρ.set n (g, c)) H (tput (tput H i .dead) n (.rw e size m f)) n (n + 1) := fun {g c} => ⟨Env.le_set hn _, fun {j} hj => by rw [Env.set_at, if_neg (by omega)], fun {j} hj _ => kp hj, Nat.le_succ _⟩
 have swap : ∀ {ρ' : Env} {w2 : World}, HR w0 ρ' (tput (tput H n (.rw e size m f)) i .dead) (n + 1) w2 → HR w0 ρ' (tput (tput H i .dead) n (.rw e size m f)) (n + 1) w2 := fun g => g.congr fun j => by
   rw [get_tput, get_tput, get_tput, get_tput]
   by_cases e1 : j = n
   · subst e1; rw [if_pos rfl, if_neg (by omega), if_pos rfl]
   · rw [if_neg e1, if_neg e1]
 rcases ho.cases with ⟨rfl, rfl, rfl⟩ | ⟨g, c, rfl⟩
 · rcases hblk with e1 | ⟨k, e1, _⟩
   · have hf : Fr No w w' := hfr.mono fun k hk => by rw [← e1] at hk; cases hk
     exact ⟨ρ, .ow0 _, ((h.old hf).kill hin).put _, ⟨ρ.le_refl, fun _ => rfl, fun {j} hj _ => kp hj, Nat.le_succ _⟩⟩
   · cases e1
 · obtain ⟨sp, q1, q2, q3, q4, q5⟩ := ho.blk
   have hbr : BR (ρ.set n (g, c)) c (.rw e size m f) (.cells (l ++ sp).toArray e (0, 0)) := ⟨l, sp, rfl, q2, q3, q4, q5, hrow⟩
   have hvr : VR (ρ.set n (g, c)) (.ow n m) (.slice (some ⟨g, 0, none⟩) m c) := .ow _ (Env.set_same _ _ _) q4 q5
   cases hx with
   | @ow _ b c0 _ hi hn0 hc0 =>
     refine ⟨_, hvr, h.moveG hi hB rfl rfl rfl ?_ q1 hbr (hfr.mono fun k hk => ?_), ext⟩
     · rcases hblk with e1 | ⟨k, e1, e2⟩
       · left; simpa [Value.ownBlock] using e1
       · right
         have : g = k := by simpa [Value.ownBlock] using e1
         rw [this]; exact e2
     · have : b = k := by simpa [Value.ownBlock] using hk
       exact this.symm
   | ow0 =>
     have hf : Fr No w w' := hfr.mono fun k hk => by cases hk
     have hgn : w.heap.size ≤ g := by
       rcases hblk with e1 | ⟨k, e1, e2⟩
       · cases e1
       · have : g = k := by simpa [Value.ownBlock] using e1
         rw [this]; exact e2
     obtain ⟨g1, _⟩ := h.newB (B := .rw e size m f) (c := c) hf q1 hgn rfl hbr
     exact ⟨_, hvr, swap (g1.kill (i := i) (by omega)), ext⟩
theorem tab : (Try.prog.funcs.toList.all fun fn => !(fn.name == "runtime.NumGoroutine")) = true := by kernel_rfl
theorem mix : Try.prog.follows .mixedOrders = true := Try.checked.mixed
noncomputable abbrev S0 : Sy := sym Try.prog noF noG
theorem s0_ok : S0.Ok Try.prog := sym_ok (noF_ok _) (noG_ok _) tab mix
abbrev ivA (z : Int) : AV := .sy (.int .i64 z)
/-! Extents. -/
structure ExD where
 at_ : Int
 n : Int
instance : Inhabited ExD := ⟨⟨0, 0⟩⟩
abbrev exT : TypeId := 31
def exV2 (x : ExD) : List Value := [.int .i64 x.at_, .int .i64 x.n]
abbrev exA (x : ExD) : List AV := [ivA x.at_, ivA x.n]
def exF (l : List ExD) : Nat → List AV := fun r => exA (l.getD r default)
theorem exV2_len (x : ExD) : (exV2 x).length = 2 := rfl
def exQ : List AV → ExD
 | [a, b] => ⟨numF [a], numF [b]⟩
 | _ => default
def exsF (n : Nat) (f : Nat → List AV) : List ExD := (List.range n).map fun r => exQ (f r)
theorem exsF_len (n : Nat) (f : Nat → List AV) : (exsF n f).length = n := by simp [exsF]
theorem exsF_exF (l : List ExD) : exsF l.length (exF l) = l := by
 unfold exsF
 apply List.ext_getElem?
 intro j
 by_cases h : j < l.length
 · rw [List.getElem?_map, List.getElem?_range h, List.getElem?_eq_getElem h, Option.map_some]
   show some (exQ (exA (l.getD j default))) = _
   rw [show exQ (exA (l.getD j default)) = l.getD j default from rfl, List.getD_eq_getElem?_getD, List.getElem?_eq_getElem h]; rfl
 · rw [List.getElem?_eq_none (by simp; omega), List.getElem?_eq_none (by omega)]
def ExD.pos (x : ExD) : Prop := 0 ≤ x.at_ ∧ 0 ≤ x.n
def ExD.nat (x : ExD) : Nat × Nat := (x.at_.toNat, x.n.toNat)
theorem ex_nat {x : ExD} (h : x.pos) : exC x.nat = exV2 x := by
 obtain ⟨h1, h2⟩ := h
 simp only [exC, exV2, ExD.nat, Int.toNat_of_nonneg h1, Int.toNat_of_nonneg h2]
theorem exs_nat : ∀ {l : List ExD}, (∀ x ∈ l, x.pos) → exs (l.map ExD.nat) = l.flatMap exV2
 | [], _ => rfl
 | x :: l, h => by
   have ih := exs_nat (l := l) (fun y hy => h y (by simp [hy]))
   simp only [exs] at ih
   simp only [exs, List.map_cons, List.flatMap_cons, ih, ex_nat (h x (by simp))]
def cloneEK (args : List AV) (H : Tr AB) (n : Nat) : Option ((AV × Tr AB × Nat) × Prop) := match args with
 | [.ow i m] => match H.get i with
   | some (.rw T k m' f) => cond (Nat.beq T exT && Nat.beq k 2) (some ((.ow n m, tput H n (.rw exT 2 m f), n + 1), m' = m ∧ m ≤ 1000000 ∧ (∀ r, r < m → f r = exF (exsF m f) r) ∧ ∀ x ∈ exsF m f, x.pos)) none
   | _ => none
 | _ => none
def cloneEF : CF := oneF 26 cloneEK
theorem cloneEF_ok : FOk Try.prog cloneEF := by
 refine oneF_ok tab Try.func26 (by kernel_rfl) ?_
 intro args H n r h hC w0 ρ w vs hr hvs
 unfold cloneEK at h
 split at h
 · rename_i i m
   split at h
   · rename_i T k m' f hB
     cases hb : (Nat.beq T exT && Nat.beq k 2) with
     | false => rw [hb] at h; cases h
     | true =>
       rw [hb] at h
       cases h
       simp only [Bool.and_eq_true, beq_dec, decide_eq_true_eq] at hb
       obtain ⟨rfl, rfl⟩ := hb
       obtain ⟨rfl, h1, h2, h3⟩ := hC
       cases hvs with
       | @cons _ u _ _ e1 t =>
       cases t
       have hlen := exsF_len m' f
       have e1' : VR ρ (.ow i (exsF m' f).length) u := by rw [hlen]; exact e1
       have hB' : H.get i = some (.rw exT 2 (exsF m' f).length f) := by rw [hlen]; exact hB
       have hown := ow_vals hr exV2_len e1' hB' (fun r hr => by rw [hlen] at hr; exact h2 r hr)
       rw [← exs_nat h3, ← List.length_map ExD.nat] at hown
       refine (cloneE_any u _ w hown (by rw [List.length_map, hlen]; exact h1)).mono ?_
       rintro e w' ⟨v', rfl, ho, hnew, hf⟩
       rw [exs_nat h3, List.length_map, hlen] at ho
       obtain ⟨ρ', g1, g2, g3⟩ := hr.newOw (f := f) hf ho hnew (fun r hr => by
         rw [h2 r hr]; exact gF_rows (I := ρ.im) exV2_len (l := exsF m' f) (by rw [hlen]; exact hr))
       exact ⟨ρ', v', rfl, g1, g2, g3⟩
   · cases h
 · cases h
def insEK (args : List AV) (H : Tr AB) (n : Nat) : Option ((AV × Tr AB × Nat) × Prop) := match args with
 | [.ow i m, ix, .sl j 0 1 1] => match H.get i, H.get j, intA ix with
   | some (.rw T k m' f), some (.mem T2 none [a, b]), some (.i64, z) => match intA a, intA b with
     | some (.i64, p), some (.i64, q) => cond (Nat.beq T exT && Nat.beq k 2 && Nat.beq T2 exT)
         (some ((.ow n (m + 1), tput (tput H i .dead) n (.rw exT 2 (m + 1) (exF ((exsF m f).take z.toNat ++ ⟨p, q⟩ :: (exsF m f).drop z.toNat))), n + 1), m' = m ∧ m ≤ 10000 ∧ 0 ≤ z ∧ z ≤ m ∧ 0 ≤ p ∧ 0 ≤ q ∧ (∀ r, r < m → f r = exF (exsF m f) r) ∧ ∀ x ∈ exsF m f, x.pos)) none
     | _, _ => none
   | _, _, _ => none
 | _ => none
def insEF : CF := oneF 45 insEK
theorem insEF_ok : FOk Try.prog insEF := by
 refine oneF_ok tab Try.func45 (by kernel_rfl) ?_
 intro args H n r h hC w0 ρ w vs hr hvs
 unfold insEK at h
 split at h
 · rename_i i m ix j
   split at h
   · rename_i T k m' f T2 a b z hB hD hz
     split at h
     · rename_i p q hp hq
       cases hb : (Nat.beq T exT && Nat.beq k 2 && Nat.beq T2 exT) with
       | false => rw [hb] at h; cases h
       | true =>
         rw [hb] at h
         cases h
         simp only [Bool.and_eq_true, beq_dec, decide_eq_true_eq] at hb
         obtain ⟨⟨rfl, rfl⟩, rfl⟩ := hb
         obtain ⟨rfl, h1, hz0, hz1, hp0, hq0, h2, h3⟩ := hC
         cases hvs with
         | @cons _ u _ _ e1 t =>
         cases t with
         | @cons _ u2 _ _ e2 t =>
         cases t with
         | @cons _ u3 _ _ e3 t =>
         cases t
         obtain rfl := intA_sound hz e2
         cases e3 with
         | @sl _ d dc _ _ _ hd =>
         obtain ⟨o, ho, vs, sp, fz, hv, rfl, hun, hsp, hfz⟩ := hr.blk hd hD
         subst hsp
         cases hv with
         | @cons _ v0 _ _ a0 tv =>
         cases tv with
         | @cons _ v1 _ _ a1 tv =>
         cases tv
         obtain rfl := intA_sound hp a0
         obtain rfl := intA_sound hq a1
         have hlen := exsF_len m' f
         have e1' : VR ρ (.ow i (exsF m' f).length) u := by rw [hlen]; exact e1
         have hB' : H.get i = some (.rw exT 2 (exsF m' f).length f) := by rw [hlen]; exact hB
         have hown := ow_vals hr exV2_len e1' hB' (fun r hr => by rw [hlen] at hr; exact h2 r hr)
         rw [← exs_nat h3, ← List.length_map ExD.nat] at hown
         have hx : Two w d (.int .i64 (ExD.nat ⟨p, q⟩).1) (.int .i64 (ExD.nat ⟨p, q⟩).2) := ⟨exT, fz, by
           have g1 : ((ExD.nat ⟨p, q⟩).1 : Int) = p := Int.toNat_of_nonneg hp0
           have g2 : ((ExD.nat ⟨p, q⟩).2 : Int) = q := Int.toNat_of_nonneg hq0
           rw [g1, g2]; simpa using ho⟩
         have hne : u.ownBlock ≠ some d := fun e => by
           cases e1 with
           | @ow _ b c _ hi hn hc =>
             have hbd : b = d := by simpa [Value.ownBlock] using e
             subst hbd
             have := hr.inj hi hd hB hD rfl rfl
             subst this
             rw [hB] at hD; cases hD
           | ow0 => cases e
         obtain ⟨zn, rfl⟩ := Int.eq_ofNat_of_zero_le hz0
         refine (insert_any u ((exsF m' f).map ExD.nat) zn (ExD.nat ⟨p, q⟩) d w hown hx hne (by rw [List.length_map, hlen]; omega) (by rw [List.length_map, hlen]; exact h1)).mono ?_
         rintro e w' ⟨v', rfl, ho', hfr, hblk⟩
         have hnew : ∀ x ∈ (exsF m' f).take zn ++ ⟨p, q⟩ :: (exsF m' f).drop zn, x.pos := fun x hx => by
           rcases List.mem_append.1 hx with hx | hx
           · exact h3 x (List.mem_of_mem_take hx)
           · rcases List.mem_cons.1 hx with rfl | hx
             · exact ⟨hp0, hq0⟩
             · exact h3 x (List.mem_of_mem_drop hx)
         have hmap : ((exsF m' f).map ExD.nat).take zn ++ ExD.nat ⟨p, q⟩ :: ((exsF m' f).map ExD.nat).drop zn = ((exsF m' f).take zn ++ ⟨p, q⟩ :: (exsF m' f).drop zn).map ExD.nat := by simp
         rw [hmap, exs_nat hnew, List.length_map, hlen] at ho'
         have hlen2 : ((exsF m' f).take zn ++ ⟨p, q⟩ :: (exsF m' f).drop zn).length = m' + 1 := by simp [hlen]; omega
         obtain ⟨ρ', g1, g2, g3⟩ := hr.turned (f := exF ((exsF m' f).take zn ++ ⟨p, q⟩ :: (exsF m' f).drop zn)) e1 hB ho' hfr hblk (fun r hr => gF_rows (I := ρ.im) exV2_len (l := (exsF m' f).take zn ++ ⟨p, q⟩ :: (exsF m' f).drop zn) (by rw [hlen2]; exact hr))
         exact ⟨ρ', v', rfl, g1, g2, g3⟩
     · cases h
   · cases h
 · cases h
structure SpD where
 lo : Int
 hi : Int
 l : List ExD
abbrev ExD.end (x : ExD) : Int := x.at_ + x.n
def Can (hi : Int) : Int → List ExD → Prop
 | _, [] => True
 | lo, x :: l => lo ≤ x.at_ ∧ 1 ≤ x.n ∧ x.at_ + x.n ≤ hi ∧ Can hi (x.at_ + x.n + 1) l
structure SpD.Ok (s : SpD) : Prop where
 lo : 0 ≤ s.lo
 le : s.lo ≤ s.hi
 hi : s.hi ≤ 4096
 can : Can s.hi s.lo s.l
theorem Can.mono {hi : Int} : ∀ {l : List ExD} {a b : Int}, Can hi a l → b ≤ a → Can hi b l
 | [], _, _, _, _ => trivial
 | _ :: _, _, _, h, hb => ⟨by have := h.1; omega, h.2⟩
theorem Can.all {hi : Int} : ∀ {l : List ExD} {a : Int}, Can hi a l → ∀ x ∈ l, a ≤ x.at_ ∧ 1 ≤ x.n ∧ x.at_ + x.n ≤ hi
 | [], _, _, x, h => by cases h
 | y :: l, a, h, x, hx => by
   rcases List.mem_cons.1 hx with rfl | hx
   · exact ⟨h.1, h.2.1, h.2.2.1⟩
   · have := Can.all h.2.2.2 x hx
     have h1 := h.1
     have h2 := h.2.1
     omega
theorem Can.len {hi : Int} : ∀ {l : List ExD} {a : Int}, Can hi a l → a ≤ hi → a + l.length ≤ hi + 1
 | [], _, _, h => by simp; omega
 | x :: l, a, h, _ => by
   obtain ⟨h1, h2, h3, h4⟩ := h
   simp only [List.length_cons]
   by_cases e : x.at_ + x.n + 1 ≤ hi
   · have := Can.len h4 e; omega
   · cases l with
     | nil => simp; omega
     | cons y l => have := h4.1; have := h4.2.1; have := h4.2.2.1; omega
theorem SpD.Ok.len {s : SpD} (h : s.Ok) : s.l.length ≤ 4097 := by
 have := Can.len h.can h.le
 have := h.lo; have := h.hi
 omega
theorem SpD.Ok.pos {s : SpD} (h : s.Ok) : ∀ x ∈ s.l, x.pos := fun x hx => by
 have := Can.all h.can x hx
 have := h.lo
 exact ⟨by omega, by omega⟩
def gapsD : Int → List ExD → List ExD
 | _, [] => []
 | a, x :: m => if a < x.at_ then ⟨a, x.at_ - a⟩ :: gapsD (x.at_ + x.n) m else gapsD (x.at_ + x.n) m
def mD (s : SpD) : List ExD := s.l ++ [⟨s.hi, 0⟩]
def SpD.gaps (s : SpD) : List ExD := gapsD s.lo (mD s)
def Run : Int → List ExD → Prop
 | a, [] => 0 ≤ a ∧ a ≤ 4096
 | a, x :: m => 0 ≤ a ∧ a ≤ x.at_ ∧ 0 ≤ x.n ∧ x.at_ + x.n ≤ 4096 ∧ Run (x.at_ + x.n) m
theorem run_can {hi : Int} (hh : hi ≤ 4096) : ∀ {l : List ExD} {a b : Int}, Can hi a l → 0 ≤ b → b ≤ a → b ≤ hi → Run b (l ++ [⟨hi, 0⟩])
 | [], a, b, _, h0, _, h2 => ⟨h0, h2, Int.le_refl _, by show hi + 0 ≤ 4096; omega, by show 0 ≤ hi + 0; omega, by show hi + 0 ≤ 4096; omega⟩
 | x :: l, a, b, h, h0, h1, h2 => by
   obtain ⟨g1, g2, g3, g4⟩ := h
   exact ⟨h0, by omega, by omega, by omega, run_can hh g4 (by omega) (by omega) g3⟩
theorem SpD.Ok.run {s : SpD} (h : s.Ok) : Run s.lo (mD s) := run_can h.hi h.can h.lo (Int.le_refl _) h.le
theorem mD_len (s : SpD) : (mD s).length = s.l.length + 1 := by simp [mD]
theorem drop_at {l : List ExD} {k : Nat} (h : k < l.length) : l.drop k = l.getD k default :: l.drop (k + 1) := by
 rw [List.drop_eq_getElem_cons h, List.getD_eq_getElem?_getD, List.getElem?_eq_getElem h]; rfl
def sumG : List ExD → Int
 | [] => 0
 | g :: l => g.n + sumG l
def maxG : Int → List ExD → Int
 | a, [] => a
 | a, g :: l => maxG (max a g.n) l
def leftD (s : SpD) : Int := sumG s.gaps
def longD (s : SpD) : Int := maxG 0 s.gaps
def inE (x : ExD) (z : Int) : Bool := decide (x.at_ ≤ z) && decide (z < x.at_ + x.n)
def hasD (s : SpD) (z : Int) : Bool := s.l.any fun x => inE x z
abbrev spT : TypeId := 52
def spB (s : SpD) : List AB := [.mem spT none [.v (.bool true), ivA s.lo, ivA s.hi, .ow 1 s.l.length], .rw exT 2 s.l.length (exF s.l)]
structure SpW where
 lo : Int
 hi : Int
 n : Nat
 f : Nat → List AV
def SpW.toL (x : SpW) : SpD := ⟨x.lo, x.hi, exsF x.n x.f⟩
def SpD.raw (s : SpD) : SpW := ⟨s.lo, s.hi, s.l.length, exF s.l⟩
theorem raw_toL (s : SpD) : s.raw.toL = s := by
 unfold SpD.raw SpW.toL
 rw [exsF_exF]
structure SpW.Ok (x : SpW) : Prop where
 ok : x.toL.Ok
 f : ∀ r, r < x.n → x.f r = exF (exsF x.n x.f) r
theorem raw_ok {s : SpD} (h : s.Ok) : s.raw.Ok := ⟨by rw [raw_toL]; exact h, fun r _ => by show exF s.l r = exF (exsF s.l.length (exF s.l)) r; rw [exsF_exF]⟩
def spwB (x : SpW) : List AB := [.mem spT none [.v (.bool true), ivA x.lo, ivA x.hi, .ow 1 x.n], .rw exT 2 x.n x.f]
def spOf (H : Tr AB) (i : Nat) : Option (SpW × Nat × Prop) :=
 match H.get i with
 | some (.mem T none [.v (.bool true), a, b, .ow p N]) => match H.get p with
   | some (.rw T1 w N' f) => match intA a, intA b with
     | some (.i64, lo), some (.i64, hi) => cond (Nat.beq T spT && Nat.beq T1 exT && Nat.beq w 2 && !(Nat.beq i p)) (some (⟨lo, hi, N, f⟩, p, N' = N)) none
     | _, _ => none
   | _ => none
 | _ => none
theorem inP1 {i p : Nat} : inS [i, p] i = some 0 := by simp [inS, posL]
theorem inP2 {i p : Nat} (h : i ≠ p) : inS [i, p] p = some 1 := by simp [inS, posL, h.symm]
theorem intA_leS {x : AV} {k : IntKind} {z : Int} (h : intA x = some (k, z)) (σ : Nat → Option Nat) : leA (renA σ x) (.sy (.int k z)) := by
 unfold intA at h
 split at h
 · cases h; exact ⟨rfl, rfl⟩
 · cases h; exact ⟨rfl, rfl⟩
 · cases h
theorem spOf_seen {H : Tr AB} {i p : Nat} {x : SpW} {C : Prop} (h : spOf H i = some (x, p, C)) (hC : C) : i ≠ p ∧ (x.Ok → seenL H (inS [i, p]) [i, p] (spB x.toL)) ∧ seenL H (inS [i, p]) [i, p] (spwB x) ∧ ∀ (T : TypeId) (l : List AV), H.get p ≠ some (.mem T none l) := by
 unfold spOf at h
 split at h
 · rename_i T a b p' N h0
   split at h
   · rename_i T1 w N' f h1
     split at h
     · rename_i lo hi ha hb
       cases hq : (Nat.beq T spT && Nat.beq T1 exT && Nat.beq w 2 && !(Nat.beq i p')) with
       | false => rw [hq] at h; cases h
       | true =>
         rw [hq] at h
         cases h
         simp only [Bool.and_eq_true, Bool.not_eq_true', beq_dec, decide_eq_true_eq, decide_eq_false_iff_not] at hq
         obtain ⟨⟨⟨rfl, rfl⟩, rfl⟩, hne⟩ := hq
         have hN : N' = N := hC
         subst hN
         have hs : ∀ {L : Nat} {g : Nat → List AV}, L = N' → (∀ r, r < N' → f r = g r) → seenL H (inS [i, p]) [i, p] [.mem spT none [.v (.bool true), ivA lo, ivA hi, .ow 1 L], .rw exT 2 L g] := fun {L g} e hg => by
           subst e
           refine ⟨⟨_, h0, rfl, rfl, rfl, ?_⟩, ⟨_, h1, rfl, rfl, rfl, rfl, hg⟩, trivial⟩
           simp only [renL, renA, inP2 hne]
           exact ⟨rfl, intA_leS ha _, intA_leS hb _, ⟨rfl, rfl⟩, trivial⟩
         exact ⟨hne, fun hx => hs (exsF_len _ _) hx.f, hs rfl (fun _ _ => rfl), fun T l e => by rw [h1] at e; cases e⟩
     · cases h
   · cases h
 · cases h
theorem leB_rwf {B : AB} {T : TypeId} {w n : Nat} {f g : Nat → List AV} (h : leB B (.rw T w n f)) (hf : ∀ r, r < n → f r = g r) : leB B (.rw T w n g) := by
 cases B with
 | rw T' w' n' f' =>
   obtain ⟨h1, h2, h3, h4⟩ := h
   exact ⟨h1, h2, h3, fun r hr => (h4 r hr).trans (hf r (by rw [← h3]; exact hr))⟩
 | _ => simp [leB] at h
theorem sp_same {x : SpW} (hx : x.Ok) {H : Tr AB} (h : endL (spB x.toL) 0 H) : endL (spwB x) 0 H := by
 obtain ⟨⟨B0, a0, b0⟩, ⟨B1, a1, b1⟩, _⟩ := h
 have e1 : x.toL.l.length = x.n := exsF_len _ _
 rw [e1] at b0 b1
 exact ⟨⟨B0, a0, b0⟩, ⟨B1, a1, leB_rwf b1 (fun r hr => (hx.f r hr).symm)⟩, trivial⟩
abbrev SpF := SpD → List AV → Option ((List AV × AV × List (Nat × AB)) × Prop)
def spK (f : SpF) (args : List AV) (H : Tr AB) : Option Ex := match args with
 | .ptr i 0 :: rest => match spOf H i with
   | some (x, p, C) => match f x.toL rest with
     | some ((ys, v, E), C') => some { μ := [i, p], args := .ptr 0 0 :: ys, L := spB x.toL, res := v, L' := spwB x, E := E, C := C ∧ x.Ok ∧ C' }
     | none => none
   | none => none
 | _ => none
theorem spX_ok {S : Sy} (hok : S.Ok Try.prog) {F : FuncId} {fn : Func} (hF : Try.prog.funcs[F]? = some fn) (hb : fn.body.isSome = true) {f : SpF}
   (h : ∀ {s rest ys v E C}, f s rest = some ((ys, v, E), C) → s.Ok → C → (∀ σ, leL (renL σ rest) ys) ∧ ((E.map (·.1)).Nodup ∧ ∀ p ∈ E, 2 ≤ p.1) ∧ (startF (tabOf Try.prog) F (.ptr 0 0 :: ys) (memF (spB s) 0 .e) 2).isSome = true ∧
     To S Try.prog F (startOf Try.prog F (.ptr 0 0 :: ys) (memF (spB s) 0 .e) 2) (fun x H' _ => leA x v ∧ endL (spB s) 0 H' ∧ endE E H')) :
   FOk Try.prog (oneX F (spK f)) := oneX_ok hok tab hF hb fun {args H n e} hk hC => by
 unfold spK at hk
 split at hk
 · rename_i i rest
   split at hk
   · rename_i x p C hr
     split at hk
     · rename_i ys v E C' hf
       cases hk
       obtain ⟨c1, c2, c3⟩ : C ∧ x.Ok ∧ C' := hC
       obtain ⟨n1, hs, _, hp⟩ := spOf_seen hr c1
       obtain ⟨g0, gE, g1, g2⟩ := h hf c2.ok c3
       refine ⟨by simp [n1], hs c2, rfl, ?_, gE, ?_, g1, To.mono g2 fun y H' n' hq => ⟨hq.1, sp_same c2 hq.2.1, hq.2.2⟩⟩
       · simp only [renL, renA, inP1]
         exact ⟨leA_refl _, g0 _⟩
       · intro w0 ρ w vs hr0 hv j hj
         simp at hj
         rcases hj with rfl | rfl
         · exact .inl (VRs.bind hv (j, True) (by simp [bindL, bindA]) trivial)
         · exact .inr hp
     · cases hk
   · cases hk
 · cases hk
abbrev SpG := SpD → List AV → Option (List AV × Bool × Prop × (Bool → AV × List AB × List (Nat × AB)))
def spKG (f : SpG) (args : List AV) (H : Tr AB) : Option (Bool × Prop × (Bool → Ex)) := match args with
 | .ptr i 0 :: rest => match spOf H i with
   | some (x, p, C) => match f x.toL rest with
     | some (ys, b, C', r) => some (b, C ∧ x.Ok ∧ C', fun v => { μ := [i, p], args := .ptr 0 0 :: ys, L := spB x.toL, res := (r v).1, L' := cond v (r v).2.1 (spwB x), E := (r v).2.2, C := True })
     | none => none
   | none => none
 | _ => none
theorem spXG_ok {S : Sy} (hok : S.Ok Try.prog) {F : FuncId} {fn : Func} (hF : Try.prog.funcs[F]? = some fn) (hb : fn.body.isSome = true) {f : SpG}
   (h : ∀ {s rest ys b C r}, f s rest = some (ys, b, C, r) → s.Ok → C → (∀ σ, leL (renL σ rest) ys) ∧ (b = true → ((r b).2.1).length = 2) ∧ (((r b).2.2.map (·.1)).Nodup ∧ ∀ p ∈ (r b).2.2, 2 ≤ p.1) ∧ (startF (tabOf Try.prog) F (.ptr 0 0 :: ys) (memF (spB s) 0 .e) 2).isSome = true ∧
     To S Try.prog F (startOf Try.prog F (.ptr 0 0 :: ys) (memF (spB s) 0 .e) 2) (fun x H' _ => leA x (r b).1 ∧ endL (cond b (r b).2.1 (spB s)) 0 H' ∧ endE (r b).2.2 H')) :
   GOk Try.prog (oneXG F (spKG f)) := oneXG_ok hok tab hF hb fun {args H n e} hk hC => by
 unfold spKG at hk
 split at hk
 · rename_i i rest
   split at hk
   · rename_i x p C hr
     split at hk
     · rename_i ys b C' r hf
       cases hk
       obtain ⟨c1, c2, c3⟩ : C ∧ x.Ok ∧ C' := hC
       obtain ⟨n1, hs, _, hp⟩ := spOf_seen hr c1
       obtain ⟨g0, gL, gE, g1, g2⟩ := h hf c2.ok c3
       refine ⟨by simp [n1], hs c2, ?_, ?_, gE, ?_, g1, To.mono g2 fun y H' n' hq => ⟨hq.1, ?_, hq.2.2⟩⟩
       · cases b with
         | true => exact gL rfl
         | false => rfl
       · simp only [renL, renA, inP1]
         exact ⟨leA_refl _, g0 _⟩
       · intro w0 ρ w vs hr0 hv j hj
         simp at hj
         rcases hj with rfl | rfl
         · exact .inl (VRs.bind hv (j, True) (by simp [bindL, bindA]) trivial)
         · exact .inr hp
       · cases b with
         | true => exact hq.2.1
         | false => exact sp_same c2 hq.2.1
     · cases hk
   · cases hk
 · cases hk
abbrev w64 (z : Int) : Int := wrap64 z
theorem w64_of {z : Int} (h0 : -9223372036854775808 ≤ z) (h1 : z ≤ 9223372036854775807) : w64 z = z := by
 show wrap64 z = z
 unfold wrap64
 omega
def endF : CF := oneF 33 fun args H n => match args with
 | [.agg [a, b]] => match intA a, intA b with
   | some (.i64, p), some (.i64, q) => some ((.sy (.int .i64 (w64 (p + q))), H, n), True)
   | _, _ => none
 | _ => none
theorem endF_ok : FOk Try.prog endF := by
 refine oneF_ok tab Try.func33 (by kernel_rfl) ?_
 intro args H n r h hC w0 ρ w vs hr hvs
 split at h
 · rename_i a b
   split at h
   · rename_i p q ha hb
     cases h
     cases hvs with
     | cons e1 t =>
     cases t
     cases e1 with
     | agg e1 =>
     cases e1 with
     | @cons _ v0 _ _ a0 tv =>
     cases tv with
     | @cons _ v1 _ _ a1 tv =>
     cases tv
     obtain rfl := intA_sound ha a0
     obtain rfl := intA_sound hb a1
     refine (end_any p q w).mono ?_
     rintro e w' ⟨rfl, rfl⟩
     exact ⟨ρ, _, rfl, .sy _, hr.old ((Fr.refl No w).alloc _), Ext.refl _ _ _⟩
   · cases h
 · cases h
noncomputable abbrev SE : Sy := sym Try.prog (orF endF cloneEF) noG
theorem se_ok : SE.Ok Try.prog := sym_ok (orF_ok endF_ok cloneEF_ok) (noG_ok _) tab mix
theorem exF_push {l : List ExD} {x : ExD} {c : List AV} (hc : leL c (exA x)) : ∀ r, r < l.length + 1 → leL (rwPush (exF l) l.length c r) (exF (l ++ [x]) r) ∧ bareL (exF (l ++ [x]) r) = true := fun r hr => by
 refine ⟨?_, rfl⟩
 unfold rwPush exF
 by_cases h : r = l.length
 · subst h
   have e : Nat.blt l.length l.length = false := by
     cases h : Nat.blt l.length l.length with
     | false => rfl
     | true => rw [Nat.blt_eq] at h; omega
   rw [e]
   simpa [List.getD_eq_getElem?_getD] using hc
 · have h' : r < l.length := by omega
   have e : Nat.blt r l.length = true := by rw [Nat.blt_eq]; exact h'
   rw [e]
   simp only [cond_true, List.getD_eq_getElem?_getD, List.getElem?_append_left h']
   exact leL_refl _
theorem Run.bd : ∀ {a : Int} {m : List ExD}, Run a m → 0 ≤ a ∧ a ≤ 4096
 | _, [], h => h
 | _, x :: m, h => ⟨h.1, by have h2 := h.2.1; have h3 := h.2.2.1; have h4 := h.2.2.2.1; omega⟩
theorem gapsD_cons {a : Int} {x : ExD} {m : List ExD} : gapsD a (x :: m) = if a < x.at_ then ⟨a, x.at_ - a⟩ :: gapsD (x.at_ + x.n) m else gapsD (x.at_ + x.n) m := rfl
structure LfP where
 k : Nat
 at_ : Int
 acc : Int
set_option maxHeartbeats 4000000 in
set_option maxRecDepth 100000 in
theorem left_to (hok : SE.Ok Try.prog) (s : SpD) (hs : s.Ok) : To SE Try.prog 14 (startOf Try.prog 14 [.ptr 0 0] (memF (spB s) 0 .e) 2) (fun x H' _ => leA x (ivA (leftD s)) ∧ endL (spB s) 0 H' ∧ endE [] H') := by
 have hl := hs.len
 have hpos := hs.pos
 have hf1 : ∀ r, r < s.l.length → exF s.l r = exF (exsF s.l.length (exF s.l)) r := by rw [exsF_exF]; exact fun _ _ => rfl
 have hf2 : ∀ x ∈ exsF s.l.length (exF s.l), x.pos := by rw [exsF_exF]; exact hpos
 have hrun := hs.run
 have hml := mD_len s
 refine To.R (k := 83) (C := (Same s.l.length ∧ s.l.length ≤ 1000000 ∧ (∀ (r : Nat), r < s.l.length → exF s.l r = exF (exsF s.l.length (exF s.l)) r) ∧ (∀ (x : ExD), x ∈ exsF s.l.length (exF s.l) → x.pos)) ∧ Same (AV.sy (Value.int IntKind.i64 s.hi)) ∧ Same (AV.ptr 0 0) ∧ (Same s.l.length ∧ s.l.length ≤ 1073741824) ∧ True) (h := ?_)
 refine To.rows 8 (exF (mD s)) (by kernel_rfl) (C := (∀ (r : Nat), r < s.l.length + 1 → leL (rwPush (exF s.l) s.l.length [AV.sy (Value.int IntKind.i64 s.hi), AV.v (Value.int IntKind.i64 0)] r) (exF (mD s) r) ∧ bareL (exF (mD s) r) = true)) (by kernel_rfl) ?_ ?_
 · exact exF_push ⟨⟨rfl, rfl⟩, ⟨rfl, rfl⟩, trivial⟩
 refine To.L (L := [LN.old 2, LN.old 3, LN.old 4, LN.old 5, LN.old 8]) (kp := [23, 22, 21, 3, 0]) (ks := [[3]]) (C := (Same IntKind.i64 ∧ (0 : Int) = (↑(0 : Nat) : Int)) ∧ (Same IntKind.i64 ∧ Same s.lo) ∧ 3 = 3 ∧ (none : Option Nat) = none ∧ (Same IntKind.i64 ∧ Same (0 : Int)) ∧ True) (st := fun (a : LfP) => (⟨(⟨42, 45, (slotT 45 [(0, AV.yl 5), (3, AV.sy (Value.int IntKind.i64 a.at_)), (21, AV.ow 6 (s.l.length + 1)), (22, AV.sy (Value.int IntKind.i64 (↑(s.l.length + 1) : Int))), (23, AV.sy (Value.int IntKind.i64 a.k))]), ARg.no, [(AItem.code (subC (bodyC Try.prog 42) [1, 1, 0, 0])), (AItem.inLoop (subC (bodyC Try.prog 42) [1, 1, 0, 0])), (AItem.inBlock 0)], [], false, none, 7⟩ : AFr), [(⟨14, 15, (slotT 15 [(3, AV.ptr 2 0)]), ARg.no, [(AItem.inRF 5), (AItem.inBlock 0), (AItem.code (subC (bodyC Try.prog 14) [1, 1, 1, 1]))], [4], false, none, 2⟩ : AFr)], memF [AB.mem 52 none [AV.v (Value.bool true), AV.sy (Value.int IntKind.i64 s.lo), AV.sy (Value.int IntKind.i64 s.hi), AV.ow 1 s.l.length], AB.rw 31 2 s.l.length (exF s.l), AB.mem 3 none [AV.sy (Value.int IntKind.i64 a.acc)], AB.mem 24 none [AV.ptr 0 0], AB.dfd true, (AB.loop LoopState.ready (none : Option Code) 14 15 (slotT 15 [(0, AV.ptr 0 0), (1, AV.v (Value.tuple #[])), (2, AV.v (Value.int IntKind.i64 0)), (3, AV.ptr 2 0), (4, AV.v (Value.tuple #[])), (5, AV.ptr 0 0), (6, AV.v (Value.bool !true)), (7, AV.ptr 0 0), (8, AV.fn (Fn.func 42) [] [AV.ptr 3 0]), (9, AV.v (Value.tuple #[])), (10, AV.v (Value.tuple #[])), (11, AV.v (Value.tuple #[])), (12, AV.v (Value.tuple #[])), (13, AV.v (Value.tuple #[])), (14, AV.v (Value.tuple #[]))]) [9] (subC (bodyC Try.prog 14) [1, 1, 1, 0, 1, 0, 0]) (subC (bodyC Try.prog 14) [1, 1, 1, 0, 1, 0, 1]) 4), AB.rw 31 2 (s.l.length + 1) (exF (mD s))] 0 Tr.e, 7⟩ : ASt)) (hI := ?_) (h := ?_) (fun (p : LfP) => [(23, ivA (p.k : Int)), (3, ivA p.at_)]) (fun p => [(2, .mem 3 none [ivA p.acc])]) (fun p => p.k ≤ (mD s).length ∧ 0 ≤ p.acc ∧ p.acc ≤ p.at_ ∧ Run p.at_ ((mD s).drop p.k) ∧ p.acc + sumG (gapsD p.at_ ((mD s).drop p.k)) = leftD s) (fun p => (mD s).length - p.k) (LfP.mk 0 s.lo 0)
 · exact ⟨Nat.zero_le _, Int.le_refl _, hs.lo, hrun, Int.zero_add _⟩
 intro p ⟨hk, h0, h1, h2, h3⟩ ih
 have hb := h2.bd
 refine To.R (h := ?_)
 refine To.Bd ((↑p.k : Int) < (↑(s.l.length + 1) : Int)) (h := ?_) (g := ?_)
 · intro h4
   have hlt : p.k < (mD s).length := by omega
   rw [drop_at hlt] at h2 h3
   rw [gapsD_cons] at h3
   obtain ⟨g1, g2, g3, g4, g5⟩ := h2
   have hi1 : p.k + 1 ≤ (mD s).length := by omega
   have hi2 : (mD s).length - (p.k + 1) < (mD s).length - p.k := by omega
   have hw : w64 (((mD s).getD p.k default).at_ + ((mD s).getD p.k default).n) = ((mD s).getD p.k default).at_ + ((mD s).getD p.k default).n := w64_of (by omega) (by omega)
   refine To.R (C := ((0 : Int) ≤ p.k ∧ (↑p.k : Int) < (↑(s.l.length + 1) : Int)) ∧ p.k < s.l.length + 1) (h := ?_)
   refine To.Bd (p.at_ < ((mD s).getD p.k default).at_) (h := ?_) (g := ?_)
   · intro h5
     rw [if_pos h5] at h3
     refine To.R (k := 40) (C := fits IntKind.i64 (((mD s).getD p.k default).at_ - p.at_) ∧ fits IntKind.i64 (p.acc + (((mD s).getD p.k default).at_ - p.at_)) ∧ True ∧ fits IntKind.i64 (p.k + 1)) (h := ?_)
     refine To.K (L := [LN.old 2, LN.old 3, LN.old 4, LN.old 5, LN.old 6]) (kp := [23, 22, 21, 3, 0]) (ks := [[3]]) (ov := [(23, AV.sy (Value.int IntKind.i64 (LfP.mk (p.k + 1) (((mD s).getD p.k default).at_ + ((mD s).getD p.k default).n) (p.acc + (((mD s).getD p.k default).at_ - p.at_))).k)), (3, AV.sy (Value.int IntKind.i64 (LfP.mk (p.k + 1) (((mD s).getD p.k default).at_ + ((mD s).getD p.k default).n) (p.acc + (((mD s).getD p.k default).at_ - p.at_))).at_))]) (C := (Same IntKind.i64 ∧ (↑p.k : Int) + 1 = (↑(p.k + 1) : Int)) ∧ Same IntKind.i64 ∧ w64 (((mD s).getD p.k default).at_ + ((mD s).getD p.k default).n) = ((mD s).getD p.k default).at_ + ((mD s).getD p.k default).n) (ih (LfP.mk (p.k + 1) (((mD s).getD p.k default).at_ + ((mD s).getD p.k default).n) (p.acc + (((mD s).getD p.k default).at_ - p.at_))) ⟨hi1, by show 0 ≤ p.acc + _; omega, by show p.acc + _ ≤ _ + _; omega, g5, by rw [← h3]; exact Int.add_assoc _ _ _⟩ hi2)
   · intro h5
     rw [if_neg h5] at h3
     refine To.R (k := 25) (C := True ∧ fits IntKind.i64 (p.k + 1)) (h := ?_)
     refine To.K (L := [LN.old 2, LN.old 3, LN.old 4, LN.old 5, LN.old 6]) (kp := [23, 22, 21, 3, 0]) (ks := [[3]]) (ov := [(23, AV.sy (Value.int IntKind.i64 (LfP.mk (p.k + 1) (((mD s).getD p.k default).at_ + ((mD s).getD p.k default).n) p.acc).k)), (3, AV.sy (Value.int IntKind.i64 (LfP.mk (p.k + 1) (((mD s).getD p.k default).at_ + ((mD s).getD p.k default).n) p.acc).at_))]) (C := (Same IntKind.i64 ∧ (↑p.k : Int) + 1 = (↑(p.k + 1) : Int)) ∧ Same IntKind.i64 ∧ w64 (((mD s).getD p.k default).at_ + ((mD s).getD p.k default).n) = ((mD s).getD p.k default).at_ + ((mD s).getD p.k default).n) (ih (LfP.mk (p.k + 1) (((mD s).getD p.k default).at_ + ((mD s).getD p.k default).n) p.acc) ⟨hi1, h0, by show p.acc ≤ _ + _; omega, g5, h3⟩ hi2)
 · intro h4
   have hk2 : p.k = (mD s).length := by omega
   have h6 : p.acc = leftD s := by
     rw [hk2, List.drop_length] at h3
     exact (Int.add_zero _).symm.trans h3
   refine To.R (h := ?_)
   refine To.E (AV.sy (Value.int IntKind.i64 p.acc)) (hq := ?_)
   refine ⟨(of_eqP (C := Same IntKind.i64 ∧ p.acc = leftD s) (by kernel_rfl) (by (and_intros <;> try exact cl))), ⟨(endL_cons (B0 := AB.mem 52 none [AV.v (Value.bool true), AV.sy (Value.int IntKind.i64 s.lo), AV.sy (Value.int IntKind.i64 s.hi), AV.ow 1 s.l.length]) (by kernel_rfl) (of_eqP (C := 52 = spT ∧ (none : Option Nat) = none ∧ Same (AV.v (Value.bool true)) ∧ (Same IntKind.i64 ∧ Same s.lo) ∧ (Same IntKind.i64 ∧ Same s.hi) ∧ (Same 1 ∧ Same s.l.length) ∧ True) (by kernel_rfl) (by (and_intros <;> try exact cl))) (endL_cons (B0 := AB.rw 31 2 s.l.length (exF s.l)) (by kernel_rfl) (of_eqP (C := 31 = exT ∧ Same 2 ∧ Same s.l.length ∧ (∀ (r : Nat), r < s.l.length → exF s.l r = exF s.l r)) (by kernel_rfl) (by (and_intros <;> try exact cl))) endL_nil)), endE_nil⟩⟩
def leftF : CF := oneX 14 (spK fun s rest => match rest with
 | [] => some (([], ivA (leftD s), []), True)
 | _ => none)
theorem leftF_ok : FOk Try.prog leftF := spX_ok se_ok Try.func14 (by kernel_rfl) fun {s rest ys v E C} h hs hC => by
 split at h
 · cases h
   exact ⟨fun σ => trivial, ⟨List.nodup_nil, fun p hp => by cases hp⟩, by kernel_rfl, left_to se_ok s hs⟩
 · cases h
theorem maxG_cons (a : Int) (g : ExD) (l : List ExD) : maxG a (g :: l) = maxG (max a g.n) l := rfl
set_option maxHeartbeats 4000000 in
set_option maxRecDepth 100000 in
theorem long_to (hok : SE.Ok Try.prog) (s : SpD) (hs : s.Ok) : To SE Try.prog 24 (startOf Try.prog 24 [.ptr 0 0] (memF (spB s) 0 .e) 2) (fun x H' _ => leA x (ivA (longD s)) ∧ endL (spB s) 0 H' ∧ endE [] H') := by
 have hl := hs.len
 have hpos := hs.pos
 have hf1 : ∀ r, r < s.l.length → exF s.l r = exF (exsF s.l.length (exF s.l)) r := by rw [exsF_exF]; exact fun _ _ => rfl
 have hf2 : ∀ x ∈ exsF s.l.length (exF s.l), x.pos := by rw [exsF_exF]; exact hpos
 have hrun := hs.run
 have hml := mD_len s
 refine To.R (k := 83) (C := (Same s.l.length ∧ s.l.length ≤ 1000000 ∧ (∀ (r : Nat), r < s.l.length → exF s.l r = exF (exsF s.l.length (exF s.l)) r) ∧ (∀ (x : ExD), x ∈ exsF s.l.length (exF s.l) → x.pos)) ∧ Same (AV.sy (Value.int IntKind.i64 s.hi)) ∧ Same (AV.ptr 0 0) ∧ (Same s.l.length ∧ s.l.length ≤ 1073741824) ∧ True) (h := ?_)
 refine To.rows 8 (exF (mD s)) (by kernel_rfl) (C := (∀ (r : Nat), r < s.l.length + 1 → leL (rwPush (exF s.l) s.l.length [AV.sy (Value.int IntKind.i64 s.hi), AV.v (Value.int IntKind.i64 0)] r) (exF (mD s) r) ∧ bareL (exF (mD s) r) = true)) (by kernel_rfl) ?_ ?_
 · exact exF_push ⟨⟨rfl, rfl⟩, ⟨rfl, rfl⟩, trivial⟩
 refine To.L (L := [LN.old 2, LN.old 3, LN.old 4, LN.old 5, LN.old 8]) (kp := [23, 22, 21, 3, 0]) (ks := [[3]]) (C := (Same IntKind.i64 ∧ (0 : Int) = (↑(0 : Nat) : Int)) ∧ (Same IntKind.i64 ∧ Same s.lo) ∧ 3 = 3 ∧ (none : Option Nat) = none ∧ (Same IntKind.i64 ∧ Same (0 : Int)) ∧ True) (st := fun (a : LfP) => (⟨(⟨42, 45, (slotT 45 [(0, AV.yl 5), (3, AV.sy (Value.int IntKind.i64 a.at_)), (21, AV.ow 6 (s.l.length + 1)), (22, AV.sy (Value.int IntKind.i64 (↑(s.l.length + 1) : Int))), (23, AV.sy (Value.int IntKind.i64 a.k))]), ARg.no, [(AItem.code (subC (bodyC Try.prog 42) [1, 1, 0, 0])), (AItem.inLoop (subC (bodyC Try.prog 42) [1, 1, 0, 0])), (AItem.inBlock 0)], [], false, none, 7⟩ : AFr), [(⟨24, 15, (slotT 15 [(3, AV.ptr 2 0)]), ARg.no, [(AItem.inRF 5), (AItem.inBlock 0), (AItem.code (subC (bodyC Try.prog 24) [1, 1, 1, 1]))], [4], false, none, 2⟩ : AFr)], memF [AB.mem 52 none [AV.v (Value.bool true), AV.sy (Value.int IntKind.i64 s.lo), AV.sy (Value.int IntKind.i64 s.hi), AV.ow 1 s.l.length], AB.rw 31 2 s.l.length (exF s.l), AB.mem 3 none [AV.sy (Value.int IntKind.i64 a.acc)], AB.mem 24 none [AV.ptr 0 0], AB.dfd true, (AB.loop LoopState.ready (none : Option Code) 24 15 (slotT 15 [(0, AV.ptr 0 0), (1, AV.v (Value.tuple #[])), (2, AV.v (Value.int IntKind.i64 0)), (3, AV.ptr 2 0), (4, AV.v (Value.tuple #[])), (5, AV.ptr 0 0), (6, AV.v (Value.bool !true)), (7, AV.ptr 0 0), (8, AV.fn (Fn.func 42) [] [AV.ptr 3 0]), (9, AV.v (Value.tuple #[])), (10, AV.v (Value.tuple #[])), (11, AV.v (Value.tuple #[])), (12, AV.v (Value.tuple #[])), (13, AV.v (Value.tuple #[])), (14, AV.v (Value.tuple #[]))]) [9] (subC (bodyC Try.prog 24) [1, 1, 1, 0, 1, 0, 0]) (subC (bodyC Try.prog 24) [1, 1, 1, 0, 1, 0, 1]) 4), AB.rw 31 2 (s.l.length + 1) (exF (mD s))] 0 Tr.e, 7⟩ : ASt)) (hI := ?_) (h := ?_) (fun (p : LfP) => [(23, ivA (p.k : Int)), (3, ivA p.at_)]) (fun p => [(2, .mem 3 none [ivA p.acc])]) (fun p => p.k ≤ (mD s).length ∧ Run p.at_ ((mD s).drop p.k) ∧ maxG p.acc (gapsD p.at_ ((mD s).drop p.k)) = longD s) (fun p => (mD s).length - p.k) (LfP.mk 0 s.lo 0)
 · exact ⟨Nat.zero_le _, hrun, rfl⟩
 intro p ⟨hk, h2, h3⟩ ih
 have hb := h2.bd
 refine To.R (h := ?_)
 refine To.Bd ((↑p.k : Int) < (↑(s.l.length + 1) : Int)) (h := ?_) (g := ?_)
 · intro h4
   have hlt : p.k < (mD s).length := by omega
   rw [drop_at hlt] at h2 h3
   rw [gapsD_cons] at h3
   obtain ⟨g1, g2, g3, g4, g5⟩ := h2
   have hi1 : p.k + 1 ≤ (mD s).length := by omega
   have hi2 : (mD s).length - (p.k + 1) < (mD s).length - p.k := by omega
   have hw : w64 (((mD s).getD p.k default).at_ + ((mD s).getD p.k default).n) = ((mD s).getD p.k default).at_ + ((mD s).getD p.k default).n := w64_of (by omega) (by omega)
   refine To.R (C := ((0 : Int) ≤ p.k ∧ (↑p.k : Int) < (↑(s.l.length + 1) : Int)) ∧ p.k < s.l.length + 1) (h := ?_)
   refine To.Bd (p.at_ < ((mD s).getD p.k default).at_) (h := ?_) (g := ?_)
   · intro h5
     rw [if_pos h5, maxG_cons] at h3
     refine To.R (k := 40) (C := fits IntKind.i64 (((mD s).getD p.k default).at_ - p.at_) ∧ True ∧ True ∧ fits IntKind.i64 (p.k + 1)) (h := ?_)
     refine To.K (L := [LN.old 2, LN.old 3, LN.old 4, LN.old 5, LN.old 6]) (kp := [23, 22, 21, 3, 0]) (ks := [[3]]) (ov := [(23, AV.sy (Value.int IntKind.i64 (LfP.mk (p.k + 1) (((mD s).getD p.k default).at_ + ((mD s).getD p.k default).n) (max p.acc (((mD s).getD p.k default).at_ - p.at_))).k)), (3, AV.sy (Value.int IntKind.i64 (LfP.mk (p.k + 1) (((mD s).getD p.k default).at_ + ((mD s).getD p.k default).n) (max p.acc (((mD s).getD p.k default).at_ - p.at_))).at_))]) (C := (Same IntKind.i64 ∧ (↑p.k : Int) + 1 = (↑(p.k + 1) : Int)) ∧ Same IntKind.i64 ∧ w64 (((mD s).getD p.k default).at_ + ((mD s).getD p.k default).n) = ((mD s).getD p.k default).at_ + ((mD s).getD p.k default).n) (ih (LfP.mk (p.k + 1) (((mD s).getD p.k default).at_ + ((mD s).getD p.k default).n) (max p.acc (((mD s).getD p.k default).at_ - p.at_))) ⟨hi1, g5, h3⟩ hi2)
   · intro h5
     rw [if_neg h5] at h3
     refine To.R (k := 25) (C := True ∧ fits IntKind.i64 (p.k + 1)) (h := ?_)
     refine To.K (L := [LN.old 2, LN.old 3, LN.old 4, LN.old 5, LN.old 6]) (kp := [23, 22, 21, 3, 0]) (ks := [[3]]) (ov := [(23, AV.sy (Value.int IntKind.i64 (LfP.mk (p.k + 1) (((mD s).getD p.k default).at_ + ((mD s).getD p.k default).n) p.acc).k)), (3, AV.sy (Value.int IntKind.i64 (LfP.mk (p.k + 1) (((mD s).getD p.k default).at_ + ((mD s).getD p.k default).n) p.acc).at_))]) (C := (Same IntKind.i64 ∧ (↑p.k : Int) + 1 = (↑(p.k + 1) : Int)) ∧ Same IntKind.i64 ∧ w64 (((mD s).getD p.k default).at_ + ((mD s).getD p.k default).n) = ((mD s).getD p.k default).at_ + ((mD s).getD p.k default).n) (ih (LfP.mk (p.k + 1) (((mD s).getD p.k default).at_ + ((mD s).getD p.k default).n) p.acc) ⟨hi1, g5, h3⟩ hi2)
 · intro h4
   have hk2 : p.k = (mD s).length := by omega
   have h6 : p.acc = longD s := by
     rw [hk2, List.drop_length] at h3
     exact h3
   refine To.R (h := ?_)
   refine To.E (AV.sy (Value.int IntKind.i64 p.acc)) (hq := ?_)
   refine ⟨(of_eqP (C := Same IntKind.i64 ∧ p.acc = longD s) (by kernel_rfl) (by (and_intros <;> try exact cl))), ⟨(endL_cons (B0 := AB.mem 52 none [AV.v (Value.bool true), AV.sy (Value.int IntKind.i64 s.lo), AV.sy (Value.int IntKind.i64 s.hi), AV.ow 1 s.l.length]) (by kernel_rfl) (of_eqP (C := 52 = spT ∧ (none : Option Nat) = none ∧ Same (AV.v (Value.bool true)) ∧ (Same IntKind.i64 ∧ Same s.lo) ∧ (Same IntKind.i64 ∧ Same s.hi) ∧ (Same 1 ∧ Same s.l.length) ∧ True) (by kernel_rfl) (by (and_intros <;> try exact cl))) (endL_cons (B0 := AB.rw 31 2 s.l.length (exF s.l)) (by kernel_rfl) (of_eqP (C := 31 = exT ∧ Same 2 ∧ Same s.l.length ∧ (∀ (r : Nat), r < s.l.length → exF s.l r = exF s.l r)) (by kernel_rfl) (by (and_intros <;> try exact cl))) endL_nil)), endE_nil⟩⟩
def longF : CF := oneX 24 (spK fun s rest => match rest with
 | [] => some (([], ivA (longD s), []), True)
 | _ => none)
theorem longF_ok : FOk Try.prog longF := spX_ok se_ok Try.func24 (by kernel_rfl) fun {s rest ys v E C} h hs hC => by
 split at h
 · cases h
   exact ⟨fun σ => trivial, ⟨List.nodup_nil, fun p hp => by cases hp⟩, by kernel_rfl, long_to se_ok s hs⟩
 · cases h
set_option maxHeartbeats 4000000 in
set_option maxRecDepth 100000 in
theorem taken_to (hok : SE.Ok Try.prog) (s : SpD) (hs : s.Ok) : To SE Try.prog 10 (startOf Try.prog 10 [.ptr 0 0] (memF (spB s) 0 .e) 2) (fun x H' _ => leA x (.ow 2 s.l.length) ∧ endL (spB s) 0 H' ∧ endE [(2, .rw exT 2 s.l.length (exF s.l))] H') := by
 have hl := hs.len
 have hpos := hs.pos
 have hf1 : ∀ r, r < s.l.length → exF s.l r = exF (exsF s.l.length (exF s.l)) r := by rw [exsF_exF]; exact fun _ _ => rfl
 have hf2 : ∀ x ∈ exsF s.l.length (exF s.l), x.pos := by rw [exsF_exF]; exact hpos
 refine To.R (C := Same s.l.length ∧ s.l.length ≤ 1000000 ∧ (∀ (r : Nat), r < s.l.length → exF s.l r = exF (exsF s.l.length (exF s.l)) r) ∧ (∀ (x : ExD), x ∈ exsF s.l.length (exF s.l) → x.pos)) (h := ?_)
 refine To.E (AV.ow 2 s.l.length) (hq := ?_)
 refine ⟨(of_eqP (C := Same 2 ∧ Same s.l.length) (by kernel_rfl) (by (and_intros <;> try exact cl))), ⟨(endL_cons (B0 := AB.mem 52 none [AV.v (Value.bool true), AV.sy (Value.int IntKind.i64 s.lo), AV.sy (Value.int IntKind.i64 s.hi), AV.ow 1 s.l.length]) (by kernel_rfl) (of_eqP (C := 52 = spT ∧ (none : Option Nat) = none ∧ Same (AV.v (Value.bool true)) ∧ (Same IntKind.i64 ∧ Same s.lo) ∧ (Same IntKind.i64 ∧ Same s.hi) ∧ (Same 1 ∧ Same s.l.length) ∧ True) (by kernel_rfl) (by (and_intros <;> try exact cl))) (endL_cons (B0 := AB.rw 31 2 s.l.length (exF s.l)) (by kernel_rfl) (of_eqP (C := 31 = exT ∧ Same 2 ∧ Same s.l.length ∧ (∀ (r : Nat), r < s.l.length → exF s.l r = exF s.l r)) (by kernel_rfl) (by (and_intros <;> try exact cl))) endL_nil)), (endE_cons (B0 := AB.rw 31 2 s.l.length (exF s.l)) (by kernel_rfl) (of_eqP (C := 31 = exT ∧ Same 2 ∧ Same s.l.length ∧ (∀ (r : Nat), r < s.l.length → exF s.l r = exF s.l r)) (by kernel_rfl) (by (and_intros <;> try exact cl))) endE_nil)⟩⟩
def takenF : CF := oneX 10 (spK fun s rest => match rest with
 | [] => some (([], .ow 2 s.l.length, [(2, .rw exT 2 s.l.length (exF s.l))]), True)
 | _ => none)
theorem takenF_ok : FOk Try.prog takenF := spX_ok se_ok Try.func10 (by kernel_rfl) fun {s rest ys v E C} h hs hC => by
 split at h
 · cases h
   exact ⟨fun σ => trivial, ⟨by simp, by simp⟩, by kernel_rfl, taken_to se_ok s hs⟩
 · cases h
set_option maxHeartbeats 4000000 in
set_option maxRecDepth 100000 in
theorem copy_to (hok : SE.Ok Try.prog) (s : SpD) (hs : s.Ok) : To SE Try.prog 16 (startOf Try.prog 16 [.ptr 0 0] (memF (spB s) 0 .e) 2) (fun x H' _ => leA x (.ptr 2 0) ∧ endL (spB s) 0 H' ∧ endE [(2, .mem spT none [.v (.bool true), ivA s.lo, ivA s.hi, .ow 3 s.l.length]), (3, .rw exT 2 s.l.length (exF s.l))] H') := by
 have hl := hs.len
 have hpos := hs.pos
 have hf1 : ∀ r, r < s.l.length → exF s.l r = exF (exsF s.l.length (exF s.l)) r := by rw [exsF_exF]; exact fun _ _ => rfl
 have hf2 : ∀ x ∈ exsF s.l.length (exF s.l), x.pos := by rw [exsF_exF]; exact hpos
 refine To.R (C := Same s.l.length ∧ s.l.length ≤ 1000000 ∧ (∀ (r : Nat), r < s.l.length → exF s.l r = exF (exsF s.l.length (exF s.l)) r) ∧ (∀ (x : ExD), x ∈ exsF s.l.length (exF s.l) → x.pos)) (h := ?_)
 refine To.E (AV.ptr 2 0) (hq := ?_)
 refine ⟨(of_eqP (C := Same (AV.ptr 2 0)) (by kernel_rfl) (by (and_intros <;> try exact cl))), ⟨(endL_cons (B0 := AB.mem 52 none [AV.v (Value.bool true), AV.sy (Value.int IntKind.i64 s.lo), AV.sy (Value.int IntKind.i64 s.hi), AV.ow 1 s.l.length]) (by kernel_rfl) (of_eqP (C := 52 = spT ∧ (none : Option Nat) = none ∧ Same (AV.v (Value.bool true)) ∧ (Same IntKind.i64 ∧ Same s.lo) ∧ (Same IntKind.i64 ∧ Same s.hi) ∧ (Same 1 ∧ Same s.l.length) ∧ True) (by kernel_rfl) (by (and_intros <;> try exact cl))) (endL_cons (B0 := AB.rw 31 2 s.l.length (exF s.l)) (by kernel_rfl) (of_eqP (C := 31 = exT ∧ Same 2 ∧ Same s.l.length ∧ (∀ (r : Nat), r < s.l.length → exF s.l r = exF s.l r)) (by kernel_rfl) (by (and_intros <;> try exact cl))) endL_nil)), (endE_cons (B0 := AB.mem 52 none [AV.v (Value.bool true), AV.sy (Value.int IntKind.i64 s.lo), AV.sy (Value.int IntKind.i64 s.hi), AV.ow 3 s.l.length]) (by kernel_rfl) (of_eqP (C := 52 = spT ∧ (none : Option Nat) = none ∧ Same (AV.v (Value.bool true)) ∧ (Same IntKind.i64 ∧ Same s.lo) ∧ (Same IntKind.i64 ∧ Same s.hi) ∧ (Same 3 ∧ Same s.l.length) ∧ True) (by kernel_rfl) (by (and_intros <;> try exact cl))) (endE_cons (B0 := AB.rw 31 2 s.l.length (exF s.l)) (by kernel_rfl) (of_eqP (C := 31 = exT ∧ Same 2 ∧ Same s.l.length ∧ (∀ (r : Nat), r < s.l.length → exF s.l r = exF s.l r)) (by kernel_rfl) (by (and_intros <;> try exact cl))) endE_nil))⟩⟩
def copyF : CF := oneX 16 (spK fun s rest => match rest with
 | [] => some (([], .ptr 2 0, [(2, .mem spT none [.v (.bool true), ivA s.lo, ivA s.hi, .ow 3 s.l.length]), (3, .rw exT 2 s.l.length (exF s.l))]), True)
 | _ => none)
theorem copyF_ok : FOk Try.prog copyF := spX_ok se_ok Try.func16 (by kernel_rfl) fun {s rest ys v E C} h hs hC => by
 split at h
 · cases h
   exact ⟨fun σ => trivial, ⟨by simp, by simp⟩, by kernel_rfl, copy_to se_ok s hs⟩
 · cases h
def idxA (p : ExD → Bool) : Nat → List ExD → Int
 | _, [] => -1
 | k, x :: l => if p x = true then (k : Int) else idxA p (k + 1) l
def idxD (p : ExD → Bool) (l : List ExD) : Int := idxA p 0 l
def InD (l : List ExD) : Prop := ∀ x ∈ l, 0 ≤ x.at_ ∧ 0 ≤ x.n ∧ x.at_ + x.n ≤ 4096
theorem SpD.Ok.inD {s : SpD} (h : s.Ok) : InD s.l := fun x hx => by
 have := Can.all h.can x hx
 have := h.lo; have := h.hi
 exact ⟨by omega, by omega, by omega⟩
theorem mem_getD {l : List ExD} {k : Nat} (h : k < l.length) : l.getD k default ∈ l := by rw [List.getD_eq_getElem?_getD, List.getElem?_eq_getElem h]; simp
theorem inE_no1 {x : ExD} {z : Int} (h : ¬ x.at_ ≤ z) : ¬ inE x z = true := by unfold inE; simp [h]
theorem inE_no2 {x : ExD} {z : Int} (h : ¬ z < x.at_ + x.n) : ¬ inE x z = true := by unfold inE; simp [h]
theorem inE_yes {x : ExD} {z : Int} (h : x.at_ ≤ z) (g : z < x.at_ + x.n) : inE x z = true := by unfold inE; simp [h, g]
set_option maxHeartbeats 4000000 in
set_option maxRecDepth 100000 in
theorem idxH_to (hok : SE.Ok Try.prog) (l : List ExD) (hl : InD l) (hn : l.length ≤ 5000) (z : Int) : To SE Try.prog 31 (startOf Try.prog 31 [.ow 0 l.length, .fn (.func 36) [] [.ptr 1 0]] (memF [.rw exT 2 l.length (exF l), .mem 3 none [ivA z]] 0 .e) 2)
   (fun x H' _ => leA x (ivA (idxD (fun x => inE x z) l)) ∧ endL [.rw exT 2 l.length (exF l), .mem 3 none [ivA z]] 0 H' ∧ endE [] H') := by
 refine To.R (k := 13) (h := ?_)
 refine To.L (L := []) (kp := [8, 7, 1, 0]) (C := Same IntKind.i64 ∧ (0 : Int) = (↑(0 : Nat) : Int)) (st := fun (a : Nat) => (⟨(⟨31, 19, (slotT 19 [(0, AV.ow 0 l.length), (1, AV.fn (Fn.func 36) [] [AV.ptr 1 0]), (7, AV.sy (Value.int IntKind.i64 l.length)), (8, AV.sy (Value.int IntKind.i64 a))]), ARg.no, [(AItem.code (subC (bodyC Try.prog 31) [1, 0, 1, 0, 0])), (AItem.inLoop (subC (bodyC Try.prog 31) [1, 0, 1, 0, 0])), (AItem.inBlock 0), (AItem.code (subC (bodyC Try.prog 31) [1, 1]))], [], false, none, 2⟩ : AFr), [], memF [AB.rw 31 2 l.length (exF l), AB.mem 3 none [AV.sy (Value.int IntKind.i64 z)]] 0 Tr.e, 2⟩ : ASt)) (hI := ?_) (h := ?_) (fun (k : Nat) => [(8, ivA (k : Int))]) (fun _ => []) (fun k => k ≤ l.length ∧ idxA (fun x => inE x z) k (l.drop k) = idxD (fun x => inE x z) l) (fun k => l.length - k) (0)
 · exact ⟨Nat.zero_le _, rfl⟩
 intro k ⟨hk, h1⟩ ih
 refine To.R (h := ?_)
 refine To.Bd ((k : Int) < l.length) (h := ?_) (g := ?_)
 · intro h2
   have hlt : k < l.length := by omega
   rw [drop_at hlt] at h1
   unfold idxA at h1
   have hb := hl _ (mem_getD hlt)
   have hw : w64 ((l.getD k default).at_ + (l.getD k default).n) = (l.getD k default).at_ + (l.getD k default).n := w64_of (by omega) (by omega)
   have hi1 : k + 1 ≤ l.length := by omega
   have hi2 : l.length - (k + 1) < l.length - k := by omega
   refine To.R (C := ((0 : Int) ≤ k ∧ (k : Int) < l.length) ∧ k < l.length) (h := ?_)
   refine To.Bd ((l.getD k default).at_ ≤ z) (h := ?_) (g := ?_)
   · intro h3
     refine To.R (C := True ∧ Same (AV.sy (Value.int IntKind.i64 z))) (h := ?_)
     refine To.Bd (z < w64 ((l.getD k default).at_ + (l.getD k default).n)) (h := ?_) (g := ?_)
     · intro h4
       rw [hw] at h4
       rw [if_pos (inE_yes h3 h4)] at h1
       refine To.R (h := ?_)
       refine To.E (AV.sy (Value.int IntKind.i64 k)) (hq := ?_)
       refine ⟨(of_eqP (C := Same IntKind.i64 ∧ k = idxD (fun x ↦ inE x z) l) (by kernel_rfl) (by (and_intros <;> try exact cl))), ⟨(endL_cons (B0 := AB.rw 31 2 l.length (exF l)) (by kernel_rfl) (of_eqP (C := 31 = exT ∧ Same 2 ∧ Same l.length ∧ (∀ (r : Nat), r < l.length → exF l r = exF l r)) (by kernel_rfl) (by (and_intros <;> try exact cl))) (endL_cons (B0 := AB.mem 3 none [AV.sy (Value.int IntKind.i64 z)]) (by kernel_rfl) (of_eqP (C := 3 = 3 ∧ (none : Option Nat) = none ∧ (Same IntKind.i64 ∧ Same z) ∧ True) (by kernel_rfl) (by (and_intros <;> try exact cl))) endL_nil)), endE_nil⟩⟩
     · intro h4
       rw [hw] at h4
       rw [if_neg (inE_no2 h4)] at h1
       refine To.R (k := 14) (C := fits IntKind.i64 (k + 1)) (h := ?_)
       refine To.K (L := []) (kp := [8, 7, 1, 0]) (ov := [(8, AV.sy (Value.int IntKind.i64 (↑(k + 1) : Int)))]) (C := Same IntKind.i64 ∧ (↑k : Int) + 1 = (↑(k + 1) : Int)) (ih (k + 1) ⟨hi1, h1⟩ hi2)
   · intro h3
     rw [if_neg (inE_no1 h3)] at h1
     refine To.R (k := 19) (C := fits IntKind.i64 (k + 1)) (h := ?_)
     refine To.K (L := []) (kp := [8, 7, 1, 0]) (ov := [(8, AV.sy (Value.int IntKind.i64 (↑(k + 1) : Int)))]) (C := Same IntKind.i64 ∧ (↑k : Int) + 1 = (↑(k + 1) : Int)) (ih (k + 1) ⟨hi1, h1⟩ hi2)
 · intro h2
   have hk2 : k = l.length := by omega
   rw [hk2, List.drop_length] at h1
   have h6 : -1 = idxD (fun x => inE x z) l := h1
   refine To.R (h := ?_)
   refine To.E (AV.v (Value.int IntKind.i64 (-1))) (hq := ?_)
   refine ⟨(of_eqP (C := Same IntKind.i64 ∧ -1 = idxD (fun x ↦ inE x z) l) (by kernel_rfl) (by (and_intros <;> try exact cl))), ⟨(endL_cons (B0 := AB.rw 31 2 l.length (exF l)) (by kernel_rfl) (of_eqP (C := 31 = exT ∧ Same 2 ∧ Same l.length ∧ (∀ (r : Nat), r < l.length → exF l r = exF l r)) (by kernel_rfl) (by (and_intros <;> try exact cl))) (endL_cons (B0 := AB.mem 3 none [AV.sy (Value.int IntKind.i64 z)]) (by kernel_rfl) (of_eqP (C := 3 = 3 ∧ (none : Option Nat) = none ∧ (Same IntKind.i64 ∧ Same z) ∧ True) (by kernel_rfl) (by (and_intros <;> try exact cl))) endL_nil)), endE_nil⟩⟩
def idxHK (args : List AV) (H : Tr AB) : Option Ex := match args with
 | [.ow i n, .fn (.func g) [] [.ptr j 0]] => match H.get i, H.get j with
   | some (.rw T w m f), some (.mem T2 none [a]) => match intA a with
     | some (.i64, z) => cond (Nat.beq g 36 && Nat.beq T exT && Nat.beq w 2 && Nat.beq T2 3 && !(Nat.beq i j))
       (some { μ := [i, j], args := [.ow 0 n, .fn (.func 36) [] [.ptr 1 0]], L := [.rw exT 2 n (exF (exsF n f)), .mem 3 none [ivA z]], res := ivA (idxD (fun x => inE x z) (exsF n f)), L' := [.rw exT 2 n f, .mem 3 none [ivA z]], E := [], C := m = n ∧ n ≤ 5000 ∧ InD (exsF n f) ∧ ∀ r, r < n → f r = exF (exsF n f) r }) none
     | _ => none
   | _, _ => none
 | _ => none
theorem rd_same {n : Nat} {f : Nat → List AV} {B : AB} (hf : ∀ r, r < n → f r = exF (exsF n f) r) {H : Tr AB} (h : endL [.rw exT 2 n (exF (exsF n f)), B] 0 H) : endL [.rw exT 2 n f, B] 0 H := by
 obtain ⟨⟨B0, a0, b0⟩, h⟩ := h
 exact ⟨⟨B0, a0, leB_rwf b0 (fun r hr => (hf r hr).symm)⟩, h⟩
def idxHF : CF := oneX 31 idxHK
theorem idxHF_ok : FOk Try.prog idxHF := oneX_ok se_ok tab Try.func31 (by kernel_rfl) fun {args H n e} hk hC => by
 unfold idxHK at hk
 split at hk
 · rename_i i m g j
   split at hk
   · rename_i T w m' f T2 a hi hj
     split at hk
     · rename_i z hz
       cases hq : (Nat.beq g 36 && Nat.beq T exT && Nat.beq w 2 && Nat.beq T2 3 && !(Nat.beq i j)) with
       | false => rw [hq] at hk; cases hk
       | true =>
         rw [hq] at hk
         cases hk
         simp only [Bool.and_eq_true, Bool.not_eq_true', beq_dec, decide_eq_true_eq, decide_eq_false_iff_not] at hq
         obtain ⟨⟨⟨⟨rfl, rfl⟩, rfl⟩, rfl⟩, hne⟩ := hq
         obtain ⟨rfl, c2, c3, c4⟩ := hC
         have hlen := exsF_len m' f
         have hT := idxH_to se_ok (exsF m' f) c3 (by rw [hlen]; exact c2) z
         rw [hlen] at hT
         refine ⟨by simp [hne], ⟨⟨_, hi, rfl, rfl, rfl, rfl, c4⟩, ⟨_, hj, rfl, rfl, rfl, intA_leS hz _, trivial⟩, trivial⟩, rfl, ?_, ⟨List.nodup_nil, fun p hp => by cases hp⟩, ?_, by kernel_rfl, ?_⟩
         · simp only [renL, renA, inP1, inP2 hne]
           exact ⟨⟨rfl, rfl⟩, leA_refl _, trivial⟩
         · intro w0 ρ w vs hr0 hv q hq
           simp at hq
           rcases hq with rfl | rfl
           · exact .inr fun T l e => by rw [hi] at e; cases e
           · exact .inl (VRs.bind hv (q, True) (by simp [bindL, bindA]) trivial)
         · exact To.mono hT fun y H' n' hq => ⟨hq.1, rd_same c4 hq.2.1, hq.2.2⟩
     · cases hk
   · cases hk
 · cases hk
theorem idxA_any {p : ExD → Bool} : ∀ {l : List ExD} {k : Nat}, (0 ≤ idxA p k l) ↔ l.any p = true
 | [], k => by simp [idxA]
 | x :: l, k => by
   unfold idxA
   by_cases h : p x = true
   · rw [if_pos h]; simp [h]
   · rw [if_neg h, idxA_any (l := l)]; simp [h]
noncomputable abbrev SH : Sy := sym Try.prog (orF endF idxHF) noG
theorem sh_ok : SH.Ok Try.prog := sym_ok (orF_ok endF_ok idxHF_ok) (noG_ok _) tab mix
set_option maxHeartbeats 4000000 in
set_option maxRecDepth 100000 in
theorem has_to (hok : SH.Ok Try.prog) (s : SpD) (hs : s.Ok) (z : Int) : To SH Try.prog 17 (startOf Try.prog 17 [.ptr 0 0, ivA z] (memF (spB s) 0 .e) 2) (fun x H' _ => leA x (.sy (.bool (hasD s z))) ∧ endL (spB s) 0 H' ∧ endE [] H') := by
 have hl := hs.len
 have hn : s.l.length ≤ 5000 := by omega
 have hind := hs.inD
 have hf1 : ∀ r, r < s.l.length → exF s.l r = exF (exsF s.l.length (exF s.l)) r := by rw [exsF_exF]; exact fun _ _ => rfl
 have hf2 : InD (exsF s.l.length (exF s.l)) := by rw [exsF_exF]; exact hind
 have e1 : exsF s.l.length (exF s.l) = s.l := exsF_exF s.l
 refine To.R (C := Same s.l.length ∧ s.l.length ≤ 5000 ∧ InD (exsF s.l.length (exF s.l)) ∧ (∀ (r : Nat), r < s.l.length → exF s.l r = exF (exsF s.l.length (exF s.l)) r)) (h := ?_)
 refine To.Bd (0 ≤ idxD (fun x ↦ inE x z) (exsF s.l.length (exF s.l))) (h := ?_) (g := ?_)
 · intro h1
   rw [e1] at h1
   have h6 : true = hasD s z := ((idxA_any (p := fun x => inE x z)).1 h1).symm
   refine To.R (h := ?_)
   refine To.E (AV.v (Value.bool true)) (hq := ?_)
   refine ⟨(of_eqP (C := true = hasD s z) (by kernel_rfl) (by (and_intros <;> try exact cl))), ⟨(endL_cons (B0 := AB.mem 52 none [AV.v (Value.bool true), AV.sy (Value.int IntKind.i64 s.lo), AV.sy (Value.int IntKind.i64 s.hi), AV.ow 1 s.l.length]) (by kernel_rfl) (of_eqP (C := 52 = spT ∧ (none : Option Nat) = none ∧ Same (AV.v (Value.bool true)) ∧ (Same IntKind.i64 ∧ Same s.lo) ∧ (Same IntKind.i64 ∧ Same s.hi) ∧ (Same 1 ∧ Same s.l.length) ∧ True) (by kernel_rfl) (by (and_intros <;> try exact cl))) (endL_cons (B0 := AB.rw 31 2 s.l.length (exF s.l)) (by kernel_rfl) (of_eqP (C := 31 = exT ∧ Same 2 ∧ Same s.l.length ∧ (∀ (r : Nat), r < s.l.length → exF s.l r = exF s.l r)) (by kernel_rfl) (by (and_intros <;> try exact cl))) endL_nil)), endE_nil⟩⟩
 · intro h1
   rw [e1] at h1
   have h6 : false = hasD s z := by
     cases h : hasD s z with
     | false => rfl
     | true => exact absurd ((idxA_any (p := fun x => inE x z)).2 h) h1
   refine To.R (h := ?_)
   refine To.E (AV.v (Value.bool false)) (hq := ?_)
   refine ⟨(of_eqP (C := false = hasD s z) (by kernel_rfl) (by (and_intros <;> try exact cl))), ⟨(endL_cons (B0 := AB.mem 52 none [AV.v (Value.bool true), AV.sy (Value.int IntKind.i64 s.lo), AV.sy (Value.int IntKind.i64 s.hi), AV.ow 1 s.l.length]) (by kernel_rfl) (of_eqP (C := 52 = spT ∧ (none : Option Nat) = none ∧ Same (AV.v (Value.bool true)) ∧ (Same IntKind.i64 ∧ Same s.lo) ∧ (Same IntKind.i64 ∧ Same s.hi) ∧ (Same 1 ∧ Same s.l.length) ∧ True) (by kernel_rfl) (by (and_intros <;> try exact cl))) (endL_cons (B0 := AB.rw 31 2 s.l.length (exF s.l)) (by kernel_rfl) (of_eqP (C := 31 = exT ∧ Same 2 ∧ Same s.l.length ∧ (∀ (r : Nat), r < s.l.length → exF s.l r = exF s.l r)) (by kernel_rfl) (by (and_intros <;> try exact cl))) endL_nil)), endE_nil⟩⟩
def hasF : CF := oneX 17 (spK fun s rest => match rest with
 | [a] => match intA a with
   | some (.i64, z) => some (([ivA z], .sy (.bool (hasD s z)), []), True)
   | _ => none
 | _ => none)
theorem hasF_ok : FOk Try.prog hasF := spX_ok sh_ok Try.func17 (by kernel_rfl) fun {s rest ys v E C} h hs hC => by
 split at h
 · split at h
   · rename_i z hz
     cases h
     exact ⟨fun σ => ⟨intA_leS hz σ, trivial⟩, ⟨List.nodup_nil, fun p hp => by cases hp⟩, by kernel_rfl, has_to sh_ok s hs z⟩
   · cases h
 · cases h
def posD (l : List ExD) (a : Int) : Nat := (l.takeWhile fun x => decide (x.at_ < a)).length
def Rise (l : List ExD) : Prop := ∀ i j : Nat, i < j → j < l.length → (l.getD i default).at_ ≤ (l.getD j default).at_
theorem pos_of {a : Int} : ∀ {l : List ExD} {k : Nat}, k ≤ l.length → (∀ i, i < k → (l.getD i default).at_ < a) → (k < l.length → ¬ (l.getD k default).at_ < a) → posD l a = k
 | [], k, hk, _, _ => by simp [posD] at hk ⊢; omega
 | x :: l, 0, _, _, h => by
   have := h (by simp)
   simp at this
   simp [posD, List.takeWhile_cons, this]
 | x :: l, k + 1, hk, h1, h2 => by
   have h0 := h1 0 (by omega)
   simp only [List.getD_cons_zero] at h0
   have ih := pos_of (a := a) (l := l) (k := k) (by simpa using hk) (fun i hi => by simpa using h1 (i + 1) (by omega)) (fun hk => by simpa using h2 (by simpa using hk))
   unfold posD at ih ⊢
   rw [List.takeWhile_cons, if_pos (by simpa using h0)]
   simp [ih]
structure BsP where
 i : Nat
 j : Nat
set_option maxHeartbeats 4000000 in
set_option maxRecDepth 100000 in
theorem bs_to (hok : S0.Ok Try.prog) (l : List ExD) (hl : InD l) (hr : Rise l) (hn : l.length ≤ 5000) (z : Int) (ha0 : 0 ≤ z) (ha1 : z ≤ 4096) : To S0 Try.prog 43 (startOf Try.prog 43 [.ow 0 l.length, ivA z, .fn (.func 44) [] []] (memF [.rw exT 2 l.length (exF l)] 0 .e) 1)
   (fun x H' _ => leA x (.tup [ivA (posD l z : Int), .any]) ∧ endL [.rw exT 2 l.length (exF l)] 0 H' ∧ endE [] H') := by
 refine To.R (k := 20) (h := ?_)
 refine To.L (L := []) (kp := [10, 9, 8, 2, 1, 0]) (C := (Same IntKind.i64 ∧ (0 : Int) = (↑(0 : Nat) : Int)) ∧ Same IntKind.i64 ∧ Same (l.length : Int)) (st := fun (a : BsP) => (⟨(⟨43, 49, (slotT 49 [(0, AV.ow 0 l.length), (1, AV.sy (Value.int IntKind.i64 z)), (2, AV.fn (Fn.func 44) [] []), (8, AV.sy (Value.int IntKind.i64 l.length)), (9, AV.sy (Value.int IntKind.i64 a.i)), (10, AV.sy (Value.int IntKind.i64 a.j))]), ARg.no, [(AItem.code (subC (bodyC Try.prog 43) [1, 1, 1, 0, 0, 0])), (AItem.inLoop (subC (bodyC Try.prog 43) [1, 1, 1, 0, 0, 0])), (AItem.inBlock 0), (AItem.code (subC (bodyC Try.prog 43) [1, 1, 1, 1]))], [], false, none, 1⟩ : AFr), [], memF [AB.rw 31 2 l.length (exF l)] 0 Tr.e, 1⟩ : ASt)) (hI := ?_) (h := ?_) (fun (p : BsP) => [(9, ivA (p.i : Int)), (10, ivA (p.j : Int))]) (fun _ => []) (fun p => p.i ≤ p.j ∧ p.j ≤ l.length ∧ (∀ r, r < p.i → (l.getD r default).at_ < z) ∧ ∀ r, p.j ≤ r → r < l.length → ¬ (l.getD r default).at_ < z) (fun p => p.j - p.i) (BsP.mk 0 l.length)
 · exact ⟨Nat.zero_le _, Nat.le_refl _, fun r hr => absurd hr (Nat.not_lt_zero _), fun r h1 h2 => absurd h2 (by show ¬ r < l.length; have h1' : l.length ≤ r := h1; omega)⟩
 intro p ⟨h1, h2, h3, h4⟩ ih
 refine To.R (h := ?_)
 refine To.Bd ((p.i : Int) < p.j) (h := ?_) (g := ?_)
 · intro h5
   have hh1 : (p.i + p.j) / 2 < l.length := by omega
   have hb := hl _ (mem_getD hh1)
   have hx : (((p.i : Int) + (p.j : Int)) / 2 ^ 1).toNat = (p.i + p.j) / 2 := by omega
   have hy : ((p.i : Int) + (p.j : Int)) / 2 ^ 1 = (((p.i + p.j) / 2 : Nat) : Int) := by omega
   have hi1 : p.j - ((p.i + p.j) / 2 + 1) < p.j - p.i := by omega
   have hi2 : (p.i + p.j) / 2 - p.i < p.j - p.i := by omega
   have hi3 : (p.i + p.j) / 2 + 1 ≤ p.j := by omega
   have hi4 : (p.i + p.j) / 2 ≤ l.length := by omega
   have hi5 : p.i ≤ (p.i + p.j) / 2 := by omega
   refine To.R (C := fits IntKind.i64 (p.i + p.j) ∧ fits IntKind.u64 (p.i + p.j) ∧ (0 : Int) ≤ 1 ∧ fits IntKind.i64 ((p.i + p.j) / 2 ^ 1) ∧ ((0 : Int) ≤ (p.i + p.j) / 2 ^ 1 ∧ (p.i + p.j) / (2 : Int) ^ 1 < l.length) ∧ ((p.i + p.j) / (2 : Int) ^ 1).toNat < l.length ∧ fits IntKind.i64 ((l.getD ((p.i + p.j) / (2 : Int) ^ 1).toNat default).at_ - z)) (hc := ?_) (h := ?_); (and_intros <;> try exact cl)
   · rw [hx]; exact fits_i64 (by omega) (by omega)
   refine To.Bd ((l.getD ((p.i + p.j) / (2 : Int) ^ 1).toNat default).at_ - z < 0) (h := ?_) (g := ?_)
   · intro h6
     rw [hx] at h6
     refine To.R (k := 9) (C := fits IntKind.i64 ((p.i + p.j) / 2 ^ 1 + 1)) (h := ?_)
     refine To.K (L := []) (kp := [10, 9, 8, 2, 1, 0]) (ov := [(9, AV.sy (Value.int IntKind.i64 (BsP.mk ((p.i + p.j) / 2 + 1) p.j).i))]) (C := Same IntKind.i64 ∧ ((↑p.i : Int) + (↑p.j : Int)) / 2 ^ 1 + 1 = (↑((p.i + p.j) / 2 + 1) : Int)) (ih (BsP.mk ((p.i + p.j) / 2 + 1) p.j) ⟨hi3, h2, fun r hr0 => by
       have hr' : r < (p.i + p.j) / 2 + 1 := hr0
       have := hr r ((p.i + p.j) / 2)
       by_cases e : r = (p.i + p.j) / 2
       · rw [e]; omega
       · have := this (by omega) hh1; omega, h4⟩ hi1)
   · intro h6
     rw [hx] at h6
     refine To.R (k := 8) (h := ?_)
     refine To.K (L := []) (kp := [10, 9, 8, 2, 1, 0]) (ov := [(10, AV.sy (Value.int IntKind.i64 (BsP.mk p.i ((p.i + p.j) / 2)).j))]) (C := Same IntKind.i64 ∧ ((↑p.i : Int) + (↑p.j : Int)) / 2 ^ 1 = (↑((p.i + p.j) / 2) : Int)) (ih (BsP.mk p.i ((p.i + p.j) / 2)) ⟨hi5, hi4, h3, fun r g1 g2 => by
       have g1' : (p.i + p.j) / 2 ≤ r := g1
       by_cases e : r = (p.i + p.j) / 2
       · rw [e]; omega
       · have := hr ((p.i + p.j) / 2) r (by omega) g2; omega⟩ hi2)
 · intro h5
   have hpos : posD l z = p.i := pos_of (by omega) h3 (fun g => h4 p.i (by omega) g)
   have hpos' : (p.i : Int) = (posD l z : Int) := by rw [hpos]
   refine To.R (h := ?_)
   refine To.Bd ((p.i : Int) < l.length) (h := ?_) (g := ?_)
   · intro h6
     have hh1 : p.i < l.length := by omega
     have hb := hl _ (mem_getD hh1)
     refine To.R (C := ((0 : Int) ≤ p.i ∧ (p.i : Int) < l.length) ∧ p.i < l.length ∧ fits IntKind.i64 ((l.getD p.i default).at_ - z)) (h := ?_)
     refine To.Bd ((l.getD p.i default).at_ - z = 0) (h := ?_) (g := ?_)
     · intro h7
       refine To.R (h := ?_)
       refine To.E (AV.tup [AV.sy (Value.int IntKind.i64 p.i), AV.v (Value.bool true)]) (hq := ?_)
       refine ⟨(of_eqP (C := (Same IntKind.i64 ∧ (p.i : Int) = (posD l z)) ∧ True ∧ True) (by kernel_rfl) (by (and_intros <;> try exact cl))), ⟨(endL_cons (B0 := AB.rw 31 2 l.length (exF l)) (by kernel_rfl) (of_eqP (C := 31 = exT ∧ Same 2 ∧ Same l.length ∧ (∀ (r : Nat), r < l.length → exF l r = exF l r)) (by kernel_rfl) (by (and_intros <;> try exact cl))) endL_nil), endE_nil⟩⟩
     · intro h7
       refine To.R (h := ?_)
       refine To.E (AV.tup [AV.sy (Value.int IntKind.i64 p.i), AV.v (Value.bool false)]) (hq := ?_)
       refine ⟨(of_eqP (C := (Same IntKind.i64 ∧ (p.i : Int) = (posD l z)) ∧ True ∧ True) (by kernel_rfl) (by (and_intros <;> try exact cl))), ⟨(endL_cons (B0 := AB.rw 31 2 l.length (exF l)) (by kernel_rfl) (of_eqP (C := 31 = exT ∧ Same 2 ∧ Same l.length ∧ (∀ (r : Nat), r < l.length → exF l r = exF l r)) (by kernel_rfl) (by (and_intros <;> try exact cl))) endL_nil), endE_nil⟩⟩
   · intro h6
     refine To.R (h := ?_)
     refine To.E (AV.tup [AV.sy (Value.int IntKind.i64 p.i), AV.v (Value.bool false)]) (hq := ?_)
     refine ⟨(of_eqP (C := (Same IntKind.i64 ∧ (p.i : Int) = (posD l z)) ∧ True ∧ True) (by kernel_rfl) (by (and_intros <;> try exact cl))), ⟨(endL_cons (B0 := AB.rw 31 2 l.length (exF l)) (by kernel_rfl) (of_eqP (C := 31 = exT ∧ Same 2 ∧ Same l.length ∧ (∀ (r : Nat), r < l.length → exF l r = exF l r)) (by kernel_rfl) (by (and_intros <;> try exact cl))) endL_nil), endE_nil⟩⟩
def bsK (args : List AV) (H : Tr AB) : Option Ex := match args with
 | [.ow i n, t, .fn (.func g) [] []] => match H.get i, intA t with
   | some (.rw T w m f), some (.i64, z) => cond (Nat.beq g 44 && Nat.beq T exT && Nat.beq w 2)
       (some { μ := [i], args := [.ow 0 n, ivA z, .fn (.func 44) [] []], L := [.rw exT 2 n (exF (exsF n f))], res := .tup [ivA (posD (exsF n f) z : Int), .any], L' := [.rw exT 2 n f], E := [], C := m = n ∧ n ≤ 5000 ∧ InD (exsF n f) ∧ Rise (exsF n f) ∧ 0 ≤ z ∧ z ≤ 4096 ∧ ∀ r, r < n → f r = exF (exsF n f) r }) none
   | _, _ => none
 | _ => none
def bsF : CF := oneX 43 bsK
theorem pos_le (l : List ExD) (a : Int) : posD l a ≤ l.length := (List.takeWhile_prefix _).length_le
theorem inQ1 {i : Nat} : inS [i] i = some 0 := by simp [inS, posL]
theorem bsF_ok : FOk Try.prog bsF := oneX_ok s0_ok tab Try.func43 (by kernel_rfl) fun {args H n e} hk hC => by
 unfold bsK at hk
 split at hk
 · rename_i i m tt g
   split at hk
   · rename_i T w m' f a hi ha
     cases hq : (Nat.beq g 44 && Nat.beq T exT && Nat.beq w 2) with
     | false => rw [hq] at hk; cases hk
     | true =>
       rw [hq] at hk
       cases hk
       simp only [Bool.and_eq_true, beq_dec, decide_eq_true_eq] at hq
       obtain ⟨⟨rfl, rfl⟩, rfl⟩ := hq
       obtain ⟨rfl, c2, c3, c4, c5, c6, c7⟩ := hC
       have hlen := exsF_len m' f
       have hT := bs_to s0_ok (exsF m' f) c3 c4 (by rw [hlen]; exact c2) a c5 c6
       rw [hlen] at hT
       refine ⟨by simp, ⟨⟨_, hi, rfl, rfl, rfl, rfl, c7⟩, trivial⟩, rfl, ?_, ⟨List.nodup_nil, fun p hp => by cases hp⟩, ?_, by kernel_rfl, ?_⟩
       · simp only [renL, renA, inQ1]
         exact ⟨⟨rfl, rfl⟩, intA_leS ha _, leA_refl _, trivial⟩
       · intro w0 ρ w vs hr0 hv q hq
         simp at hq
         subst hq
         exact .inr fun T l e => by rw [hi] at e; cases e
       · refine To.mono hT fun y H' n' hq => ⟨hq.1, ?_, trivial⟩
         obtain ⟨⟨B0, a0, b0⟩, h⟩ := hq.2.1
         exact ⟨⟨B0, a0, leB_rwf b0 (fun r hr => (c7 r hr).symm)⟩, h⟩
   · cases hk
 · cases hk
def insD (l : List ExD) (x : ExD) : List ExD := l.take (posD l x.at_) ++ x :: l.drop (posD l x.at_)
def mstep (out : List ExD) (y : ExD) : List ExD := if out ≠ [] ∧ (out.getD (out.length - 1) default).at_ + (out.getD (out.length - 1) default).n = y.at_ then out.set (out.length - 1) ⟨(out.getD (out.length - 1) default).at_, (out.getD (out.length - 1) default).n + y.n⟩ else out ++ [y]
def mergeL (l : List ExD) : List ExD := l.foldl mstep []
theorem insD_len (l : List ExD) (x : ExD) : (insD l x).length = l.length + 1 := by
 have := pos_le l x.at_
 simp [insD]; omega
theorem insD_in {l : List ExD} {x : ExD} (h : InD l) (hx0 : 0 ≤ x.at_) (hx1 : 1 ≤ x.n) (hx2 : x.at_ + x.n ≤ 4096) : InD (insD l x) := fun y hy => by
 rcases List.mem_append.1 hy with hy | hy
 · exact h y (List.mem_of_mem_take hy)
 · rcases List.mem_cons.1 hy with rfl | hy
   · exact ⟨hx0, by omega, hx2⟩
   · exact h y (List.mem_of_mem_drop hy)
theorem take_at {l : List ExD} {k : Nat} (h : k < l.length) : l.take (k + 1) = l.take k ++ [l.getD k default] := by
 rw [List.take_add_one, List.getElem?_eq_getElem h, List.getD_eq_getElem?_getD, List.getElem?_eq_getElem h]; rfl
theorem fold_at {l : List ExD} {k : Nat} (h : k < l.length) : (l.take (k + 1)).foldl mstep [] = mstep ((l.take k).foldl mstep []) (l.getD k default) := by
 rw [take_at h, List.foldl_append]; rfl
theorem inD_app {l : List ExD} {y : ExD} (h : InD l) (hy : 0 ≤ y.at_ ∧ 0 ≤ y.n ∧ y.at_ + y.n ≤ 4096) : InD (l ++ [y]) := fun z hz => by
 rcases List.mem_append.1 hz with hz | hz
 · exact h z hz
 · rw [List.mem_singleton.1 hz]; exact hy
theorem inD_set {l : List ExD} {y : ExD} (h : InD l) (k : Nat) (hy : 0 ≤ y.at_ ∧ 0 ≤ y.n ∧ y.at_ + y.n ≤ 4096) : InD (l.set k y) := fun z hz => by
 rcases List.mem_or_eq_of_mem_set hz with hz | rfl
 · exact h z hz
 · exact hy
theorem exF_set (l : List ExD) (k : Nat) (y : ExD) (hk : k < l.length) (hy : y.at_ = (l.getD k default).at_) : ∀ r, r < l.length → rwSet (exF l) k 1 [ivA y.n] r = exF (l.set k y) r := fun r hr => by
 unfold rwSet exF
 by_cases h : r = k
 · subst h
   have e : Nat.beq r r = true := by simp
   have hg : (l.set r y).getD r default = y := by simp [List.getD_eq_getElem?_getD, hk]
   rw [e, hg]
   simp only [cond_true, spliceA, exA, ← hy]
   rfl
 · have e : Nat.beq r k = false := by
     cases h' : Nat.beq r k with
     | false => rfl
     | true => exact absurd (Nat.eq_of_beq_eq_true h') h
   rw [e]
   simp only [cond_false]
   rw [show (l.set k y).getD r default = l.getD r default by simp [List.getD_eq_getElem?_getD, List.getElem?_set, Ne.symm h]]
theorem exF_app (l : List ExD) (x : ExD) : ∀ r, r < l.length + 1 → rwPush (exF l) l.length (exA x) r = exF (l ++ [x]) r := fun r hr => by
 unfold rwPush exF
 by_cases h : r = l.length
 · subst h
   have e : Nat.blt l.length l.length = false := by
     cases h : Nat.blt l.length l.length with
     | false => rfl
     | true => rw [Nat.blt_eq] at h; omega
   rw [e]
   simp [List.getD_eq_getElem?_getD]
 · have h' : r < l.length := by omega
   have e : Nat.blt r l.length = true := by rw [Nat.blt_eq]; exact h'
   rw [e]
   simp only [cond_true, List.getD_eq_getElem?_getD, List.getElem?_append_left h']
def SpD.put (s : SpD) (x : ExD) : SpD := { s with l := mergeL (insD s.l x) }
theorem Can.rise {hi : Int} : ∀ {l : List ExD} {a : Int}, Can hi a l → Rise l
 | [], _, _ => fun i j h1 h2 => by simp at h2
 | x :: l, a, h => fun i j h1 h2 => by
   obtain ⟨g1, g2, g3, g4⟩ := h
   match i, j, h1 with
   | 0, j + 1, _ =>
     have hj : j < l.length := by simpa using h2
     have := Can.all g4 _ (mem_getD hj)
     simp only [List.getD_cons_zero, List.getD_cons_succ]
     omega
   | i + 1, j + 1, h1 => simpa using Can.rise g4 i j (by omega) (by simpa using h2)
structure PuP where
 k : Nat
 out : List ExD
noncomputable abbrev SP : Sy := sym Try.prog (orF endF (orF bsF insEF)) noG
theorem sp_ok : SP.Ok Try.prog := sym_ok (orF_ok endF_ok (orF_ok bsF_ok insEF_ok)) (noG_ok _) tab mix
set_option maxHeartbeats 4000000 in
set_option maxRecDepth 100000 in
theorem put_to (hok : SP.Ok Try.prog) (s : SpD) (hs : s.Ok) (x : ExD) (hx0 : 0 ≤ x.at_) (hx1 : 1 ≤ x.n) (hx2 : x.at_ + x.n ≤ 4096) : To SP Try.prog 30 (startOf Try.prog 30 [.ptr 0 0, .agg (exA x)] (memF (spB s) 0 .e) 2)
   (fun v H' _ => leA v (.tup []) ∧ endL [.mem spT none [.v (.bool true), ivA s.lo, ivA s.hi, .ow 3 (s.put x).l.length], .dead] 0 H' ∧ endE [(3, .rw exT 2 (s.put x).l.length (exF (s.put x).l))] H') := by
 have hl := hs.len
 have hn : s.l.length ≤ 5000 := by omega
 have hind := hs.inD
 have hris := hs.can.rise
 have e1 : exsF s.l.length (exF s.l) = s.l := exsF_exF s.l
 have hf1 : ∀ r, r < s.l.length → exF s.l r = exF (exsF s.l.length (exF s.l)) r := by rw [exsF_exF]; exact fun _ _ => rfl
 have hf2 : InD (exsF s.l.length (exF s.l)) := by rw [exsF_exF]; exact hind
 have hf3 : Rise (exsF s.l.length (exF s.l)) := by rw [exsF_exF]; exact hris
 have hf4 : ∀ x ∈ exsF s.l.length (exF s.l), x.pos := by rw [exsF_exF]; exact hs.pos
 have hx3 : x.at_ ≤ 4096 := by omega
 have hf5 : (posD (exsF s.l.length (exF s.l)) x.at_ : Int) ≤ s.l.length := by rw [exsF_exF]; have := pos_le s.l x.at_; omega
 obtain ⟨ll, hll⟩ : ∃ ll, ll = insD s.l x := ⟨_, rfl⟩
 have hlen : ll.length = s.l.length + 1 := by rw [hll]; exact insD_len _ _
 have hin : InD ll := by rw [hll]; exact insD_in hind hx0 hx1 hx2
 refine To.R (k := 50) (C := (Same s.l.length ∧ s.l.length ≤ 5000 ∧ InD (exsF s.l.length (exF s.l)) ∧ Rise (exsF s.l.length (exF s.l)) ∧ 0 ≤ x.at_ ∧ x.at_ ≤ 4096 ∧ (∀ (r : Nat), r < s.l.length → exF s.l r = exF (exsF s.l.length (exF s.l)) r)) ∧ (Same s.l.length ∧ s.l.length ≤ 10000 ∧ (0 : Int) ≤ (posD (exsF s.l.length (exF s.l)) x.at_) ∧ ((posD (exsF s.l.length (exF s.l)) x.at_) : Int) ≤ s.l.length ∧ 0 ≤ x.at_ ∧ 0 ≤ x.n ∧ (∀ (r : Nat), r < s.l.length → exF s.l r = exF (exsF s.l.length (exF s.l)) r) ∧ (∀ (x : ExD), x ∈ exsF s.l.length (exF s.l) → x.pos)) ∧ True) (h := ?_)
 refine To.rows 4 (exF ll) (by kernel_rfl) (C := (∀ (r : Nat), r < s.l.length + 1 → leL (exF (List.take (posD (exsF s.l.length (exF s.l)) x.at_) (exsF s.l.length (exF s.l)) ++ x :: List.drop (posD (exsF s.l.length (exF s.l)) x.at_) (exsF s.l.length (exF s.l))) r) (exF ll r) ∧ bareL (exF ll r) = true)) (by kernel_rfl) ?_ ?_
 · intro r hr
   rw [hll, e1]
   exact ⟨leL_refl _, rfl⟩
 refine To.L (L := [LN.old 4, LN.new (AB.rw 31 2 0 (exF (PuP.mk 0 []).out))]) (kp := [36, 35, 34, 6, 0]) (C := (Same IntKind.i64 ∧ (0 : Int) = (↑(0 : Nat) : Int)) ∧ Same 0 ∧ 31 = exT ∧ Same 2 ∧ Same 0 ∧ (∀ (r : Nat), r < 0 → exF [] r = exF [] r)) (st := fun (a : PuP) => (⟨(⟨30, 75, (slotT 75 [(0, AV.ptr 0 0), (6, AV.ow 3 a.out.length), (34, AV.ow 2 (s.l.length + 1)), (35, AV.sy (Value.int IntKind.i64 (↑(s.l.length + 1) : Int))), (36, AV.sy (Value.int IntKind.i64 a.k))]), ARg.no, [(AItem.code (subC (bodyC Try.prog 30) [1, 1, 1, 1, 0, 1, 0, 0])), (AItem.inLoop (subC (bodyC Try.prog 30) [1, 1, 1, 1, 0, 1, 0, 0])), (AItem.inBlock 0), (AItem.code (subC (bodyC Try.prog 30) [1, 1, 1, 1, 1]))], [], false, none, 2⟩ : AFr), [], memF [AB.mem 52 none [AV.v (Value.bool true), AV.sy (Value.int IntKind.i64 s.lo), AV.sy (Value.int IntKind.i64 s.hi), AV.ow 2 (s.l.length + 1)], AB.dead, AB.rw 31 2 (s.l.length + 1) (exF ll), AB.rw 31 2 a.out.length (exF a.out)] 0 Tr.e, 4⟩ : ASt)) (hI := ?_) (h := ?_) (fun (p : PuP) => [(36, ivA (p.k : Int)), (6, .ow 3 p.out.length)]) (fun p => [(3, .rw exT 2 p.out.length (exF p.out))]) (fun p => p.k ≤ ll.length ∧ p.out = (ll.take p.k).foldl mstep [] ∧ InD p.out ∧ p.out.length ≤ p.k) (fun p => ll.length - p.k) (PuP.mk 0 [])
 · exact ⟨Nat.zero_le _, rfl, fun x (hx : x ∈ []) => (nomatch hx), Nat.le_refl _⟩
 intro p ⟨h1, h2, h3, h4⟩ ih
 refine To.R (h := ?_)
 refine To.Bd ((↑p.k : Int) < (↑(s.l.length + 1) : Int)) (h := ?_) (g := ?_)
 · intro h5
   have hlt : p.k < ll.length := by omega
   have hb := hin _ (mem_getD hlt)
   have hi1 : p.k + 1 ≤ ll.length := by omega
   have hi2 : ll.length - (p.k + 1) < ll.length - p.k := by omega
   have hfo := fold_at hlt
   rw [← h2] at hfo
   refine To.R (C := ((0 : Int) ≤ p.k ∧ (↑p.k : Int) < (↑(s.l.length + 1) : Int)) ∧ p.k < s.l.length + 1 ∧ True) (h := ?_)
   refine To.Bd ((0 : Int) < p.out.length) (h := ?_) (g := ?_)
   · intro h6
     have ho : p.out.length - 1 < p.out.length := by omega
     have hob := h3 _ (mem_getD ho)
     have hx : ((p.out.length : Int) - 1).toNat = p.out.length - 1 := by omega
     have hw : w64 ((p.out.getD (p.out.length - 1) default).at_ + (p.out.getD (p.out.length - 1) default).n) = (p.out.getD (p.out.length - 1) default).at_ + (p.out.getD (p.out.length - 1) default).n := w64_of (by omega) (by omega)
     have hne : p.out ≠ [] := fun e => by rw [e] at h6; simp at h6
     refine To.R (C := fits IntKind.i64 (p.out.length - 1) ∧ ((0 : Int) ≤ p.out.length - 1 ∧ p.out.length - (1 : Int) < p.out.length) ∧ (p.out.length - (1 : Int)).toNat < p.out.length ∧ True ∧ Same (AV.sy (Value.int IntKind.i64 (ll.getD p.k default).at_))) (h := ?_)
     refine To.Bd (w64 ((p.out.getD ((↑p.out.length : Int) - 1).toNat default).at_ + (p.out.getD ((↑p.out.length : Int) - 1).toNat default).n) = (ll.getD p.k default).at_) (h := ?_) (g := ?_)
     · intro h7
       rw [hx, hw] at h7
       have hms : mstep p.out (ll.getD p.k default) = p.out.set (p.out.length - 1) ⟨(p.out.getD (p.out.length - 1) default).at_, (p.out.getD (p.out.length - 1) default).n + (ll.getD p.k default).n⟩ := if_pos ⟨hne, h7⟩
       rw [hms] at hfo
       refine To.R (k := 24) (C := fits IntKind.i64 (p.out.length - 1) ∧ ((0 : Int) ≤ p.out.length - 1 ∧ p.out.length - (1 : Int) < p.out.length) ∧ True ∧ (p.out.length - (1 : Int)).toNat < p.out.length ∧ fits IntKind.i64 ((p.out.getD (p.out.length - (1 : Int)).toNat default).n + (ll.getD p.k default).n) ∧ ((0 : Int) ≤ p.out.length - 1 ∧ p.out.length - (1 : Int) < p.out.length) ∧ True ∧ (p.out.length - (1 : Int)).toNat < p.out.length ∧ fits IntKind.i64 (p.k + 1)) (hc := ?_) (h := ?_); (and_intros <;> try exact cl)
       · rw [hx]; exact fits_i64 (by omega) (by omega)
       have hq1 : 0 ≤ (p.out.getD (p.out.length - 1) default).n + (ll.getD p.k default).n := by omega
       have hq2 : (p.out.getD (p.out.length - 1) default).at_ + ((p.out.getD (p.out.length - 1) default).n + (ll.getD p.k default).n) ≤ 4096 := by omega
       refine To.K (L := [LN.old 2, LN.old 3]) (kp := [36, 35, 34, 6, 0]) (ov := [(36, AV.sy (Value.int IntKind.i64 (PuP.mk (p.k + 1) (p.out.set (p.out.length - 1) (ExD.mk (p.out.getD (p.out.length - 1) default).at_ ((p.out.getD (p.out.length - 1) default).n + (ll.getD p.k default).n)))).k)), (6, AV.ow 3 (PuP.mk (p.k + 1) (p.out.set (p.out.length - 1) (ExD.mk (p.out.getD (p.out.length - 1) default).at_ ((p.out.getD (p.out.length - 1) default).n + (ll.getD p.k default).n)))).out.length)]) (ob := [(3, AB.rw 31 2 (PuP.mk (p.k + 1) (p.out.set (p.out.length - 1) (ExD.mk (p.out.getD (p.out.length - 1) default).at_ ((p.out.getD (p.out.length - 1) default).n + (ll.getD p.k default).n)))).out.length (exF (PuP.mk (p.k + 1) (p.out.set (p.out.length - 1) (ExD.mk (p.out.getD (p.out.length - 1) default).at_ ((p.out.getD (p.out.length - 1) default).n + (ll.getD p.k default).n)))).out))]) (C := (Same IntKind.i64 ∧ (↑p.k : Int) + 1 = (↑(p.k + 1) : Int)) ∧ (Same 3 ∧ p.out.length = (p.out.set (p.out.length - 1) (ExD.mk (p.out.getD (p.out.length - 1) default).at_ ((p.out.getD (p.out.length - 1) default).n + (ll.getD p.k default).n))).length) ∧ exT = 31 ∧ Same 2 ∧ p.out.length = (p.out.set (p.out.length - 1) (ExD.mk (p.out.getD (p.out.length - 1) default).at_ ((p.out.getD (p.out.length - 1) default).n + (ll.getD p.k default).n))).length ∧ (∀ (r : Nat), r < p.out.length → rwSet (exF p.out) ((↑p.out.length : Int) - 1).toNat 1 [AV.sy (Value.int IntKind.i64 ((p.out.getD ((↑p.out.length : Int) - 1).toNat default).n + (ll.getD p.k default).n))] r = exF (p.out.set (p.out.length - 1) (ExD.mk (p.out.getD (p.out.length - 1) default).at_ ((p.out.getD (p.out.length - 1) default).n + (ll.getD p.k default).n))) r)) (hc := ?_) (ih (PuP.mk (p.k + 1) (p.out.set (p.out.length - 1) ⟨(p.out.getD (p.out.length - 1) default).at_, (p.out.getD (p.out.length - 1) default).n + (ll.getD p.k default).n⟩)) ⟨hi1, hfo.symm, inD_set h3 _ ⟨hob.1, hq1, hq2⟩, by rw [List.length_set]; exact Nat.le_succ_of_le h4⟩ hi2)
       rw [hx]
       exact ⟨⟨rfl, Int.natCast_succ _⟩, ⟨rfl, by simp⟩, rfl, rfl, by simp, exF_set p.out (p.out.length - 1) ⟨(p.out.getD (p.out.length - 1) default).at_, (p.out.getD (p.out.length - 1) default).n + (ll.getD p.k default).n⟩ ho rfl⟩
     · intro h7
       rw [hx, hw] at h7
       have hms : mstep p.out (ll.getD p.k default) = p.out ++ [ll.getD p.k default] := if_neg (fun h => h7 h.2)
       rw [hms] at hfo
       refine To.R (k := 17) (C := (Same p.out.length ∧ p.out.length ≤ 1073741824) ∧ fits IntKind.i64 (p.k + 1)) (h := ?_)
       refine To.K (L := [LN.old 2, LN.old 6]) (kp := [36, 35, 34, 6, 0]) (ov := [(36, AV.sy (Value.int IntKind.i64 (PuP.mk (p.k + 1) (p.out ++ [ll.getD p.k default])).k)), (6, AV.ow 3 (PuP.mk (p.k + 1) (p.out ++ [ll.getD p.k default])).out.length)]) (ob := [(3, AB.rw 31 2 (PuP.mk (p.k + 1) (p.out ++ [ll.getD p.k default])).out.length (exF (PuP.mk (p.k + 1) (p.out ++ [ll.getD p.k default])).out))]) (C := (Same IntKind.i64 ∧ (↑p.k : Int) + 1 = (↑(p.k + 1) : Int)) ∧ (Same 3 ∧ p.out.length + 1 = (p.out ++ [ll.getD p.k default]).length) ∧ 31 = 31 ∧ Same 2 ∧ p.out.length + 1 = (p.out ++ [ll.getD p.k default]).length ∧ (∀ (r : Nat), r < p.out.length + 1 → rwPush (exF p.out) p.out.length [AV.sy (Value.int IntKind.i64 (ll.getD p.k default).at_), AV.sy (Value.int IntKind.i64 (ll.getD p.k default).n)] r = exF (p.out ++ [ll.getD p.k default]) r)) (hc := ?_) (ih (PuP.mk (p.k + 1) (p.out ++ [ll.getD p.k default])) ⟨hi1, hfo.symm, inD_app h3 hb, by rw [List.length_append]; exact Nat.succ_le_succ h4⟩ hi2)
       exact ⟨⟨rfl, Int.natCast_succ _⟩, ⟨rfl, by simp⟩, rfl, rfl, by simp, exF_app _ _⟩
   · intro h6
     have ho : p.out = [] := List.eq_nil_of_length_eq_zero (by omega)
     have hms : mstep p.out (ll.getD p.k default) = p.out ++ [ll.getD p.k default] := if_neg (fun h => h.1 ho)
     rw [hms] at hfo
     refine To.R (k := 27) (C := (Same p.out.length ∧ p.out.length ≤ 1073741824) ∧ fits IntKind.i64 (p.k + 1)) (h := ?_)
     refine To.K (L := [LN.old 2, LN.old 6]) (kp := [36, 35, 34, 6, 0]) (ov := [(36, AV.sy (Value.int IntKind.i64 (PuP.mk (p.k + 1) (p.out ++ [ll.getD p.k default])).k)), (6, AV.ow 3 (PuP.mk (p.k + 1) (p.out ++ [ll.getD p.k default])).out.length)]) (ob := [(3, AB.rw 31 2 (PuP.mk (p.k + 1) (p.out ++ [ll.getD p.k default])).out.length (exF (PuP.mk (p.k + 1) (p.out ++ [ll.getD p.k default])).out))]) (C := (Same IntKind.i64 ∧ (↑p.k : Int) + 1 = (↑(p.k + 1) : Int)) ∧ (Same 3 ∧ p.out.length + 1 = (p.out ++ [ll.getD p.k default]).length) ∧ 31 = 31 ∧ Same 2 ∧ p.out.length + 1 = (p.out ++ [ll.getD p.k default]).length ∧ (∀ (r : Nat), r < p.out.length + 1 → rwPush (exF p.out) p.out.length [AV.sy (Value.int IntKind.i64 (ll.getD p.k default).at_), AV.sy (Value.int IntKind.i64 (ll.getD p.k default).n)] r = exF (p.out ++ [ll.getD p.k default]) r)) (hc := ?_) (ih (PuP.mk (p.k + 1) (p.out ++ [ll.getD p.k default])) ⟨hi1, hfo.symm, inD_app h3 hb, by rw [List.length_append]; exact Nat.succ_le_succ h4⟩ hi2)
     exact ⟨⟨rfl, Int.natCast_succ _⟩, ⟨rfl, by simp⟩, rfl, rfl, by simp, exF_app _ _⟩
 · intro h5
   have hk2 : p.k = ll.length := by omega
   have h6 : p.out = (s.put x).l := by
     rw [hk2, List.take_length, hll] at h2
     exact h2
   refine To.R (h := ?_)
   refine To.E (AV.tup []) (hq := ?_)
   rw [← h6]
   refine ⟨(of_eqP (C := True) (by kernel_rfl) (by (and_intros <;> try exact cl))), ⟨(endL_cons (B0 := AB.mem 52 none [AV.v (Value.bool true), AV.sy (Value.int IntKind.i64 s.lo), AV.sy (Value.int IntKind.i64 s.hi), AV.ow 3 p.out.length]) (by kernel_rfl) (of_eqP (C := 52 = spT ∧ (none : Option Nat) = none ∧ Same (AV.v (Value.bool true)) ∧ (Same IntKind.i64 ∧ Same s.lo) ∧ (Same IntKind.i64 ∧ Same s.hi) ∧ (Same 3 ∧ Same p.out.length) ∧ True) (by kernel_rfl) (by (and_intros <;> try exact cl))) (endL_cons (B0 := AB.dead) (by kernel_rfl) (of_eqP (C := True) (by kernel_rfl) (by (and_intros <;> try exact cl))) endL_nil)), (endE_cons (B0 := AB.rw 31 2 p.out.length (exF p.out)) (by kernel_rfl) (of_eqP (C := 31 = exT ∧ Same 2 ∧ Same p.out.length ∧ (∀ (r : Nat), r < p.out.length → exF p.out r = exF p.out r)) (by kernel_rfl) (by (and_intros <;> try exact cl))) endE_nil)⟩⟩
def spB' (s : SpD) (q : Nat) : List AB := [.mem spT none [.v (.bool true), ivA s.lo, ivA s.hi, .ow q s.l.length], .dead]
def spE (s : SpD) (q : Nat) : List (Nat × AB) := [(q, .rw exT 2 s.l.length (exF s.l))]
def exP (y : AV) : Option ExD := match y with
 | .agg [a, b] => match intA a, intA b with
   | some (.i64, p), some (.i64, q) => some ⟨p, q⟩
   | _, _ => none
 | _ => none
theorem exP_le {y : AV} {x : ExD} (h : exP y = some x) (σ : Nat → Option Nat) : leA (renA σ y) (.agg (exA x)) := by
 unfold exP at h
 split at h
 · split at h
   · rename_i p q ha hb
     cases h
     simp only [renA, renL]
     exact ⟨intA_leS ha _, intA_leS hb _, trivial⟩
   · cases h
 · cases h
def putF : CF := oneX 30 fun args H => match args with
 | [.ptr i 0, y] => match spOf H i, exP y with
   | some (w, p, C), some x => some { μ := [i, p], args := [.ptr 0 0, .agg (exA x)], L := spB w.toL, res := .tup [], L' := spB' (w.toL.put x) 3, E := spE (w.toL.put x) 3, C := C ∧ w.Ok ∧ 0 ≤ x.at_ ∧ 1 ≤ x.n ∧ x.at_ + x.n ≤ 4096 }
   | _, _ => none
 | _ => none
theorem putF_ok : FOk Try.prog putF := oneX_ok sp_ok tab Try.func30 (by kernel_rfl) fun {args H n e} hk hC => by
 split at hk
 · rename_i i y
   split at hk
   · rename_i w p C x hr hx
     cases hk
     obtain ⟨c1, c2, c3, c4, c5⟩ := hC
     obtain ⟨n1, hs, _, hp⟩ := spOf_seen hr c1
     refine ⟨by simp [n1], hs c2, rfl, ?_, ⟨by simp [spE], by simp [spE]⟩, ?_, by kernel_rfl, put_to sp_ok w.toL c2.ok x c3 c4 c5⟩
     · simp only [renL, renA, inP1]
       exact ⟨leA_refl _, exP_le hx _, trivial⟩
     · intro w0 ρ w vs hr0 hv j hj
       simp at hj
       rcases hj with rfl | rfl
       · exact .inl (VRs.bind hv (j, True) (by simp [bindL, bindA]) trivial)
       · exact .inr hp
   · cases hk
 · cases hk
noncomputable abbrev ST : Sy := sym Try.prog (orF endF (orF cloneEF putF)) noG
theorem st_ok : ST.Ok Try.prog := sym_ok (orF_ok endF_ok (orF_ok cloneEF_ok putF_ok)) (noG_ok _) tab mix
def findG (n : Int) : List ExD → Option ExD
 | [] => none
 | g :: l => if n ≤ g.n then some ⟨g.at_, n⟩ else findG n l
def takeP (s : SpD) (n : Int) : Option ExD := if n < 1 then none else findG n s.gaps
def takeE (n : Int) : Int := if n < 1 then 40 else 41
structure TkP where
 k : Nat
 at_ : Int
theorem findG_at {n : Int} : ∀ {a : Int} {m : List ExD} {y : ExD}, Run a m → findG n (gapsD a m) = some y → 0 ≤ y.at_ ∧ y.n = n ∧ y.at_ + n ≤ 4096
 | a, [], y, _, h => by simp [gapsD, findG] at h
 | a, x :: m, y, hr, h => by
   obtain ⟨h1, h2, h3, h4, h5⟩ := hr
   rw [gapsD_cons] at h
   split at h
   · unfold findG at h
     split at h
     · cases h
       rename_i g
       have g' : n ≤ x.at_ - a := g
       exact ⟨h1, rfl, by show a + n ≤ 4096; omega⟩
     · exact findG_at h5 h
   · exact findG_at h5 h
set_option maxHeartbeats 4000000 in
set_option maxRecDepth 100000 in
theorem take_to (hok : ST.Ok Try.prog) (s : SpD) (hs : s.Ok) (n : Int) : To ST Try.prog 12 (startOf Try.prog 12 [.ptr 0 0, ivA n] (memF (spB s) 0 .e) 2)
   (fun v H' _ => (takeP s n = none ∧ leA v (.tup [.agg [ivA 0, ivA 0], ivA (takeE n)]) ∧ endL (spB s) 0 H') ∨ ∃ y, takeP s n = some y ∧ leA v (.tup [.agg (exA y), ivA 0]) ∧ endL (spB' (s.put y) 11) 0 H' ∧ endE (spE (s.put y) 11) H') := by
 have hl := hs.len
 have hpos := hs.pos
 have hf1 : ∀ r, r < s.l.length → exF s.l r = exF (exsF s.l.length (exF s.l)) r := by rw [exsF_exF]; exact fun _ _ => rfl
 have hf2 : ∀ x ∈ exsF s.l.length (exF s.l), x.pos := by rw [exsF_exF]; exact hpos
 have hrun := hs.run
 have hml := mD_len s
 refine To.R (h := ?_)
 refine To.Bd (n < 1) (h := ?_) (g := ?_)
 · intro h1
   have h2 : takeP s n = none := if_pos h1
   have h3 : 40 = takeE n := (if_pos h1).symm
   refine To.R (h := ?_)
   refine To.E (AV.tup [AV.agg [AV.v (Value.int IntKind.i64 0), AV.v (Value.int IntKind.i64 0)], AV.v (Value.int IntKind.i64 40)]) (hq := ?_)
   refine .inl ⟨h2, ?_⟩
   refine ⟨(of_eqP (C := ((Same IntKind.i64 ∧ Same (0 : Int)) ∧ (Same IntKind.i64 ∧ Same (0 : Int)) ∧ True) ∧ (Same IntKind.i64 ∧ 40 = takeE n) ∧ True) (by kernel_rfl) (by (and_intros <;> try exact cl))), (endL_cons (B0 := AB.mem 52 none [AV.v (Value.bool true), AV.sy (Value.int IntKind.i64 s.lo), AV.sy (Value.int IntKind.i64 s.hi), AV.ow 1 s.l.length]) (by kernel_rfl) (of_eqP (C := 52 = spT ∧ (none : Option Nat) = none ∧ Same (AV.v (Value.bool true)) ∧ (Same IntKind.i64 ∧ Same s.lo) ∧ (Same IntKind.i64 ∧ Same s.hi) ∧ (Same 1 ∧ Same s.l.length) ∧ True) (by kernel_rfl) (by (and_intros <;> try exact cl))) (endL_cons (B0 := AB.rw 31 2 s.l.length (exF s.l)) (by kernel_rfl) (of_eqP (C := 31 = exT ∧ Same 2 ∧ Same s.l.length ∧ (∀ (r : Nat), r < s.l.length → exF s.l r = exF s.l r)) (by kernel_rfl) (by (and_intros <;> try exact cl))) endL_nil))⟩
 · intro h1
   have hn1 : takeE n = 41 := if_neg h1
   have hn2 : takeP s n = findG n s.gaps := if_neg h1
   refine To.R (k := 58) (C := (Same s.l.length ∧ s.l.length ≤ 1000000 ∧ (∀ (r : Nat), r < s.l.length → exF s.l r = exF (exsF s.l.length (exF s.l)) r) ∧ (∀ (x : ExD), x ∈ exsF s.l.length (exF s.l) → x.pos)) ∧ Same (AV.sy (Value.int IntKind.i64 s.hi)) ∧ Same (AV.ptr 0 0) ∧ (Same s.l.length ∧ s.l.length ≤ 1073741824) ∧ True) (h := ?_)
   refine To.rows 10 (exF (mD s)) (by kernel_rfl) (C := (∀ (r : Nat), r < s.l.length + 1 → leL (rwPush (exF s.l) s.l.length [AV.sy (Value.int IntKind.i64 s.hi), AV.v (Value.int IntKind.i64 0)] r) (exF (mD s) r) ∧ bareL (exF (mD s) r) = true)) (by kernel_rfl) ?_ ?_
   · exact exF_push ⟨⟨rfl, rfl⟩, ⟨rfl, rfl⟩, trivial⟩
   refine To.L (L := [LN.old 2, LN.old 3, LN.old 4, LN.old 5, LN.old 6, LN.old 7, LN.old 10]) (kp := [23, 22, 21, 3, 0]) (ks := [[6, 4, 0]]) (C := (Same IntKind.i64 ∧ (0 : Int) = (↑(0 : Nat) : Int)) ∧ Same IntKind.i64 ∧ Same s.lo) (st := fun (a : TkP) => (⟨(⟨42, 45, (slotT 45 [(0, AV.yl 7), (3, AV.sy (Value.int IntKind.i64 a.at_)), (21, AV.ow 8 (s.l.length + 1)), (22, AV.sy (Value.int IntKind.i64 (↑(s.l.length + 1) : Int))), (23, AV.sy (Value.int IntKind.i64 a.k))]), ARg.no, [(AItem.code (subC (bodyC Try.prog 42) [1, 1, 0, 0])), (AItem.inLoop (subC (bodyC Try.prog 42) [1, 1, 0, 0])), (AItem.inBlock 0)], [], false, none, 9⟩ : AFr), [(⟨12, 35, (slotT 35 [(0, AV.ptr 0 0), (4, AV.ptr 3 0), (6, AV.ptr 4 0)]), ARg.no, [(AItem.inRF 7), (AItem.inBlock 1), (AItem.code (subC (bodyC Try.prog 12) [1, 0, 1, 1, 1, 1])), (AItem.inScope (subC (bodyC Try.prog 12) [1, 0]))], [6], false, none, 2⟩ : AFr)], memF [AB.mem 52 none [AV.v (Value.bool true), AV.sy (Value.int IntKind.i64 s.lo), AV.sy (Value.int IntKind.i64 s.hi), AV.ow 1 s.l.length], AB.rw 31 2 s.l.length (exF s.l), AB.mem 3 none [AV.sy (Value.int IntKind.i64 n)], AB.mem 31 none [AV.v (Value.int IntKind.i64 0), AV.v (Value.int IntKind.i64 0)], AB.mem 31 none [AV.v (Value.int IntKind.i64 0), AV.v (Value.int IntKind.i64 0)], AB.mem 24 none [AV.ptr 0 0], AB.dfd true, (AB.loop LoopState.ready (none : Option Code) 12 35 (slotT 35 [(0, AV.ptr 0 0), (1, AV.sy (Value.int IntKind.i64 n)), (2, AV.v (Value.tuple #[])), (3, AV.ptr 2 0), (4, AV.ptr 3 0), (5, AV.v (Value.int IntKind.i64 0)), (6, AV.ptr 4 0), (7, AV.v (Value.tuple #[])), (8, AV.v (Value.bool !true)), (9, AV.ptr 0 0), (10, AV.v (Value.bool !true)), (11, AV.v (Value.tuple #[])), (12, AV.v (Value.bool false)), (13, AV.sy (Value.int IntKind.i64 n)), (14, AV.v (Value.bool false)), (15, AV.v (Value.tuple #[])), (16, AV.ptr 0 0), (17, AV.fn (Fn.func 42) [] [AV.ptr 5 0]), (18, AV.v (Value.tuple #[])), (19, AV.v (Value.tuple #[])), (20, AV.v (Value.tuple #[])), (21, AV.v (Value.tuple #[])), (22, AV.v (Value.tuple #[])), (23, AV.v (Value.tuple #[])), (24, AV.v (Value.tuple #[])), (25, AV.v (Value.tuple #[])), (26, AV.v (Value.tuple #[])), (27, AV.v (Value.tuple #[])), (28, AV.v (Value.tuple #[])), (29, AV.v (Value.tuple #[])), (30, AV.v (Value.tuple #[])), (31, AV.v (Value.tuple #[])), (32, AV.v (Value.tuple #[])), (33, AV.v (Value.tuple #[])), (34, AV.v (Value.tuple #[]))]) [18] (subC (bodyC Try.prog 12) [1, 0, 1, 1, 1, 0, 1, 0, 0]) (subC (bodyC Try.prog 12) [1, 0, 1, 1, 1, 0, 1, 0, 1]) 6), AB.rw 31 2 (s.l.length + 1) (exF (mD s))] 0 Tr.e, 9⟩ : ASt)) (hI := ?_) (h := ?_) (fun (p : TkP) => [(23, ivA (p.k : Int)), (3, ivA p.at_)]) (fun p => []) (fun p => p.k ≤ (mD s).length ∧ Run p.at_ ((mD s).drop p.k) ∧ findG n (gapsD p.at_ ((mD s).drop p.k)) = takeP s n) (fun p => (mD s).length - p.k) (TkP.mk 0 s.lo)
   · exact ⟨Nat.zero_le _, hrun, hn2.symm⟩
   intro p ⟨hk, h2, h3⟩ ih
   have hb := h2.bd
   refine To.R (h := ?_)
   refine To.Bd ((↑p.k : Int) < (↑(s.l.length + 1) : Int)) (h := ?_) (g := ?_)
   · intro h4
     have hlt : p.k < (mD s).length := by omega
     rw [drop_at hlt] at h2 h3
     have h2' := h2
     obtain ⟨g1, g2, g3, g4, g5⟩ := h2
     have hi1 : p.k + 1 ≤ (mD s).length := by omega
     have hi2 : (mD s).length - (p.k + 1) < (mD s).length - p.k := by omega
     have hw : w64 (((mD s).getD p.k default).at_ + ((mD s).getD p.k default).n) = ((mD s).getD p.k default).at_ + ((mD s).getD p.k default).n := w64_of (by omega) (by omega)
     refine To.R (C := ((0 : Int) ≤ p.k ∧ (↑p.k : Int) < (↑(s.l.length + 1) : Int)) ∧ p.k < s.l.length + 1) (h := ?_)
     refine To.Bd (p.at_ < ((mD s).getD p.k default).at_) (h := ?_) (g := ?_)
     · intro h5
       refine To.R (C := fits IntKind.i64 (((mD s).getD p.k default).at_ - p.at_)) (h := ?_)
       refine To.Bd (n ≤ ((mD s).getD p.k default).at_ - p.at_) (h := ?_) (g := ?_)
       · intro h6
         have hq : takeP s n = some ⟨p.at_, n⟩ := by
           rw [← h3, gapsD_cons, if_pos h5]
           exact if_pos h6
         have hy := findG_at h2' (h3.trans hq)
         have hy2 : p.at_ + n ≤ 4096 := hy.2.2
         have hz : ¬ [p.at_, n] = [(0 : Int), 0] := fun e => by simp at e; omega
         have hwo : (⟨s.lo, s.hi, s.l.length, exF s.l⟩ : SpW).Ok := raw_ok hs
         have he : (⟨s.lo, s.hi, s.l.length, exF s.l⟩ : SpW).toL.put ⟨p.at_, n⟩ = s.put ⟨p.at_, n⟩ := by rw [show (⟨s.lo, s.hi, s.l.length, exF s.l⟩ : SpW).toL = s from raw_toL s]
         have hl1 : ((⟨s.lo, s.hi, s.l.length, exF s.l⟩ : SpW).toL.put ⟨p.at_, n⟩).l.length = (s.put ⟨p.at_, n⟩).l.length := by rw [he]
         have hl2 : ∀ r, r < ((⟨s.lo, s.hi, s.l.length, exF s.l⟩ : SpW).toL.put ⟨p.at_, n⟩).l.length → exF ((⟨s.lo, s.hi, s.l.length, exF s.l⟩ : SpW).toL.put ⟨p.at_, n⟩).l r = exF (s.put ⟨p.at_, n⟩).l r := by rw [he]; exact fun _ _ => rfl
         refine To.R (h := ?_)
         refine To.Nd ([p.at_, n] = [0, 0]) (h := ?_)
         refine To.R (C := Same s.l.length ∧ (SpW.mk s.lo s.hi s.l.length (exF s.l)).Ok ∧ 0 ≤ p.at_ ∧ 1 ≤ n ∧ p.at_ + n ≤ 4096) (h := ?_)
         refine To.E (AV.tup [AV.agg [AV.sy (Value.int IntKind.i64 p.at_), AV.sy (Value.int IntKind.i64 n)], AV.v (Value.int IntKind.i64 0)]) (hq := ?_)
         refine .inr ⟨⟨p.at_, n⟩, hq, ?_⟩
         refine ⟨(of_eqP (C := ((Same IntKind.i64 ∧ Same p.at_) ∧ (Same IntKind.i64 ∧ Same n) ∧ True) ∧ (Same IntKind.i64 ∧ Same (0 : Int)) ∧ True) (by kernel_rfl) (by (and_intros <;> try exact cl))), ⟨(endL_cons (B0 := AB.mem 52 none [AV.v (Value.bool true), AV.sy (Value.int IntKind.i64 ((SpW.mk s.lo s.hi s.l.length (exF s.l)).toL.put (ExD.mk p.at_ n)).lo), AV.sy (Value.int IntKind.i64 ((SpW.mk s.lo s.hi s.l.length (exF s.l)).toL.put (ExD.mk p.at_ n)).hi), AV.ow 11 ((SpW.mk s.lo s.hi s.l.length (exF s.l)).toL.put (ExD.mk p.at_ n)).l.length]) (by kernel_rfl) (of_eqP (C := 52 = spT ∧ (none : Option Nat) = none ∧ Same (AV.v (Value.bool true)) ∧ (Same IntKind.i64 ∧ ((SpW.mk s.lo s.hi s.l.length (exF s.l)).toL.put (ExD.mk p.at_ n)).lo = (s.put (ExD.mk p.at_ n)).lo) ∧ (Same IntKind.i64 ∧ ((SpW.mk s.lo s.hi s.l.length (exF s.l)).toL.put (ExD.mk p.at_ n)).hi = (s.put (ExD.mk p.at_ n)).hi) ∧ (Same 11 ∧ ((SpW.mk s.lo s.hi s.l.length (exF s.l)).toL.put (ExD.mk p.at_ n)).l.length = (s.put (ExD.mk p.at_ n)).l.length) ∧ True) (by kernel_rfl) ?_) (endL_cons (B0 := AB.dead) (by kernel_rfl) (of_eqP (C := True) (by kernel_rfl) (by (and_intros <;> try exact cl))) endL_nil)), (endE_cons (B0 := AB.rw 31 2 ((SpW.mk s.lo s.hi s.l.length (exF s.l)).toL.put (ExD.mk p.at_ n)).l.length (exF ((SpW.mk s.lo s.hi s.l.length (exF s.l)).toL.put (ExD.mk p.at_ n)).l)) (by kernel_rfl) (of_eqP (C := 31 = exT ∧ Same 2 ∧ ((SpW.mk s.lo s.hi s.l.length (exF s.l)).toL.put (ExD.mk p.at_ n)).l.length = (s.put (ExD.mk p.at_ n)).l.length ∧ (∀ (r : Nat), r < ((SpW.mk s.lo s.hi s.l.length (exF s.l)).toL.put (ExD.mk p.at_ n)).l.length → exF ((SpW.mk s.lo s.hi s.l.length (exF s.l)).toL.put (ExD.mk p.at_ n)).l r = exF (s.put (ExD.mk p.at_ n)).l r)) (by kernel_rfl) (by (and_intros <;> try exact cl))) endE_nil)⟩⟩
         exact ⟨rfl, rfl, rfl, ⟨rfl, rfl⟩, ⟨rfl, rfl⟩, ⟨rfl, hl1⟩, trivial⟩
       · intro h6
         rw [gapsD_cons, if_pos h5] at h3
         have h3' : findG n (gapsD (((mD s).getD p.k default).at_ + ((mD s).getD p.k default).n) ((mD s).drop (p.k + 1))) = takeP s n := by rw [← h3]; exact (if_neg h6).symm
         refine To.R (k := 21) (C := True ∧ fits IntKind.i64 (p.k + 1)) (h := ?_)
         refine To.K (L := [LN.old 2, LN.old 3, LN.old 4, LN.old 5, LN.old 6, LN.old 7, LN.old 8]) (kp := [23, 22, 21, 3, 0]) (ks := [[6, 4, 0]]) (ov := [(23, AV.sy (Value.int IntKind.i64 (TkP.mk (p.k + 1) (((mD s).getD p.k default).at_ + ((mD s).getD p.k default).n)).k)), (3, AV.sy (Value.int IntKind.i64 (TkP.mk (p.k + 1) (((mD s).getD p.k default).at_ + ((mD s).getD p.k default).n)).at_))]) (C := (Same IntKind.i64 ∧ (↑p.k : Int) + 1 = (↑(p.k + 1) : Int)) ∧ Same IntKind.i64 ∧ w64 (((mD s).getD p.k default).at_ + ((mD s).getD p.k default).n) = ((mD s).getD p.k default).at_ + ((mD s).getD p.k default).n) (ih (TkP.mk (p.k + 1) (((mD s).getD p.k default).at_ + ((mD s).getD p.k default).n)) ⟨hi1, g5, h3'⟩ hi2)
     · intro h5
       rw [gapsD_cons, if_neg h5] at h3
       refine To.R (k := 25) (C := True ∧ fits IntKind.i64 (p.k + 1)) (h := ?_)
       refine To.K (L := [LN.old 2, LN.old 3, LN.old 4, LN.old 5, LN.old 6, LN.old 7, LN.old 8]) (kp := [23, 22, 21, 3, 0]) (ks := [[6, 4, 0]]) (ov := [(23, AV.sy (Value.int IntKind.i64 (TkP.mk (p.k + 1) (((mD s).getD p.k default).at_ + ((mD s).getD p.k default).n)).k)), (3, AV.sy (Value.int IntKind.i64 (TkP.mk (p.k + 1) (((mD s).getD p.k default).at_ + ((mD s).getD p.k default).n)).at_))]) (C := (Same IntKind.i64 ∧ (↑p.k : Int) + 1 = (↑(p.k + 1) : Int)) ∧ Same IntKind.i64 ∧ w64 (((mD s).getD p.k default).at_ + ((mD s).getD p.k default).n) = ((mD s).getD p.k default).at_ + ((mD s).getD p.k default).n) (ih (TkP.mk (p.k + 1) (((mD s).getD p.k default).at_ + ((mD s).getD p.k default).n)) ⟨hi1, g5, h3⟩ hi2)
   · intro h4
     have hk2 : p.k = (mD s).length := by omega
     have h6 : takeP s n = none := by
       rw [hk2, List.drop_length] at h3
       exact h3.symm
     have h7 : 41 = takeE n := hn1.symm
     refine To.R (h := ?_)
     refine To.E (AV.tup [AV.agg [AV.v (Value.int IntKind.i64 0), AV.v (Value.int IntKind.i64 0)], AV.v (Value.int IntKind.i64 41)]) (hq := ?_)
     refine .inl ⟨h6, ?_⟩
     refine ⟨(of_eqP (C := ((Same IntKind.i64 ∧ Same (0 : Int)) ∧ (Same IntKind.i64 ∧ Same (0 : Int)) ∧ True) ∧ (Same IntKind.i64 ∧ 41 = takeE n) ∧ True) (by kernel_rfl) (by (and_intros <;> try exact cl))), (endL_cons (B0 := AB.mem 52 none [AV.v (Value.bool true), AV.sy (Value.int IntKind.i64 s.lo), AV.sy (Value.int IntKind.i64 s.hi), AV.ow 1 s.l.length]) (by kernel_rfl) (of_eqP (C := 52 = spT ∧ (none : Option Nat) = none ∧ Same (AV.v (Value.bool true)) ∧ (Same IntKind.i64 ∧ Same s.lo) ∧ (Same IntKind.i64 ∧ Same s.hi) ∧ (Same 1 ∧ Same s.l.length) ∧ True) (by kernel_rfl) (by (and_intros <;> try exact cl))) (endL_cons (B0 := AB.rw 31 2 s.l.length (exF s.l)) (by kernel_rfl) (of_eqP (C := 31 = exT ∧ Same 2 ∧ Same s.l.length ∧ (∀ (r : Nat), r < s.l.length → exF s.l r = exF s.l r)) (by kernel_rfl) (by (and_intros <;> try exact cl))) endL_nil))⟩
def takeG : CG := oneXG 12 (spKG fun s rest => match rest with
 | [a] => match intA a with
   | some (.i64, n) => some ([ivA n], (takeP s n).isSome, True, fun v => cond v (.tup [.agg (exA ((takeP s n).getD default)), ivA 0], spB' (s.put ((takeP s n).getD default)) 11, spE (s.put ((takeP s n).getD default)) 11) (.tup [.agg [ivA 0, ivA 0], ivA (takeE n)], [], []))
   | _ => none
 | _ => none)
theorem takeG_ok : GOk Try.prog takeG := spXG_ok st_ok Try.func12 (by kernel_rfl) fun {s rest ys b C r} h hs hC => by
 split at h
 · split at h
   · rename_i a n ha
     cases h
     have hT := take_to st_ok s hs n
     cases hq : takeP s n with
     | none =>
       refine ⟨fun σ => ⟨intA_leS ha σ, trivial⟩, fun h => (nomatch h), ⟨List.nodup_nil, fun p hp => by cases hp⟩, by kernel_rfl, To.mono hT fun v H' _ h => ?_⟩
       rcases h with ⟨_, h1, h2⟩ | ⟨y, h1, _⟩
       · exact ⟨h1, h2, trivial⟩
       · rw [hq] at h1; cases h1
     | some y =>
       refine ⟨fun σ => ⟨intA_leS ha σ, trivial⟩, fun _ => rfl, ⟨by simp [spE], by simp [spE]⟩, by kernel_rfl, To.mono hT fun v H' _ h => ?_⟩
       rcases h with ⟨h1, _⟩ | ⟨y', h1, h2, h3, h4⟩
       · rw [hq] at h1; cases h1
       · rw [hq] at h1; cases h1; exact ⟨h2, h3, h4⟩
   · cases h
 · cases h
def mayD (s : SpD) (x : ExD) : Bool := decide (1 ≤ x.n) && decide (s.lo ≤ x.at_) && decide (x.at_ < s.hi) && decide (x.n ≤ s.hi - x.at_)
def withB (x y : ExD) : Bool := decide (y.at_ ≤ x.at_) && decide (w64 (x.at_ + x.n) ≤ w64 (y.at_ + y.n))
def claimB (s : SpD) (x : ExD) : Bool := mayD s x && s.gaps.any (withB x)
structure ClP where
 k : Nat
 at_ : Int
 b : Bool
set_option maxHeartbeats 4000000 in
set_option maxRecDepth 100000 in
theorem claim_to (hok : ST.Ok Try.prog) (s : SpD) (hs : s.Ok) (x : ExD) : To ST Try.prog 11 (startOf Try.prog 11 [.ptr 0 0, .agg (exA x)] (memF (spB s) 0 .e) 2)
   (fun v H' _ => (claimB s x = false ∧ leA v (ivA 40) ∧ endL (spB s) 0 H') ∨ (claimB s x = true ∧ leA v (ivA 0) ∧ endL (spB' (s.put x) 9) 0 H' ∧ endE (spE (s.put x) 9) H')) := by
 have hl := hs.len
 have hpos := hs.pos
 have hf1 : ∀ r, r < s.l.length → exF s.l r = exF (exsF s.l.length (exF s.l)) r := by rw [exsF_exF]; exact fun _ _ => rfl
 have hf2 : ∀ x ∈ exsF s.l.length (exF s.l), x.pos := by rw [exsF_exF]; exact hpos
 have hrun := hs.run
 have hml := mD_len s
 refine To.R (k := 84) (C := (Same s.l.length ∧ s.l.length ≤ 1000000 ∧ (∀ (r : Nat), r < s.l.length → exF s.l r = exF (exsF s.l.length (exF s.l)) r) ∧ (∀ (x : ExD), x ∈ exsF s.l.length (exF s.l) → x.pos)) ∧ Same (AV.sy (Value.int IntKind.i64 s.hi)) ∧ Same (AV.ptr 0 0) ∧ (Same s.l.length ∧ s.l.length ≤ 1073741824) ∧ True) (h := ?_)
 refine To.rows 9 (exF (mD s)) (by kernel_rfl) (C := (∀ (r : Nat), r < s.l.length + 1 → leL (rwPush (exF s.l) s.l.length [AV.sy (Value.int IntKind.i64 s.hi), AV.v (Value.int IntKind.i64 0)] r) (exF (mD s) r) ∧ bareL (exF (mD s) r) = true)) (by kernel_rfl) ?_ ?_
 · exact exF_push ⟨⟨rfl, rfl⟩, ⟨rfl, rfl⟩, trivial⟩
 refine To.L (L := [LN.old 2, LN.old 3, LN.old 4, LN.old 5, LN.old 6, LN.old 9]) (kp := [23, 22, 21, 3, 0]) (ks := [[5, 3, 0]]) (C := (Same IntKind.i64 ∧ (0 : Int) = (↑(0 : Nat) : Int)) ∧ (Same IntKind.i64 ∧ Same s.lo) ∧ 4 = 4 ∧ (none : Option Nat) = none ∧ Same false ∧ True) (st := fun (a : ClP) => (⟨(⟨42, 45, (slotT 45 [(0, AV.yl 6), (3, AV.sy (Value.int IntKind.i64 a.at_)), (21, AV.ow 7 (s.l.length + 1)), (22, AV.sy (Value.int IntKind.i64 (↑(s.l.length + 1) : Int))), (23, AV.sy (Value.int IntKind.i64 a.k))]), ARg.no, [(AItem.code (subC (bodyC Try.prog 42) [1, 1, 0, 0])), (AItem.inLoop (subC (bodyC Try.prog 42) [1, 1, 0, 0])), (AItem.inBlock 0)], [], false, none, 8⟩ : AFr), [(⟨11, 29, (slotT 29 [(0, AV.ptr 0 0), (3, AV.ptr 2 0), (5, AV.ptr 3 0)]), ARg.no, [(AItem.inRF 6), (AItem.inBlock 0), (AItem.code (subC (bodyC Try.prog 11) [1, 1, 1, 1]))], [5], false, none, 2⟩ : AFr)], memF [AB.mem 52 none [AV.v (Value.bool true), AV.sy (Value.int IntKind.i64 s.lo), AV.sy (Value.int IntKind.i64 s.hi), AV.ow 1 s.l.length], AB.rw 31 2 s.l.length (exF s.l), AB.mem 31 none [AV.sy (Value.int IntKind.i64 x.at_), AV.sy (Value.int IntKind.i64 x.n)], AB.mem 4 none [AV.sy (Value.bool a.b)], AB.mem 24 none [AV.ptr 0 0], AB.dfd true, (AB.loop LoopState.ready (none : Option Code) 11 29 (slotT 29 [(0, AV.ptr 0 0), (1, AV.agg [AV.sy (Value.int IntKind.i64 x.at_), AV.sy (Value.int IntKind.i64 x.n)]), (2, AV.v (Value.tuple #[])), (3, AV.ptr 2 0), (4, AV.v (Value.int IntKind.i64 0)), (5, AV.ptr 3 0), (6, AV.v (Value.tuple #[])), (7, AV.ptr 0 0), (8, AV.v (Value.bool !true)), (9, AV.ptr 0 0), (10, AV.fn (Fn.func 42) [] [AV.ptr 4 0]), (11, AV.v (Value.tuple #[])), (12, AV.v (Value.tuple #[])), (13, AV.v (Value.tuple #[])), (14, AV.v (Value.tuple #[])), (15, AV.v (Value.tuple #[])), (16, AV.v (Value.tuple #[])), (17, AV.v (Value.tuple #[])), (18, AV.v (Value.tuple #[])), (19, AV.v (Value.tuple #[])), (20, AV.v (Value.tuple #[])), (21, AV.v (Value.tuple #[])), (22, AV.v (Value.tuple #[])), (23, AV.v (Value.tuple #[])), (24, AV.v (Value.tuple #[])), (25, AV.v (Value.tuple #[])), (26, AV.v (Value.tuple #[])), (27, AV.v (Value.tuple #[])), (28, AV.v (Value.tuple #[]))]) [11] (subC (bodyC Try.prog 11) [1, 1, 1, 0, 1, 0, 0]) (subC (bodyC Try.prog 11) [1, 1, 1, 0, 1, 0, 1]) 5), AB.rw 31 2 (s.l.length + 1) (exF (mD s))] 0 Tr.e, 8⟩ : ASt)) (hI := ?_) (h := ?_) (fun (p : ClP) => [(23, ivA (p.k : Int)), (3, ivA p.at_)]) (fun p => [(3, .mem 4 none [.sy (.bool p.b)])]) (fun p => p.k ≤ (mD s).length ∧ Run p.at_ ((mD s).drop p.k) ∧ (p.b || (gapsD p.at_ ((mD s).drop p.k)).any (withB x)) = s.gaps.any (withB x)) (fun p => (mD s).length - p.k) (ClP.mk 0 s.lo false)
 · exact ⟨Nat.zero_le _, hrun, rfl⟩
 intro p ⟨hk, h2, h3⟩ ih
 have hb := h2.bd
 refine To.R (h := ?_)
 refine To.Bd ((↑p.k : Int) < (↑(s.l.length + 1) : Int)) (h := ?_) (g := ?_)
 · intro h4
   have hlt : p.k < (mD s).length := by omega
   rw [drop_at hlt] at h2 h3
   obtain ⟨g1, g2, g3, g4, g5⟩ := h2
   have hi1 : p.k + 1 ≤ (mD s).length := by omega
   have hi2 : (mD s).length - (p.k + 1) < (mD s).length - p.k := by omega
   have hw : w64 (((mD s).getD p.k default).at_ + ((mD s).getD p.k default).n) = ((mD s).getD p.k default).at_ + ((mD s).getD p.k default).n := w64_of (by omega) (by omega)
   refine To.R (C := ((0 : Int) ≤ p.k ∧ (↑p.k : Int) < (↑(s.l.length + 1) : Int)) ∧ p.k < s.l.length + 1) (h := ?_)
   refine To.Bd (p.at_ < ((mD s).getD p.k default).at_) (h := ?_) (g := ?_)
   · intro h5
     rw [gapsD_cons, if_pos h5, List.any_cons] at h3
     refine To.R (C := fits IntKind.i64 (((mD s).getD p.k default).at_ - p.at_)) (h := ?_)
     refine To.B (p.b) (h := ?_) (g := ?_)
     · intro h7
       rw [h7, Bool.true_or] at h3
       have h3' : (true || (gapsD (((mD s).getD p.k default).at_ + ((mD s).getD p.k default).n) ((mD s).drop (p.k + 1))).any (withB x)) = s.gaps.any (withB x) := by rw [← h3]; rfl
       refine To.R (k := 24) (C := True ∧ fits IntKind.i64 (p.k + 1)) (h := ?_)
       refine To.K (L := [LN.old 2, LN.old 3, LN.old 4, LN.old 5, LN.old 6, LN.old 7]) (kp := [23, 22, 21, 3, 0]) (ks := [[5, 3, 0]]) (ov := [(23, AV.sy (Value.int IntKind.i64 (ClP.mk (p.k + 1) (((mD s).getD p.k default).at_ + ((mD s).getD p.k default).n) true).k)), (3, AV.sy (Value.int IntKind.i64 (ClP.mk (p.k + 1) (((mD s).getD p.k default).at_ + ((mD s).getD p.k default).n) true).at_))]) (ob := [(3, AB.mem 4 none [AV.sy (Value.bool (ClP.mk (p.k + 1) (((mD s).getD p.k default).at_ + ((mD s).getD p.k default).n) true).b)])]) (C := (Same IntKind.i64 ∧ (↑p.k : Int) + 1 = (↑(p.k + 1) : Int)) ∧ (Same IntKind.i64 ∧ w64 (((mD s).getD p.k default).at_ + ((mD s).getD p.k default).n) = ((mD s).getD p.k default).at_ + ((mD s).getD p.k default).n) ∧ 4 = 4 ∧ (none : Option Nat) = none ∧ Same true ∧ True) (ih (ClP.mk (p.k + 1) (((mD s).getD p.k default).at_ + ((mD s).getD p.k default).n) true) ⟨hi1, g5, h3'⟩ hi2)
     · intro h7
       rw [h7, Bool.false_or] at h3
       refine To.R (h := ?_)
       refine To.Bd (p.at_ ≤ x.at_) (h := ?_) (g := ?_)
       · intro h8
         refine To.R (C := True ∧ Same (AV.agg [AV.sy (Value.int IntKind.i64 p.at_), AV.sy (Value.int IntKind.i64 (((mD s).getD p.k default).at_ - p.at_))]) ∧ True) (h := ?_)
         refine To.Bd (w64 (x.at_ + x.n) ≤ w64 (p.at_ + (((mD s).getD p.k default).at_ - p.at_))) (h := ?_) (g := ?_)
         · intro h9
           have hq : withB x ⟨p.at_, ((mD s).getD p.k default).at_ - p.at_⟩ = true := by unfold withB; rw [Bool.and_eq_true]; exact ⟨decide_eq_true h8, decide_eq_true h9⟩
           rw [hq, Bool.true_or] at h3
           have h3' : (true || (gapsD (((mD s).getD p.k default).at_ + ((mD s).getD p.k default).n) ((mD s).drop (p.k + 1))).any (withB x)) = s.gaps.any (withB x) := by rw [← h3]; rfl
           refine To.R (k := 26) (C := True ∧ fits IntKind.i64 (p.k + 1)) (h := ?_)
           refine To.K (L := [LN.old 2, LN.old 3, LN.old 4, LN.old 5, LN.old 6, LN.old 7]) (kp := [23, 22, 21, 3, 0]) (ks := [[5, 3, 0]]) (ov := [(23, AV.sy (Value.int IntKind.i64 (ClP.mk (p.k + 1) (((mD s).getD p.k default).at_ + ((mD s).getD p.k default).n) true).k)), (3, AV.sy (Value.int IntKind.i64 (ClP.mk (p.k + 1) (((mD s).getD p.k default).at_ + ((mD s).getD p.k default).n) true).at_))]) (ob := [(3, AB.mem 4 none [AV.sy (Value.bool (ClP.mk (p.k + 1) (((mD s).getD p.k default).at_ + ((mD s).getD p.k default).n) true).b)])]) (C := (Same IntKind.i64 ∧ (↑p.k : Int) + 1 = (↑(p.k + 1) : Int)) ∧ (Same IntKind.i64 ∧ w64 (((mD s).getD p.k default).at_ + ((mD s).getD p.k default).n) = ((mD s).getD p.k default).at_ + ((mD s).getD p.k default).n) ∧ 4 = 4 ∧ (none : Option Nat) = none ∧ Same true ∧ True) (ih (ClP.mk (p.k + 1) (((mD s).getD p.k default).at_ + ((mD s).getD p.k default).n) true) ⟨hi1, g5, h3'⟩ hi2)
         · intro h9
           have hq : withB x ⟨p.at_, ((mD s).getD p.k default).at_ - p.at_⟩ = false := by unfold withB; rw [Bool.and_eq_false_iff]; exact .inr (decide_eq_false h9)
           rw [hq] at h3
           refine To.R (k := 26) (C := True ∧ fits IntKind.i64 (p.k + 1)) (h := ?_)
           refine To.K (L := [LN.old 2, LN.old 3, LN.old 4, LN.old 5, LN.old 6, LN.old 7]) (kp := [23, 22, 21, 3, 0]) (ks := [[5, 3, 0]]) (ov := [(23, AV.sy (Value.int IntKind.i64 (ClP.mk (p.k + 1) (((mD s).getD p.k default).at_ + ((mD s).getD p.k default).n) false).k)), (3, AV.sy (Value.int IntKind.i64 (ClP.mk (p.k + 1) (((mD s).getD p.k default).at_ + ((mD s).getD p.k default).n) false).at_))]) (ob := [(3, AB.mem 4 none [AV.sy (Value.bool (ClP.mk (p.k + 1) (((mD s).getD p.k default).at_ + ((mD s).getD p.k default).n) false).b)])]) (C := (Same IntKind.i64 ∧ (↑p.k : Int) + 1 = (↑(p.k + 1) : Int)) ∧ (Same IntKind.i64 ∧ w64 (((mD s).getD p.k default).at_ + ((mD s).getD p.k default).n) = ((mD s).getD p.k default).at_ + ((mD s).getD p.k default).n) ∧ 4 = 4 ∧ (none : Option Nat) = none ∧ Same false ∧ True) (ih (ClP.mk (p.k + 1) (((mD s).getD p.k default).at_ + ((mD s).getD p.k default).n) false) ⟨hi1, g5, h3⟩ hi2)
       · intro h8
         have hq : withB x ⟨p.at_, ((mD s).getD p.k default).at_ - p.at_⟩ = false := by unfold withB; rw [Bool.and_eq_false_iff]; exact .inl (decide_eq_false h8)
         rw [hq] at h3
         refine To.R (k := 32) (C := True ∧ fits IntKind.i64 (p.k + 1)) (h := ?_)
         refine To.K (L := [LN.old 2, LN.old 3, LN.old 4, LN.old 5, LN.old 6, LN.old 7]) (kp := [23, 22, 21, 3, 0]) (ks := [[5, 3, 0]]) (ov := [(23, AV.sy (Value.int IntKind.i64 (ClP.mk (p.k + 1) (((mD s).getD p.k default).at_ + ((mD s).getD p.k default).n) false).k)), (3, AV.sy (Value.int IntKind.i64 (ClP.mk (p.k + 1) (((mD s).getD p.k default).at_ + ((mD s).getD p.k default).n) false).at_))]) (ob := [(3, AB.mem 4 none [AV.sy (Value.bool (ClP.mk (p.k + 1) (((mD s).getD p.k default).at_ + ((mD s).getD p.k default).n) false).b)])]) (C := (Same IntKind.i64 ∧ (↑p.k : Int) + 1 = (↑(p.k + 1) : Int)) ∧ (Same IntKind.i64 ∧ w64 (((mD s).getD p.k default).at_ + ((mD s).getD p.k default).n) = ((mD s).getD p.k default).at_ + ((mD s).getD p.k default).n) ∧ 4 = 4 ∧ (none : Option Nat) = none ∧ Same false ∧ True) (ih (ClP.mk (p.k + 1) (((mD s).getD p.k default).at_ + ((mD s).getD p.k default).n) false) ⟨hi1, g5, h3⟩ hi2)
   · intro h5
     rw [gapsD_cons, if_neg h5] at h3
     refine To.R (k := 25) (C := True ∧ fits IntKind.i64 (p.k + 1)) (h := ?_)
     refine To.K (L := [LN.old 2, LN.old 3, LN.old 4, LN.old 5, LN.old 6, LN.old 7]) (kp := [23, 22, 21, 3, 0]) (ks := [[5, 3, 0]]) (ov := [(23, AV.sy (Value.int IntKind.i64 (ClP.mk (p.k + 1) (((mD s).getD p.k default).at_ + ((mD s).getD p.k default).n) p.b).k)), (3, AV.sy (Value.int IntKind.i64 (ClP.mk (p.k + 1) (((mD s).getD p.k default).at_ + ((mD s).getD p.k default).n) p.b).at_))]) (C := (Same IntKind.i64 ∧ (↑p.k : Int) + 1 = (↑(p.k + 1) : Int)) ∧ Same IntKind.i64 ∧ w64 (((mD s).getD p.k default).at_ + ((mD s).getD p.k default).n) = ((mD s).getD p.k default).at_ + ((mD s).getD p.k default).n) (ih (ClP.mk (p.k + 1) (((mD s).getD p.k default).at_ + ((mD s).getD p.k default).n) p.b) ⟨hi1, g5, h3⟩ hi2)
 · intro h4
   have hk2 : p.k = (mD s).length := by omega
   have h6 : p.b = s.gaps.any (withB x) := by
     rw [hk2, List.drop_length] at h3
     simpa [gapsD] using h3
   have hwo : (⟨s.lo, s.hi, s.l.length, exF s.l⟩ : SpW).Ok := raw_ok hs
   have he : (⟨s.lo, s.hi, s.l.length, exF s.l⟩ : SpW).toL.put x = s.put x := by rw [show (⟨s.lo, s.hi, s.l.length, exF s.l⟩ : SpW).toL = s from raw_toL s]
   have hl1 : ((⟨s.lo, s.hi, s.l.length, exF s.l⟩ : SpW).toL.put x).l.length = (s.put x).l.length := by rw [he]
   have hl2 : ∀ r, r < ((⟨s.lo, s.hi, s.l.length, exF s.l⟩ : SpW).toL.put x).l.length → exF ((⟨s.lo, s.hi, s.l.length, exF s.l⟩ : SpW).toL.put x).l r = exF (s.put x).l r := by rw [he]; exact fun _ _ => rfl
   have hs1 := hs.lo
   have hs2 := hs.le
   have hs3 := hs.hi
   refine To.R (h := ?_)
   refine To.Bd (1 ≤ x.n) (h := ?_) (g := ?_)
   · intro q1
     refine To.R (h := ?_)
     refine To.Bd (s.lo ≤ x.at_) (h := ?_) (g := ?_)
     · intro q2
       refine To.R (h := ?_)
       refine To.Bd (x.at_ < s.hi) (h := ?_) (g := ?_)
       · intro q3
         refine To.R (C := fits IntKind.i64 (s.hi - x.at_)) (h := ?_)
         refine To.Bd (x.n ≤ s.hi - x.at_) (h := ?_) (g := ?_)
         · intro q4
           have hm : mayD s x = true := by unfold mayD; simp [q1, q2, q3, q4]
           refine To.R (h := ?_)
           refine To.B (!p.b) (h := ?_) (g := ?_)
           · intro q5
             have q5' : p.b = false := by simpa using q5
             have hcl : claimB s x = false := by unfold claimB; rw [← h6, q5', Bool.and_false]
             refine To.R (h := ?_)
             refine To.E (AV.v (Value.int IntKind.i64 40)) (hq := ?_)
             refine .inl ⟨hcl, ?_⟩
             refine ⟨(of_eqP (C := Same IntKind.i64 ∧ Same (40 : Int)) (by kernel_rfl) (by (and_intros <;> try exact cl))), (endL_cons (B0 := AB.mem 52 none [AV.v (Value.bool true), AV.sy (Value.int IntKind.i64 s.lo), AV.sy (Value.int IntKind.i64 s.hi), AV.ow 1 s.l.length]) (by kernel_rfl) (of_eqP (C := 52 = spT ∧ (none : Option Nat) = none ∧ Same (AV.v (Value.bool true)) ∧ (Same IntKind.i64 ∧ Same s.lo) ∧ (Same IntKind.i64 ∧ Same s.hi) ∧ (Same 1 ∧ Same s.l.length) ∧ True) (by kernel_rfl) (by (and_intros <;> try exact cl))) (endL_cons (B0 := AB.rw 31 2 s.l.length (exF s.l)) (by kernel_rfl) (of_eqP (C := 31 = exT ∧ Same 2 ∧ Same s.l.length ∧ (∀ (r : Nat), r < s.l.length → exF s.l r = exF s.l r)) (by kernel_rfl) (by (and_intros <;> try exact cl))) endL_nil))⟩
           · intro q5
             have q5' : p.b = true := by simpa using q5
             have hcl : claimB s x = true := by unfold claimB; rw [hm, ← h6, q5']; rfl
             refine To.R (C := Same s.l.length ∧ (SpW.mk s.lo s.hi s.l.length (exF s.l)).Ok ∧ 0 ≤ x.at_ ∧ 1 ≤ x.n ∧ x.at_ + x.n ≤ 4096) (h := ?_)
             refine To.E (AV.v (Value.int IntKind.i64 0)) (hq := ?_)
             refine .inr ⟨hcl, ?_⟩
             refine ⟨(of_eqP (C := Same IntKind.i64 ∧ Same (0 : Int)) (by kernel_rfl) (by (and_intros <;> try exact cl))), ⟨(endL_cons (B0 := AB.mem 52 none [AV.v (Value.bool true), AV.sy (Value.int IntKind.i64 ((SpW.mk s.lo s.hi s.l.length (exF s.l)).toL.put x).lo), AV.sy (Value.int IntKind.i64 ((SpW.mk s.lo s.hi s.l.length (exF s.l)).toL.put x).hi), AV.ow 9 ((SpW.mk s.lo s.hi s.l.length (exF s.l)).toL.put x).l.length]) (by kernel_rfl) (of_eqP (C := 52 = spT ∧ (none : Option Nat) = none ∧ Same (AV.v (Value.bool true)) ∧ (Same IntKind.i64 ∧ ((SpW.mk s.lo s.hi s.l.length (exF s.l)).toL.put x).lo = (s.put x).lo) ∧ (Same IntKind.i64 ∧ ((SpW.mk s.lo s.hi s.l.length (exF s.l)).toL.put x).hi = (s.put x).hi) ∧ (Same 9 ∧ ((SpW.mk s.lo s.hi s.l.length (exF s.l)).toL.put x).l.length = (s.put x).l.length) ∧ True) (by kernel_rfl) ?_) (endL_cons (B0 := AB.dead) (by kernel_rfl) (of_eqP (C := True) (by kernel_rfl) (by (and_intros <;> try exact cl))) endL_nil)), (endE_cons (B0 := AB.rw 31 2 ((SpW.mk s.lo s.hi s.l.length (exF s.l)).toL.put x).l.length (exF ((SpW.mk s.lo s.hi s.l.length (exF s.l)).toL.put x).l)) (by kernel_rfl) (of_eqP (C := 31 = exT ∧ Same 2 ∧ ((SpW.mk s.lo s.hi s.l.length (exF s.l)).toL.put x).l.length = (s.put x).l.length ∧ (∀ (r : Nat), r < ((SpW.mk s.lo s.hi s.l.length (exF s.l)).toL.put x).l.length → exF ((SpW.mk s.lo s.hi s.l.length (exF s.l)).toL.put x).l r = exF (s.put x).l r)) (by kernel_rfl) (by (and_intros <;> try exact cl))) endE_nil)⟩⟩
             exact ⟨rfl, rfl, rfl, ⟨rfl, rfl⟩, ⟨rfl, rfl⟩, ⟨rfl, hl1⟩, trivial⟩
         · intro q4
           have hcl : claimB s x = false := by unfold claimB mayD; simp [q4]
           refine To.R (h := ?_)
           refine To.E (AV.v (Value.int IntKind.i64 40)) (hq := ?_)
           refine .inl ⟨hcl, ?_⟩
           refine ⟨(of_eqP (C := Same IntKind.i64 ∧ Same (40 : Int)) (by kernel_rfl) (by (and_intros <;> try exact cl))), (endL_cons (B0 := AB.mem 52 none [AV.v (Value.bool true), AV.sy (Value.int IntKind.i64 s.lo), AV.sy (Value.int IntKind.i64 s.hi), AV.ow 1 s.l.length]) (by kernel_rfl) (of_eqP (C := 52 = spT ∧ (none : Option Nat) = none ∧ Same (AV.v (Value.bool true)) ∧ (Same IntKind.i64 ∧ Same s.lo) ∧ (Same IntKind.i64 ∧ Same s.hi) ∧ (Same 1 ∧ Same s.l.length) ∧ True) (by kernel_rfl) (by (and_intros <;> try exact cl))) (endL_cons (B0 := AB.rw 31 2 s.l.length (exF s.l)) (by kernel_rfl) (of_eqP (C := 31 = exT ∧ Same 2 ∧ Same s.l.length ∧ (∀ (r : Nat), r < s.l.length → exF s.l r = exF s.l r)) (by kernel_rfl) (by (and_intros <;> try exact cl))) endL_nil))⟩
       · intro q3
         have hcl : claimB s x = false := by unfold claimB mayD; simp [q3]
         refine To.R (h := ?_)
         refine To.E (AV.v (Value.int IntKind.i64 40)) (hq := ?_)
         refine .inl ⟨hcl, ?_⟩
         refine ⟨(of_eqP (C := Same IntKind.i64 ∧ Same (40 : Int)) (by kernel_rfl) (by (and_intros <;> try exact cl))), (endL_cons (B0 := AB.mem 52 none [AV.v (Value.bool true), AV.sy (Value.int IntKind.i64 s.lo), AV.sy (Value.int IntKind.i64 s.hi), AV.ow 1 s.l.length]) (by kernel_rfl) (of_eqP (C := 52 = spT ∧ (none : Option Nat) = none ∧ Same (AV.v (Value.bool true)) ∧ (Same IntKind.i64 ∧ Same s.lo) ∧ (Same IntKind.i64 ∧ Same s.hi) ∧ (Same 1 ∧ Same s.l.length) ∧ True) (by kernel_rfl) (by (and_intros <;> try exact cl))) (endL_cons (B0 := AB.rw 31 2 s.l.length (exF s.l)) (by kernel_rfl) (of_eqP (C := 31 = exT ∧ Same 2 ∧ Same s.l.length ∧ (∀ (r : Nat), r < s.l.length → exF s.l r = exF s.l r)) (by kernel_rfl) (by (and_intros <;> try exact cl))) endL_nil))⟩
     · intro q2
       have hcl : claimB s x = false := by unfold claimB mayD; simp [q2]
       refine To.R (h := ?_)
       refine To.E (AV.v (Value.int IntKind.i64 40)) (hq := ?_)
       refine .inl ⟨hcl, ?_⟩
       refine ⟨(of_eqP (C := Same IntKind.i64 ∧ Same (40 : Int)) (by kernel_rfl) (by (and_intros <;> try exact cl))), (endL_cons (B0 := AB.mem 52 none [AV.v (Value.bool true), AV.sy (Value.int IntKind.i64 s.lo), AV.sy (Value.int IntKind.i64 s.hi), AV.ow 1 s.l.length]) (by kernel_rfl) (of_eqP (C := 52 = spT ∧ (none : Option Nat) = none ∧ Same (AV.v (Value.bool true)) ∧ (Same IntKind.i64 ∧ Same s.lo) ∧ (Same IntKind.i64 ∧ Same s.hi) ∧ (Same 1 ∧ Same s.l.length) ∧ True) (by kernel_rfl) (by (and_intros <;> try exact cl))) (endL_cons (B0 := AB.rw 31 2 s.l.length (exF s.l)) (by kernel_rfl) (of_eqP (C := 31 = exT ∧ Same 2 ∧ Same s.l.length ∧ (∀ (r : Nat), r < s.l.length → exF s.l r = exF s.l r)) (by kernel_rfl) (by (and_intros <;> try exact cl))) endL_nil))⟩
   · intro q1
     have hcl : claimB s x = false := by unfold claimB mayD; simp [q1]
     refine To.R (h := ?_)
     refine To.E (AV.v (Value.int IntKind.i64 40)) (hq := ?_)
     refine .inl ⟨hcl, ?_⟩
     refine ⟨(of_eqP (C := Same IntKind.i64 ∧ Same (40 : Int)) (by kernel_rfl) (by (and_intros <;> try exact cl))), (endL_cons (B0 := AB.mem 52 none [AV.v (Value.bool true), AV.sy (Value.int IntKind.i64 s.lo), AV.sy (Value.int IntKind.i64 s.hi), AV.ow 1 s.l.length]) (by kernel_rfl) (of_eqP (C := 52 = spT ∧ (none : Option Nat) = none ∧ Same (AV.v (Value.bool true)) ∧ (Same IntKind.i64 ∧ Same s.lo) ∧ (Same IntKind.i64 ∧ Same s.hi) ∧ (Same 1 ∧ Same s.l.length) ∧ True) (by kernel_rfl) (by (and_intros <;> try exact cl))) (endL_cons (B0 := AB.rw 31 2 s.l.length (exF s.l)) (by kernel_rfl) (of_eqP (C := 31 = exT ∧ Same 2 ∧ Same s.l.length ∧ (∀ (r : Nat), r < s.l.length → exF s.l r = exF s.l r)) (by kernel_rfl) (by (and_intros <;> try exact cl))) endL_nil))⟩
def claimG : CG := oneXG 11 (spKG fun s rest => match rest with
 | [y] => match exP y with
   | some x => some ([.agg (exA x)], claimB s x, True, fun v => cond v (ivA 0, spB' (s.put x) 9, spE (s.put x) 9) (ivA 40, [], []))
   | none => none
 | _ => none)
theorem claimG_ok : GOk Try.prog claimG := spXG_ok st_ok Try.func11 (by kernel_rfl) fun {s rest ys b C r} h hs hC => by
 split at h
 · split at h
   · rename_i y x hx
     cases h
     have hT := claim_to st_ok s hs x
     cases hq : claimB s x with
     | false =>
       refine ⟨fun σ => ⟨exP_le hx σ, trivial⟩, fun h => (nomatch h), ⟨List.nodup_nil, fun p hp => by cases hp⟩, by kernel_rfl, To.mono hT fun v H' _ h => ?_⟩
       rcases h with ⟨_, h1, h2⟩ | ⟨h1, _⟩
       · exact ⟨h1, h2, trivial⟩
       · rw [hq] at h1; cases h1
     | true =>
       refine ⟨fun σ => ⟨exP_le hx σ, trivial⟩, fun _ => rfl, ⟨by simp [spE], by simp [spE]⟩, by kernel_rfl, To.mono hT fun v H' _ h => ?_⟩
       rcases h with ⟨h1, _⟩ | ⟨_, h2, h3, h4⟩
       · rw [hq] at h1; cases h1
       · exact ⟨h2, h3, h4⟩
   · cases h
 · cases h
end Go.Proofs.Ytnjhocjgpppeaaa.Sm
namespace Go.Proofs.Ytnjhocjgpppeaaa
open Go.RowKit
theorem Own.short {w : World} {T : TypeId} {k g n c i : Nat} {xs : List Value} (h : Own w T k (.slice (some ⟨g, 0, none⟩) n c) n xs) (hi : i ≤ n) : Own w T k (.slice (some ⟨g, 0, none⟩) i c) i (xs.take (i * k)) := by
 obtain ⟨sp, hb, h1, h2, h3, h4⟩ := h.blk
 have hik : i * k ≤ n * k := Nat.mul_le_mul_right _ hi
 refine Own.of_blk (sp := xs.drop (i * k) ++ sp) ?_ (by rw [List.length_take]; omega) ?_ (Nat.le_trans hi h3) h4
 · rw [← List.append_assoc, List.take_append_drop]; exact hb
 · rw [← List.append_assoc, List.take_append_drop]; exact h2
theorem run_append_none {P : Program} (w : World) (t ty e : TypeId) (i : TypeInfo) (z : Value) (ht : P.underlying t = some (.slice e)) (hi : P.info? e = some i) (hz : i.zero = some z) (a : Addr) (n c : Nat) (hn : n ≤ c) :
   (Builtin.append_ #[t, t] ty #[.slice (some a) n c, .slice none 0 0]).run P w = .ok (.slice (some a) n c) w := by
 unfold Builtin.append_
 simp [run_underlying ht, typeInfo, Sem.run, hi, sizeOf, Builtin.lenOf, Builtin.firstCells, hn, storeCells]
theorem wpList_append_is {P : Program} (w : World) {ops : Array Oper} {rest : List Oper} {o : Oper} {a : Act} {Q : Exit → Act → World → Prop} (hgd : o.guard = none) (d s : Operand) (t t' : TypeId)
   (ho : o.op = .call { callee := .builtin .append, args := #[d, s], argTypes := #[t, t'] }) (v u : Value) (hd : a.eval d = v) (hs : a.eval s = u) {v' : Value} {w' : World}
   (hr : (Builtin.append_ #[t, t'] o.type #[v, u]).run P w = .ok v' w') (h : wpList P ops Q rest (a.put o.dst v') w') : wpList P ops Q (o :: rest) a w := by
 refine wpList_plain hgd fun K hK => ?_
 unfold Oper.wp execOp
 simp only [ho, resolve, invoke, builtin, Sem.run_bind, Sem.run_pure, Result.andThen_ok, List.map_toArray, List.map_cons, List.map_nil, hd, hs, hr]
 exact hK _ _ h
def zex : List Value := [.int .i64 0, .int .i64 0]
theorem run_clear_ex (w : World) (ty : TypeId) (b o c : Nat) (L : List Value) (hb : Blk w b 31 L) (ho : o + 2 ≤ L.length) :
   (Builtin.clear_ #[26] ty #[.slice (some ⟨b, o, none⟩) 1 c]).run Try.prog w = .ok (.tuple #[]) (w.setCells b o zex) := by
 obtain ⟨i0, hi, hz0, hz1, hz2⟩ := info_parts Try.infoE
 have hst := run_storeCells_cells (P := Try.prog) b o zex 0 w (fun j hj => blk_some hb (by simp [zex] at hj; omega)) (fun j hj => hb.free _) (fun v hv => by simp [zex] at hv; subst hv; rfl)
 simp only [Nat.add_zero] at hst
 have hzz : (Builtin.zeroCells (Value.cells (.agg #[.int .i64 0, .int .i64 0])) 1).toList = zex := by kernel_rfl
 simp [Builtin.clear_, run_underlying Try.underlying26, zeroValue, typeInfo, Sem.run, hi, hz0, hzz, hst]
theorem run_clear_none (w : World) (ty : TypeId) (a : Option Addr) (c : Nat) : (Builtin.clear_ #[26] ty #[.slice a 0 c]).run Try.prog w = .ok (.tuple #[]) w := by
 cases a <;> simp [Builtin.clear_, run_underlying Try.underlying26]
set_option maxRecDepth 100000 in
set_option maxHeartbeats 2000000 in
theorem replace_end (w : World) (g n c i d mc : Nat) (l ps : List Ext) (h : Own w 31 2 (.slice (some ⟨g, 0, none⟩) n c) n (exs l)) (hi : i + 1 = n) (hd : ∀ j u, (exs ps)[j]? = some u → w.cell? ((⟨d, 0, none⟩ : Addr).add j) = some u) (hp : 1 ≤ ps.length) (hq : ps.length ≤ 2) (hn : n ≤ 10000) :
   Calls Try.prog 34 #[.slice (some ⟨g, 0, none⟩) n c, .int .i64 i, .int .i64 ((i : Int) + 1), .slice (some ⟨d, 0, none⟩) ps.length mc] w fun e w' =>
     ∃ v', e = .returned v' ∧ Appended w 31 2 (.slice (some ⟨g, 0, none⟩) i c) i ps.length (exs (l.take i) ++ exs ps) v' w' := by
 obtain ⟨i0, hi0, hz0, hz1, hz2⟩ := info_parts Try.infoE
 have hO : Own w 31 2 (.slice (some ⟨g, 0, none⟩) i c) i (exs (l.take i)) := by rw [← exs_take]; exact h.short (by omega)
 obtain ⟨sp, hb, h1, h2, h3, h4⟩ := h.blk
 have HO := Lib.hid hO
 have HN := Lib.hid hd
 have H1 : Hid (∀ u ∈ exs ps, u.oneCell' = true) := exs_one ps
 have HL : Hid ((exs ps).length = ps.length * 2) := exs_length ps
 have hm1 : i + ps.length ≤ maxLen := by unfold maxLen; omega
 have hm2 : (i + ps.length) * 16 ≤ 140737488355328 := by omega
 have e1 : ¬ ((i : Int) = (i : Int) + 1) := by omega
 have e2 : (i : Int) + 1 = (n : Int) := by omega
 have e3 : (0 : Int) ≤ (i : Int) + 1 := by omega
 have e4 : (i : Int) + 1 ≤ (c : Int) := by omega
 have e5 : (i : Int) ≤ (c : Int) := by omega
 have e6 : ((i : Int) + 1).toNat = i + 1 := by omega
 have e7 : ¬ (((i + ps.length : Nat) : Int) < (n : Int)) := by omega
 clear h hb h1 h2 hd hO
 go_enter Try.func34, Try.ntmps34
 go_wp2_with (at_builtin; refine wpList_app _ rfl _ _ 26 rfl 31 i0 _ 2 16 Try.underlying26 hi0 hz0 hz1 hz2 rfl (.slice (some ⟨g, 0, none⟩) i c) i _ rfl HO.out ⟨d, 0, none⟩ ps.length _ (exs ps) rfl HL.out HN.out H1.out hm1 hm2 ?_; intro v' w2 hap; obtain ⟨g', c', rfl⟩ := hap.some (by omega); replace hap := Lib.hid hap)
 go_ret
 exact ⟨_, rfl, hap.out⟩
set_option maxRecDepth 100000 in
set_option maxHeartbeats 2000000 in
theorem replace_end0 (w : World) (g n c i : Nat) (L : List Value) (hb : Blk w g 31 L) (hL : L.length = c * 2) (hi : i + 1 = n) (hc : n ≤ c) (hn : n ≤ 10000) :
   Calls Try.prog 34 #[.slice (some ⟨g, 0, none⟩) n c, .int .i64 i, .int .i64 ((i : Int) + 1), .slice none 0 0] w fun e w' =>
     e = .returned (.slice (some ⟨g, 0, none⟩) i c) ∧ w' = w.setCells g (i * 2) zex := by
 obtain ⟨i0, hi0, hz0, hz1, hz2⟩ := info_parts Try.infoE
 have hr : ∀ ty, (Builtin.append_ #[26, 26] ty #[.slice (some ⟨g, 0, none⟩) i c, .slice none 0 0]).run Try.prog w = .ok (.slice (some ⟨g, 0, none⟩) i c) w := fun ty => run_append_none w _ ty _ i0 _ Try.underlying26 hi0 hz0 _ i c (by omega)
 have hcl : ∀ ty k, (Builtin.clear_ #[26] ty #[.slice (some ⟨g, i * 2, none⟩) (n - i) k]).run Try.prog w = .ok (.tuple #[]) (w.setCells g (i * 2) zex) := fun ty k => by
   rw [show n - i = 1 by omega]
   exact run_clear_ex w ty g (i * 2) k L hb (by omega)
 have e1 : ¬ ((i : Int) = (i : Int) + 1) := by omega
 have e2 : (i : Int) + 1 = (n : Int) := by omega
 have e3 : (0 : Int) ≤ (i : Int) + 1 := by omega
 have e4 : (i : Int) + 1 ≤ (c : Int) := by omega
 have e5 : (i : Int) ≤ (c : Int) := by omega
 have e6 : ((i : Int) + 1).toNat = i + 1 := by omega
 have e7 : ((i : Int) < (n : Int)) := by omega
 have e8 : i ≤ n := by omega
 have e9 : ¬ (c = i) := by omega
 have HR := Lib.hid hr
 have HC := Lib.hid hcl
 clear hb hL hr hcl
 go_enter Try.func34, Try.ntmps34
 go_wp2_with (at_builtin; refine wpList_append_is _ rfl _ _ 26 26 rfl _ _ rfl rfl (HR.out _) ?_)
 rw [HC.out]
 go_wp2
 go_ret
 exact ⟨rfl, rfl⟩
theorem run_copy_none {P : Program} (w : World) (dT sT ty e : TypeId) (size : Nat) (a : Addr) (dl dc : Nat) (hu : P.underlying dT = some (.slice e)) (hsz : (sizeOf e).run P w = .ok size w) :
   (Builtin.copy_ #[dT, sT] ty #[.slice (some a) dl dc, .slice none 0 0]).run P w = .ok (goInt 0) w := by
 unfold Builtin.copy_
 simp [run_underlying hu, Builtin.lenOf, hsz, Builtin.firstCells, storeCells]
set_option maxRecDepth 100000 in
set_option maxHeartbeats 2000000 in
theorem replace_mid0 (w : World) (g n c i : Nat) (L : List Value) (hb : Blk w g 31 L) (hL : L.length = c * 2) (hi : i + 1 < n) (hc : n ≤ c) (hn : n ≤ 10000) (h1 : ∀ v ∈ L.take (n * 2), v.oneCell' = true) :
   Calls Try.prog 34 #[.slice (some ⟨g, 0, none⟩) n c, .int .i64 i, .int .i64 ((i : Int) + 1), .slice none 0 0] w fun e w' =>
     e = .returned (.slice (some ⟨g, 0, none⟩) (n - 1) c) ∧ ∃ w1, w1.heap = w.heap ∧ Fr No w w1 ∧ w' = (w1.setCells g (i * 2) ((L.drop ((i + 1) * 2)).take ((n - (i + 1)) * 2))).setCells g ((n - 1) * 2) zex := by
 have hsz : ∀ w, (sizeOf 31).run Try.prog w = .ok 2 w := fun _ => by kernel_rfl
 have hcp0 : ∀ W ty dl dc, (Builtin.copy_ #[26, 26] ty #[.slice (some ⟨g, i * 2, none⟩) dl dc, .slice none 0 0]).run Try.prog W = .ok (goInt 0) W := fun W ty dl dc => run_copy_none W _ _ ty _ 2 _ dl dc Try.underlying26 (hsz _)
 have hcl : (((L.drop ((i + 1) * 2)).take ((n - (i + 1)) * 2))).length = (n - (i + 1)) * 2 := by simp; omega
 have hcp1 : ∀ W, Blk W g 31 L → ∀ ty dc sc, (Builtin.copy_ #[26, 26] ty #[.slice (some ⟨g, i * 2, none⟩) (n - (i + 1)) dc, .slice (some ⟨g, (i + 1) * 2, none⟩) (n - (i + 1)) sc]).run Try.prog W = .ok (goInt (n - (i + 1) : Nat)) (W.setCells g (i * 2) ((L.drop ((i + 1) * 2)).take ((n - (i + 1)) * 2))) := fun W hW ty dc sc => by
   have hm : Nat.min (n - (i + 1)) (n - (i + 1)) = n - (i + 1) := Nat.min_self _
   have := run_copy_z (P := Try.prog) W 26 26 ty 31 2 g (i * 2) (n - (i + 1)) dc ⟨g, (i + 1) * 2, none⟩ (n - (i + 1)) sc ((L.drop ((i + 1) * 2)).take ((n - (i + 1)) * 2)) Try.underlying26 (hsz _)
     (by rw [hm, hcl]) (blk_range hW _ _) (fun j hj => blk_some hW (by omega)) (fun j hj => hW.free _) (fun v hv => h1 v (by
       rw [show n * 2 = (i + 1) * 2 + (n - (i + 1)) * 2 by omega, List.take_add]
       exact List.mem_append.2 (.inr hv)))
   rw [hm] at this
   exact this
 have hcz : ∀ W, Blk W g 31 L → ∀ ty k, (Builtin.clear_ #[26] ty #[.slice (some ⟨g, (n - 1) * 2, none⟩) 1 k]).run Try.prog (W.setCells g (i * 2) ((L.drop ((i + 1) * 2)).take ((n - (i + 1)) * 2))) = .ok (.tuple #[]) ((W.setCells g (i * 2) ((L.drop ((i + 1) * 2)).take ((n - (i + 1)) * 2))).setCells g ((n - 1) * 2) zex) := fun W hW ty k =>
   run_clear_ex _ ty g _ k _ (Blk.setCells ((L.drop ((i + 1) * 2)).take ((n - (i + 1)) * 2)) (i * 2) hW (by omega)) (by simp; omega)
 have e1 : ¬ ((i : Int) = (i : Int) + 1) := by omega
 have e2 : ¬ ((i : Int) + 1 = (n : Int)) := by omega
 have e3 : (0 : Int) ≤ (i : Int) + 1 := by omega
 have e4 : (i : Int) + 1 ≤ (c : Int) := by omega
 have e5 : (i : Int) ≤ (c : Int) := by omega
 have e6 : ((i : Int) + 1).toNat = i + 1 := by omega
 have e7 : (i : Int) + 1 ≤ (n : Int) := by omega
 have e8 : i ≤ n := by omega
 have e9 : ¬ (c = i) := by omega
 have e10 : ¬ (c = i + 1) := by omega
 have e11 : i + (n - (i + 1)) = n - 1 := by omega
 have e12 : (i : Int) + ((n - (i + 1) : Nat) : Int) = ((n - 1 : Nat) : Int) := by omega
 have e13 : n - 1 ≤ c := by omega
 have e14 : n - (n - 1) = 1 := by omega
 have e15 : i ≤ n - 1 := by omega
 have e16 : n - 1 - i = n - (i + 1) := by omega
 have e17 : ¬ ((c : Int) < ((n - 1 : Nat) : Int)) := by omega
 have e18 : n - 1 ≤ n := by omega
 have e19 : ¬ (c = n - 1) := by omega
 have e20 : (i : Int) ≤ ((n - 1 : Nat) : Int) := by omega
 have e21 : ((n - 1 : Nat) : Int) ≤ (n : Int) := by omega
 have e22 : IntKind.i64.wrap (i : Int) = (i : Int) := by rw [IntKind.wrap_i64]; omega
 have e23 : IntKind.i64.wrap ((i : Int) + 1) = (i : Int) + 1 := by rw [IntKind.wrap_i64]; omega
 have HB := Lib.hid hb
 have HL := Lib.hid hL
 have H1 := Lib.hid h1
 have HC0 := Lib.hid hcp0
 have HC1 := Lib.hid hcp1
 have HCZ := Lib.hid hcz
 have HCL := Lib.hid hcl
 clear hb hL h1 hcp0 hcp1 hcz hcl
 go_enter Try.func34, Try.ntmps34
 go_wp2
 go_quiet (fail)
 rename Nat => nq
 obtain ⟨W1, hW1⟩ : ∃ W1, W1 = w.drewN nq := ⟨_, rfl⟩
 have HB1 : Hid (Blk W1 g 31 L) := by rw [hW1]; exact Lib.hid (HB.out.drewN _)
 have HF1 : Hid (Fr No w W1) := by rw [hW1]; exact Lib.hid ((Fr.refl No w).drewN _)
 have HH1 : Hid (W1.heap = w.heap) := by rw [hW1]; exact Lib.hid rfl
 rw [← hW1]
 have HW1 := Lib.hid hW1
 clear hW1
 have HC1' := Lib.hid (HC1.out W1.drew HB1.out.drew)
 go_wp2
 rw [HC0.out]
 go_wp2
 go_region_law (refine step_copy_runI rfl _ _ 26 26 rfl _ _ (by simp [Act.eval, Act.put, e16]; try rfl) (by simp [Act.eval, Act.put]; try rfl) (HC1'.out _ _ _) ?_)
 go_wp2
 rw [(HCZ.out W1.drew HB1.out.drew)]
 go_wp2
 go_ret
 exact ⟨rfl, W1.drew, HH1.out, HF1.out.drew, rfl⟩
def Src (w : World) (d : Nat) (cs : List Value) : Prop := ∃ T fz sp, w.heap[d]? = some (.cells (cs ++ sp).toArray T fz)
theorem Src.fr {S : Nat → Prop} {w w' : World} {d : Nat} {cs : List Value} (h : Src w d cs) (hf : Fr S w w') (hn : ¬ S d) : Src w' d cs := by
 obtain ⟨T, fz, sp, h⟩ := h
 exact ⟨T, fz, sp, (hf.block d (Array.getElem?_eq_some_iff.1 h).1 hn).trans h⟩
theorem Src.lt {w : World} {d : Nat} {cs : List Value} (h : Src w d cs) : d < w.heap.size := by
 obtain ⟨T, fz, sp, h⟩ := h
 exact (Array.getElem?_eq_some_iff.1 h).1
theorem Src.cell {w : World} {d : Nat} {cs : List Value} (h : Src w d cs) : ∀ (j : Nat) (v : Value), cs[j]? = some v → w.cell? ((⟨d, 0, none⟩ : Addr).add j) = some v := by
 obtain ⟨T, fz, sp, h⟩ := h
 intro j v hj
 rw [Addr.add_lit, Nat.zero_add]
 have hl : j < cs.length := (List.getElem?_eq_some_iff.1 hj).1
 simp [World.cell?, h, List.getElem?_append_left hl, hj]
theorem Src.shape {w : World} {d : Nat} {cs : List Value} (h : Src w d cs) (hc : cs ≠ []) : ∃ T k, w.shape? d = some (T, k) ∧ k ≠ 0 := by
 obtain ⟨T, fz, sp, h⟩ := h
 refine ⟨T, (cs ++ sp).length, by simp [World.shape?, h], ?_⟩
 cases cs with
 | nil => exact absurd rfl hc
 | cons => simp
theorem run_copy_src (W : World) (ty : TypeId) (g o dl dc d m mc : Nat) (L cs : List Value) (hb : Blk W g 31 L) (hs : Src W d cs) (hcs : cs.length = m * 2) (hm : m ≤ dl) (ho : o + m * 2 ≤ L.length) (h1 : ∀ v ∈ cs, v.oneCell' = true) :
   (Builtin.copy_ #[26, 26] ty #[.slice (some ⟨g, o, none⟩) dl dc, .slice (some ⟨d, 0, none⟩) m mc]).run Try.prog W = .ok (goInt m) (W.setCells g o cs) := by
 have hmm : Nat.min m dl = m := by simp only [Nat.min_def]; split <;> omega
 have := run_copy_z (P := Try.prog) W 26 26 ty 31 2 g o dl dc ⟨d, 0, none⟩ m mc cs Try.underlying26 (by kernel_rfl)
   (by rw [hmm, hcs]) hs.cell (fun j hj => blk_some hb (by omega)) (fun j hj => hb.free _) h1
 rw [hmm] at this
 exact this
theorem run_copy_row (W : World) (ty : TypeId) (g o p k dc sc : Nat) (L : List Value) (hb : Blk W g 31 L) (ho : o + k * 2 ≤ L.length) (hp : p + k * 2 ≤ L.length) (h1 : ∀ v ∈ (L.drop p).take (k * 2), v.oneCell' = true) :
   (Builtin.copy_ #[26, 26] ty #[.slice (some ⟨g, o, none⟩) k dc, .slice (some ⟨g, p, none⟩) k sc]).run Try.prog W = .ok (goInt k) (W.setCells g o ((L.drop p).take (k * 2))) := by
 have hcl : ((L.drop p).take (k * 2)).length = k * 2 := by simp; omega
 have hmm : Nat.min k k = k := Nat.min_self _
 have := run_copy_z (P := Try.prog) W 26 26 ty 31 2 g o k dc ⟨g, p, none⟩ k sc ((L.drop p).take (k * 2)) Try.underlying26 (by kernel_rfl)
   (by rw [hmm, hcl]) (blk_range hb _ _) (fun j hj => blk_some hb (by omega)) (fun j hj => hb.free _) h1
 rw [hmm] at this
 exact this
set_option maxRecDepth 100000 in
set_option maxHeartbeats 2000000 in
theorem replace_mid1a (w : World) (g n c i d mc : Nat) (L cs : List Value) (hb : Blk w g 31 L) (hL : L.length = c * 2) (hi : i + 1 < n) (hc : n ≤ c) (hcn : ¬ c = n) (hn : n ≤ 10000) (h1 : ∀ v ∈ L.take (n * 2), v.oneCell' = true) (hs : Src w d cs) (hcs : cs.length = 1 * 2) (hdg : d ≠ g) (hx : ∀ v ∈ cs, v.oneCell' = true) :
   Calls Try.prog 34 #[.slice (some ⟨g, 0, none⟩) n c, .int .i64 i, .int .i64 ((i : Int) + 1), .slice (some ⟨d, 0, none⟩) 1 mc] w fun e w' =>
     e = .returned (.slice (some ⟨g, 0, none⟩) n c) ∧ ∃ w1, w1.heap = w.heap ∧ Fr No w w1 ∧ ∃ w2, w2.heap = (w1.setCells g (i * 2) cs).heap ∧ Fr (fun k => k = g) w w2 ∧ w' = w2.setCells g ((i + 1) * 2) ((L.drop ((i + 1) * 2)).take ((n - (i + 1)) * 2)) := by
 have hcz : ∀ (W : World) ty a k, (Builtin.clear_ #[26] ty #[.slice a 0 k]).run Try.prog W = .ok (.tuple #[]) W := fun W ty a k => run_clear_none W ty a k
 have hcpA : ∀ W, Blk W g 31 L → Src W d cs → ∀ ty dc, (Builtin.copy_ #[26, 26] ty #[.slice (some ⟨g, i * 2, none⟩) (n - i) dc, .slice (some ⟨d, 0, none⟩) 1 mc]).run Try.prog W = .ok (goInt (1 : Nat)) (W.setCells g (i * 2) cs) := fun W hW hS ty dc =>
   run_copy_src W ty g (i * 2) (n - i) dc d 1 mc L cs hW hS hcs (by omega) (by omega) hx
 have hsp : ∀ W, Blk W g 31 L → Blk (W.setCells g (i * 2) cs) g 31 (L.take (i * 2) ++ cs ++ L.drop ((i + 1) * 2)) := fun W hW => by
   have := Blk.setCells cs (i * 2) hW (by omega)
   rw [hcs, show i * 2 + 1 * 2 = (i + 1) * 2 by omega] at this
   exact this
 have hL2 : (L.take (i * 2) ++ cs ++ L.drop ((i + 1) * 2)).length = c * 2 := by simp [hcs]; omega
 have hdr : (L.take (i * 2) ++ cs ++ L.drop ((i + 1) * 2)).drop ((i + 1) * 2) = L.drop ((i + 1) * 2) := List.drop_left' (by simp [hcs]; omega)
 have hcpB : ∀ W, Blk W g 31 (L.take (i * 2) ++ cs ++ L.drop ((i + 1) * 2)) → ∀ ty dc sc, (Builtin.copy_ #[26, 26] ty #[.slice (some ⟨g, (i + 1) * 2, none⟩) (n - (i + 1)) dc, .slice (some ⟨g, (i + 1) * 2, none⟩) (n - (i + 1)) sc]).run Try.prog W = .ok (goInt (n - (i + 1) : Nat)) (W.setCells g ((i + 1) * 2) ((L.drop ((i + 1) * 2)).take ((n - (i + 1)) * 2))) := fun W hW ty dc sc => by
   have := run_copy_row W ty g ((i + 1) * 2) ((i + 1) * 2) (n - (i + 1)) dc sc _ hW (by omega) (by omega) (by
     rw [hdr]
     intro v hv
     exact h1 v (by rw [show n * 2 = (i + 1) * 2 + (n - (i + 1)) * 2 by omega, List.take_add]; exact List.mem_append.2 (.inr hv)))
   rw [hdr] at this
   exact this
 have e1 : ¬ ((i : Int) = (i : Int) + 1) := by omega
 have e2 : ¬ ((i : Int) + 1 = (n : Int)) := by omega
 have e3 : (0 : Int) ≤ (i : Int) + 1 := by omega
 have e4 : (i : Int) + 1 ≤ (c : Int) := by omega
 have e5 : (i : Int) ≤ (c : Int) := by omega
 have e6 : ((i : Int) + 1).toNat = i + 1 := by omega
 have e7 : (i : Int) + 1 ≤ (n : Int) := by omega
 have e8 : i ≤ n := by omega
 have e9 : ¬ (c = i) := by omega
 have e10 : ¬ (c = i + 1) := by omega
 have e12 : (i : Int) + 1 + ((n - (i + 1) : Nat) : Int) = (n : Int) := by omega
 have e17 : ¬ ((c : Int) < (n : Int)) := by omega
 have e20 : (i : Int) ≤ (n : Int) := by omega
 have e23 : IntKind.i64.wrap ((i : Int) + 1) = (i : Int) + 1 := by rw [IntKind.wrap_i64]; omega
 have HB := Lib.hid hb
 have HL := Lib.hid hL
 have HS := Lib.hid hs
 have HA := Lib.hid hcpA
 have HBB := Lib.hid hcpB
 have HSP := Lib.hid hsp
 have HCZ := Lib.hid hcz
 clear hb hL h1 hs hcs hx hcpA hcpB hsp hcz hL2 hdr
 go_enter Try.func34, Try.ntmps34
 go_wp2
 go_quiet (fail)
 rename Nat => nq
 obtain ⟨W1, hW1⟩ : ∃ W1, W1 = w.drewN nq := ⟨_, rfl⟩
 have HB1 : Hid (Blk W1 g 31 L) := by rw [hW1]; exact Lib.hid (HB.out.drewN _)
 have HF1 : Hid (Fr No w W1) := by rw [hW1]; exact Lib.hid ((Fr.refl No w).drewN _)
 have HH1 : Hid (W1.heap = w.heap) := by rw [hW1]; exact Lib.hid rfl
 rw [← hW1]
 have HS1 : Hid (Src W1 d cs) := Lib.hid (HS.out.fr HF1.out (No.no _))
 have HW1 := Lib.hid hW1
 clear hW1
 have HA1 := Lib.hid (HA.out W1 HB1.out HS1.out)
 go_wp2
 rw [HA1.out]
 obtain ⟨W2, hW2⟩ : ∃ W2, W2 = W1.setCells g (i * 2) cs := ⟨_, rfl⟩
 rw [← hW2]
 have HB2 : Hid (Blk W2 g 31 (L.take (i * 2) ++ cs ++ L.drop ((i + 1) * 2))) := by rw [hW2]; exact Lib.hid (HSP.out _ HB1.out)
 have HF2 : Hid (Fr (fun k => k = g) w W2) := by rw [hW2]; exact Lib.hid (Fr.setCells _ _ HF1.out.no_any (.inl rfl))
 have HW2 := Lib.hid hW2
 clear hW2
 have HC1' := Lib.hid (HBB.out W2.drew HB2.out.drew)
 go_wp2
 go_region_law (refine step_copy_runI rfl _ _ 26 26 rfl _ _ (by simp [Act.eval, Act.put]; try rfl) (by simp [Act.eval, Act.put]; try rfl) (HC1'.out _ _ _) ?_)
 go_wp2
 rw [HCZ.out]
 go_wp2
 go_ret
 exact ⟨rfl, W1, HH1.out, HF1.out, W2.drew, by rw [HW2.out]; rfl, HF2.out.drew, rfl⟩
set_option maxRecDepth 100000 in
set_option maxHeartbeats 2000000 in
theorem replace_mid1b (w : World) (g n i d mc : Nat) (L cs : List Value) (hb : Blk w g 31 L) (hL : L.length = n * 2) (hi : i + 1 < n) (hn : n ≤ 10000) (h1 : ∀ v ∈ L.take (n * 2), v.oneCell' = true) (hs : Src w d cs) (hcs : cs.length = 1 * 2) (hdg : d ≠ g) (hx : ∀ v ∈ cs, v.oneCell' = true) :
   Calls Try.prog 34 #[.slice (some ⟨g, 0, none⟩) n n, .int .i64 i, .int .i64 ((i : Int) + 1), .slice (some ⟨d, 0, none⟩) 1 mc] w fun e w' =>
     e = .returned (.slice (some ⟨g, 0, none⟩) n n) ∧ ∃ w1, w1.heap = w.heap ∧ Fr No w w1 ∧ ∃ w2, w2.heap = (w1.setCells g (i * 2) cs).heap ∧ Fr (fun k => k = g) w w2 ∧ w' = w2.setCells g ((i + 1) * 2) ((L.drop ((i + 1) * 2)).take ((n - (i + 1)) * 2)) := by
 have hcz : ∀ (W : World) ty a k, (Builtin.clear_ #[26] ty #[.slice a 0 k]).run Try.prog W = .ok (.tuple #[]) W := fun W ty a k => run_clear_none W ty a k
 have hcpA : ∀ W, Blk W g 31 L → Src W d cs → ∀ ty dc, (Builtin.copy_ #[26, 26] ty #[.slice (some ⟨g, i * 2, none⟩) (n - i) dc, .slice (some ⟨d, 0, none⟩) 1 mc]).run Try.prog W = .ok (goInt (1 : Nat)) (W.setCells g (i * 2) cs) := fun W hW hS ty dc =>
   run_copy_src W ty g (i * 2) (n - i) dc d 1 mc L cs hW hS hcs (by omega) (by omega) hx
 have hsp : ∀ W, Blk W g 31 L → Blk (W.setCells g (i * 2) cs) g 31 (L.take (i * 2) ++ cs ++ L.drop ((i + 1) * 2)) := fun W hW => by
   have := Blk.setCells cs (i * 2) hW (by omega)
   rw [hcs, show i * 2 + 1 * 2 = (i + 1) * 2 by omega] at this
   exact this
 have hL2 : (L.take (i * 2) ++ cs ++ L.drop ((i + 1) * 2)).length = n * 2 := by simp [hcs]; omega
 have hdr : (L.take (i * 2) ++ cs ++ L.drop ((i + 1) * 2)).drop ((i + 1) * 2) = L.drop ((i + 1) * 2) := List.drop_left' (by simp [hcs]; omega)
 have hcpB : ∀ W, Blk W g 31 (L.take (i * 2) ++ cs ++ L.drop ((i + 1) * 2)) → ∀ ty dc sc, (Builtin.copy_ #[26, 26] ty #[.slice (some ⟨g, (i + 1) * 2, none⟩) (n - (i + 1)) dc, .slice (some ⟨g, (i + 1) * 2, none⟩) (n - (i + 1)) sc]).run Try.prog W = .ok (goInt (n - (i + 1) : Nat)) (W.setCells g ((i + 1) * 2) ((L.drop ((i + 1) * 2)).take ((n - (i + 1)) * 2))) := fun W hW ty dc sc => by
   have := run_copy_row W ty g ((i + 1) * 2) ((i + 1) * 2) (n - (i + 1)) dc sc _ hW (by omega) (by omega) (by
     rw [hdr]
     intro v hv
     exact h1 v (by rw [show n * 2 = (i + 1) * 2 + (n - (i + 1)) * 2 by omega, List.take_add]; exact List.mem_append.2 (.inr hv)))
   rw [hdr] at this
   exact this
 have e1 : ¬ ((i : Int) = (i : Int) + 1) := by omega
 have e2 : ¬ ((i : Int) + 1 = (n : Int)) := by omega
 have e3 : (0 : Int) ≤ (i : Int) + 1 := by omega
 have e4 : (i : Int) + 1 ≤ (n : Int) := by omega
 have e5 : (i : Int) ≤ (n : Int) := by omega
 have e6 : ((i : Int) + 1).toNat = i + 1 := by omega
 have e7 : (i : Int) + 1 ≤ (n : Int) := by omega
 have e8 : i ≤ n := by omega
 have e9 : ¬ (n = i) := by omega
 have e10 : ¬ (n = i + 1) := by omega
 have e12 : (i : Int) + 1 + ((n - (i + 1) : Nat) : Int) = (n : Int) := by omega
 have e17 : ¬ ((n : Int) < (n : Int)) := by omega
 have e20 : (i : Int) ≤ (n : Int) := by omega
 have e23 : IntKind.i64.wrap ((i : Int) + 1) = (i : Int) + 1 := by rw [IntKind.wrap_i64]; omega
 have HB := Lib.hid hb
 have HL := Lib.hid hL
 have HS := Lib.hid hs
 have HA := Lib.hid hcpA
 have HBB := Lib.hid hcpB
 have HSP := Lib.hid hsp
 have HCZ := Lib.hid hcz
 clear hb hL h1 hs hcs hx hcpA hcpB hsp hcz hL2 hdr
 go_enter Try.func34, Try.ntmps34
 go_wp2
 go_quiet (fail)
 rename Nat => nq
 obtain ⟨W1, hW1⟩ : ∃ W1, W1 = w.drewN nq := ⟨_, rfl⟩
 have HB1 : Hid (Blk W1 g 31 L) := by rw [hW1]; exact Lib.hid (HB.out.drewN _)
 have HF1 : Hid (Fr No w W1) := by rw [hW1]; exact Lib.hid ((Fr.refl No w).drewN _)
 have HH1 : Hid (W1.heap = w.heap) := by rw [hW1]; exact Lib.hid rfl
 rw [← hW1]
 have HS1 : Hid (Src W1 d cs) := Lib.hid (HS.out.fr HF1.out (No.no _))
 have HW1 := Lib.hid hW1
 clear hW1
 have HA1 := Lib.hid (HA.out W1 HB1.out HS1.out)
 go_wp2
 rw [HA1.out]
 obtain ⟨W2, hW2⟩ : ∃ W2, W2 = W1.setCells g (i * 2) cs := ⟨_, rfl⟩
 rw [← hW2]
 have HB2 : Hid (Blk W2 g 31 (L.take (i * 2) ++ cs ++ L.drop ((i + 1) * 2))) := by rw [hW2]; exact Lib.hid (HSP.out _ HB1.out)
 have HF2 : Hid (Fr (fun k => k = g) w W2) := by rw [hW2]; exact Lib.hid (Fr.setCells _ _ HF1.out.no_any (.inl rfl))
 have HW2 := Lib.hid hW2
 clear hW2
 have HC1' := Lib.hid (HBB.out W2.drew HB2.out.drew)
 go_wp2
 go_region_law (refine step_copy_runI rfl _ _ 26 26 rfl _ _ (by simp [Act.eval, Act.put]; try rfl) (by simp [Act.eval, Act.put]; try rfl) (HC1'.out _ _ _) ?_)
 go_wp2
 rw [HCZ.out]
 go_wp2
 go_ret
 exact ⟨rfl, W1, HH1.out, HF1.out, W2.drew, by rw [HW2.out]; rfl, HF2.out.drew, rfl⟩
theorem replace_mid1 (w : World) (g n c i d mc : Nat) (L cs : List Value) (hb : Blk w g 31 L) (hL : L.length = c * 2) (hi : i + 1 < n) (hc : n ≤ c) (hn : n ≤ 10000) (h1 : ∀ v ∈ L.take (n * 2), v.oneCell' = true) (hs : Src w d cs) (hcs : cs.length = 1 * 2) (hdg : d ≠ g) (hx : ∀ v ∈ cs, v.oneCell' = true) :
   Calls Try.prog 34 #[.slice (some ⟨g, 0, none⟩) n c, .int .i64 i, .int .i64 ((i : Int) + 1), .slice (some ⟨d, 0, none⟩) 1 mc] w fun e w' =>
     e = .returned (.slice (some ⟨g, 0, none⟩) n c) ∧ ∃ w1, w1.heap = w.heap ∧ Fr No w w1 ∧ ∃ w2, w2.heap = (w1.setCells g (i * 2) cs).heap ∧ Fr (fun k => k = g) w w2 ∧ w' = w2.setCells g ((i + 1) * 2) ((L.drop ((i + 1) * 2)).take ((n - (i + 1)) * 2)) := by
 by_cases hcn : c = n
 · subst hcn; exact replace_mid1b w g c i d mc L cs hb hL hi hn h1 hs hcs hdg hx
 · exact replace_mid1a w g n c i d mc L cs hb hL hi hc hcn hn h1 hs hcs hdg hx
set_option maxRecDepth 100000 in
set_option maxHeartbeats 2000000 in
theorem replace_mid2 (w : World) (g n c i d mc : Nat) (L cs : List Value) (hb : Blk w g 31 L) (hL : L.length = c * 2) (hi : i + 1 < n) (hc : n + 1 ≤ c) (hcm : c ≤ maxLen) (hn : n ≤ 10000) (h1 : ∀ v ∈ L.take (n * 2), v.oneCell' = true) (hs : Src w d cs) (hcs : cs.length = 2 * 2) (hdg : d ≠ g) (hx : ∀ v ∈ cs, v.oneCell' = true) :
   Calls Try.prog 34 #[.slice (some ⟨g, 0, none⟩) n c, .int .i64 i, .int .i64 ((i : Int) + 1), .slice (some ⟨d, 0, none⟩) 2 mc] w fun e w' =>
     e = .returned (.slice (some ⟨g, 0, none⟩) (n + 1) c) ∧ ∃ w1, w1.heap = w.heap ∧ Fr No w w1 ∧ ∃ w2, w2.heap = (w1.setCells g ((i + 2) * 2) ((L.drop ((i + 1) * 2)).take ((n - (i + 1)) * 2))).heap ∧ Fr (fun k => k = g) w w2 ∧ w' = w2.setCells g (i * 2) cs := by
 have hsz : ∀ w, (sizeOf 31).run Try.prog w = .ok 2 w := fun _ => by kernel_rfl
 obtain ⟨Td, kd, hsd, hkd⟩ := hs.shape (by intro e; rw [e] at hcs; cases hcs)
 have hov : ∀ W : World, W.heap = w.heap → ∀ la ca, (callFunc 46 #[.slice (some ⟨g, (i + 2) * 2, none⟩) la ca, .slice (some ⟨d, 0, none⟩) 2 mc]).run Try.prog W = .ok (.value (.bool false)) W := fun W hW la ca => by
   have hbW : Blk W g 31 L := by unfold Blk; rw [hW]; exact hb
   have hsb : W.shape? g = some (31, c * 2) := by
     have : W.heap[g]? = some (.cells L.toArray 31 (0, 0)) := hbW
     simp [World.shape?, this, hL]
   have hsd' : W.shape? d = some (Td, kd) := by unfold World.shape? at hsd ⊢; rw [hW]; exact hsd
   rw [run_callFunc_extern Try.func46 (by kernel_rfl) (by kernel_rfl) (by kernel_rfl) (e := Extern.SlicesOverlaps.overlaps #[26, 26] #[4]) (by kernel_rfl),
     Lib.run_overlaps_apart W 26 4 31 Try.underlying26 2 hsz ⟨g, (i + 2) * 2, none⟩ ⟨d, 0, none⟩ la ca 2 mc hdg.symm _ _ _ _ hsb hsd' hkd (hbW.free _) (hbW.free _)]
   rfl
 have hmid : ∀ v ∈ (L.drop ((i + 1) * 2)).take ((n - (i + 1)) * 2), v.oneCell' = true := fun v hv => h1 v (by rw [show n * 2 = (i + 1) * 2 + (n - (i + 1)) * 2 by omega, List.take_add]; exact List.mem_append.2 (.inr hv))
 have hcpA : ∀ W, Blk W g 31 L → ∀ ty dc sc, (Builtin.copy_ #[26, 26] ty #[.slice (some ⟨g, (i + 2) * 2, none⟩) (n - (i + 1)) dc, .slice (some ⟨g, (i + 1) * 2, none⟩) (n - (i + 1)) sc]).run Try.prog W = .ok (goInt (n - (i + 1) : Nat)) (W.setCells g ((i + 2) * 2) ((L.drop ((i + 1) * 2)).take ((n - (i + 1)) * 2))) := fun W hW ty dc sc =>
   run_copy_row W ty g ((i + 2) * 2) ((i + 1) * 2) (n - (i + 1)) dc sc _ hW (by omega) (by omega) hmid
 have hcl : ((L.drop ((i + 1) * 2)).take ((n - (i + 1)) * 2)).length = (n - (i + 1)) * 2 := by simp; omega
 obtain ⟨M, hM⟩ : ∃ M, M = (L.drop ((i + 1) * 2)).take ((n - (i + 1)) * 2) := ⟨_, rfl⟩
 rw [← hM] at hcl hcpA ⊢
 have hL2 : (L.take ((i + 2) * 2) ++ M ++ L.drop ((i + 2) * 2 + M.length)).length = c * 2 := by simp [hcl]; omega
 have hcpB : ∀ W, Blk W g 31 (L.take ((i + 2) * 2) ++ M ++ L.drop ((i + 2) * 2 + M.length)) → Src W d cs → ∀ ty dc, (Builtin.copy_ #[26, 26] ty #[.slice (some ⟨g, i * 2, none⟩) (n + 1 - i) dc, .slice (some ⟨d, 0, none⟩) 2 mc]).run Try.prog W = .ok (goInt (2 : Nat)) (W.setCells g (i * 2) cs) := fun W hW hS ty dc =>
   run_copy_src W ty g (i * 2) (n + 1 - i) dc d 2 mc _ cs hW hS hcs (by omega) (by omega) hx
 have hsp : ∀ W, Blk W g 31 L → Blk (W.setCells g ((i + 2) * 2) M) g 31 (L.take ((i + 2) * 2) ++ M ++ L.drop ((i + 2) * 2 + M.length)) := fun W hW => Blk.setCells M ((i + 2) * 2) hW (by omega)
 have e1 : ¬ ((i : Int) = (i : Int) + 1) := by omega
 have e2 : ¬ ((i : Int) + 1 = (n : Int)) := by omega
 have e3 : (0 : Int) ≤ (i : Int) + 1 := by omega
 have e4 : (i : Int) + 1 ≤ (c : Int) := by omega
 have e5 : (i : Int) ≤ (c : Int) := by omega
 have e6 : ((i : Int) + 1).toNat = i + 1 := by omega
 have e7 : (i : Int) + 1 ≤ (n : Int) := by omega
 have e8 : i ≤ n := by omega
 have e9 : ¬ (c = i) := by omega
 have e10 : ¬ (c = i + 1) := by omega
 have e11 : ¬ (c = i + 2) := by omega
 have e12 : (i : Int) + 2 + ((n - (i + 1) : Nat) : Int) = ((n + 1 : Nat) : Int) := by omega
 have e13 : ((n + 1 : Nat) : Int) ≤ (c : Int) := by omega
 have e14 : ¬ ((c : Int) < ((n + 1 : Nat) : Int)) := by omega
 have e15 : ¬ ((i : Int) + 2 ≤ (i : Int) + 1) := by omega
 have e16 : n + 1 - (i + 2) = n - (i + 1) := by omega
 have e17 : (i : Int) + 2 ≤ ((n + 1 : Nat) : Int) := by omega
 have e18 : ((i : Int) + 2).toNat = i + 2 := by omega
 have e19 : (0 : Int) ≤ (i : Int) + 2 := by omega
 have e20 : (i : Int) ≤ ((n + 1 : Nat) : Int) := by omega
 have e23 : IntKind.i64.wrap ((i : Int) + 1) = (i : Int) + 1 := by rw [IntKind.wrap_i64]; omega
 have e25 : (i : Int) + 2 ≤ (n : Int) + 1 := by omega
 have e26 : ¬ ((c : Int) < (n : Int) + 1) := by omega
 have e27 : (n : Int) + 1 ≤ (c : Int) := by omega
 have e28 : (i : Int) ≤ (n : Int) + 1 := by omega
 have e24 : IntKind.i64.wrap ((i : Int) + 2) = (i : Int) + 2 := by rw [IntKind.wrap_i64]; omega
 have HB := Lib.hid hb
 have HL := Lib.hid hL
 have HS := Lib.hid hs
 have HA := Lib.hid hcpA
 have HBB := Lib.hid hcpB
 have HSP := Lib.hid hsp
 have HOV := Lib.hid hov
 have HM := Lib.hid hM
 clear hb hL h1 hs hcs hx hcpA hcpB hsp hL2 hov hmid hcl hM hsd hkd
 go_enter Try.func34, Try.ntmps34
 go_wp2
 go_quiet (fail)
 rename Nat => nq
 obtain ⟨W1, hW1⟩ : ∃ W1, W1 = w.drewN nq := ⟨_, rfl⟩
 have HB1 : Hid (Blk W1 g 31 L) := by rw [hW1]; exact Lib.hid (HB.out.drewN _)
 have HF1 : Hid (Fr No w W1) := by rw [hW1]; exact Lib.hid ((Fr.refl No w).drewN _)
 have HH1 : Hid (W1.heap = w.heap) := by rw [hW1]; exact Lib.hid rfl
 rw [← hW1]
 have HS1 : Hid (Src W1 d cs) := Lib.hid (HS.out.fr HF1.out (No.no _))
 have HW1 := Lib.hid hW1
 clear hW1
 have hov1 := HOV.out W1 HH1.out
 have HC1' := Lib.hid (HA.out W1.drew HB1.out.drew)
 go_wp2_with (simp only [hov1])
 go_region_law (refine step_copy_runI rfl _ _ 26 26 rfl _ _ (by simp [Act.eval, Act.put, e16]; try rfl) (by simp [Act.eval, Act.put]; try rfl) (HC1'.out _ _ _) ?_)
 obtain ⟨W2, hW2⟩ : ∃ W2, W2 = W1.drew.setCells g ((i + 2) * 2) M := ⟨_, rfl⟩
 rw [← hW2]
 have HB2 : Hid (Blk W2 g 31 (L.take ((i + 2) * 2) ++ M ++ L.drop ((i + 2) * 2 + M.length))) := by rw [hW2]; exact Lib.hid (HSP.out _ HB1.out.drew)
 have HF2 : Hid (Fr (fun k => k = g) w W2) := by rw [hW2]; exact Lib.hid (Fr.setCells _ _ HF1.out.drew.no_any (.inl rfl))
 have HS2 : Hid (Src W2 d cs) := Lib.hid (HS.out.fr HF2.out hdg)
 have HW2 := Lib.hid hW2
 clear hW2
 have HB2' := Lib.hid (HBB.out W2 HB2.out HS2.out)
 go_wp2
 rw [HB2'.out]
 go_wp2
 go_ret
 exact ⟨rfl, W1.drew, HH1.out, HF1.out.drew, W2, by rw [HW2.out], HF2.out, rfl⟩
set_option maxHeartbeats 4000000 in
set_option maxRecDepth 100000 in
theorem replace_grow (w : World) (b d n c i mc : Nat) (L cs : List Value) (hb : Blk w b 31 L) (hs : Src w d cs) (hi : i + 1 < n) (hnc : n ≤ c) (hroom : c < n + 1) (hbig : n ≤ 10000) (hL : L.length = c * 2)
   (h1 : ∀ v ∈ L.take (n * 2), v.oneCell' = true) (hcs : cs.length = 2 * 2) (hx : ∀ v ∈ cs, v.oneCell' = true) :
   Calls Try.prog 34 #[.slice (some ⟨b, 0, none⟩) n c, .int .i64 i, .int .i64 ((i : Int) + 1), .slice (some ⟨d, 0, none⟩) 2 mc] w fun e w' =>
     ∃ (G N : Nat) (R : List Value), w.heap.size ≤ N ∧ n + 1 ≤ G ∧ G ≤ maxLen ∧ R.length = G * 2 ∧ R.take (i * 2) = L.take (i * 2) ∧ e = .returned (.slice (some ⟨N, 0, none⟩) (n + 1) G) ∧ Fr No w w' ∧
     Blk w' N 31 (((R.take (i * 2) ++ cs ++ R.drop (i * 2 + cs.length)).take ((i + 2) * 2)) ++ ((L.drop ((i + 1) * 2)).take ((n - (i + 1)) * 2)) ++ ((R.take (i * 2) ++ cs ++ R.drop (i * 2 + cs.length)).drop ((i + 2) * 2 + ((L.drop ((i + 1) * 2)).take ((n - (i + 1)) * 2)).length))) := by
 obtain ⟨i0, hi0, hz0, hzs, hzb⟩ := info_parts (P := Try.prog) (e := 31) (z := .agg #[.int .i64 0, .int .i64 0]) (size := 2) (bytes := 16) (by kernel_rfl)
 have hsz : ∀ w, (sizeOf 31).run Try.prog w = .ok 2 w := fun _ => by kernel_rfl
 have hkk : (n : Int) + 1 - (i : Int) = ((n + 1 - i : Nat) : Int) := by omega
 have hik : i + (n + 1 - i) = n + 1 := by omega
 have hrz : ∀ (w' : World), Blk w' b 31 L → ∀ ty, ∃ (G : Nat) (R : List Value), n + 1 ≤ G ∧ G ≤ maxLen ∧ R.length = G * 2 ∧ R.take (i * 2) = L.take (i * 2) ∧ (Builtin.append_ #[26, 3] ty #[.slice (some ⟨b, 0, none⟩) i c, .int .i64 ((n : Int) + 1 - (i : Int))]).run Try.prog w' =
     .ok (.slice (some ⟨w'.heap.size, 0, none⟩) (n + 1) G) (w'.drew.alloc (.cells R.toArray 31)) := fun w' hb' ty => by
   have hold : (Builtin.firstCells i0.size i (.slice (some ⟨b, 0, none⟩) i c)).run Try.prog w'.drew = .ok (L.take (i * 2)).toArray w'.drew := by
     rw [hzs]
     exact run_firstCells_some w'.drew 2 i ⟨b, 0, none⟩ i c (L.take (i * 2)) (by rw [List.length_take]; omega) (fun j v hj => by
       have := blk_range hb'.drew 0 (i * 2) j v (by simpa using hj)
       simpa using this)
   have h := Lib.run_append_grow_zeros w' 26 3 ty 31 i0 _ .i64 .i64 Try.underlying26 Try.underlying3 hi0 hz0 (some ⟨b, 0, none⟩) i c (L.take (i * 2)) hold (n + 1 - i) (by omega) (by omega) (by omega) (by omega) (by rw [hzb]; omega) (by rw [hzb, hik]; exact growslice_fits hroom (by omega))
   rw [hik] at h
   rw [hkk]
   refine ⟨grownCap w' (n + 1) c 31, zrow L i (n + 1 - i) ++ (Builtin.zeroCells (Value.cells (.agg #[.int .i64 0, .int .i64 0])) (grownCap w' (n + 1) c 31 - (n + 1))).toList, grownCap_ge w' _ _ _, grownCap_le_maxLen w' (n + 1) c _ (by unfold maxLen; omega), ?_, ?_, ?_⟩
   · have := grownCap_ge w' (n + 1) c 31
     simp [zrow, Builtin.zeroCells, Value.cells]
     omega
   · rw [zrow, List.append_assoc, List.take_append_of_le_length (by rw [List.length_take]; omega), List.take_take, Nat.min_self]
   · rw [h, zrow]
     congr 3
     apply Array.toList_inj.1
     simp
 have hcl : ((L.drop ((i + 1) * 2)).take ((n - (i + 1)) * 2)).length = (n - (i + 1)) * 2 := by simp; omega
 have hmid : ∀ v ∈ (L.drop ((i + 1) * 2)).take ((n - (i + 1)) * 2), v.oneCell' = true := fun v hv => h1 v (by rw [show n * 2 = (i + 1) * 2 + (n - (i + 1)) * 2 by omega, List.take_add]; exact List.mem_append.2 (.inr hv))
 obtain ⟨M, hM⟩ : ∃ M, M = (L.drop ((i + 1) * 2)).take ((n - (i + 1)) * 2) := ⟨_, rfl⟩
 have hcpA : ∀ (W : World) (N G : Nat) (R : List Value), R.length = G * 2 → n + 1 ≤ G → Blk W N 31 R → Src W d cs → ∀ ty dc, (Builtin.copy_ #[26, 26] ty #[.slice (some ⟨N, i * 2, none⟩) (n + 1 - i) dc, .slice (some ⟨d, 0, none⟩) 2 mc]).run Try.prog W = .ok (goInt (2 : Nat)) (W.setCells N (i * 2) cs) := fun W N G R hR hG hN hS ty dc =>
   run_copy_src W ty N (i * 2) (n + 1 - i) dc d 2 mc R cs hN hS hcs (by omega) (by omega) hx
 have hcpB : ∀ (W : World) (N G : Nat) (R : List Value), R.length = G * 2 → n + 1 ≤ G → Blk W N 31 R → Blk W b 31 L → ∀ ty dc sc, (Builtin.copy_ #[26, 26] ty #[.slice (some ⟨N, (i + 2) * 2, none⟩) (n - (i + 1)) dc, .slice (some ⟨b, (i + 1) * 2, none⟩) (n - (i + 1)) sc]).run Try.prog W = .ok (goInt (n - (i + 1) : Nat)) (W.setCells N ((i + 2) * 2) M) := fun W N G R hR hG hN hB ty dc sc => by
   have hmm : Nat.min (n - (i + 1)) (n - (i + 1)) = n - (i + 1) := Nat.min_self _
   rw [hM]
   have := run_copy_z (P := Try.prog) W 26 26 ty 31 2 N ((i + 2) * 2) (n - (i + 1)) dc ⟨b, (i + 1) * 2, none⟩ (n - (i + 1)) sc ((L.drop ((i + 1) * 2)).take ((n - (i + 1)) * 2)) Try.underlying26 (hsz _)
     (by rw [hmm, hcl]) (blk_range hB _ _) (fun j hj => blk_some hN (by omega)) (fun j hj => hN.free _) hmid
   rw [hmm] at this
   exact this
 rw [← hM] at hcl ⊢
 have hbw : b < w.heap.size := hb.lt
 have hdw : d < w.heap.size := hs.lt
 have e1 : ¬ ((i : Int) = (i : Int) + 1) := by omega
 have e2 : ¬ ((i : Int) + 1 = (n : Int)) := by omega
 have e3 : (0 : Int) ≤ (i : Int) + 1 := by omega
 have e4 : (i : Int) + 1 ≤ (c : Int) := by omega
 have e5 : (i : Int) ≤ (c : Int) := by omega
 have e6 : ((i : Int) + 1).toNat = i + 1 := by omega
 have e7 : (i : Int) + 1 ≤ (n : Int) := by omega
 have e8 : i ≤ n := by omega
 have e9 : ¬ (c = i) := by omega
 have e10 : ¬ (c = i + 1) := by omega
 have e12 : (i : Int) + 2 + ((n - (i + 1) : Nat) : Int) = (n : Int) + 1 := by omega
 have e14 : (c : Int) < (n : Int) + 1 := by omega
 have e16 : n + 1 - (i + 2) = n - (i + 1) := by omega
 have e18 : ((i : Int) + 2).toNat = i + 2 := by omega
 have e19 : (0 : Int) ≤ (i : Int) + 2 := by omega
 have e23 : IntKind.i64.wrap ((i : Int) + 1) = (i : Int) + 1 := by rw [IntKind.wrap_i64]; omega
 have e24 : IntKind.i64.wrap ((i : Int) + 2) = (i : Int) + 2 := by rw [IntKind.wrap_i64]; omega
 have e25 : (i : Int) + 2 ≤ (n : Int) + 1 := by omega
 have e28 : (i : Int) ≤ (n : Int) + 1 := by omega
 have HB := Lib.hid hb
 have HL := Lib.hid hL
 have HS := Lib.hid hs
 have HA := Lib.hid hcpA
 have HBB := Lib.hid hcpB
 have HRZ := Lib.hid hrz
 have HM := Lib.hid hM
 have HCL := Lib.hid hcl
 have HCS := Lib.hid hcs
 clear hb hL h1 hs hcs hx hcpA hcpB hmid hcl hM hrz hkk hik
 go_enter Try.func34, Try.ntmps34
 go_wp2
 go_quiet (fail)
 rename Nat => nq
 obtain ⟨W1, hW1⟩ : ∃ W1, W1 = w.drewN nq := ⟨_, rfl⟩
 have HB1 : Hid (Blk W1 b 31 L) := by rw [hW1]; exact Lib.hid (HB.out.drewN _)
 have HF1 : Hid (Fr No w W1) := by rw [hW1]; exact Lib.hid ((Fr.refl No w).drewN _)
 have HH1 : Hid (W1.heap = w.heap) := by rw [hW1]; exact Lib.hid rfl
 rw [← hW1]
 have HS1 : Hid (Src W1 d cs) := Lib.hid (HS.out.fr HF1.out (No.no _))
 have HW1 := Lib.hid hW1
 clear hW1
 obtain ⟨G, R, hG, hGm, hRl, hRt, hrz⟩ : ∃ (G : Nat) (R : List Value), n + 1 ≤ G ∧ G ≤ maxLen ∧ R.length = G * 2 ∧ R.take (i * 2) = L.take (i * 2) ∧ ∀ ty, (Builtin.append_ #[26, 3] ty #[.slice (some ⟨b, 0, none⟩) i c, .int .i64 ((n : Int) + 1 - (i : Int))]).run Try.prog W1 =
     .ok (.slice (some ⟨W1.heap.size, 0, none⟩) (n + 1) G) (W1.drew.alloc (.cells R.toArray 31)) := by
   obtain ⟨G, R, hG, hGm, hRl, hRt, hr⟩ := HRZ.out W1 HB1.out 0
   exact ⟨G, R, hG, hGm, hRl, hRt, fun ty => hr⟩
 have hG63 : G ≤ 9223372036854775807 := by unfold maxLen at hGm; omega
 have hGi : ¬ (G = i) := by omega
 have hGim : ¬ (G = i + 2) := by omega
 obtain ⟨N, hN⟩ : ∃ N, N = W1.heap.size := ⟨_, rfl⟩
 obtain ⟨W2, hW2⟩ : ∃ W2, W2 = W1.drew.alloc (.cells R.toArray 31) := ⟨_, rfl⟩
 have hNw : w.heap.size ≤ N := by rw [hN]; exact HF1.out.size
 have HN2 : Hid (Blk W2 N 31 R) := by rw [hW2, hN]; exact Lib.hid (Blk.new W1.drew _ R)
 have HF2 : Hid (Fr No w W2) := by rw [hW2]; exact Lib.hid (HF1.out.drew.alloc _)
 have HB2 : Hid (Blk W2 b 31 L) := Lib.hid (HB.out.fr HF2.out (No.no _))
 have HS2 : Hid (Src W2 d cs) := Lib.hid (HS.out.fr HF2.out (No.no _))
 rw [← hN, ← hW2] at hrz
 have HRZ1 := Lib.hid hrz
 have HA2 := Lib.hid (HA.out W2 N G R hRl hG HN2.out HS2.out)
 obtain ⟨W3, hW3⟩ : ∃ W3, W3 = W2.setCells N (i * 2) cs := ⟨_, rfl⟩
 have hR2 : (R.take (i * 2) ++ cs ++ R.drop (i * 2 + cs.length)).length = G * 2 := by simp [HCS.out]; omega
 have HN3 : Hid (Blk W3 N 31 (R.take (i * 2) ++ cs ++ R.drop (i * 2 + cs.length))) := by rw [hW3]; exact Lib.hid (Blk.setCells cs (i * 2) HN2.out (by rw [hRl, HCS.out]; omega))
 have HF3 : Hid (Fr No w W3) := by rw [hW3]; exact Lib.hid (Fr.setCells _ _ HF2.out (.inr hNw))
 have HB3 : Hid (Blk W3 b 31 L) := Lib.hid (HB.out.fr HF3.out (No.no _))
 have HBB3 := Lib.hid (HBB.out W3.drew N G _ hR2 hG HN3.out.drew HB3.out.drew)
 have HRl := Lib.hid hRl
 have HRt := Lib.hid hRt
 have HR2 := Lib.hid hR2
 have HW2 := Lib.hid hW2
 have HG := Lib.hid hG
 have HGm := Lib.hid hGm
 rw [← hW3] at HA2
 have HW3 := Lib.hid hW3
 have HN := Lib.hid hN
 have HNw := Lib.hid hNw
 clear hRl hRt hR2 hW2 hW3 hN hNw hrz hGm
 go_wp2_with (at_builtin; refine wpList_append_is _ rfl _ _ 26 3 rfl _ _ rfl rfl (HRZ1.out _) ?_)
 rw [HA2.out]
 go_wp2
 go_region_law (refine step_copy_runI rfl _ _ 26 26 rfl _ _ (by simp [Act.eval, Act.put, e16]; try rfl) (by simp [Act.eval, Act.put]; try rfl) (HBB3.out _ _ _) ?_)
 go_wp2
 go_ret
 refine ⟨G, N, R, HNw.out, HG.out, HGm.out, HRl.out, HRt.out, rfl, Fr.setCells _ _ HF3.out.drew (.inr HNw.out), ?_⟩
 exact Blk.setCells M ((i + 2) * 2) HN3.out.drew (by rw [HR2.out, HCL.out]; have := HG.out; omega)
end Go.Proofs.Ytnjhocjgpppeaaa
