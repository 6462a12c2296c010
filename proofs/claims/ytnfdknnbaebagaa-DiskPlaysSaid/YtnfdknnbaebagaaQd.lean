/-
  Texts of this claim, laid together: To, Tp, Tr, Ts, Tt, Ua, Ub, Ld, Da, Oa, Ob, Uc, Ud, Ue, Uf, Ug, Uh, Ui, Uj, Uk, Open, Ul, Um, Un, Up, Uq, Ur, Ty.
-/
import Derived.Test.YtnfdknnbaebagaaQc
import Derived.Test.YtnfdknnbaebagaaProg
import Derived.Test.YtnfdknnbaebagaaChecked
import Derived.Shelf.SlIterI.Nil
import Derived.Shelf.SortM.Plain
import Derived.Shelf.SortM.SortNone
import Derived.Ground.GgzProg
import Derived.Ground.SlgmProg
import Derived.Test.YtnfdknnbaebagaaQa
import Derived.Deep.QuietTactic
import Derived.BigQuiet
import Derived.RegionTactic
import Derived.BigRegion
import Derived.Deep.RegionLaw
import Derived.Deep.RegionWith
import Derived.Outline
import Derived.IntWalk
import Derived.Deep.SlicePairs
import Derived.ProofKit
import Derived.OpenShut
import Derived.Carry
import Derived.Lib.SmallJoins

namespace Go.Proofs.Ytnfdknnbaebagaa.Sm
open Go Go.RowKit
def posL (i : Nat) : List Nat → Nat → Option Nat
 | [], _ => none
 | j :: l, k => if i = j then some k else posL i l (k + 1)
theorem posL_iff {i : Nat} : ∀ {l : List Nat} {k j : Nat}, l.Nodup → (posL i l k = some j ↔ k ≤ j ∧ l[j - k]? = some i)
 | [], k, j, _ => by simp [posL]
 | q :: l, k, j, h => by
   rw [List.nodup_cons] at h
   unfold posL
   by_cases e : i = q
   · subst e
     rw [if_pos rfl, Option.some.injEq]
     constructor
     · rintro rfl; exact ⟨Nat.le_refl _, by simp⟩
     · rintro ⟨h1, h2⟩
       by_cases hj : k = j
       · exact hj
       · exfalso
         obtain ⟨d, rfl⟩ : ∃ d, j = k + (d + 1) := ⟨j - k - 1, by omega⟩
         rw [show k + (d + 1) - k = d + 1 by omega, List.getElem?_cons_succ] at h2
         exact h.1 (List.mem_of_getElem? h2)
   · rw [if_neg e, posL_iff h.2]
     constructor
     · rintro ⟨h1, h2⟩
       refine ⟨by omega, ?_⟩
       rw [show j - k = (j - (k + 1)) + 1 by omega]; simpa using h2
     · rintro ⟨h1, h2⟩
       by_cases hj : k = j
       · subst hj; simp at h2; exact absurd h2.symm e
       · refine ⟨by omega, ?_⟩
         rw [show j - k = (j - (k + 1)) + 1 by omega] at h2; simpa using h2
def inS (μ : List Nat) (i : Nat) : Option Nat := posL i μ 0
theorem inS_iff {μ : List Nat} (h : μ.Nodup) {i j : Nat} : inS μ i = some j ↔ μ[j]? = some i := by
 unfold inS
 rw [posL_iff h]; simp
def outS (μ E : List Nat) (n : Nat) (j : Nat) : Option Nat := match μ[j]? with
 | some i => some i
 | none => match posL j E 0 with
   | some p => some (n + p)
   | none => none
def inEnv (ρ : Env) (μ : List Nat) : Env := ⟨fun j => match μ[j]? with | some i => ρ i | none => none, ρ.im⟩
theorem inEnv_at (ρ : Env) (μ : List Nat) (j : Nat) : (inEnv ρ μ) j = match μ[j]? with | some i => ρ i | none => none := rfl
theorem inEnv_some {ρ : Env} {μ : List Nat} {j : Nat} {p : Nat × Nat} (h : (inEnv ρ μ) j = some p) : ∃ i, μ[j]? = some i ∧ ρ i = some p := by
 rw [inEnv_at] at h
 split at h
 · rename_i i hi; exact ⟨i, hi, h⟩
 · cases h
theorem inEnv_ren {ρ : Env} {μ : List Nat} (h : μ.Nodup) : Ren (inS μ) ρ (inEnv ρ μ) :=
 ⟨fun {i j} hs => by rw [inEnv_at, (inS_iff h).1 hs], rfl⟩
def inBs (F : Nat → Nat → Prop) (μ : List Nat) (ρ : Env) (w : World) : Bs := ⟨w, fun k => ∃ i ∈ μ, ρ i ≠ none ∧ F i k, inEnv ρ μ, fun j => ∃ i, μ[j]? = some i ∧ ρ i = none⟩
section
variable {w0 : Bs} {w w' : World} {ρ ρ' : Env} {H H' H2 : Tr AB} {n n' : Nat} {F : Nat → Nat → Prop} {μ E : List Nat} {L : List AB}
theorem HR.inner (hr : HR w0 ρ H n w) (hF : Foot w0 ρ H w F) (hμ : μ.Nodup) (hL : L.length = μ.length) (h : ∀ j i : Nat, μ[j]? = some i → ∃ B, H.get i = some B ∧ B.live = true ∧ ∃ C, L[j]? = some C ∧ leB (renB (inS μ) B) C) (hkm : ∀ i ∈ μ, ∀ (T : TypeId) (l : List AV), H.get i = some (.mem T none l) → ρ i ≠ none) :
   HR (inBs F μ ρ w) (inEnv ρ μ) (memF L 0 .e) μ.length w := by
 have hren := inEnv_ren (ρ := ρ) hμ
 have blk : ∀ {j i : Nat} {C : AB}, μ[j]? = some i → (memF L 0 .e).get j = some C → ∃ B, H.get i = some B ∧ B.live = true ∧ leB (renB (inS μ) B) C := by
   intro j i C hj hC
   obtain ⟨B, h1, h2, C', h3, h4⟩ := h j i hj
   rw [memF_get0, h3] at hC
   cases hC
   exact ⟨B, h1, h2, h4⟩
 have live : ∀ {j i : Nat} {C : AB}, μ[j]? = some i → (memF L 0 .e).get j = some C → C.live = true → ∃ B, H.get i = some B ∧ B.live = true ∧ (C.isObj = false → B.isObj = false) ∧ ∀ x, C = .obj x → B = .obj x := by
   intro j i C hj hC hl
   obtain ⟨B, h1, h2, h3⟩ := blk hj hC
   obtain ⟨h4, h5, h6⟩ := leB_live h3 hl
   exact ⟨B, h1, h2, fun e => renB_obj h4 (h5 ▸ e), fun x e => renB_obj' (h6 x e)⟩
 refine ⟨fun {j b c C} h1 h2 => ?_, ⟨fun j k => ∃ i, μ[j]? = some i ∧ F i k, fun {j b c C} h1 h2 h3 => ?_, fun {j b c x} h1 h2 => ?_, fun {j l k p q C D} h1 h2 h3 h4 h5 h6 h7 h8 => ?_, fun {j k p C} h1 h2 h3 h4 => ?_⟩, fun {j} hj => ⟨?_, ?_⟩, fun {j b c} h1 => ?_, Fr.refl _ _, Env.le_refl _, hr.im, fun h => .inl h, fun {j} ⟨i, hj, hn⟩ => ?_⟩
 · obtain ⟨i, hj, hi⟩ := inEnv_some h1
   obtain ⟨B, h3, _, h4⟩ := blk hj h2
   obtain ⟨o, ho, hbr⟩ := hr.blk hi h3
   exact ⟨o, ho, leB_BR h4 (hbr.ren hren)⟩
 · obtain ⟨i, hj, hi⟩ := inEnv_some h1
   obtain ⟨B, g1, g2, g3, _⟩ := live hj h2 h3
   obtain ⟨g4, g5⟩ := hF.one hi g1 g2
   refine ⟨⟨i, hj, g4⟩, fun e k ⟨i', hj', hk⟩ => ?_⟩
   rw [hj] at hj'; cases hj'
   exact g5 (g3 e) k hk
 · obtain ⟨i, hj, hi⟩ := inEnv_some h1
   obtain ⟨B, g1, g2, _, g4⟩ := live hj h2 rfl
   have := hF.obj hi (g4 x rfl ▸ g1)
   have e : (fun k => ∃ i, μ[j]? = some i ∧ F i k) = F i := by
     funext k
     apply propext
     constructor
     · rintro ⟨i', hj', hk⟩; rw [hj] at hj'; cases hj'; exact hk
     · exact fun hk => ⟨i, hj, hk⟩
   rw [e]; exact this
 · obtain ⟨i, hj, hi⟩ := inEnv_some h1
   obtain ⟨i', hj', hi'⟩ := inEnv_some h2
   obtain ⟨B, g1, g2, _⟩ := live hj h3 h5
   obtain ⟨B', g3, g4, _⟩ := live hj' h4 h6
   obtain ⟨a, ha1, ha2⟩ := h7
   obtain ⟨a', hb1, hb2⟩ := h8
   rw [hj] at ha1; cases ha1
   rw [hj'] at hb1; cases hb1
   have := hF.apart hi hi' g1 g3 g2 g4 ha2 hb2
   subst this
   have e1 := (inS_iff hμ).2 hj
   have e2 := (inS_iff hμ).2 hj'
   rw [e1] at e2; cases e2; rfl
 · obtain ⟨i, hj, hi⟩ := inEnv_some h1
   obtain ⟨B, g1, g2, _⟩ := live hj h2 h3
   obtain ⟨a, ha1, ha2⟩ := h4
   rw [hj] at ha1; cases ha1
   have := hF.there hi g1 g2 ha2
   exact ⟨.inl ⟨i, List.mem_of_getElem? hj, by rw [hi]; nofun, ha2⟩, this.2⟩
 · rw [inEnv_at, List.getElem?_eq_none hj]
 · rw [memF_get0, List.getElem?_eq_none (by rw [hL]; exact hj)]
 · obtain ⟨i, hj, hi⟩ := inEnv_some h1
   obtain ⟨B, g1, g2, _⟩ := h j i hj
   exact ⟨.inl ⟨i, List.mem_of_getElem? hj, by rw [hi]; nofun, (hF.one hi g1 g2).1⟩, (hr.base hi).2⟩
 · refine ⟨by rw [inEnv_at, hj]; exact hn, (List.getElem?_eq_some_iff.1 hj).1, fun T l hq => ?_⟩
   obtain ⟨B, h1, _, h3⟩ := blk hj hq
   refine leB_nomem h3 (fun T l e => ?_) _ _ rfl
   obtain ⟨l', e'⟩ := renB_mem e
   exact hkm i (List.mem_of_getElem? hj) T l' (by rw [h1, e']) hn
def outEnv (ρ ρ' : Env) (E : List Nat) (n : Nat) : Env := ⟨fun q => if q < n then ρ q else match E[q - n]? with | some j => ρ' j | none => none, ρ'.im⟩
theorem outEnv_at (ρ ρ' : Env) (E : List Nat) (n q : Nat) : (outEnv ρ ρ' E n) q = if q < n then ρ q else match E[q - n]? with | some j => ρ' j | none => none := rfl
theorem outS_ren (_ : HR w0 ρ H n w) (hlt : ∀ i ∈ μ, i < n) (hE : E.Nodup) (hi' : HR (inBs F μ ρ w) ρ' H' n' w') : Ren (outS μ E n) ρ' (outEnv ρ ρ' E n) := by
 refine ⟨fun {j q} hs => ?_, rfl⟩
 unfold outS at hs
 cases hμ : μ[j]? with
 | some i =>
   rw [hμ] at hs
   cases hs
   have hmem := List.mem_of_getElem? hμ
   rw [outEnv_at, if_pos (hlt q hmem)]
   have h1 : (inBs F μ ρ w).ρ j = ρ q := by show (inEnv ρ μ) j = _; rw [inEnv_at, hμ]
   cases hq : ρ q with
   | some b => exact (hi'.le j b (h1.trans hq)).symm
   | none => exact (hi'.kb (i := j) ⟨q, hμ, hq⟩).1.symm
 | none =>
   rw [hμ] at hs
   cases hp : posL j E 0 with
   | none => rw [hp] at hs; cases hs
   | some p =>
     rw [hp] at hs
     cases hs
     have := (posL_iff hE).1 hp
     rw [outEnv_at, if_neg (by omega), show n + p - n = p by omega]
     rw [Nat.sub_zero] at this
     rw [this.2]
def innN (μ E : List Nat) (n q : Nat) : Option Nat := if q < n then inS μ q else E[q - n]?
theorem HR.outer (hr : HR w0 ρ H n w) (hF : Foot w0 ρ H w F) (hμ : μ.Nodup) (hlv : ∀ i ∈ μ, ∃ B, H.get i = some B ∧ B.live = true ∧ ∀ T l, B = .mem T none l → ρ i ≠ none) (hE : E.Nodup) (hEk : ∀ j ∈ E, μ.length ≤ j) (hi' : HR (inBs F μ ρ w) ρ' H' n' w')
   (g1 : ∀ q, q < n → q ∉ μ → H2.get q = H.get q) (g2 : ∀ j i : Nat, μ[j]? = some i → ∃ C, H2.get i = some C ∧ ∃ B, H'.get j = some B ∧ leB (renB (outS μ E n) B) C)
   (g3 : ∀ p j : Nat, E[p]? = some j → ∃ C, H2.get (n + p) = some C ∧ ∃ B, H'.get j = some B ∧ leB (renB (outS μ E n) B) C) (g4 : ∀ q, n + E.length ≤ q → H2.get q = none) :
   HR w0 (outEnv ρ ρ' E n) H2 (n + E.length) w' ∧ Ext ρ (outEnv ρ ρ' E n) H H2 n (n + E.length) := by
 have hlt : ∀ i ∈ μ, i < n := fun i hi => by
   obtain ⟨B, h1, _⟩ := hlv i hi
   rcases Nat.lt_or_ge i n with h | h
   · exact h
   · rw [(hr.top h).2] at h1; cases h1
 have hren := outS_ren (E := E) hr hlt hE hi'
 obtain ⟨G, hG⟩ := hi'.foot
 have hfr := hi'.fr
 have himn : ∀ {k : Nat} {c : Array Value}, ρ'.im k = some c → ρ.im k = some c ∨ (∃ i ∈ μ, ρ i ≠ none ∧ F i k) ∨ w.heap.size ≤ k := fun h => hi'.imn h
 have himle : ρ.im.le ρ'.im := hi'.le.im
 have hle : ρ.le (outEnv ρ ρ' E n) := ⟨fun i b h => by
   rw [outEnv_at, if_pos (by
     rcases Nat.lt_or_ge i n with h' | h'
     · exact h'
     · rw [(hr.top h').1] at h; cases h)]; exact h, himle⟩
 -- what stands behind a name
 have inr : ∀ {q j : Nat} {p : Nat × Nat}, innN μ E n q = some j → (outEnv ρ ρ' E n) q = some p → ρ' j = some p := by
   intro q j p hq hp
   unfold innN at hq
   rw [outEnv_at] at hp
   by_cases h : q < n
   · rw [if_pos h] at hq hp
     have := (inS_iff hμ).1 hq
     exact hi'.le j p (by show (inEnv ρ μ) j = _; rw [inEnv_at, this]; exact hp)
   · rw [if_neg h] at hq hp
     rw [hq] at hp; exact hp
 have cls : ∀ {q : Nat} {p : Nat × Nat} {C : AB}, (outEnv ρ ρ' E n) q = some p → H2.get q = some C → C.live = true →
     (∃ j B, innN μ E n q = some j ∧ H'.get j = some B ∧ B.live = true ∧ (C.isObj = false → B.isObj = false) ∧ ∀ x, C = .obj x → B = .obj x) ∨ (innN μ E n q = none ∧ q < n ∧ q ∉ μ ∧ ρ q = some p ∧ H.get q = some C) := by
   intro q p C hp hC hl
   have fin : ∀ {B : AB}, leB (renB (outS μ E n) B) C → B.live = true ∧ (C.isObj = false → B.isObj = false) ∧ ∀ x, C = .obj x → B = .obj x := fun h => by
     obtain ⟨h4, h5, h6⟩ := leB_live h hl
     exact ⟨renB_live h4, fun e => renB_obj h4 (h5 ▸ e), fun x e => renB_obj' (h6 x e)⟩
   by_cases h : q < n
   · by_cases hm : q ∈ μ
     · obtain ⟨j, hj⟩ := List.getElem?_of_mem hm
       obtain ⟨C', h1, B, h2, h3⟩ := g2 j q hj
       rw [hC] at h1; cases h1
       exact .inl ⟨j, B, by unfold innN; rw [if_pos h]; exact (inS_iff hμ).2 hj, h2, fin h3⟩
     · refine .inr ⟨?_, h, hm, by rw [outEnv_at, if_pos h] at hp; exact hp, by rw [← g1 q h hm]; exact hC⟩
       unfold innN; rw [if_pos h]
       cases hj : inS μ q with
       | none => rfl
       | some j => exact absurd (List.mem_of_getElem? ((inS_iff hμ).1 hj)) hm
   · rw [outEnv_at, if_neg h] at hp
     cases hj : E[q - n]? with
     | none => rw [hj] at hp; cases hp
     | some j =>
       obtain ⟨C', h1, B, h2, h3⟩ := g3 (q - n) j hj
       rw [show n + (q - n) = q by omega, hC] at h1; cases h1
       exact .inl ⟨j, B, by unfold innN; rw [if_neg h]; exact hj, h2, fin h3⟩
 -- the whole's other things lie off the part
 have off : ∀ {q k : Nat} {p : Nat × Nat} {C : AB}, q ∉ μ → ρ q = some p → H.get q = some C → C.live = true → F q k → (¬ ∃ i ∈ μ, ρ i ≠ none ∧ F i k) ∧ k < w.heap.size := by
   intro q k p C h1 h2 h3 h4 h5
   refine ⟨fun ⟨i, hi, hne, hk⟩ => ?_, (hF.there h2 h3 h4 h5).2.1⟩
   obtain ⟨B, hB, hl, _⟩ := hlv i hi
   cases hb : ρ i with
   | none => exact hne hb
   | some b =>
     have := hF.apart h2 hb h3 hB h4 hl h5 hk
     subst this; exact h1 hi
 have same : ∀ {q k : Nat} {p : Nat × Nat} {C : AB}, q ∉ μ → ρ q = some p → H.get q = some C → C.live = true → F q k → w'.heap[k]? = w.heap[k]? := fun h1 h2 h3 h4 h5 =>
   hfr.block _ (off h1 h2 h3 h4 h5).2 (off h1 h2 h3 h4 h5).1
 have innne : ∀ {q l j : Nat}, innN μ E n q = some j → innN μ E n l = some j → q = l := by
   intro q l j h1 h2
   unfold innN at h1 h2
   by_cases a : q < n <;> by_cases b : l < n
   · rw [if_pos a] at h1; rw [if_pos b] at h2
     have e1 := (inS_iff hμ).1 h1
     have e2 := (inS_iff hμ).1 h2
     rw [e1] at e2; cases e2; rfl
   · rw [if_pos a] at h1; rw [if_neg b] at h2
     have e1 := (inS_iff hμ).1 h1
     have e2 := hEk j (List.mem_of_getElem? h2)
     have := (List.getElem?_eq_some_iff.1 e1).1
     omega
   · rw [if_neg a] at h1; rw [if_pos b] at h2
     have e1 := (inS_iff hμ).1 h2
     have e2 := hEk j (List.mem_of_getElem? h1)
     have := (List.getElem?_eq_some_iff.1 e1).1
     omega
   · rw [if_neg a] at h1; rw [if_neg b] at h2
     have := (List.getElem?_inj (List.getElem?_eq_some_iff.1 h1).1 hE).1 (h1.trans h2.symm)
     omega
 refine ⟨⟨fun {q b c C} h1 h2 => ?_, ⟨fun q k => match innN μ E n q with | some j => G j k | none => F q k, fun {q b c C} h1 h2 h3 => ?_, fun {q b c x} h1 h2 => ?_, fun {q l k p p' C D} h1 h2 h3 h4 h5 h6 h7 h8 => ?_, fun {q k p C} h1 h2 h3 h4 => ?_⟩, fun {q} hq => ⟨?_, g4 q hq⟩, fun {q b c} h1 => ?_, hr.fr.trans hfr (fun k ⟨i, hi, hne, hk⟩ => ?_), Env.le_trans hr.le hle, hi'.im, fun {k c} h1 => ?_, fun {q} hk => ?_⟩, ⟨hle, fun {i} hi => by rw [outEnv_at, if_pos hi], fun {i} hi hn => ?_, Nat.le_add_right _ _⟩⟩
 · -- blocks
   by_cases h : q < n
   · by_cases hm : q ∈ μ
     · obtain ⟨j, hj⟩ := List.getElem?_of_mem hm
       obtain ⟨C', e1, B, e2, e3⟩ := g2 j q hj
       rw [h2] at e1; cases e1
       have hpj := inr (show innN μ E n q = some j by unfold innN; rw [if_pos h]; exact (inS_iff hμ).2 hj) h1
       obtain ⟨o, ho, hbr⟩ := hi'.blk hpj e2
       exact ⟨o, ho, leB_BR e3 (hbr.ren hren)⟩
     · rw [outEnv_at, if_pos h] at h1
       rw [g1 q h hm] at h2
       obtain ⟨o, ho, hbr⟩ := hr.blk h1 h2
       cases hl : C.live with
       | true => exact ⟨o, (same hm h1 h2 hl (hF.one h1 h2 hl).1).trans ho, hbr.mono hle⟩
       | false =>
         have hlt := Nat.lt_of_lt_of_le (hr.base h1).2 hfr.size
         have hlt' : b < w'.heap.size := hlt
         refine ⟨w'.heap[b], by simp [hlt'], ?_⟩
         cases C <;> first | (cases hl; done) | trivial
   · have h1' := h1
     rw [outEnv_at, if_neg h] at h1'
     cases hj : E[q - n]? with
     | none => rw [hj] at h1'; cases h1'
     | some j =>
       rw [hj] at h1'
       obtain ⟨C', e1, B, e2, e3⟩ := g3 (q - n) j hj
       rw [show n + (q - n) = q by omega, h2] at e1; cases e1
       obtain ⟨o, ho, hbr⟩ := hi'.blk h1' e2
       exact ⟨o, ho, leB_BR e3 (hbr.ren hren)⟩
 · rcases cls h1 h2 h3 with ⟨j, B, e1, e2, e3, e4, _⟩ | ⟨e1, e2, e3, e4, e5⟩
   · simp only [e1]
     obtain ⟨a, b'⟩ := hG.one (inr e1 h1) e2 e3
     exact ⟨a, fun e => b' (e4 e)⟩
   · simp only [e1]
     exact hF.one e4 e5 h3
 · rcases cls h1 h2 rfl with ⟨j, B, e1, e2, e3, _, e5⟩ | ⟨e1, e2, e3, e4, e5⟩
   · simp only [e1]
     exact hG.obj (inr e1 h1) (e5 x rfl ▸ e2)
   · simp only [e1]
     exact Ob.rep_im himle (Ob.rep_st (hF.obj e4 e5) (fun k hk => same e3 e4 e5 rfl hk))
 · rcases cls h1 h3 h5 with ⟨j, B, e1, e2, e3, _⟩ | ⟨e1, e2, e3, e4, e5⟩
   · rcases cls h2 h4 h6 with ⟨j', B', d1, d2, d3, _⟩ | ⟨d1, d2, d3, d4, d5⟩
     · simp only [e1] at h7
       simp only [d1] at h8
       have := hG.apart (inr e1 h1) (inr d1 h2) e2 d2 e3 d3 h7 h8
       subst this
       exact innne e1 d1
     · exfalso
       simp only [e1] at h7
       simp only [d1] at h8
       have := off d3 d4 d5 h6 h8
       rcases (hG.there (inr e1 h1) e2 e3 h7).1 with a | a
       · exact this.1 a
       · have := this.2
         have a' : w.heap.size ≤ k := a
         omega
   · rcases cls h2 h4 h6 with ⟨j', B', d1, d2, d3, _⟩ | ⟨d1, d2, d3, d4, d5⟩
     · exfalso
       simp only [e1] at h7
       simp only [d1] at h8
       have := off e3 e4 e5 h5 h7
       rcases (hG.there (inr d1 h2) d2 d3 h8).1 with a | a
       · exact this.1 a
       · have := this.2
         have a' : w.heap.size ≤ k := a
         omega
     · simp only [e1] at h7
       simp only [d1] at h8
       exact hF.apart e4 d4 e5 d5 h5 h6 h7 h8
 · rcases cls h1 h2 h3 with ⟨j, B, e1, e2, e3, _⟩ | ⟨e1, e2, e3, e4, e5⟩
   · simp only [e1] at h4
     obtain ⟨a, b, c⟩ := hG.there (inr e1 h1) e2 e3 h4
     refine ⟨?_, b, c⟩
     rcases a with ⟨i, hi, hne, hk⟩ | a
     · obtain ⟨B', hB', hl', _⟩ := hlv i hi
       cases hb : ρ i with
       | none => exact absurd hb hne
       | some b' => exact (hF.there hb hB' hl' hk).1
     · exact .inr (Nat.le_trans hr.fr.size a)
   · simp only [e1] at h4
     obtain ⟨a, b, c⟩ := hF.there e4 e5 h3 h4
     refine ⟨a, Nat.lt_of_lt_of_le b hfr.size, ?_⟩
     show ρ'.im k = none
     cases hk : ρ'.im k with
     | none => rfl
     | some c' =>
       rcases himn hk with d | d | d
       · rw [c] at d; cases d
       · exact absurd d (off e3 e4 e5 h3 h4).1
       · omega
 · rw [outEnv_at, if_neg (by omega), List.getElem?_eq_none (by omega)]
 · by_cases h : q < n
   · rw [outEnv_at, if_pos h] at h1
     have := hr.base h1
     exact ⟨this.1, Nat.lt_of_lt_of_le this.2 hfr.size⟩
   · rw [outEnv_at, if_neg h] at h1
     cases hj : E[q - n]? with
     | none => rw [hj] at h1; cases h1
     | some j =>
       rw [hj] at h1
       obtain ⟨a, b'⟩ := hi'.base h1
       refine ⟨?_, b'⟩
       rcases a with ⟨i, hi, hne, hk⟩ | a
       · obtain ⟨B', hB', hl', _⟩ := hlv i hi
         cases hb : ρ i with
         | none => exact absurd hb hne
         | some b'' => exact (hF.there hb hB' hl' hk).1
       · exact .inr (Nat.le_trans hr.fr.size a)
 · obtain ⟨B', hB', hl', _⟩ := hlv i hi
   cases hb : ρ i with
   | none => exact absurd hb hne
   | some b' => exact (hF.there hb hB' hl' hk).1
 · rcases himn h1 with d | ⟨i, hi, hne, hk⟩ | d
   · exact hr.imn d
   · obtain ⟨B', hB', hl', _⟩ := hlv i hi
     cases hb : ρ i with
     | none => exact absurd hb hne
     | some b' => exact .inr ((hF.there hb hB' hl' hk).1)
   · exact .inr (.inr (Nat.le_trans hr.fr.size d))
 · obtain ⟨k1, k2, k3⟩ := hr.kb hk
   refine ⟨by rw [outEnv_at, if_pos k2]; exact k1, Nat.lt_of_lt_of_le k2 (Nat.le_add_right _ _), fun T l hq => ?_⟩
   by_cases hm : q ∈ μ
   · obtain ⟨j, hj⟩ := List.getElem?_of_mem hm
     obtain ⟨C, e1, B, e2, e3⟩ := g2 j q hj
     rw [e1] at hq
     cases hq
     refine leB_nomem e3 (fun T l e => ?_) _ _ rfl
     obtain ⟨l', e'⟩ := renB_mem e
     exact (hi'.kb (i := j) ⟨q, hj, k1⟩).2.2 _ _ (by rw [e2, e'])
   · rw [g1 q k2 hm] at hq; exact k3 _ _ hq
 · by_cases hm : i ∈ μ
   · intro T l hq
     obtain ⟨B', hB', _, hne⟩ := hlv i hm
     rw [hB'] at hq
     cases hq
     exact absurd hn (hne _ _ rfl)
   · exact Keeps.of (g1 i hi hm)
end
theorem pure_calls {S : Sy} {P : Program} (hok : S.Ok P) {f : FuncId} {args : List AV} {Q : AV → Tr AB → Nat → Prop} (h0 : (startF (tabOf P) f args .e 0).isSome = true) (h : To S P f (startOf P f args .e 0) Q) {w : World} {vs : List Value} (hvs : VRs (envOf w) args vs) :
   Calls P f vs.toArray w (fun e w' => ∃ x H' n' ρ' v, Q x H' n' ∧ e = .returned v ∧ VR ρ' x v ∧ Fr No w w' ∧ HR ⟨w, No, envOf w, fun _ => False⟩ ρ' H' n' w') := by
 refine (To.calls hok (startOf_some h0) h (HR.all w) hvs).mono ?_
 rintro e w' ⟨x, H', n', ρ', v, hq, rfl, hv, hr⟩
 exact ⟨x, H', n', ρ', v, hq, rfl, hv, hr.fr, hr⟩
theorem im_all {w0 : Bs} {ρ : Env} {H : Tr AB} {n : Nat} {w : World} (hr : HR w0 ρ H n w) : ρ.im.le (imOf w) := fun b c h => by
 obtain ⟨T, fz, h1⟩ := hr.im h
 unfold imOf
 rw [h1]
def numF : List AV → Int
 | [.sy (.int _ z)] => z
 | [.v (.int _ z)] => z
 | _ => 0
def numsF (n : Nat) (f : Nat → List AV) : List Int := (List.range n).map fun r => numF (f r)
def intsF (l : List Int) : Nat → List AV := fun r => [.sy (.int .i64 (l.getD r 0))]
theorem numsF_ints (l : List Int) : numsF l.length (intsF l) = l := by
 unfold numsF
 apply List.ext_getElem?
 intro j
 by_cases h : j < l.length
 · rw [List.getElem?_map, List.getElem?_range h]
   simp [intsF, numF, h]
 · rw [List.getElem?_eq_none (by simp; omega), List.getElem?_eq_none (by omega)]
theorem rowsI (l : List Int) (I : Im) (r : Nat) (h : r < l.length) : VRs0 I (intsF l r) (((l.map iv).drop (r * 1)).take 1) := by
 rw [Nat.mul_one, ← List.map_drop, ← List.map_take]
 have : (l.drop r).take 1 = [l.getD r 0] := by
   rw [List.drop_eq_getElem_cons h, List.getD_eq_getElem?_getD, List.getElem?_eq_getElem h]; rfl
 rw [this]
 exact .cons (.sy _) .nil
theorem im_ints {ρ : Env} {a : Option Addr} {c : Nat} {zs : List Int} (hc : zs.length ≤ c) (hm : c ≤ maxLen) (ha : a = none → c = 0) (h : ∀ ad, a = some ad → ∀ (j : Nat) (z : Int), zs[j]? = some z → ρ.im.cell (ad.add j) = some (iv z)) : VR ρ (.im 1 zs.length (intsF zs)) (.slice a zs.length c) :=
 .im (vs := zs.map iv) ⟨by simp, hc, hm, ha, fun ad had j u hu => by
   rw [List.getElem?_map] at hu
   cases hz : zs[j]? with
   | none => rw [hz] at hu; cases hu
   | some z => rw [hz] at hu; cases hu; exact h ad had j z hz⟩ (fun r hr => rowsI _ _ r hr)
def intsL : List AV → Option (List Int)
 | [] => some []
 | x :: l => match intA x, intsL l with
   | some (.i64, z), some r => some (z :: r)
   | _, _ => none
theorem intsL_sound {ρ : Env} : ∀ {l : List AV} {zs : List Int} {vs : List Value}, intsL l = some zs → VRs ρ l vs → vs = zs.map iv
 | [], zs, vs, h, hv => by simp [intsL] at h; subst h; cases hv; rfl
 | x :: l, zs, vs, h, hv => by
   unfold intsL at h
   split at h
   · rename_i z r hz hr
     cases h
     cases hv with
     | cons e t => rw [intA_sound hz e, intsL_sound hr t]; rfl
   · cases h
def bsrcM (x : AV) (H : Tr AB) : Option (List UInt8 × Prop) := match bsrc x H with
 | some r => some r
 | none => match x with
   | .sl i o n c => match H.get i with
     | some (.mem _ _ l) => cond (Nat.ble n c && Nat.ble c 1073741824 && Nat.ble (o + n) l.length) (bytesL ((l.drop o).take n)) none
     | _ => none
   | .su i o n _ q => match H.get i with
     | some (.mem _ (some 1) l) => cond (Nat.ble n q && Nat.ble (o + n) l.length) (bytesL ((l.drop o).take n)) none
     | _ => none
   | .ws i o n w => wsrc (.ws i o n w) H
   | _ => none
theorem mem_win {w0 : Bs} {ρ : Env} {H : Tr AB} {n : Nat} {w : World} (hr : HR w0 ρ H n w) {i b d o m c : Nat} {T : TypeId} {z : Option Nat} {l : List AV} {xs : List Value} (hi : ρ i = some (b, d)) (hB : H.get i = some (.mem T z l)) (hle : o + m ≤ l.length) (hc : m ≤ c) (hm : c ≤ maxLen)
   (hx : ∀ vs, VRs ρ ((l.drop o).take m) vs → vs = xs) : Win w (some ⟨b, o, none⟩) m c xs := by
 obtain ⟨ob, ho, vs, sp, fz, hv, rfl, hz, _⟩ := hr.blk hi hB
 have hlen := hv.length
 have := win_block (o := o) (n := m) ho (by simp; omega) hc hm
 rw [List.drop_append_of_le_length (by omega), List.take_append_of_le_length (by simp; omega), hx _ ((hv.drop o).take m)] at this
 exact this
theorem bsrcM_sound {w0 : Bs} {ρ : Env} {H : Tr AB} {n : Nat} {w : World} (hr : HR w0 ρ H n w) {x : AV} {u : Value} {r : List UInt8 × Prop} (h : bsrcM x H = some r) (hC : r.2) (hx : VR ρ x u) :
   (∃ a c, u = .slice a r.1.length c ∧ Win w a r.1.length c (r.1.map byt)) ∧ (bsrc x H = some r ∨ r.1 = [] ∨ ∃ i b d o c B, ρ i = some (b, d) ∧ H.get i = some B ∧ B.live = true ∧ B.isObj = false ∧ u = .slice (some ⟨b, o, none⟩) r.1.length c) := by
 unfold bsrcM at h
 split at h
 · cases h; exact ⟨bsrc_sound hr (by assumption) hC hx, .inl (by assumption)⟩
 · split at h
   · rename_i i o m c _
     split at h
     · rename_i T z l hB
       cases hc : (Nat.ble m c && Nat.ble c 1073741824 && Nat.ble (o + m) l.length) with
       | false => rw [hc] at h; cases h
       | true =>
         rw [hc, cond_true] at h
         simp only [Bool.and_eq_true, Nat.ble_eq] at hc
         cases hx with
         | @sl _ b d _ _ _ hi =>
           have hw := mem_win (xs := r.1.map byt) hr hi hB hc.2 hc.1.1 (by have := hc.1.2; simp only [maxLen]; omega) (fun vs hv => bytesL_sound h hC hv)
           have hl : m = r.1.length := by have := hw.len; simpa using this.symm
           subst hl
           exact ⟨⟨_, _, rfl, hw⟩, .inr (.inr ⟨i, b, d, o, c, _, hi, hB, rfl, rfl, rfl⟩)⟩
     · cases h
   · rename_i i o m k q _
     split at h
     · rename_i T l hB
       cases hc : (Nat.ble m q && Nat.ble (o + m) l.length) with
       | false => rw [hc] at h; cases h
       | true =>
         rw [hc, cond_true] at h
         simp only [Bool.and_eq_true, Nat.ble_eq] at hc
         cases hx with
         | @su _ b d _ _ _ _ hi hn =>
           have hdm : d ≤ maxLen := by
             obtain ⟨ob, ho, vs, sp, fz, hv, rfl, hz, h1, h2⟩ := hr.blk hi hB
             exact h2
           have hw := mem_win (xs := r.1.map byt) (c := d - k) hr hi hB hc.2 (by omega) (by omega) (fun vs hv => bytesL_sound h hC hv)
           have hl : m = r.1.length := by have := hw.len; simpa using this.symm
           subst hl
           exact ⟨⟨_, _, rfl, hw⟩, .inr (.inr ⟨i, b, d, o, d - k, _, hi, hB, rfl, rfl, rfl⟩)⟩
     · cases h
   · rename_i i o m ww _
     refine ⟨wsrc_sound hr h hC hx, .inr ?_⟩
     unfold wsrc at h
     simp only at h
     split at h
     · rename_i T bs hB
       rw [beq_dec] at h
       by_cases hw : ww = 1
       · subst hw
         simp only [decide_true, cond_true, Option.some.injEq] at h
         subst h
         have hC' : o + m ≤ bs.length := hC
         have hl : ((bs.drop o).take m).length = m := by simp; omega
         cases hx with
         | @ws _ b d _ _ _ c hi hn hc => exact .inr ⟨i, b, d, o * 1, c, _, hi, hB, rfl, rfl, by simp only [hl]⟩
         | ws0 => exact .inl (by simp)
       · simp [hw] at h
     · cases h
   · cases h
def isrc (x : AV) (H : Tr AB) : Option (List Int × Prop) :=
 match x with
 | .v (.slice none 0 0) => some ([], True)
 | .im 1 n f => some (numsF n f, ∀ r, r < n → f r = intsF (numsF n f) r)
 | .ix _ _ 1 n f => some (numsF n f, ∀ r, r < n → f r = intsF (numsF n f) r)
 | .ow i n => match H.get i with
   | some (.rw _ 1 m f) => some (numsF n f, m = n ∧ ∀ r, r < n → f r = intsF (numsF n f) r)
   | _ => none
 | .sl i o n c => match H.get i with
   | some (.mem _ _ l) => cond (Nat.ble n c && Nat.ble c 1073741824 && Nat.ble (o + n) l.length) (match intsL ((l.drop o).take n) with | some zs => some (zs, True) | none => none) none
   | _ => none
 | _ => none
theorem numsF_len (n : Nat) (f : Nat → List AV) : (numsF n f).length = n := by simp [numsF]
theorem isrc_sound {w0 : Bs} {ρ : Env} {H : Tr AB} {n : Nat} {w : World} (hr : HR w0 ρ H n w) {x : AV} {u : Value} {r : List Int × Prop} (h : isrc x H = some r) (hC : r.2) (hx : VR ρ x u) : VR (envOf w) (.im 1 r.1.length (intsF r.1)) u := by
 have him := im_all hr
 unfold isrc at h
 split at h
 · cases h; cases hx; exact .im (winE_nil _ _) (fun r hr => absurd hr (Nat.not_lt_zero _))
 · rename_i m f
   cases h
   cases hx with
   | im hw hf =>
     rw [numsF_len]
     exact .im (hw.mono him) (fun r hr' => by rw [← hC r hr']; exact (hf r hr').mono him)
 · rename_i a c m f
   cases h
   cases hx with
   | ix hw hf =>
     rw [numsF_len]
     exact .im (hw.mono him) (fun r hr' => by rw [← hC r hr']; exact (hf r hr').mono him)
 · rename_i i m
   split at h
   · rename_i T m' f hB
     cases h
     obtain ⟨rfl, hC'⟩ : m' = m ∧ ∀ r, r < m → f r = intsF (numsF m f) r := hC
     rw [numsF_len]
     cases hx with
     | @ow _ b c _ hi hn hc =>
       obtain ⟨ob, ho, vs, sp, rfl, g1, g2, g3, g4, g5⟩ := hr.blk hi hB
       refine .im (vs := vs) ⟨by rw [g1], hn, hc, (fun e => by cases e), fun ad had j u hu => ?_⟩ (fun r hr' => by rw [← hC' r hr']; exact (g5 r hr').mono him)
       cases had
       rw [Addr.add_lit]
       refine imOf_cell ?_
       rw [cells_cell ho, Nat.zero_add, List.getElem?_append_left (List.getElem?_eq_some_iff.1 hu).1]; exact hu
     | ow0 => exact .im (winE_nil _ _) (fun r hr => absurd hr (Nat.not_lt_zero _))
   · cases h
 · rename_i i o m c
   split at h
   · rename_i T z l hB
     cases hc : (Nat.ble m c && Nat.ble c 1073741824 && Nat.ble (o + m) l.length) with
     | false => rw [hc] at h; cases h
     | true =>
       rw [hc, cond_true] at h
       simp only [Bool.and_eq_true, Nat.ble_eq] at hc
       split at h
       · rename_i zs hz
         cases h
         cases hx with
         | @sl _ b d _ _ _ hi =>
           have hw := mem_win (xs := zs.map iv) hr hi hB hc.2 hc.1.1 (by have := hc.1.2; simp only [maxLen]; omega) (fun vs hv => intsL_sound hz hv)
           have hl : m = zs.length := by have := hw.len; simpa using this.symm
           subst hl
           exact im_ints hw.cap hw.max hw.nil fun ad had j y hy => imOf_cell (hw.cell ad had j (iv y) (by rw [List.getElem?_map, hy]; rfl))
       · cases h
   · cases h
 · cases h
theorem inner_none {w0 : Bs} {ρ : Env} {H : Tr AB} {n : Nat} {w : World} (hr : HR w0 ρ H n w) : ∃ F, Foot w0 ρ H w F ∧ HR (inBs F [] ρ w) (inEnv ρ []) .e 0 w := by
 obtain ⟨F, hF⟩ := hr.foot
 exact ⟨F, hF, hr.inner (μ := []) (L := []) hF List.nodup_nil rfl (fun j i h => by simp at h) (fun i hi => by cases hi)⟩
theorem VR.toIx {ρ : Env} {w n : Nat} {f : Nat → List AV} {a : Option Addr} {c m : Nat} (h : VR ρ (.im w n f) (.slice a m c)) : m = n ∧ VR ρ (.ix a c w n f) (.slice a m c) := by
 cases h with
 | im hw hf => exact ⟨rfl, .ix hw hf⟩
theorem VR.imSlice {ρ : Env} {w n : Nat} {f : Nat → List AV} {u : Value} (h : VR ρ (.im w n f) u) : ∃ a c, u = .slice a n c ∧ (a = none → n = 0 ∧ c = 0) := by
 cases h with
 | im hw hf => exact ⟨_, _, rfl, fun e => by have h1 := hw.nil e; have h2 := hw.cap; omega⟩
def cloneK (e : TypeId) (w : Nat) (args : List AV) (H : Tr AB) (n : Nat) : Option ((AV × Tr AB × Nat) × Prop) :=
 match args with
 | [.v (.slice none 0 0)] => some ((.v (.slice none 0 0), H, n), True)
 | [.im w' 0 f] => cond (Nat.beq w' w) (some ((.im w 0 f, H, n), True)) none
 | [.im w' (k + 1) f] => cond (Nat.beq w' w) (some ((.ow n (k + 1), tput H n (.rw e w (k + 1) f), n + 1), k + 1 ≤ 1000000 ∧ ∀ r, r < k + 1 → (f r).all oneA = true)) none
 | [.ix _ _ w' 0 f] => cond (Nat.beq w' w) (some ((.im w 0 f, H, n), True)) none
 | [.ix _ _ w' (k + 1) f] => cond (Nat.beq w' w) (some ((.ow n (k + 1), tput H n (.rw e w (k + 1) f), n + 1), k + 1 ≤ 1000000 ∧ ∀ r, r < k + 1 → (f r).all oneA = true)) none
 | _ => none
theorem cloneF_ok {S : Sy} {P : Program} (hok : S.Ok P) (ht : (P.funcs.toList.all fun fn => !(fn.name == "runtime.NumGoroutine")) = true) {F : FuncId} {fn : Func} (hF : P.funcs[F]? = some fn) (hb : fn.body.isSome = true) {e : TypeId} {ww : Nat}
   (h1 : ∀ (ad : Addr) (c k : Nat) (f : Nat → List AV), k + 1 ≤ 1000000 → (∀ r, r < k + 1 → (f r).all oneA = true) → To S P F (startOf P F [.ix (some ad) c ww (Nat.succ k) f] .e 0) (fun x H _ => x = .ow 1 (k + 1) ∧ H.get 1 = some (.rw e ww (k + 1) f)))
   (h2 : ∀ (ad : Addr) (c : Nat) (f : Nat → List AV), To S P F (startOf P F [.ix (some ad) c ww 0 f] .e 0) (fun x _ _ => ∃ q o, x = .sl q o 0 0))
   (h3 : To S P F (startOf P F [.v (.slice none 0 0)] .e 0) (fun x _ _ => x = .v (.slice none 0 0)))
   (s1 : ∀ (ad : Addr) (c k : Nat) (f : Nat → List AV), (startF (tabOf P) F [.ix (some ad) c ww (Nat.succ k) f] .e 0).isSome = true) (s2 : ∀ (ad : Addr) (c : Nat) (f : Nat → List AV), (startF (tabOf P) F [.ix (some ad) c ww 0 f] .e 0).isSome = true) (s3 : (startF (tabOf P) F [.v (.slice none 0 0)] .e 0).isSome = true) :
   FOk P (oneF F (cloneK e ww)) := by
 refine oneF_ok ht hF hb ?_
 intro args H n r h hC w0 ρ w vs hr hvs
 have noB : ∀ {G : Nat → Nat → Prop} {w' : World}, Fr (inBs G [] ρ w).S w w' → Fr No w w' := fun hf => hf.mono (fun k hk => by obtain ⟨i, hi, _⟩ := hk; cases hi)
 have nil : Calls P F #[.slice none 0 0] w (fun e w' => e = .returned (.slice none 0 0) ∧ Fr No w w') := by
   obtain ⟨G, hG, hin⟩ := inner_none hr
   refine (To.calls hok (startOf_some s3) h3 hin (vs := [.slice none 0 0]) (.cons (.v _) .nil)).mono ?_
   rintro e w' ⟨x, H', n', ρ', v, rfl, rfl, hv, hr'⟩
   cases hv
   exact ⟨rfl, noB hr'.fr⟩
 have im0 : ∀ {ρ : Env} {f : Nat → List AV} {a : Option Addr}, VR ρ (.im ww 0 f) (.slice a 0 0) := fun {ρ f a} =>
   .im (vs := []) ⟨by rw [Nat.zero_mul]; rfl, Nat.le_refl _, Nat.zero_le _, fun _ => rfl, fun _ _ j u hu => by cases hu⟩ (fun r hr => absurd hr (Nat.not_lt_zero _))
 have empty : ∀ {f : Nat → List AV} {u : Value}, VR ρ (.im ww 0 f) u → Calls P F #[u] w (fun e w' => ∃ ρ' v, e = .returned v ∧ VR ρ' (.im ww 0 f) v ∧ HR w0 ρ' H n w' ∧ Ext ρ ρ' H H n n) := fun {f u} hu => by
   obtain ⟨a, c, rfl, hnil⟩ := hu.imSlice
   cases a with
   | none =>
     obtain ⟨_, rfl⟩ := hnil rfl
     refine nil.mono ?_
     rintro e w' ⟨rfl, hf⟩
     exact ⟨ρ, _, rfl, im0, hr.old hf, Ext.refl _ _ _⟩
   | some ad =>
     obtain ⟨G, hG, hin⟩ := inner_none hr
     obtain ⟨_, hix⟩ := VR.toIx hu
     have hix' : VR (inEnv ρ []) (.ix (some ad) c ww 0 f) (.slice (some ad) 0 c) := by
       cases hix with
       | ix hw hf => exact .ix hw hf
     refine (To.calls hok (startOf_some (s2 ad c f)) (h2 ad c f) hin (vs := [.slice (some ad) 0 c]) (.cons hix' .nil)).mono ?_
     rintro e w' ⟨x, H', n', ρ', v, ⟨q, o, rfl⟩, rfl, hv, hr'⟩
     cases hv with
     | sl => exact ⟨ρ, _, rfl, im0, hr.old (noB hr'.fr), Ext.refl _ _ _⟩
 have full : ∀ {f : Nat → List AV} {k : Nat} {u : Value}, k + 1 ≤ 1000000 → (∀ r, r < k + 1 → (f r).all oneA = true) → VR ρ (.im ww (k + 1) f) u → Calls P F #[u] w (fun e' w' => ∃ ρ' v, e' = .returned v ∧ VR ρ' (.ow n (k + 1)) v ∧ HR w0 ρ' (tput H n (.rw e ww (k + 1) f)) (n + 1) w' ∧ Ext ρ ρ' H (tput H n (.rw e ww (k + 1) f)) n (n + 1)) := fun {f k u} hk hf hu => by
   obtain ⟨a, c, rfl, hnil⟩ := hu.imSlice
   cases a with
   | none => have := (hnil rfl).1; omega
   | some ad =>
     obtain ⟨G, hG, hin⟩ := inner_none hr
     obtain ⟨_, hix⟩ := VR.toIx hu
     have hix' : VR (inEnv ρ []) (.ix (some ad) c ww (Nat.succ k) f) (.slice (some ad) (k + 1) c) := by
       cases hix with
       | ix hw hf => exact .ix hw hf
     refine (To.calls hok (startOf_some (s1 ad c k f)) (h1 ad c k f hk hf) hin (vs := [.slice (some ad) (k + 1) c]) (.cons hix' .nil)).mono ?_
     rintro e' w' ⟨x, H', n', ρ', v, ⟨rfl, hq⟩, rfl, hv, hr'⟩
     obtain ⟨g1, g2⟩ := hr.outer (H2 := tput H n (.rw e ww (k + 1) f)) (E := [1]) hG List.nodup_nil (fun i hi => by cases hi) (by simp) (fun j _ => Nat.zero_le _) hr'
       (fun q hq _ => by rw [get_tput, if_neg (by omega)]) (fun j i hj => by simp at hj)
       (fun p j hp => by
         cases p with
         | zero =>
           have : j = 1 := by simpa using hp.symm
           subst this
           exact ⟨.rw e ww (k + 1) f, by rw [get_tput, if_pos (Nat.add_zero n)], _, hq, leB_refl _⟩
         | succ p => simp at hp)
       (fun q hq => by
         have : n + 1 ≤ q := hq
         rw [get_tput, if_neg (by omega)]; exact (hr.top (by omega)).2)
     refine ⟨_, v, rfl, ?_, g1, g2⟩
     have := hv.ren (outS_ren (E := [1]) hr (fun i hi => by cases hi) (by simp) hr')
     have e1 : outS [] [1] n 1 = some n := by simp [outS, posL]
     simpa [renA, e1] using this
 unfold cloneK at h
 split at h
 · cases h
   cases hvs with
   | cons a t =>
   cases a; cases t
   refine nil.mono ?_
   rintro e w' ⟨rfl, hf⟩
   exact ⟨ρ, _, rfl, .v _, hr.old hf, Ext.refl _ _ _⟩
 · rename_i w' f
   rw [beq_dec] at h
   by_cases hw : w' = ww
   · subst hw
     simp only [decide_true, cond_true, Option.some.injEq] at h
     subst h
     cases hvs with
     | cons a t =>
     cases t
     exact empty a
   · simp [hw] at h
 · rename_i w' k f
   rw [beq_dec] at h
   by_cases hw : w' = ww
   · subst hw
     simp only [decide_true, cond_true, Option.some.injEq] at h
     subst h
     cases hvs with
     | cons a t =>
     cases t
     exact full hC.1 hC.2 a
   · simp [hw] at h
 · rename_i a0 c0 w' f
   rw [beq_dec] at h
   by_cases hw : w' = ww
   · subst hw
     simp only [decide_true, cond_true, Option.some.injEq] at h
     subst h
     cases hvs with
     | cons a t =>
     cases t
     cases a with
     | ix hw hf => exact empty (.im hw hf)
   · simp [hw] at h
 · rename_i a0 c0 w' k f
   rw [beq_dec] at h
   by_cases hw : w' = ww
   · subst hw
     simp only [decide_true, cond_true, Option.some.injEq] at h
     subst h
     cases hvs with
     | cons a t =>
     cases t
     cases a with
     | ix hw hf => exact full hC.1 hC.2 (.im hw hf)
   · simp [hw] at h
 · cases h
mutual
theorem leA_ren (σ : Nat → Option Nat) : ∀ {x y : AV}, leA x y → leA (renA σ x) (renA σ y) := by
 intro x y h
 have h0 := h
 unfold leA at h
 split at h
 · simp only [renA]; unfold leA; trivial
 · simp only [renA]; exact h0
 · simp only [renA]; exact h0
 · simp only [renA]; exact h0
 · simp only [renA]; exact h0
 · simp only [renA]; exact h0
 · simp only [renA]; exact h0
 · simp only [renA]; exact h0
 · simp only [renA]; exact h0
 · simp only [renA]; exact h0
 · simp only [renA]; exact h0
 · subst h
   simp only [renA]
   split <;> simp [leA]
 · simp only [renA]; exact h0
 · obtain ⟨rfl, rfl⟩ := h; exact leA_refl _
 · simp only [renA]; exact h0
 · simp only [renA]; unfold leA; exact leL_ren σ h
 · simp only [renA]; unfold leA; exact leL_ren σ h
 · subst h; exact leA_refl _
theorem leL_ren (σ : Nat → Option Nat) : ∀ {l m : List AV}, leL l m → leL (renL σ l) (renL σ m)
 | [], [], _ => trivial
 | x :: l, y :: m, h => by
   unfold leL at h
   simp only [renL]; unfold leL
   exact ⟨leA_ren σ h.1, leL_ren σ h.2⟩
 | [], _ :: _, h => by simp [leL] at h
 | _ :: _, [], h => by simp [leL] at h
end
theorem leB_ren (σ : Nat → Option Nat) {B C : AB} (h : leB B C) : leB (renB σ B) (renB σ C) := by
 unfold leB at h
 split at h
 · simp only [renB]; unfold leB; trivial
 · obtain ⟨rfl, rfl, h⟩ := h
   exact ⟨rfl, rfl, leL_ren σ h⟩
 · exact h
 · exact h
 · subst h; rfl
 · subst h; exact leB_refl _
/-! What is bound by a value. -/
mutual
def bindA : AV → List (Nat × Prop)
 | .ptr i _ => [(i, True)]
 | .mp i => [(i, True)]
 | .ow i n => [(i, n ≠ 0)]
 | .agg l => bindL l
 | .tup l => bindL l
 | .fn _ l m => bindL l ++ bindL m
 | _ => []
def bindL : List AV → List (Nat × Prop)
 | [] => []
 | x :: l => bindA x ++ bindL l
end
mutual
theorem VR.bind {ρ : Env} : ∀ {x : AV} {u : Value}, VR ρ x u → ∀ p ∈ bindA x, p.2 → ρ p.1 ≠ none := by
 intro x u h p hp hc
 unfold bindA at hp
 split at hp
 · cases h with | ptr _ e => simp at hp; subst hp; rw [e]; nofun
 · cases h with | mp e => simp at hp; subst hp; rw [e]; nofun
 · cases h with
   | ow _ e => simp at hp; subst hp; rw [e]; nofun
   | ow0 => rw [List.mem_singleton.1 hp] at hc; exact absurd rfl hc
 · cases h with | agg e => exact VRs.bind e p hp hc
 · cases h with | tup e => exact VRs.bind e p hp hc
 · cases h with | fn _ e e' => exact (List.mem_append.1 hp).elim (fun hp => VRs.bind e p hp hc) (fun hp => VRs.bind e' p hp hc)
 · cases hp
theorem VRs.bind {ρ : Env} : ∀ {l : List AV} {vs : List Value}, VRs ρ l vs → ∀ p ∈ bindL l, p.2 → ρ p.1 ≠ none := by
 intro l vs h p hp hc
 cases l with
 | nil => cases hp
 | cons x l =>
   cases h with
   | cons e t =>
     unfold bindL at hp
     rcases List.mem_append.1 hp with hp | hp
     · exact VR.bind e p hp hc
     · exact VRs.bind t p hp hc
end
/-! The contract. -/
structure Ex where
 μ : List Nat
 args : List AV
 L : List AB
 res : AV
 L' : List AB
 E : List (Nat × AB)
 C : Prop
def putL (σ : Nat → Option Nat) : List Nat → List AB → Tr AB → Tr AB
 | i :: μ, B :: L, H => putL σ μ L (tput H i (renB σ B))
 | _, _, H => H
theorem putL_get {σ : Nat → Option Nat} : ∀ {μ : List Nat} {L : List AB} {H : Tr AB}, μ.Nodup → L.length = μ.length → ∀ q : Nat, (∀ j : Nat, μ[j]? = some q → (putL σ μ L H).get q = Option.map (renB σ) (L[j]?)) ∧ (q ∉ μ → (putL σ μ L H).get q = H.get q)
 | [], [], H, _, _, q => ⟨fun j h => by simp at h, fun _ => rfl⟩
 | i :: μ, B :: L, H, hn, hl, q => by
   obtain ⟨h1, h2⟩ := List.nodup_cons.1 hn
   have ih := putL_get (σ := σ) (H := tput H i (renB σ B)) h2 (by simpa using hl) q
   constructor
   · intro j hj
     cases j with
     | zero =>
       simp at hj
       subst hj
       show (putL σ μ L (tput H i (renB σ B))).get i = _
       rw [ih.2 h1, get_tput, if_pos rfl]; rfl
     | succ j => exact ih.1 j (by simpa using hj)
   · intro hq
     show (putL σ μ L (tput H i (renB σ B))).get q = _
     rw [ih.2 (fun h => hq (by simp [h])), get_tput, if_neg (fun e => hq (by simp [e]))]
 | [], _ :: _, _, _, hl, _ => by simp at hl
 | _ :: _, [], _, _, hl, _ => by simp at hl
def Ex.σ (e : Ex) (n : Nat) : Nat → Option Nat := outS e.μ (e.E.map (·.1)) n
def Ex.out (e : Ex) (H : Tr AB) (n : Nat) : (AV × Tr AB × Nat) × Prop :=
 ((renA (e.σ n) e.res, memF (e.E.map fun p => renB (e.σ n) p.2) n (putL (e.σ n) e.μ e.L' H), n + e.E.length), e.C)
def oneX (F : FuncId) (K : List AV → Tr AB → Option Ex) : CF := oneF F fun args H n => match K args H with
 | some e => some (e.out H n)
 | none => none
def endL : List AB → Nat → Tr AB → Prop
 | [], _, _ => True
 | B :: l, k, H => (∃ B0, H.get k = some B0 ∧ leB B0 B) ∧ endL l (k + 1) H
def endE : List (Nat × AB) → Tr AB → Prop
 | [], _ => True
 | p :: l, H => (∃ B0, H.get p.1 = some B0 ∧ leB B0 p.2) ∧ endE l H
theorem endL_at : ∀ {l : List AB} {k : Nat} {H : Tr AB}, endL l k H → ∀ j B, l[j]? = some B → ∃ B0, H.get (k + j) = some B0 ∧ leB B0 B
 | [], _, _, _, j, B, h => by simp at h
 | B :: l, k, H, he, j, C, h => by
   cases j with
   | zero => simp at h; subst h; exact he.1
   | succ j => have := endL_at he.2 j C (by simpa using h); rwa [show k + (j + 1) = k + 1 + j by omega]
theorem endE_at : ∀ {l : List (Nat × AB)} {H : Tr AB}, endE l H → ∀ p ∈ l, ∃ B0, H.get p.1 = some B0 ∧ leB B0 p.2
 | [], _, _, p, h => by simp at h
 | q :: l, H, he, p, h => by
   rcases List.mem_cons.1 h with rfl | h
   · exact he.1
   · exact endE_at he.2 p h
def Ex.end (e : Ex) (x : AV) (H' : Tr AB) (_ : Nat) : Prop := leA x e.res ∧ endL e.L' 0 H' ∧ endE e.E H'
def seenL (H : Tr AB) (σ : Nat → Option Nat) : List Nat → List AB → Prop
 | [], [] => True
 | i :: μ, C :: L => (∃ B, H.get i = some B ∧ B.live = true ∧ leB (renB σ B) C) ∧ seenL H σ μ L
 | _, _ => False
theorem seenL_at {H : Tr AB} {σ : Nat → Option Nat} : ∀ {μ : List Nat} {L : List AB}, seenL H σ μ L → L.length = μ.length ∧ ∀ j i : Nat, μ[j]? = some i → ∃ B, H.get i = some B ∧ B.live = true ∧ ∃ C, L[j]? = some C ∧ leB (renB σ B) C
 | [], [], _ => ⟨rfl, fun j i h => by simp at h⟩
 | i :: μ, C :: L, h => by
   obtain ⟨⟨B, h1, h2, h3⟩, h⟩ := h
   obtain ⟨g1, g2⟩ := seenL_at h
   refine ⟨by simp [g1], fun j k hj => ?_⟩
   cases j with
   | zero => simp at hj; subst hj; exact ⟨B, h1, h2, C, rfl, h3⟩
   | succ j => simpa using g2 j k (by simpa using hj)
 | [], _ :: _, h => by simp [seenL] at h
 | _ :: _, [], h => by simp [seenL] at h
structure Ex.Ok (e : Ex) (S : Sy) (P : Program) (f : FuncId) (args : List AV) (H : Tr AB) (n : Nat) : Prop where
 nd : e.μ.Nodup
 seen : seenL H (inS e.μ) e.μ e.L
 len : e.L'.length = e.μ.length
 arg : leL (renL (inS e.μ) args) e.args
 new : (e.E.map (·.1)).Nodup ∧ ∀ p ∈ e.E, e.μ.length ≤ p.1
 bnd : ∀ {w0 ρ w vs}, HR w0 ρ H n w → VRs ρ args vs → ∀ i ∈ e.μ, ρ i ≠ none ∨ ∀ (T : TypeId) (l : List AV), H.get i ≠ some (.mem T none l)
 st : (startF (tabOf P) f e.args (memF e.L 0 .e) e.μ.length).isSome = true
 run : To S P f (startOf P f e.args (memF e.L 0 .e) e.μ.length) e.end
theorem oneX_ok {S : Sy} {P : Program} (hok : S.Ok P) (ht : (P.funcs.toList.all fun fn => !(fn.name == "runtime.NumGoroutine")) = true) {F : FuncId} {fn : Func} (hF : P.funcs[F]? = some fn) (hb : fn.body.isSome = true) {K : List AV → Tr AB → Option Ex}
   (h : ∀ {args H n e}, K args H = some e → e.C → e.Ok S P F args H n) : FOk P (oneX F K) :=
 oneF_ok ht hF hb fun {args H n r} hk hC {w0 ρ w vs} hr hv => by
   split at hk
   · rename_i e he
     cases hk
     have o := h (n := n) he hC
     obtain ⟨F, hFt⟩ := hr.foot
     obtain ⟨hl, hseen⟩ := seenL_at o.seen
     have hbd := o.bnd hr hv
     have hkm : ∀ i ∈ e.μ, ∀ (T : TypeId) (l : List AV), H.get i = some (.mem T none l) → ρ i ≠ none := fun i hi T l hq => (hbd i hi).elim id (fun h => absurd hq (h T l))
     have hin := hr.inner hFt o.nd hl hseen hkm
     have hva : VRs (inEnv ρ e.μ) e.args vs := leL_VRs o.arg (hv.ren (inEnv_ren o.nd))
     refine (To.calls hok (startOf_some o.st) o.run hin hva).mono ?_
     rintro ev w' ⟨x, H', n', ρ', v, ⟨h1, h2, h3⟩, rfl, hx, hr'⟩
     have hE : ∀ p j : Nat, (e.E.map (·.1))[p]? = some j → ∃ q, e.E[p]? = some q ∧ q.1 = j := fun p j hp => by
       rw [List.getElem?_map] at hp
       cases hq : e.E[p]? with
       | none => rw [hq] at hp; cases hp
       | some q => rw [hq] at hp; cases hp; exact ⟨q, rfl, rfl⟩
     have hlt : ∀ i ∈ e.μ, i < n := fun i hi => by
       rcases Nat.lt_or_ge i n with h | h
       · exact h
       · obtain ⟨j, hj⟩ := List.mem_iff_getElem?.1 hi
         obtain ⟨B, g1, _⟩ := hseen j i hj
         rw [(hr.top h).2] at g1; cases g1
     have hput := fun q => putL_get (σ := e.σ n) (H := H) o.nd o.len q
     have hmem : ∀ q, (memF (e.E.map fun p => renB (e.σ n) p.2) n (putL (e.σ n) e.μ e.L' H)).get q = if n ≤ q ∧ q < n + e.E.length then (e.E.map fun p => renB (e.σ n) p.2)[q - n]? else (putL (e.σ n) e.μ e.L' H).get q := fun q => by
       rw [memF_get, List.length_map]
     have key := hr.outer (H2 := memF (e.E.map fun p => renB (e.σ n) p.2) n (putL (e.σ n) e.μ e.L' H)) (E := e.E.map (·.1)) hFt o.nd (fun i hi => by
         obtain ⟨j, hj⟩ := List.mem_iff_getElem?.1 hi
         obtain ⟨B, g1, g2, _⟩ := hseen j i hj
         exact ⟨B, g1, g2, fun T l e => hkm i hi T l (by rw [g1, e])⟩) o.new.1 (fun j hj => by
         obtain ⟨p, hp, rfl⟩ := List.mem_map.1 hj
         exact o.new.2 p hp) hr' (fun q hq hm => by
         rw [hmem, if_neg (by omega)]
         exact (hput q).2 hm) (fun j i hj => by
         have hi := List.mem_of_getElem? hj
         have := hlt i hi
         have hjl : j < e.μ.length := (List.getElem?_eq_some_iff.1 hj).1
         obtain ⟨B0, g1, g2⟩ := endL_at h2 j _ (List.getElem?_eq_getElem (by rw [o.len]; exact hjl))
         refine ⟨_, ?_, B0, by rwa [Nat.zero_add] at g1, leB_ren _ g2⟩
         rw [hmem, if_neg (by omega), (hput i).1 j hj, List.getElem?_eq_getElem (by rw [o.len]; exact hjl)]; rfl) (fun p j hp => by
         obtain ⟨q, hq, rfl⟩ := hE p j hp
         have hpl : p < e.E.length := (List.getElem?_eq_some_iff.1 hq).1
         obtain ⟨B0, g1, g2⟩ := endE_at h3 q (List.mem_of_getElem? hq)
         refine ⟨_, ?_, B0, g1, leB_ren _ g2⟩
         rw [hmem, if_pos (by omega), Nat.add_sub_cancel_left, List.getElem?_map, hq]; rfl) (fun q hq => by
         rw [List.length_map] at hq
         rw [hmem, if_neg (by omega)]
         by_cases hm : q ∈ e.μ
         · have := hlt q hm; omega
         · rw [(hput q).2 hm]; exact (hr.top (by omega)).2)
     rw [List.length_map] at key
     exact ⟨_, v, rfl, (leA_VR h1 hx).ren (outS_ren hr hlt o.new.1 hr'), key.1, key.2⟩
   · cases hk
def slotL (l : List (Nat × AV)) : Nat → Nat → List AV
 | 0, _ => []
 | n + 1, k => (match getS k l with | some x => x | none => .any) :: slotL l n (k + 1)
def slotT (n : Nat) (l : List (Nat × AV)) : Tr AV := argsT (slotL l n 0) 0 .e
def kidsC : Code → List Code
 | .seq a b => [a, b]
 | .cond _ a b => [a, b]
 | .block _ b => [b]
 | .loop b => [b]
 | .rangeFunc _ _ a b => [a, b]
 | .scope b => [b]
 | _ => []
def subC (c : Code) : List Nat → Code
 | [] => c
 | i :: p => match (kidsC c)[i]? with
   | some d => subC d p
   | none => c
def bodyC (P : Program) (f : FuncId) : Code := match tabOf P f with
 | some fn => (match fn.body with | some b => b | none => .skip)
 | none => .skip
def plC (c : Code) (k : Nat) : ARg := match c with
 | .region _ ops _ => .pl ops (ops.toList.drop k)
 | _ => .no
section
variable {S : Sy} {P : Program} {f : FuncId} {s : ASt} {Q : AV → Tr AB → Nat → Prop}
theorem To.loopX {α : Type} {L : List LN} {kp : List Nat} {ks : List (List Nat)} {st : α → ASt} (ov : α → List (Nat × AV)) (ob : α → List (Nat × AB)) (I : α → Prop) (m : α → Nat) (a : α) (hI : I a) (hB : cutB L ks (ob a) s = true) {C : Prop} (hC : cutC L kp ks (ov a) (ob a) s = C) (hc : C) (he : cutS L kp ks (ov a) (ob a) s = st a)
   (step : ∀ a, I a → (∀ b, I b → m b < m a → To S P f (st b) Q) → To S P f (st a) Q) : To S P f s Q := by
 refine To.cut hB (hC ▸ hc) (he ▸ ?_)
 have key : ∀ (k : Nat) (a : α), m a < k → I a → To S P f (st a) Q := by
   intro k
   induction k with
   | zero => intro a h; omega
   | succ k ih => intro a h hI; exact step a hI fun b hIb hlt => ih b (by omega) hIb
 exact key _ a (Nat.lt_succ_self _) hI
theorem To.backX {s2 : ASt} {L : List LN} {kp : List Nat} {ks : List (List Nat)} {ov : List (Nat × AV)} {ob : List (Nat × AB)} (h : To S P f s2 Q) (hB : cutB L ks ob s = true) {C : Prop} (hC : cutC L kp ks ov ob s = C) (hc : C) (he : cutS L kp ks ov ob s = s2) : To S P f s Q :=
 To.cut hB (hC ▸ hc) (he ▸ h)
end
/-! The same, told shorter: what is plainly so is found by itself. -/
@[reducible] def Same {α : Sort _} (x : α) : Prop := x = x
theorem same_rfl {α : Sort _} {x : α} : Same x := rfl
theorem cl {C : Prop} (h : C := by first | exact True.intro | with_reducible exact same_rfl | with_reducible rfl | omega | with_reducible assumption | with_reducible exact fun _ _ => rfl | (refine fits_i64 ?_ ?_ <;> omega) | (refine fits_u64 ?_ ?_ <;> omega)) : C := h
section
variable {S : Sy} {P : Program} {f : FuncId} {s : ASt} {Q : AV → Tr AB → Nat → Prop}
theorem To.R (k : Nat := 5000) (C : Prop := True) (hC : asks S P k s = C := by kernel_rfl) (hc : C := by and_intros <;> exact cl) (h : To S P f (Sm.seg S P k s) Q) (hok : S.Ok P := by assumption) : To S P f s Q := To.run hok k hC hc h
theorem To.B (b : Bool) (C : Prop := True) (h1 : asksV S P true s = (b = true ∧ C) := by kernel_rfl) (h2 : asksV S P false s = (b = false ∧ C) := by kernel_rfl) (hc : C := by and_intros <;> exact cl) (h : b = true → To S P f (Sm.next S P true s) Q) (g : b = false → To S P f (Sm.next S P false s) Q) (hok : S.Ok P := by assumption) : To S P f s Q := To.br hok b h1 h2 hc h g
theorem To.Bd (p : Prop) [Decidable p] (C : Prop := True) (h1 : asksV S P true s = (decide p = true ∧ C) := by kernel_rfl) (h2 : asksV S P false s = (decide p = false ∧ C) := by kernel_rfl) (hc : C := by and_intros <;> exact cl) (h : p → To S P f (Sm.next S P true s) Q) (g : ¬ p → To S P f (Sm.next S P false s) Q) (hok : S.Ok P := by assumption) : To S P f s Q := To.brd hok p h1 h2 hc h g
theorem To.Bn (p : Prop) [Decidable p] (C : Prop := True) (h1 : asksV S P true s = ((!decide p) = true ∧ C) := by kernel_rfl) (h2 : asksV S P false s = ((!decide p) = false ∧ C) := by kernel_rfl) (hc : C := by and_intros <;> exact cl) (h : ¬ p → To S P f (Sm.next S P true s) Q) (g : p → To S P f (Sm.next S P false s) Q) (hok : S.Ok P := by assumption) : To S P f s Q := To.brn hok p h1 h2 hc h g
theorem To.Y (b : Bool) (C : Prop := True) (hp : b = true := by and_intros <;> exact cl) (hC : asksV S P true s = (b = true ∧ C) := by kernel_rfl) (hc : C := by and_intros <;> exact cl) (h : To S P f (Sm.next S P true s) Q) (hok : S.Ok P := by assumption) : To S P f s Q := To.yes hok b hp hC hc h
theorem To.N (b : Bool) (C : Prop := True) (hp : b = false := by and_intros <;> exact cl) (hC : asksV S P false s = (b = false ∧ C) := by kernel_rfl) (hc : C := by and_intros <;> exact cl) (h : To S P f (Sm.next S P false s) Q) (hok : S.Ok P := by assumption) : To S P f s Q := To.no hok b hp hC hc h
theorem To.Yd (p : Prop) [Decidable p] (C : Prop := True) (hp : p := by and_intros <;> exact cl) (hC : asksV S P true s = (decide p = true ∧ C) := by kernel_rfl) (hc : C := by and_intros <;> exact cl) (h : To S P f (Sm.next S P true s) Q) (hok : S.Ok P := by assumption) : To S P f s Q := To.yesd hok p hp hC hc h
theorem To.Nd (p : Prop) [Decidable p] (C : Prop := True) (hp : ¬ p := by and_intros <;> exact cl) (hC : asksV S P false s = (decide p = false ∧ C) := by kernel_rfl) (hc : C := by and_intros <;> exact cl) (h : To S P f (Sm.next S P false s) Q) (hok : S.Ok P := by assumption) : To S P f s Q := To.nod hok p hp hC hc h
theorem To.Nn (p : Prop) [Decidable p] (C : Prop := True) (hp : p := by and_intros <;> exact cl) (hC : asksV S P false s = ((!decide p) = false ∧ C) := by kernel_rfl) (hc : C := by and_intros <;> exact cl) (h : To S P f (Sm.next S P false s) Q) (hok : S.Ok P := by assumption) : To S P f s Q := To.non hok p hp hC hc h
theorem To.L {α : Type} (ov : α → List (Nat × AV)) (ob : α → List (Nat × AB)) (I : α → Prop) (m : α → Nat) (a : α) (L : List LN) (kp : List Nat) (ks : List (List Nat) := []) (st : α → ASt) (hI : I a := by and_intros <;> exact cl) (C : Prop := True) (hc : C := by and_intros <;> exact cl)
   (h : ∀ a, I a → (∀ b, I b → m b < m a → To S P f (st b) Q) → To S P f (st a) Q) (hB : cutB L ks (ob a) s = true := by kernel_rfl) (hC : cutC L kp ks (ov a) (ob a) s = C := by kernel_rfl) (he : cutS L kp ks (ov a) (ob a) s = st a := by kernel_rfl) : To S P f s Q := To.loopX ov ob I m a hI hB hC hc he h
theorem To.K {s2 : ASt} (h : To S P f s2 Q) (L : List LN) (kp : List Nat) (ks : List (List Nat) := []) (ov : List (Nat × AV) := []) (ob : List (Nat × AB) := []) (C : Prop := True) (hc : C := by and_intros <;> exact cl) (hB : cutB L ks ob s = true := by kernel_rfl) (hC : cutC L kp ks ov ob s = C := by kernel_rfl) (he : cutS L kp ks ov ob s = s2 := by kernel_rfl) : To S P f s Q :=
 To.backX h hB hC hc he
theorem To.E (x : AV) (h : finalE P (tabOf P) f s = some x := by kernel_rfl) (hq : Q x s.H s.n) : To S P f s Q := To.end x h hq
end
abbrev ivA (z : Int) : AV := .sy (.int .i64 z)
def diskH (T : TypeId) (d : DiskD) (ka : Option Addr) (kc : Nat) : List AB :=
 [.mem T none [.ow 1 d.stays.length, .mp 2, ivA d.crash.w, .ix ka kc 1 d.crash.keep.length (intsF d.crash.keep), ivA d.crash.torn, ivA d.crash.at_, ivA d.writes, .sy (.bool d.down)], .obj (.rows 128 d.stays), .obj (.wmap d.waits)]
def diskEnv (b bs cs bm : Nat) (w : World) : Env := ⟨fun i => if i = 0 then some (b, 0) else if i = 1 then some (bs, cs) else if i = 2 then some (bm, 0) else none, fun k => if k = b ∨ k = bs ∨ k = bm then none else imOf w k⟩
theorem rows1 (l : List Int) (I : Im) (r : Nat) (h : r < l.length) : VRs0 I (intsF l r) (((l.map iv).drop (r * 1)).take 1) := by
 rw [Nat.mul_one, ← List.map_drop, ← List.map_take]
 have : (l.drop r).take 1 = [l.getD r 0] := by
   rw [List.drop_eq_getElem_cons h, List.getD_eq_getElem?_getD, List.getElem?_eq_getElem h]; rfl
 rw [this]
 exact .cons (.sy _) .nil
structure DiskIs (I : Im) (w : World) (b : Nat) (F : Nat → Prop) (d : DiskD) (bs cs bm : Nat) (ka : Option Addr) (kc : Nat) : Prop where
 at_ : ∃ T fz, w.heap[b]? = some (.cells #[.slice (some ⟨bs, 0, none⟩) d.stays.length cs, .map (some bm), iv d.crash.w, .slice ka d.crash.keep.length kc, iv d.crash.torn, iv d.crash.at_, iv d.writes, .bool d.down] T fz) ∧ unfrozen fz 8
 rows : RowsAt w bs 128 d.stays
 map : MapAt w bm d.waits
 keep : WinE I ka d.crash.keep.length kc 1 (d.crash.keep.map iv)
 foot : ∀ k, F k ↔ k = b ∨ k = bs ∨ k = bm
 ne : b ≠ bs
 le : d.stays.length ≤ cs
 max : cs ≤ maxLen
theorem DiskAt.is {I : Im} {w : World} {b : Nat} {F : Nat → Prop} {d : DiskD} (h : DiskAt I w b F d) : ∃ bs cs bm ka kc, DiskIs I w b F d bs cs bm ka kc := by
 obtain ⟨T, fz, bs, cs, bm, ka, kc, h1, h2, h3, h4, h5, h6, h7, h8, h9⟩ := h
 exact ⟨bs, cs, bm, ka, kc, ⟨T, fz, h1, h2⟩, h3, h4, h5, h6, h7, h8, h9⟩
theorem memF3 {A B C : AB} {j : Nat} {X : AB} (h : (memF [A, B, C] 0 .e).get j = some X) : (j = 0 ∧ X = A) ∨ (j = 1 ∧ X = B) ∨ (j = 2 ∧ X = C) := by
 rw [memF_get0] at h
 match j with
 | 0 => simp at h; exact .inl ⟨rfl, h.symm⟩
 | 1 => simp at h; exact .inr (.inl ⟨rfl, h.symm⟩)
 | 2 => simp at h; exact .inr (.inr ⟨rfl, h.symm⟩)
 | j + 3 => simp at h
theorem diskEnv_some {b bs cs bm : Nat} {w : World} {j : Nat} {p : Nat × Nat} (h : (diskEnv b bs cs bm w) j = some p) : (j = 0 ∧ p = (b, 0)) ∨ (j = 1 ∧ p = (bs, cs)) ∨ (j = 2 ∧ p = (bm, 0)) := by
 have : (if j = 0 then some (b, 0) else if j = 1 then some (bs, cs) else if j = 2 then some (bm, 0) else none) = some p := h
 split at this
 · cases this; exact .inl ⟨by assumption, rfl⟩
 · split at this
   · cases this; exact .inr (.inl ⟨by assumption, rfl⟩)
   · split at this
     · cases this; exact .inr (.inr ⟨by assumption, rfl⟩)
     · cases this
theorem imOf_in {w : World} {b bs cs bm : Nat} {k : Nat} {c : Array Value} (h : (diskEnv b bs cs bm w).im k = some c) : (k ≠ b ∧ k ≠ bs ∧ k ≠ bm) ∧ imOf w k = some c := by
 have : (if k = b ∨ k = bs ∨ k = bm then none else imOf w k) = some c := h
 split at this
 · cases this
 · rename_i hn
   exact ⟨⟨fun e => hn (.inl e), fun e => hn (.inr (.inl e)), fun e => hn (.inr (.inr e))⟩, this⟩
theorem imOf_cells {w : World} {k : Nat} {c : Array Value} (h : imOf w k = some c) : ∃ T fz, w.heap[k]? = some (.cells c T fz) := by
 unfold imOf at h
 split at h
 · rename_i c' T fz hb; cases h; exact ⟨T, fz, hb⟩
 · cases h
theorem DiskIs.imle {I : Im} {w : World} {b : Nat} {F : Nat → Prop} {d : DiskD} {bs cs bm : Nat} {ka : Option Addr} {kc : Nat} (h : DiskIs I w b F d bs cs bm ka kc) (hI : ∀ k c, I k = some c → imOf w k = some c ∧ ¬ F k) : I.le (diskEnv b bs cs bm w).im := fun k c hk => by
 obtain ⟨h1, h2⟩ := hI k c hk
 show (if k = b ∨ k = bs ∨ k = bm then none else imOf w k) = some c
 rw [if_neg (fun e => h2 ((h.foot k).2 e))]; exact h1
theorem HR.openD {I : Im} {w : World} {b : Nat} {F : Nat → Prop} {d : DiskD} {bs cs bm : Nat} {ka : Option Addr} {kc : Nat} (h : DiskIs I w b F d bs cs bm ka kc) (hI : ∀ k c, I k = some c → imOf w k = some c ∧ ¬ F k) : ∃ T, HR ⟨w, F, diskEnv b bs cs bm w, fun _ => False⟩ (diskEnv b bs cs bm w) (memF (diskH T d ka kc) 0 .e) 3 w := by
 obtain ⟨T, fz, h1, h2⟩ := h.at_
 obtain ⟨Tr, fr, sp, hr1, hr2, hr3⟩ := h.rows
 obtain ⟨es, clock, hm1, hm2, hm3⟩ := h.map
 have hlt : ∀ {k : Nat} {o : Obj}, w.heap[k]? = some o → k < w.heap.size := fun h => (Array.getElem?_eq_some_iff.1 h).1
 have hne1 : b ≠ bm := fun e => by rw [e, hm1] at h1; cases h1
 have hne2 : bs ≠ bm := fun e => by rw [e, hm1] at hr1; cases hr1
 have him : ∀ k, k = b ∨ k = bs ∨ k = bm → (diskEnv b bs cs bm w).im k = none := fun k hk => by
   show (if k = b ∨ k = bs ∨ k = bm then none else imOf w k) = none
   rw [if_pos hk]
 refine ⟨T, ⟨fun {j b' c B} e1 e2 => ?_, ⟨fun j k => (j = 0 ∧ k = b) ∨ (j = 1 ∧ k = bs) ∨ (j = 2 ∧ k = bm), fun {j b' c B} e1 e2 e3 => ?_, fun {j b' c x} e1 e2 => ?_, fun {j l k p q B C} e1 e2 e3 e4 e5 e6 e7 e8 => ?_, fun {j k p B} e1 e2 e3 e4 => ?_⟩, fun {j} hj => ⟨?_, ?_⟩, fun {j b' c} e1 => ?_, Fr.refl _ _, Env.le_refl _, fun {k c} hk => ?_, fun hk => .inl hk, fun h => h.elim⟩⟩
 · rcases diskEnv_some e1 with ⟨rfl, e⟩ | ⟨rfl, e⟩ | ⟨rfl, e⟩ <;> cases e <;> rcases memF3 e2 with ⟨a, rfl⟩ | ⟨a, rfl⟩ | ⟨a, rfl⟩ <;> first | (exfalso; omega) | skip
   · refine ⟨_, h1, [.slice (some ⟨bs, 0, none⟩) d.stays.length cs, .map (some bm), iv d.crash.w, .slice ka d.crash.keep.length kc, iv d.crash.torn, iv d.crash.at_, iv d.writes, .bool d.down], [], fz, ?_, rfl, h2, rfl, nofun⟩
     exact .cons (.ow _ (b := bs) (c := cs) rfl h.le h.max) (.cons (.mp (b := bm) (c := 0) rfl) (.cons (.sy _) (.cons (.ix (h.keep.mono (h.imle hI)) (fun r hr => rows1 _ _ r hr)) (.cons (.sy _) (.cons (.sy _) (.cons (.sy _) (.cons (.sy _) .nil)))))))
   · exact ⟨_, hr1, trivial⟩
   · exact ⟨_, hm1, trivial⟩
 · rcases diskEnv_some e1 with ⟨rfl, e⟩ | ⟨rfl, e⟩ | ⟨rfl, e⟩ <;> cases e
   · exact ⟨.inl ⟨rfl, rfl⟩, fun _ k hk => by rcases hk with ⟨_, rfl⟩ | ⟨a, _⟩ | ⟨a, _⟩ <;> first | rfl | omega⟩
   · exact ⟨.inr (.inl ⟨rfl, rfl⟩), fun _ k hk => by rcases hk with ⟨a, _⟩ | ⟨_, rfl⟩ | ⟨a, _⟩ <;> first | rfl | omega⟩
   · exact ⟨.inr (.inr ⟨rfl, rfl⟩), fun _ k hk => by rcases hk with ⟨a, _⟩ | ⟨a, _⟩ | ⟨_, rfl⟩ <;> first | rfl | omega⟩
 · rcases diskEnv_some e1 with ⟨rfl, e⟩ | ⟨rfl, e⟩ | ⟨rfl, e⟩ <;> cases e <;> rcases memF3 e2 with ⟨a, q⟩ | ⟨a, q⟩ | ⟨a, q⟩ <;> first | (exfalso; omega) | cases q
   · exact ⟨fun k => ⟨fun hk => by rcases hk with ⟨a, _⟩ | ⟨_, rfl⟩ | ⟨a, _⟩ <;> first | rfl | omega, fun hk => .inr (.inl ⟨rfl, hk⟩)⟩, h.rows⟩
   · exact ⟨fun k => ⟨fun hk => by rcases hk with ⟨a, _⟩ | ⟨a, _⟩ | ⟨_, rfl⟩ <;> first | rfl | omega, fun hk => .inr (.inr ⟨rfl, hk⟩)⟩, h.map⟩
 · have := h.ne
   rcases e7 with ⟨rfl, rfl⟩ | ⟨rfl, rfl⟩ | ⟨rfl, rfl⟩ <;> rcases e8 with ⟨rfl, a⟩ | ⟨rfl, a⟩ | ⟨rfl, a⟩ <;> first | rfl | (exfalso; omega)
 · have hk : k = b ∨ k = bs ∨ k = bm := by rcases e4 with ⟨_, a⟩ | ⟨_, a⟩ | ⟨_, a⟩ <;> simp [a]
   refine ⟨.inl ((h.foot k).2 (by rcases hk with a | a | a <;> simp [a])), ?_, him k hk⟩
   rcases hk with rfl | rfl | rfl
   · exact hlt h1
   · exact hlt hr1
   · exact hlt hm1
 · show (if j = 0 then some (b, 0) else if j = 1 then some (bs, cs) else if j = 2 then some (bm, 0) else none) = none
   rw [if_neg (by omega), if_neg (by omega), if_neg (by omega)]
 · rw [memF_get0, List.getElem?_eq_none (by simpa [diskH] using hj)]
 · rcases diskEnv_some e1 with ⟨rfl, e⟩ | ⟨rfl, e⟩ | ⟨rfl, e⟩ <;> cases e
   · exact ⟨.inl ((h.foot b).2 (.inl rfl)), hlt h1⟩
   · exact ⟨.inl ((h.foot bs).2 (.inr (.inl rfl))), hlt hr1⟩
   · exact ⟨.inl ((h.foot bm).2 (.inr (.inr rfl))), hlt hm1⟩
 · exact imOf_cells (imOf_in hk).2
inductive KeepAs (ka : Option Addr) (kc : Nat) (keep0 : List Int) : AV → List Int → Prop
 | was : KeepAs ka kc keep0 (.ix ka kc 1 keep0.length (intsF keep0)) keep0
 | nil : KeepAs ka kc keep0 (.v (.slice none 0 0)) []
 | im0 {f : Nat → List AV} : KeepAs ka kc keep0 (.im 1 0 f) []
inductive WaitsAs (H : Tr AB) : AV → List (Int × List UInt8) → Prop
 | map {q : Nat} {m : List (Int × List UInt8)} (h : H.get q = some (.obj (.wmap m))) : WaitsAs H (.mp q) m
 | new {q c : Nat} (h : H.get q = some (.map [] c)) : WaitsAs H (.mp q) []
theorem rows1_inv {l : List Int} {f : Nat → List AV} {I : Im} {vs : List Value} (hl : vs.length = l.length) (hf : ∀ r, r < l.length → f r = intsF l r) (h : ∀ r, r < l.length → VRs0 I (f r) ((vs.drop (r * 1)).take 1)) : vs = l.map iv := by
 apply List.ext_getElem?
 intro j
 by_cases hj : j < l.length
 · have := h j hj
   rw [hf j hj, Nat.mul_one, List.drop_eq_getElem_cons (by omega)] at this
   simp only [List.take_succ_cons, List.take_zero] at this
   unfold intsF at this
   cases this with
   | cons a t =>
     rw [List.getElem?_map, List.getElem?_eq_getElem hj, List.getElem?_eq_getElem (by omega)]
     generalize vs[j] = v at a
     cases a
     simp [List.getD_eq_getElem?_getD, List.getElem?_eq_getElem hj, iv]
 · rw [List.getElem?_eq_none (by omega), List.getElem?_eq_none (by simp; omega)]
theorem KeepAs.win {I : Im} {ka : Option Addr} {kc : Nat} {keep0 l : List Int} {x : AV} {v : Value} {ρ : Env} (h : KeepAs ka kc keep0 x l) (h0 : WinE I ka keep0.length kc 1 (keep0.map iv)) (hv : VR ρ x v) : ∃ ka' kc', v = .slice ka' l.length kc' ∧ WinE I ka' l.length kc' 1 (l.map iv) := by
 cases h with
 | was =>
   cases hv with
   | ix hw hrw => exact ⟨_, _, rfl, h0⟩
 | nil =>
   cases hv
   exact ⟨none, 0, rfl, winE_nil _ _⟩
 | im0 =>
   cases hv with
   | im hw hrw => exact ⟨_, _, rfl, rfl, hw.cap, hw.max, hw.nil, fun ad had j u hu => by cases hu⟩
theorem HR.closeG {w0 : Bs} {w' : World} {b c0 i0 : Nat} {J : Im} {ρ' : Env} {H' : Tr AB} {n' : Nat} (hr : HR w0 ρ' H' n' w') (hρ0 : ρ' i0 = some (b, c0))
   {T : TypeId} {q1 N : Nat} {mx cx kx tx ax wx dx : AV} {d' : DiskD}
   (h0 : H'.get i0 = some (.mem T none [.ow q1 N, mx, cx, kx, tx, ax, wx, dx])) (h1 : H'.get q1 = some (.obj (.rows 128 d'.stays))) (hN : N = d'.stays.length) (hd2 : WaitsAs H' mx d'.waits)
   (hd3 : intA cx = some (.i64, d'.crash.w)) (hd4 : ∀ v, VR ρ' kx v → ∃ ka' kc', v = .slice ka' d'.crash.keep.length kc' ∧ WinE J ka' d'.crash.keep.length kc' 1 (d'.crash.keep.map iv)) (hd5 : intA tx = some (.i64, d'.crash.torn)) (hd6 : intA ax = some (.i64, d'.crash.at_)) (hd7 : intA wx = some (.i64, d'.writes)) (hd8 : boolA dx = some d'.down) (hne : N ≠ 0) :
   ∃ F', DiskAt J w' b F' d' ∧ F' b ∧ (∀ k, F' k → (w0.S k ∨ w0.w.heap.size ≤ k) ∧ k < w'.heap.size ∧ ρ'.im k = none) ∧
     (∀ {g bg cg : Nat} {B : AB}, ρ' g = some (bg, cg) → H'.get g = some B → B.live = true → g ≠ i0 → g ≠ q1 → mx ≠ .mp g → ¬ F' bg) ∧
     (∀ k, F' k → k = b ∨ (∃ c, ρ' q1 = some (k, c)) ∨ ∃ q c, mx = .mp q ∧ ρ' q = some (k, c) ∧ ∃ B, H'.get q = some B ∧ B.live = true) := by
 subst hN
 obtain ⟨G, hG⟩ := hr.foot
 obtain ⟨o, ho, vs, sp, fz, hv, rfl, hz, hsp⟩ := hr.blk hρ0 h0
 have hsp' : sp = [] := hsp.1
 subst hsp'
 rw [List.append_nil] at ho hz
 obtain ⟨v0, vs0, rfl, a0, t0⟩ : ∃ v t, vs = v :: t ∧ VR ρ' (.ow q1 d'.stays.length) v ∧ VRs ρ' [mx, cx, kx, tx, ax, wx, dx] t := by cases hv with | cons e t => exact ⟨_, _, rfl, e, t⟩
 obtain ⟨v1, vs1, rfl, a1, t1⟩ : ∃ v t, vs0 = v :: t ∧ VR ρ' mx v ∧ VRs ρ' [cx, kx, tx, ax, wx, dx] t := by cases t0 with | cons e t => exact ⟨_, _, rfl, e, t⟩
 obtain ⟨v2, vs2, rfl, a2, t2⟩ : ∃ v t, vs1 = v :: t ∧ VR ρ' cx v ∧ VRs ρ' [kx, tx, ax, wx, dx] t := by cases t1 with | cons e t => exact ⟨_, _, rfl, e, t⟩
 obtain ⟨v3, vs3, rfl, a3, t3⟩ : ∃ v t, vs2 = v :: t ∧ VR ρ' kx v ∧ VRs ρ' [tx, ax, wx, dx] t := by cases t2 with | cons e t => exact ⟨_, _, rfl, e, t⟩
 obtain ⟨v4, vs4, rfl, a4, t4⟩ : ∃ v t, vs3 = v :: t ∧ VR ρ' tx v ∧ VRs ρ' [ax, wx, dx] t := by cases t3 with | cons e t => exact ⟨_, _, rfl, e, t⟩
 obtain ⟨v5, vs5, rfl, a5, t5⟩ : ∃ v t, vs4 = v :: t ∧ VR ρ' ax v ∧ VRs ρ' [wx, dx] t := by cases t4 with | cons e t => exact ⟨_, _, rfl, e, t⟩
 obtain ⟨v6, vs6, rfl, a6, t6⟩ : ∃ v t, vs5 = v :: t ∧ VR ρ' wx v ∧ VRs ρ' [dx] t := by cases t5 with | cons e t => exact ⟨_, _, rfl, e, t⟩
 obtain ⟨v7, vs7, rfl, a7, t7⟩ : ∃ v t, vs6 = v :: t ∧ VR ρ' dx v ∧ VRs ρ' [] t := by cases t6 with | cons e t => exact ⟨_, _, rfl, e, t⟩
 cases t7
 obtain rfl := intA_sound hd3 a2
 obtain rfl := intA_sound hd5 a4
 obtain rfl := intA_sound hd6 a5
 obtain rfl := intA_sound hd7 a6
 obtain rfl := boolA_sound hd8 a7
 -- where things lie
 have here : ∀ {j k c : Nat} {B : AB}, ρ' j = some (k, c) → H'.get j = some B → B.live = true → (w0.S k ∨ w0.w.heap.size ≤ k) ∧ k < w'.heap.size ∧ ρ'.im k = none := fun e1 e2 e3 => hG.there e1 e2 e3 (hG.one e1 e2 e3).1
 have off : ∀ {i j k c k' c' : Nat} {B B' : AB}, i ≠ j → ρ' i = some (k, c) → ρ' j = some (k', c') → H'.get i = some B → H'.get j = some B' → B.live = true → B'.live = true → k ≠ k' := fun e1 e2 e3 e4 e5 e6 e7 e => by
   subst e
   exact e1 (hG.apart e2 e3 e4 e5 e6 e7 (hG.one e2 e4 e6).1 (hG.one e3 e5 e7).1)
 obtain ⟨b1, c1, rfl, hρ1, hn1, hc1⟩ : ∃ b1 c1, v0 = .slice (some ⟨b1, 0, none⟩) d'.stays.length c1 ∧ ρ' q1 = some (b1, c1) ∧ d'.stays.length ≤ c1 ∧ c1 ≤ maxLen := by
   generalize hL : d'.stays.length = N at a0 hne
   cases a0 with
   | ow _ e hn hc => exact ⟨_, _, rfl, e, hn, hc⟩
   | ow0 => exact absurd rfl hne
 have hq1 : i0 ≠ q1 := fun e => by rw [← e, h0] at h1; cases h1
 have hb1 := off hq1 hρ0 hρ1 h0 h1 rfl rfl
 have hrows : RowsAt w' b1 128 d'.stays := (hG.obj hρ1 h1).2
 obtain ⟨b2, rfl, hmap, hin2, hoff2, hnm2⟩ : ∃ b2, v1 = .map (some b2) ∧ MapAt w' b2 d'.waits ∧ ((w0.S b2 ∨ w0.w.heap.size ≤ b2) ∧ b2 < w'.heap.size ∧ ρ'.im b2 = none) ∧ (∀ {g bg cg : Nat} {B : AB}, ρ' g = some (bg, cg) → H'.get g = some B → B.live = true → mx ≠ .mp g → bg ≠ b2) ∧ ∃ q c, mx = .mp q ∧ ρ' q = some (b2, c) ∧ ∃ B, H'.get q = some B ∧ B.live = true := by
   generalize d'.waits = wts at hd2
   cases hd2 with
   | map hq =>
     cases a1 with
     | mp e => exact ⟨_, rfl, (hG.obj e hq).2, here e hq rfl, fun e1 e2 e3 e4 => off (fun e5 => e4 (by rw [e5])) e1 e e2 hq e3 rfl, _, _, rfl, e, _, hq, rfl⟩
   | new hq =>
     cases a1 with
     | mp e =>
       obtain ⟨ob, hob, mm, hmm, rfl⟩ := hr.blk e hq
       cases hmm
       exact ⟨_, rfl, ⟨#[], _, hob, MapKept.stamped_empty _, rfl⟩, here e hq rfl, fun e1 e2 e3 e4 => off (fun e5 => e4 (by rw [e5])) e1 e e2 hq e3 rfl, _, _, rfl, e, _, hq, rfl⟩
 obtain ⟨ka', kc', rfl, hwin⟩ := hd4 v3 a3
 refine ⟨fun k => k = b ∨ k = b1 ∨ k = b2, ⟨T, fz, b1, c1, b2, ka', kc', ho, hz, hrows, hmap, hwin, fun _ => Iff.rfl, hb1, hn1, hc1⟩, .inl rfl, fun k hk => ?_, fun {g bg cg B} e1 e2 e3 e4 e5 e6 hk => ?_, fun k hk => ?_⟩
 · rcases hk with rfl | rfl | rfl
   · exact here hρ0 h0 rfl
   · exact here hρ1 h1 rfl
   · exact hin2
 · rcases hk with e | e | e
   · exact off e4 e1 hρ0 e2 h0 e3 rfl e
   · exact off e5 e1 hρ1 e2 h1 e3 rfl e
   · exact hoff2 e1 e2 e3 e6 e
 · rcases hk with rfl | rfl | rfl
   · exact .inl rfl
   · exact .inr (.inl ⟨_, hρ1⟩)
   · exact .inr (.inr hnm2)
def DEnd (i0 : Nat) (ka : Option Addr) (kc : Nat) (keep0 : List Int) (d' : DiskD) (H' : Tr AB) (M : List Nat) : Prop :=
 ∃ T q1 N mx cx kx tx ax wx dx, H'.get i0 = some (.mem T none [.ow q1 N, mx, cx, kx, tx, ax, wx, dx]) ∧ H'.get q1 = some (.obj (.rows 128 d'.stays)) ∧ N = d'.stays.length ∧ WaitsAs H' mx d'.waits ∧ intA cx = some (.i64, d'.crash.w) ∧ KeepAs ka kc keep0 kx d'.crash.keep ∧
   intA tx = some (.i64, d'.crash.torn) ∧ intA ax = some (.i64, d'.crash.at_) ∧ intA wx = some (.i64, d'.writes) ∧ boolA dx = some d'.down ∧ N ≠ 0 ∧ ∀ g ∈ M, g ≠ i0 ∧ g ≠ q1 ∧ mx ≠ .mp g
theorem HR.closeE {w0 : Bs} {w' : World} {b c0 i0 : Nat} {I : Im} {ka : Option Addr} {kc : Nat} {keep0 : List Int} {ρ' : Env} {H' : Tr AB} {n' : Nat} (hr : HR w0 ρ' H' n' w') (hρ0 : ρ' i0 = some (b, c0))
   (hwas : WinE I ka keep0.length kc 1 (keep0.map iv)) {d' : DiskD} {M : List Nat} (h : DEnd i0 ka kc keep0 d' H' M) :
   ∃ F', DiskAt I w' b F' d' ∧ F' b ∧ (∀ k, F' k → (w0.S k ∨ w0.w.heap.size ≤ k) ∧ k < w'.heap.size ∧ ρ'.im k = none) ∧ ∀ {g bg cg : Nat} {B : AB}, g ∈ M → ρ' g = some (bg, cg) → H'.get g = some B → B.live = true → ¬ F' bg := by
 obtain ⟨T, q1, N, mx, cx, kx, tx, ax, wx, dx, h0, h1, h2, h3, h4, h5, h6, h7, h8, h9, h10, h11⟩ := h
 obtain ⟨F', g1, g2, g3, g4⟩ := hr.closeG hρ0 h0 h1 h2 h3 h4 (fun v hv => h5.win hwas hv) h6 h7 h8 h9 h10
 exact ⟨F', g1, g2, g3, fun hm e1 e2 e3 => g4.1 e1 e2 e3 (h11 _ hm).1 (h11 _ hm).2.1 (h11 _ hm).2.2⟩
def DEndO (d' : DiskD) (H' : Tr AB) : Prop :=
 ∃ T N cx tx ax wx dx g Tk f, H'.get 0 = some (.mem T none [.ow 1 N, .mp 2, cx, .ow g d'.crash.keep.length, tx, ax, wx, dx]) ∧ H'.get 1 = some (.obj (.rows 128 d'.stays)) ∧ N = d'.stays.length ∧ H'.get 2 = some (.obj (.wmap d'.waits)) ∧ intA cx = some (.i64, d'.crash.w) ∧
   H'.get g = some (.rw Tk 1 d'.crash.keep.length f) ∧ (∀ r, r < d'.crash.keep.length → f r = intsF d'.crash.keep r) ∧ d'.crash.keep.length ≠ 0 ∧
   intA tx = some (.i64, d'.crash.torn) ∧ intA ax = some (.i64, d'.crash.at_) ∧ intA wx = some (.i64, d'.writes) ∧ boolA dx = some d'.down ∧ N ≠ 0
theorem HR.closeO {w0 : Bs} {w' : World} {b bs cs bm : Nat} {I : Im} {ρ' : Env} {H' : Tr AB} {n' : Nat} (hr : HR w0 ρ' H' n' w') (hρ0 : ρ' 0 = some (b, 0)) (hρ1 : ρ' 1 = some (bs, cs)) (hρ2 : ρ' 2 = some (bm, 0)) (hS : ∀ k, w0.S k ↔ k = b ∨ k = bs ∨ k = bm) (hI : ∀ k c, I k = some c → ¬ w0.S k ∧ k < w0.w.heap.size)
   {d' : DiskD} (h : DEndO d' H') :
   ∃ F' J, DiskAt J w' b F' d' ∧ F' b ∧ (∀ k, F' k → (w0.S k ∨ w0.w.heap.size ≤ k) ∧ k < w'.heap.size ∧ ρ'.im k = none) ∧ I.le J ∧ ∀ k c, J k = some c → I k = some c ∨ (w0.w.heap.size ≤ k ∧ ¬ F' k ∧ ∃ T fz, w'.heap[k]? = some (.cells c T fz)) := by
 obtain ⟨T, N, cx, tx, ax, wx, dx, g, Tk, f, h0, h1, h2, h3, h4, hg, hf, hl, h6, h7, h8, h9, h10⟩ := h
 obtain ⟨G, hG⟩ := hr.foot
 have off : ∀ {i j k c k' c' : Nat} {B B' : AB}, i ≠ j → ρ' i = some (k, c) → ρ' j = some (k', c') → H'.get i = some B → H'.get j = some B' → B.live = true → B'.live = true → k ≠ k' := fun e1 e2 e3 e4 e5 e6 e7 e => by
   subst e
   exact e1 (hG.apart e2 e3 e4 e5 e6 e7 (hG.one e2 e4 e6).1 (hG.one e3 e5 e7).1)
 have e0 : g ≠ 0 := fun e => by subst e; rw [h0] at hg; cases hg
 have e1 : g ≠ 1 := fun e => by subst e; rw [h1] at hg; cases hg
 have e2 : g ≠ 2 := fun e => by subst e; rw [h3] at hg; cases hg
 have hkx : ∃ bk ck, ρ' g = some (bk, ck) := by
   obtain ⟨o, ho, vs, sp, fz, hv, _⟩ := hr.blk hρ0 h0
   cases hv with | cons _ t => cases t with | cons _ t => cases t with | cons _ t => cases t with | cons a t =>
   generalize hL : d'.crash.keep.length = L at a hl
   cases a with
   | ow _ e hn hc => exact ⟨_, _, e⟩
   | ow0 => exact absurd rfl hl
 obtain ⟨bk, ck, hρk⟩ := hkx
 obtain ⟨ob, hob, vs', sp', rfl, g1, g2, g3, g4, g5⟩ := hr.blk hρk hg
 have hvs := rows1_inv (by simpa using g1) hf g5
 have n0 := off e0 hρk hρ0 hg h0 rfl rfl
 have n1 := off e1 hρk hρ1 hg h1 rfl rfl
 have n2 := off e2 hρk hρ2 hg h3 rfl rfl
 have hnS : ¬ w0.S bk := fun e => by rcases (hS bk).1 e with e | e | e <;> contradiction
 have hnew : w0.w.heap.size ≤ bk := ((hr.base hρk).1).resolve_left hnS
 have hJle : I.le (fun k => if k = bk then some (vs' ++ sp').toArray else I k) := fun k c hk => by
   have := (hI k c hk).2
   show (if k = bk then some (vs' ++ sp').toArray else I k) = some c
   rw [if_neg (by omega)]; exact hk
 obtain ⟨F', k1, k2, k3, k4, k5⟩ := hr.closeG (J := fun k => if k = bk then some (vs' ++ sp').toArray else I k) hρ0 h0 h1 h2 (.map h3) h4 (fun v hv => by
   have hL := hl
   revert hv
   generalize hLL : d'.crash.keep.length = L at hl
   intro hv
   cases hv with
   | ow _ e hn hc =>
     rw [hρk] at e
     cases e
     refine ⟨_, _, rfl, ⟨by simp [hLL], hn, hc, (fun e => by cases e), fun ad had j u hu => ?_⟩⟩
     cases had
     rw [Addr.add_lit]
     show Im.cell _ ⟨bk, 0 + j, none⟩ = some u
     unfold Im.cell
     simp only [if_true]
     rw [Nat.zero_add, ← hvs] at *
     simp only [List.getElem?_toArray]
     rw [List.getElem?_append_left (List.getElem?_eq_some_iff.1 hu).1]; exact hu
   | ow0 => exact absurd rfl hl) h6 h7 h8 h9 h10
 have hnF : ¬ F' bk := k4 hρk hg rfl e0 e1 (fun e => by cases e; exact e2 rfl)
 refine ⟨F', _, k1, k2, k3, hJle, fun k c hk => ?_⟩
 by_cases e : k = bk
 · subst e
   simp only [if_true] at hk
   cases hk
   exact .inr ⟨hnew, hnF, _, _, hob⟩
 · simp only [if_neg e] at hk
   exact .inl hk
theorem tab : (Try.prog.funcs.toList.all fun fn => !(fn.name == "runtime.NumGoroutine")) = true := by kernel_rfl
theorem mix : Try.prog.follows .mixedOrders = true := Try.checked.mixed
noncomputable abbrev S0 : Sy := sym Try.prog noF noG
theorem s0_ok : S0.Ok Try.prog := sym_ok (noF_ok _) (noG_ok _) tab mix
theorem mem_take_succ {l : List Int} {a : Nat} (h : a < l.length) (z : Int) : z ∈ l.take (a + 1) ↔ z ∈ l.take a ∨ z = l.getD a 0 := by
 rw [List.take_succ_eq_append_getElem h, List.mem_append, List.mem_singleton, List.getD_eq_getElem?_getD, List.getElem?_eq_getElem h]; rfl
set_option maxRecDepth 100000 in
theorem contains_to (hok : S0.Ok Try.prog) (l : List Int) (z : Int) (hl : l.length ≤ 1000000) : To S0 Try.prog 90 (startOf Try.prog 90 [.im 1 l.length (intsF l), ivA z] .e 0) (fun x _ _ => x = .v (.bool (decide (z ∈ l)))) := by
 refine To.R (k := 22) (h := ?_)
 refine To.loop (L := []) (kp := [8, 7, 1, 0]) (ks := []) (C := Same IntKind.i64 ∧ (0 : Int) = (↑(0 : Nat) : Int)) (hB := by kernel_rfl) (hC := by kernel_rfl) (hI := ?_) (hc := by (and_intros <;> try exact cl)) (step := ?_) (fun (a : Nat) => [(8, ivA (a : Int))]) (fun _ => []) (fun a => a ≤ l.length ∧ z ∉ l.take a) (fun a => l.length - a) (0)
 · simp
 intro a ⟨ha, hn⟩ ih
 refine To.R (h := ?_)
 refine To.Bd ((a : Int) < l.length) (h := ?_) (g := ?_)
 · intro h
   have hlt : a < l.length := by omega
   refine To.R (C := ((0 : Int) ≤ a ∧ (a : Int) < l.length) ∧ True) (h := ?_)
   refine To.Bd (z = l.getD a 0) (h := ?_) (g := ?_)
   · intro h2
     refine To.R (h := ?_)
     refine To.Yd ((0 : Int) ≤ a) (h := ?_)
     refine To.R (h := ?_)
     refine To.E (AV.v (Value.bool true)) (hq := ?_)
     have : z ∈ l := by
       have := (mem_take_succ hlt z).2 (.inr (by simpa using h2))
       exact List.mem_of_mem_take this
     simp [this]
   · intro h2
     refine To.R (k := 9) (C := fits IntKind.i64 (a + 1)) (h := ?_)
     refine To.back (L' := []) (C := Same IntKind.i64 ∧ (↑a : Int) + 1 = (↑(a + 1) : Int)) (hB := by kernel_rfl) (hC := by kernel_rfl) (hc := by (and_intros <;> try exact cl)) (he := by kernel_rfl) (ih (a + 1) ⟨by omega, by rw [mem_take_succ hlt]; rintro (h3 | h3); exact hn h3; exact h2 (by simpa using h3)⟩ (by omega))
 · intro h
   refine To.R (h := ?_)
   refine To.E (AV.v (Value.bool (decide (-1 ≥ 0)))) (hq := ?_)
   have : z ∉ l := by rwa [List.take_of_length_le (by omega)] at hn
   simp [this]
def containsG : CG := oneG 90 (testG fun args H => match args with
 | [x, y] => match isrc x H, intA y with
   | some (l, C), some (.i64, z) => some (decide (z ∈ l), C ∧ l.length ≤ 1000000)
   | _, _ => none
 | _ => none)
theorem containsG_ok : GOk Try.prog containsG := testG_ok tab Try.func90 (by kernel_rfl) fun {args H r} h hC {w0 ρ w vs n} hr hv => by
 split at h
 · rename_i x y
   split at h
   · rename_i l C z hl hz
     cases h
     obtain ⟨h1, h2⟩ : C ∧ l.length ≤ 1000000 := hC
     cases hv with
     | cons e1 t =>
     cases t with
     | cons e2 t =>
     cases t
     obtain rfl := intA_sound hz e2
     refine (pure_calls s0_ok (by kernel_rfl) (contains_to s0_ok l z h2) (w := w) (.cons (isrc_sound hr hl h1 e1) (.cons (.sy _) .nil))).mono ?_
     rintro e w' ⟨x, H', n', ρ', v, rfl, rfl, hv, hf, _⟩
     cases hv
     exact ⟨rfl, hf⟩
   · cases h
 · cases h
end Go.Proofs.Ytnfdknnbaebagaa.Sm
namespace Go.Proofs
open Go.Shelf
def Ytnfdknnbaebagaa.keysL_ren : Go.Shelf.Ren := ⟨fun | 7 => 71 | 10 => 88 | n => n, fun | 23 => 64 | 26 => 3 | 3 => 89 | 28 => 115 | 0 => 0 | 27 => 114 | 33 => 87 | 4 => 4 | n => n, fun | n => n⟩
theorem Ytnfdknnbaebagaa.keysL : Go.Proofs.SlLaysZI.n7 Try.prog Ytnfdknnbaebagaa.keysL_ren := {
 mixed := by kernel_rfl
 f7 := ⟨Try.f71.name, by decide, Try.func71.trans (congrArg some (by kernel_rfl))⟩
 f10 := ⟨Try.f88.name, by decide, Try.func88.trans (congrArg some (by kernel_rfl))⟩
 t0 := Try.underlying0
 a0 := Try.isAgg0
 z0 := Try.sizeOf0
 v0 := Try.zeroValue0
 t4 := Try.underlying4
 a4 := Try.isAgg4
 z4 := Try.sizeOf4
 v4 := Try.zeroValue4
 t23 := Try.underlying64
 a23 := Try.isAgg64
 z23 := Try.sizeOf64
 v23 := Try.zeroValue64
 t26 := Try.underlying3
 a26 := Try.isAgg3
 z26 := Try.sizeOf3
 v26 := Try.zeroValue3
 t27 := Try.underlying114
 a27 := Try.isAgg114
 z27 := Try.sizeOf114
 v27 := Try.zeroValue114
 t28 := Try.underlying115
 a28 := Try.isAgg115
 z28 := Try.sizeOf115
 v28 := Try.zeroValue115
 t33 := Try.underlying87
 a33 := Try.isAgg87
 z33 := Try.sizeOf87
 v33 := Try.zeroValue87 }
def Ytnfdknnbaebagaa.sortedL_ren : Go.Shelf.Ren := ⟨fun | 6 => 70 | 8 => 86 | 9 => 87 | 11 => 98 | 13 => 60 | 12 => 99 | 23 => 81 | 24 => 82 | 14 => 103 | 15 => 104 | 16 => 105 | 17 => 106 | 18 => 107 | 19 => 108 | 20 => 109 | 21 => 110 | 22 => 111 | 25 => 113 | 26 => 92 | 27 => 93 | 28 => 114 | 29 => 115 | 30 => 116 | 31 => 117 | n => n, fun | 26 => 3 | 28 => 115 | 24 => 50 | 0 => 0 | 3 => 3 | 37 => 103 | 48 => 28 | 50 => 27 | 4 => 4 | 40 => 122 | 39 => 121 | 45 => 126 | 5 => 5 | 9 => 9 | 51 => 138 | 55 => 142 | 57 => 152 | 58 => 153 | 33 => 87 | n => n, fun | n => n⟩
theorem Ytnfdknnbaebagaa.sortedL : Go.Proofs.SlLaysZI.n6 Try.prog Ytnfdknnbaebagaa.sortedL_ren := {
 mixed := by kernel_rfl
 f6 := ⟨Try.f70.name, by decide, Try.func70.trans (congrArg some (by kernel_rfl))⟩
 f8 := ⟨Try.f86.name, by decide, Try.func86.trans (congrArg some (by kernel_rfl))⟩
 f11 := ⟨Try.f98.name, by decide, Try.func98.trans (congrArg some (by kernel_rfl))⟩
 t0 := Try.underlying0
 a0 := Try.isAgg0
 z0 := Try.sizeOf0
 v0 := Try.zeroValue0
 t24 := Try.underlying50
 a24 := Try.isAgg50
 z24 := Try.sizeOf50
 v24 := Try.zeroValue50
 t26 := Try.underlying3
 a26 := Try.isAgg3
 z26 := Try.sizeOf3
 v26 := Try.zeroValue3
 t28 := Try.underlying115
 a28 := Try.isAgg115
 z28 := Try.sizeOf115
 v28 := Try.zeroValue115
 i26 := by kernel_rfl }
def Ytnfdknnbaebagaa.sortL_ren : Go.Shelf.Ren := ⟨fun | 5 => 87 | 8 => 60 | 7 => 99 | 19 => 81 | 20 => 82 | 10 => 103 | 11 => 104 | 12 => 105 | 13 => 106 | 14 => 107 | 15 => 108 | 16 => 109 | 17 => 110 | 18 => 111 | 30 => 113 | 31 => 92 | 32 => 93 | 33 => 114 | 34 => 115 | 35 => 116 | 40 => 117 | n => n, fun | 23 => 50 | 25 => 3 | 3 => 3 | 32 => 103 | 22 => 50 | 0 => 0 | 44 => 28 | 46 => 27 | 4 => 4 | 36 => 122 | 35 => 121 | 41 => 126 | 5 => 5 | 9 => 9 | 53 => 138 | 57 => 142 | 63 => 152 | 64 => 153 | n => n, fun | n => n⟩
theorem Ytnfdknnbaebagaa.sortL : Go.Proofs.SlLaysM.n5 Try.prog Ytnfdknnbaebagaa.sortL_ren := {
 mixed := by kernel_rfl
 f5 := ⟨Try.f87.name, by decide, Try.func87.trans (congrArg some (by kernel_rfl))⟩
 f7 := ⟨Try.f99.name, by decide, Try.func99.trans (congrArg some (by kernel_rfl))⟩
 f8 := Try.func60.trans (congrArg some (by kernel_rfl))
 f10 := ⟨Try.f103.name, by decide, Try.func103.trans (congrArg some (by kernel_rfl))⟩
 f11 := ⟨Try.f104.name, by decide, Try.func104.trans (congrArg some (by kernel_rfl))⟩
 f12 := ⟨Try.f105.name, by decide, Try.func105.trans (congrArg some (by kernel_rfl))⟩
 f13 := ⟨Try.f106.name, by decide, Try.func106.trans (congrArg some (by kernel_rfl))⟩
 f14 := ⟨Try.f107.name, by decide, Try.func107.trans (congrArg some (by kernel_rfl))⟩
 f15 := ⟨Try.f108.name, by decide, Try.func108.trans (congrArg some (by kernel_rfl))⟩
 f16 := ⟨Try.f109.name, by decide, Try.func109.trans (congrArg some (by kernel_rfl))⟩
 f17 := ⟨Try.f110.name, by decide, Try.func110.trans (congrArg some (by kernel_rfl))⟩
 f18 := ⟨Try.f111.name, by decide, Try.func111.trans (congrArg some (by kernel_rfl))⟩
 f19 := Try.func81.trans (congrArg some (by kernel_rfl))
 f20 := Try.func82.trans (congrArg some (by kernel_rfl))
 f30 := ⟨Try.f113.name, by decide, Try.func113.trans (congrArg some (by kernel_rfl))⟩
 f31 := Try.func92.trans (congrArg some (by kernel_rfl))
 f32 := Try.func93.trans (congrArg some (by kernel_rfl))
 f33 := ⟨Try.f114.name, by decide, Try.func114.trans (congrArg some (by kernel_rfl))⟩
 f34 := ⟨Try.f115.name, by decide, Try.func115.trans (congrArg some (by kernel_rfl))⟩
 f35 := ⟨Try.f116.name, by decide, Try.func116.trans (congrArg some (by kernel_rfl))⟩
 f40 := ⟨Try.f117.name, by decide, Try.func117.trans (congrArg some (by kernel_rfl))⟩
 t0 := Try.underlying0
 a0 := Try.isAgg0
 z0 := Try.sizeOf0
 v0 := Try.zeroValue0
 t3 := Try.underlying3
 a3 := Try.isAgg3
 z3 := Try.sizeOf3
 v3 := Try.zeroValue3
 t4 := Try.underlying4
 a4 := Try.isAgg4
 z4 := Try.sizeOf4
 v4 := Try.zeroValue4
 t5 := Try.underlying5
 a5 := Try.isAgg5
 z5 := Try.sizeOf5
 v5 := Try.zeroValue5
 t9 := Try.underlying9
 a9 := Try.isAgg9
 z9 := Try.sizeOf9
 v9 := Try.zeroValue9
 t22 := Try.underlying50
 a22 := Try.isAgg50
 z22 := Try.sizeOf50
 v22 := Try.zeroValue50
 t23 := Try.underlying50
 a23 := Try.isAgg50
 z23 := Try.sizeOf50
 v23 := Try.zeroValue50
 t25 := Try.underlying3
 a25 := Try.isAgg3
 z25 := Try.sizeOf3
 v25 := Try.zeroValue3
 t32 := Try.underlying103
 a32 := Try.isAgg103
 z32 := Try.sizeOf103
 v32 := Try.zeroValue103
 t35 := Try.underlying121
 a35 := Try.isAgg121
 z35 := Try.sizeOf121
 v35 := Try.zeroValue121
 t36 := Try.underlying122
 a36 := Try.isAgg122
 z36 := Try.sizeOf122
 v36 := Try.zeroValue122
 t41 := Try.underlying126
 a41 := Try.isAgg126
 z41 := Try.sizeOf126
 v41 := Try.zeroValue126
 t44 := Try.underlying28
 a44 := Try.isAgg28
 z44 := Try.sizeOf28
 v44 := Try.zeroValue28
 t46 := Try.underlying27
 a46 := Try.isAgg27
 z46 := Try.sizeOf27
 v46 := Try.zeroValue27
 t53 := Try.underlying138
 a53 := Try.isAgg138
 z53 := Try.sizeOf138
 v53 := Try.zeroValue138
 t57 := Try.underlying142
 a57 := Try.isAgg142
 z57 := Try.sizeOf142
 v57 := Try.zeroValue142
 t63 := Try.underlying152
 a63 := Try.isAgg152
 z63 := Try.sizeOf152
 v63 := Try.zeroValue152
 t64 := Try.underlying153
 a64 := Try.isAgg153
 z64 := Try.sizeOf153
 v64 := Try.zeroValue153 }
end Go.Proofs
namespace Go.Proofs.Ytnfdknnbaebagaa
open Go.RowKit Go.Maps Go.Sort Go.Shelf Go.MapKept Go.WideShapes
def MapZ (w : World) (b : Nat) (ks : List Int) : Prop := ∃ es clock, w.heap[b]? = some (.map es clock) ∧ Stamped es clock ∧ es.toList.map (·.key) = ks.map encZ ∧ es.size ≤ 1000000 ∧ ∀ k ∈ ks, (Lit.int .i64 k).wf = true
def rAny (_ : Value) : Option (DataW Unit × List MemPlace) := some (.lit (.bool true), [])
theorem MapZ.own {w : World} {b : Nat} {ks : List Int} (h : MapZ w b ks) : ∃ D : DataW Unit, w.ownsMap Try.prog 3 rAny b ks.length D ∧ (intKeys D).Perm ks ∧ Maps.size D = ks.length := by
 obtain ⟨es, clock, hb, hs, hk, hsz, hwf⟩ := h
 have hlen : es.size = ks.length := by
   have := congrArg List.length hk
   simpa using this
 have hrd : ∀ x ∈ es.toList, ∃ k : Int, x.key = encZ k ∧ k ∈ ks := by
   intro x hx
   have : x.key ∈ es.toList.map (·.key) := List.mem_map.2 ⟨x, hx, rfl⟩
   rw [hk] at this
   obtain ⟨k, hk, e⟩ := List.mem_map.1 this
   exact ⟨k, e.symm, hk⟩
 have hread : ∀ x ∈ es.toList, ∀ k : Int, x.key = encZ k → k ∈ ks → Go.WideElems.rd Try.prog 3 rAny x = some (.int .i64 k, .lit (.bool true)) := by
   intro x hx k e hk
   have hkey : keyOf Try.prog 3 x.key = some (.int .i64 k) := by
     rw [e]
     exact keyOf_int_mk Try.underlying3 (hwf k hk)
   unfold Go.WideElems.rd rAny
   simp [hkey]
 refine ⟨_, ⟨es, clock, hb, ⟨by unfold maxLen; omega, hs, fun x hx => ?_⟩, by omega, rfl⟩, ?_, ?_⟩
 · obtain ⟨k, e, hk⟩ := hrd x hx
   exact ⟨_, hread x hx k e hk⟩
 · have hp := sorted_perm (es.toList.map (Go.WideElems.rg Try.prog 3 rAny))
   have : intKeys (H := Unit) (DataW.map ((es.toList.map (Go.WideElems.rg Try.prog 3 rAny)).foldr DataW.insert [])) = ((es.toList.map (Go.WideElems.rg Try.prog 3 rAny)).foldr DataW.insert []).map (fun p : Lit × DataW Unit => Go.intOf p.1) := rfl
   rw [this]
   refine (hp.map _).trans (List.Perm.of_eq ?_)
   have hmap : (es.toList.map (Go.WideElems.rg Try.prog 3 rAny)).map (fun p => encZ (Go.intOf p.1)) = es.toList.map (·.key) := by
     rw [List.map_map]
     refine List.map_congr_left fun x hx => ?_
     obtain ⟨k, e, hk⟩ := hrd x hx
     have := hread x hx k e hk
     simp [Function.comp, Go.WideElems.rg_of this, Go.intOf, e]
   have h2 : (((es.toList.map (Go.WideElems.rg Try.prog 3 rAny)).map fun p => Go.intOf p.1).map encZ) = ks.map encZ := by
     rw [← hk, ← hmap]
     simp
   exact (List.map_inj_right (fun x y e => encZ_inj e)).1 h2
 · have hp := (sorted_perm (es.toList.map (Go.WideElems.rg Try.prog 3 rAny))).length_eq
   show ((es.toList.map (Go.WideElems.rg Try.prog 3 rAny)).foldr DataW.insert []).length = _
   rw [hp]
   simpa using hlen
theorem sortsA (m : Nat) : AnyZI.SortsIn Try.prog Ytnfdknnbaebagaa.sortedL_ren Fence.wide m :=
 ⟨fun blk off cap ss W hH hblk hsz => callsIn_wide.2 (AnyM.slices_Sort_int Ytnfdknnbaebagaa.sortL blk off cap ss W hH hblk hsz),
  fun p cap W => callsIn_wide.2 (AnyM.slices_Sort_int_none Ytnfdknnbaebagaa.sortL p cap W)⟩
def sortZ (ks : List Int) : List Int := ks.mergeSort leI
theorem noneD_ok (b n c : Nat) (a : Option Addr) (w : World) (h0 : w.cell? ⟨b, 0, none⟩ = some (.slice a n c)) (hn : n ≤ 100000) :
   Calls Try.prog 36 #[.pointer (some ⟨b, 0, none⟩)] w fun e w' => e = .returned (.bool (n == 0)) ∧ w = w' := by
 have hn' : ((n : Int) == 0) = (n == 0) := by
   rw [Bool.eq_iff_iff]; simp
 go_enter Try.func36, Try.ntmps36
 go_wp2
 go_ret
 exact ⟨by simp [hn'], rfl⟩
set_option maxHeartbeats 2000000 in
theorem waits_ok (b m n c : Nat) (a : Option Addr) (ks : List Int) (w : World) (h0 : w.cell? ⟨b, 0, none⟩ = some (.slice a n c)) (hn0 : 0 < n) (hn : n ≤ 100000) (h1 : w.cell? ⟨b, 1, none⟩ = some (.map (some m))) (hm : MapZ w m ks) :
   Calls Try.prog 51 #[.pointer (some ⟨b, 0, none⟩)] w fun e w' => ∃ v, e = .returned v ∧ Own w' 3 1 v ks.length ((sortZ ks).map encZ) ∧ (v = .slice none 0 0 ↔ ks = []) ∧ (∀ k, v.ownBlock = some k → w.heap.size ≤ k) ∧ Fr No w w' := by
 refine (callsIn_wide (n := 6)).1 ?_
 obtain ⟨D0, hown, hperm, hsize⟩ := hm.own
 have hksz : ks.length ≤ 1000000 := by
   obtain ⟨es, clock, _, _, hk, hsz, _⟩ := hm
   have := congrArg List.length hk
   simp at this
   omega
 have hmax : Maps.size D0 ≤ maxLen := by rw [hsize]; unfold maxLen; omega
 have hbytes : Maps.size D0 * 8 ≤ 140737488355328 := by rw [hsize]; omega
 have hbl := hown.lt
 have hseq : SeqGives Fence.wide 2 Try.prog 88 #[.pointer (some ⟨w.heap.size, 0, none⟩)] encZ (fun ss => ss.Perm (intKeys D0)) (Maps.size D0) (w.alloc (.cells #[.map (some m)] 64)) :=
   AnyZI.keys_gives (ρ := Ytnfdknnbaebagaa.keysL_ren) { Ytnfdknnbaebagaa.keysL with } Fence.wide _ trivial rfl (by omega) w.heap.size m ks.length D0 _ (by simp) (by simp) (by
     obtain ⟨es, clock, hb, Ft, hs, hD⟩ := hown
     exact ⟨es, clock, (Below.heap_alloc _ _ m hbl).trans hb, Ft, hs, hD⟩)
 have cK : ∀ mb W, CallsIn Fence.wide 5 Try.prog 71 #[.map mb] W fun e w' => e = .returned (.func (.func 88) #[] #[.pointer (some ⟨W.heap.size, 0, none⟩)]) ∧ w' = W.alloc (.cells #[.map mb] 64) := fun mb W => AnyZI.keys_in Ytnfdknnbaebagaa.keysL Fence.wide 5 trivial rfl mb W
 have cS := AnyZI.sorted_in Ytnfdknnbaebagaa.sortedL Fence.wide 5 trivial trivial trivial trivial rfl (by omega) (sortsA _) (enters_of Try.func87 (by kernel_rfl) rfl) 88 #[.pointer (some ⟨w.heap.size, 0, none⟩)] trivial (enters_of Try.func88 (by kernel_rfl) rfl) _ _ hmax hbytes _ hseq
 change CallsIn _ _ Try.prog 70 _ _ _ at cS
 have cN : CallsIn Fence.wide 5 Try.prog 36 #[.pointer (some ⟨b, 0, none⟩)] w fun e w' => e = .returned (.bool false) ∧ w = w' :=
   callsIn_wide.2 ((noneD_ok b n c a w h0 hn).mono fun e w' ⟨he, hw⟩ => ⟨by rw [he]; congr 2; simp; omega, hw⟩)
 have hfK : Fence.wide.fn 71 := trivial
 have hfS : Fence.wide.fn 70 := trivial
 have hfN : Fence.wide.fn 36 := trivial
 refine callsIn_of_wp Try.func51 rfl trivial ?_ rfl
 simp only [Try.ntmps51, List.size_toArray, List.length_cons, List.length_nil, Nat.reduceAdd, Nat.reduceSub, Array.replicate_succ, Array.replicate_zero, List.push_toArray, List.append_toArray, List.nil_append, List.cons_append]
 gi_wp2_with (first
   | (gi_at_call 36; refine cN.mono ?_; rintro e w' ⟨rfl, rfl⟩)
   | (gi_at_call 71; refine (cK _ _).mono ?_; rintro e w' ⟨rfl, rfl⟩)
   | (gi_at_call 70; refine cS.mono ?_; rintro e w' ⟨v, ss, rfl, hS, hrow, hnil, hb⟩))
 go_ret
 have hp : ss.Perm ks := hS.trans hperm
 have hsort : ss.mergeSort (fun x y => decide (x ≤ y)) = sortZ ks := mergeSort_of_perm_i hp
 rw [hsort, hp.length_eq] at hrow
 refine ⟨v, rfl, Own.weak hrow, ?_, fun k hk => ?_, ?_⟩
 · rw [hnil]
   constructor
   · rintro rfl; exact hp.nil_eq.symm
   · rintro rfl; exact hp.eq_nil
 · have := (World.ownsRow.lt hrow k hk).1
   simp at this
   omega
 · exact ((Fr.refl No w).alloc _).thn (Fr.of_below hb)
end Go.Proofs.Ytnfdknnbaebagaa
namespace Go.Proofs.Ytnfdknnbaebagaa
open Go.RowKit
theorem Try.infoU8 : (Try.prog.info? 5).map (fun i => (i.zero, i.size, i.bytes)) = some (some (.int .u8 0), 1, 1) := by kernel_rfl
theorem Try.eqU8 (w : World) (a : Option Addr) (n c n' c' : Nat) : (binOp .eql 36 (.slice a n c) (.slice none n' c')).run Try.prog w = .ok (.bool a.isNone) w :=
 Lib.run_eql_slice_nil w 36 5 a n c n' c' Try.underlying36
set_option maxRecDepth 100000 in
set_option maxHeartbeats 400000 in
theorem cloneB_any (a : Option Addr) (n c : Nat) (bs : List UInt8) (w : World) (h : Win w a n c (bs.map byt)) (hb : n ≤ 1000000) :
   Calls Try.prog 55 #[.slice a n c] w fun e w' => ∃ v, e = .returned v ∧ IsClone 5 w a n (bs.map byt) v w' := by
 have hnil := Try.eqU8
 obtain ⟨i0, hi, hz0, hz1, hz2⟩ := info_parts Try.infoU8
 cases a with
 | none =>
   obtain ⟨rfl, rfl, hx⟩ := h.nil_inv
   rw [hx]
   clear hx
   go_enter Try.func55, Try.ntmps55
   go_wp2
   go_ret
   exact ⟨_, rfl, World.ownsRow_nil _ _ _ _, fun k hk => by simp [Value.ownBlock] at hk, by simp, Fr.refl _ _⟩
 | some ad =>
   have hm : Hid (Own (w.alloc (.cells #[] 5)) 5 1 (.slice (some ⟨w.heap.size, 0, none⟩) 0 0) 0 []) := Own.weak (World.ownsRow_made w #[] 0 (Nat.le_refl _) (Nat.zero_le _) rfl)
   have hw : Hid (Win (w.alloc (.cells #[] 5)) (some ad) n c (bs.map byt)) := h.no ((Fr.refl No w).alloc _)
   have HK : Hid (∀ u ∈ bs.map byt, u.oneCell' = true) := byt_one bs
   have hm1 : 0 + n ≤ maxLen := by unfold maxLen; omega
   have hm2 : (0 + n) * 1 ≤ 140737488355328 := by omega
   go_enter Try.func55, Try.ntmps55
   go_wp2_with (at_builtin; refine wpList_appW _ rfl (.tmp 5) (.tmp 6) 36 rfl 5 i0 (.int .u8 0) 1 Try.underlying36 hi hz0 hz1 hz2 rfl (.slice (some ⟨w.heap.size, 0, none⟩) 0 0) 0 [] rfl hm.out (some ad) n c (bs.map byt) rfl hw.out HK.out hm1 hm2 ?_; intro v' w' hap)
   go_ret
   have ho := hap.own
   rw [Nat.zero_add, List.nil_append] at ho
   refine ⟨v', rfl, ho, fun k hk => ?_, ?_, ((Fr.refl No w).alloc _).trans hap.fr (fun k hk => .inr ?_)⟩
   · rcases hap.blk with e | ⟨k', e, hk'⟩
     · rw [e] at hk
       simp [Value.ownBlock] at hk
       omega
     · rw [e] at hk
       cases hk
       simp at hk'
       omega
   · rw [hap.isNil]; simp
   · simp [Value.ownBlock] at hk; omega
set_option maxRecDepth 100000 in
set_option maxHeartbeats 400000 in
theorem twin_any (a : Option Addr) (n c : Nat) (bs : List UInt8) (w : World) (h : Win w a n c (bs.map byt)) (hb : n ≤ 1000000) :
   Calls Try.prog 39 #[.slice a n c] w fun e w' => ∃ v, e = .returned v ∧ Own w' 5 1 v n (bs.map byt) ∧ (∀ k, v.ownBlock = some k → w.heap.size ≤ k) ∧ (v = .slice none 0 0 ↔ n = 0) ∧ Fr No w w' := by
 obtain ⟨i0, hi, hz0, hz1, hz2⟩ := info_parts Try.infoU8
 have hw := Lib.hid h
 have HK : Hid (∀ u ∈ bs.map byt, u.oneCell' = true) := byt_one bs
 have hm1 : 0 + n ≤ maxLen := by unfold maxLen; omega
 have hm2 : (0 + n) * 1 ≤ 140737488355328 := by omega
 have hm : Hid (Own w 5 1 (.slice none 0 0) 0 []) := World.ownsRow_nil _ _ _ _
 clear h
 go_enter Try.func39, Try.ntmps39
 go_wp2_with (at_builtin; refine wpList_appW _ rfl (.tmp 4) (.tmp 5) 36 rfl 5 i0 (.int .u8 0) 1 Try.underlying36 hi hz0 hz1 hz2 rfl (.slice none 0 0) 0 [] rfl hm.out a n c (bs.map byt) rfl hw.out HK.out hm1 hm2 ?_; intro v' w' hap)
 go_ret
 have ho := hap.own
 rw [Nat.zero_add, List.nil_append] at ho
 refine ⟨v', rfl, ho, fun k hk => ?_, ?_, (Fr.refl No w).trans hap.fr (fun k hk => ?_)⟩
 · rcases hap.blk with e | ⟨k', e, hk'⟩
   · rw [e] at hk
     simp [Value.ownBlock] at hk
   · rw [e] at hk
     cases hk
     exact hk'
 · rw [hap.isNil]; simp
 · simp [Value.ownBlock] at hk
end Go.Proofs.Ytnfdknnbaebagaa
namespace Go.Proofs.Ytnfdknnbaebagaa.Sm
open Go Go.RowKit
def cloneZF : CF := oneF 67 (cloneK 3 1)
set_option maxRecDepth 100000 in
theorem cloneZ_to1 (hok : S0.Ok Try.prog) (ad : Addr) (c k : Nat) (f : Nat → List AV) (hk : k + 1 ≤ 1000000) (hf : ∀ r, r < k + 1 → (f r).all oneA = true) : To S0 Try.prog 67 (startOf Try.prog 67 [.ix (some ad) c 1 (Nat.succ k) f] .e 0) (fun x H _ => x = .ow 1 (k + 1) ∧ H.get 1 = some (.rw 3 1 (k + 1) f)) := by
 refine To.R (C := True ∧ k + 1 ≤ 1073741824 ∧ (∀ (r : Nat), r < k + 1 → (f r).all oneA = true)) (h := ?_)
 refine To.E (AV.ow 1 (k + 1)) (hq := ?_)
 exact ⟨rfl, by kernel_rfl⟩
set_option maxRecDepth 100000 in
theorem cloneZ_to2 (hok : S0.Ok Try.prog) (ad : Addr) (c : Nat) (f : Nat → List AV) : To S0 Try.prog 67 (startOf Try.prog 67 [.ix (some ad) c 1 0 f] .e 0) (fun x _ _ => ∃ q o, x = .sl q o 0 0) := by
 refine To.R (C := True ∧ True) (h := ?_)
 refine To.E (AV.sl 0 0 0 0) (hq := ?_)
 exact ⟨_, _, rfl⟩
set_option maxRecDepth 100000 in
theorem cloneZ_to3 (hok : S0.Ok Try.prog) : To S0 Try.prog 67 (startOf Try.prog 67 [.v (.slice none 0 0)] .e 0) (fun x _ _ => x = .v (.slice none 0 0)) := by
 refine To.R (h := ?_)
 refine To.E (AV.v (Value.slice none 0 0)) (hq := ?_)
 rfl
theorem cloneZF_ok : FOk Try.prog cloneZF := cloneF_ok s0_ok tab Try.func67 (by kernel_rfl) (cloneZ_to1 s0_ok) (cloneZ_to2 s0_ok) (cloneZ_to3 s0_ok) (fun _ _ _ _ => by kernel_rfl) (fun _ _ _ => by kernel_rfl) (by kernel_rfl)
def cloneBF : CF := oneF 55 fun args H n => match args with
 | [x] => match bsrc x H with
   | some (bs, C) => some ((.ow n bs.length, tput H n (.bb 5 bs), n + 1), C ∧ bs ≠ [] ∧ bs.length ≤ 1000000)
   | none => none
 | _ => none
theorem HR.newOw {w0 : Bs} {ρ : Env} {H : Tr AB} {n : Nat} {w w' : World} (hr : HR w0 ρ H n w) (hf : Fr No w w') {T : TypeId} {g m c : Nat} {bs : List UInt8} (hg : w.heap.size ≤ g) (ho : Own w' T 1 (.slice (some ⟨g, 0, none⟩) m c) m (bs.map byt)) :
   ∃ ρ', VR ρ' (.ow n m) (.slice (some ⟨g, 0, none⟩) m c) ∧ HR w0 ρ' (tput H n (.bb T bs)) (n + 1) w' ∧ Ext ρ ρ' H (tput H n (.bb T bs)) n (n + 1) := by
 obtain ⟨sp, h1, h2, h3, h4, h5⟩ := ho.blk
 obtain ⟨g1, g2⟩ := hr.newB (B := .bb T bs) (c := c) hf h1 hg rfl ⟨sp, rfl, by rw [h3, Nat.mul_one], h5⟩
 exact ⟨_, .ow _ (Env.set_same _ _ _) h4 h5, g1, g2⟩
theorem cloneBF_ok : FOk Try.prog cloneBF := oneF_ok tab Try.func55 (by kernel_rfl) fun {args H n r} h hC {w0 ρ w vs} hr hv => by
 split at h
 · rename_i x
   split at h
   · rename_i bs C hs
     cases h
     obtain ⟨h1, h2, h3⟩ : C ∧ bs ≠ [] ∧ bs.length ≤ 1000000 := hC
     cases hv with
     | cons e1 t =>
     cases t
     obtain ⟨a, c, rfl, hw⟩ := bsrc_sound hr hs h1 e1
     refine (cloneB_any a bs.length c bs w hw h3).mono ?_
     rintro e w' ⟨v, rfl, ho, hnew, hnil, hf⟩
     rcases ho.cases with ⟨_, h0, _⟩ | ⟨g, cg, rfl⟩
     · exact absurd (List.eq_nil_of_length_eq_zero h0) h2
     · obtain ⟨ρ', g1, g2, g3⟩ := hr.newOw hf (hnew g rfl) ho
       exact ⟨ρ', _, rfl, g1, g2, g3⟩
   · cases h
 · cases h
def keysD (m : List (Int × List UInt8)) : List Int := sortZ (m.map (·.1))
def waitsF : CF := oneF 51 fun args H n => match args with
 | [.ptr i 0] => match H.get i with
   | some (.mem _ none (.ow _ N :: .mp q :: _)) => match H.get q with
     | some (.obj (.wmap m)) => some ((.im 1 m.length (intsF (keysD m)), H, n), N ≠ 0 ∧ N ≤ 100000 ∧ m.length ≤ 1000000 ∧ ∀ p ∈ m, (Lit.int .i64 p.1).wf = true)
     | _ => none
   | _ => none
 | _ => none
theorem keysD_len (m : List (Int × List UInt8)) : (keysD m).length = m.length := by unfold keysD sortZ; rw [List.length_mergeSort, List.length_map]
theorem waitsF_ok : FOk Try.prog waitsF := oneF_ok tab Try.func51 (by kernel_rfl) fun {args H n r} h hC {w0 ρ w vs} hr hv => by
 split at h
 · rename_i i
   split at h
   · rename_i T q1 N q l hB
     split at h
     · rename_i m hq
       cases h
       obtain ⟨h1, h2, h3, h4⟩ : N ≠ 0 ∧ N ≤ 100000 ∧ m.length ≤ 1000000 ∧ ∀ p ∈ m, (Lit.int .i64 p.1).wf = true := hC
       cases hv with
       | cons e1 t =>
       cases t
       cases e1 with
       | @ptr _ b c _ hi =>
         obtain ⟨o, ho, us, sp, fz, hus, rfl, hz, hsp⟩ := hr.blk hi hB
         obtain ⟨u0, us0, rfl, a0, t0⟩ : ∃ v t, us = v :: t ∧ VR ρ (.ow q1 N) v ∧ VRs ρ (.mp q :: l) t := by cases hus with | cons e t => exact ⟨_, _, rfl, e, t⟩
         obtain ⟨u1, us1, rfl, a1, t1⟩ : ∃ v t, us0 = v :: t ∧ VR ρ (.mp q) v ∧ VRs ρ l t := by cases t0 with | cons e t => exact ⟨_, _, rfl, e, t⟩
         obtain ⟨ad, cap, rfl⟩ : ∃ ad cap, u0 = .slice ad N cap := by cases a0 <;> exact ⟨_, _, rfl⟩
         cases a1 with
         | @mp _ bm cm hm =>
           have hmap : MapAt w bm m := by
             obtain ⟨F, hF, hrep, _⟩ := hr.obj hm hq
             exact hrep.2
           have hz' : MapZ w bm (m.map (·.1)) := by
             obtain ⟨es, clock, g1, g2, g3⟩ := hmap
             have hlen : es.size = m.length := by
               have := congrArg List.length g3
               simpa using this
             refine ⟨es, clock, g1, g2, ?_, by omega, fun k hk => ?_⟩
             · have := congrArg (List.map Prod.fst) g3
               simpa [Function.comp_def, iv] using this
             · obtain ⟨p, hp, rfl⟩ := List.mem_map.1 hk
               exact h4 p hp
           refine (waits_ok b bm N cap ad (m.map (·.1)) w (by rw [cells_cell ho]; rfl) (by omega) h2 (by rw [cells_cell ho]; rfl) hz').mono ?_
           rintro e w' ⟨v, rfl, hown, hnil, hnew, hf⟩
           rw [List.length_map] at hown
           rcases hown.cases with ⟨rfl, h0, h00⟩ | ⟨g, cg, rfl⟩
           · refine ⟨ρ, _, rfl, ?_, hr.old hf, Ext.refl _ _ _⟩
             rw [h0]
             exact .im (winE_nil _ _) (fun r hr => absurd hr (Nat.not_lt_zero _))
           · obtain ⟨sp2, k1, k2, k3, k4, k5⟩ := hown.blk
             obtain ⟨g1, g2⟩ := hr.newIm hf (hnew g rfl) k1
             refine ⟨_, _, rfl, ?_, g1, g2⟩
             have hl := keysD_len m
             refine .im (vs := (keysD m).map iv) ⟨by rw [List.length_map, hl, Nat.mul_one], k4, k5, fun e => (by cases e), fun ad' had j u hu => ?_⟩ (fun r hr' => rows1 _ _ r (by rw [hl]; exact hr'))
             cases had
             rw [Addr.add_lit]
             refine (im_cell (show _ = some _ from if_pos rfl) _).trans ?_
             rw [Nat.zero_add, List.getElem?_toArray]
             rw [List.getElem?_append_left (by
               have := (List.getElem?_eq_some_iff.1 hu).1
               rw [List.length_map, hl] at this
               rw [k2]; omega)]
             exact hu
     · cases h
   · cases h
 · cases h
def keptN (c : CrashD) (z : Int) : Nat := if z ∈ c.keep then 128 else if c.torn = z then (max 0 (min c.at_ 128)).toNat else 0
def fallRow (m : List (Int × List UInt8)) (c : CrashD) (ll : List (List UInt8)) (z : Int) : List (List UInt8) :=
 ll.set z.toNat (((getM m z).getD []).take (keptN c z) ++ (ll.getD z.toNat []).drop (keptN c z))
def fallL (m : List (Int × List UInt8)) (c : CrashD) (ks : List Int) (ll : List (List UInt8)) : List (List UInt8) := ks.foldl (fallRow m c) ll
noncomputable abbrev S1 : Sy := sym Try.prog waitsF containsG
theorem s1_ok : S1.Ok Try.prog := sym_ok waitsF_ok containsG_ok tab mix
structure DiskD.Ok (d : DiskD) : Prop where
 pos : d.stays ≠ []
 le : d.stays.length ≤ 4096
 rows : ∀ l ∈ d.stays, l.length = 128
 keys : ∀ p ∈ d.waits, 0 ≤ p.1 ∧ p.1 < d.stays.length ∧ p.2.length = 128
 one : (d.waits.map (·.1)).Nodup
theorem DiskD.Ok.npos {d : DiskD} (h : d.Ok) : d.stays.length ≠ 0 := fun e => h.pos (List.eq_nil_of_length_eq_zero e)
theorem DiskD.Ok.len {d : DiskD} (h : d.Ok) : d.waits.length ≤ 4096 := by
 have key : ∀ (l : List Int) (N : Nat), l.Nodup → (∀ z ∈ l, 0 ≤ z ∧ z < N) → l.length ≤ N := by
   intro l N
   induction N generalizing l with
   | zero =>
     intro _ h
     cases l with
     | nil => simp
     | cons z l => have := h z (by simp); omega
   | succ N ih =>
     intro hn h
     have := ih (l.erase (N : Int)) (hn.erase _) fun z hz => by
       have h1 := (hn.mem_erase_iff).1 hz
       have h2 := h z h1.2
       have h3 := h1.1
       omega
     have h4 := List.length_erase (a := (N : Int)) (l := l)
     split at h4 <;> omega
 have h1 := key (d.waits.map (·.1)) d.stays.length h.one fun z hz => by
   obtain ⟨p, hp, rfl⟩ := List.mem_map.1 hz
   have := h.keys p hp
   omega
 rw [List.length_map] at h1
 have := h.le
 omega
theorem DiskD.Ok.wf {d : DiskD} (h : d.Ok) : ∀ p ∈ d.waits, (Lit.int .i64 p.1).wf = true := fun p hp => by
 have h1 := h.keys p hp
 have h2 := h.le
 have : IntKind.min .i64 ≤ p.1 ∧ p.1 ≤ IntKind.max .i64 := by
   constructor
   · show (-9223372036854775808 : Int) ≤ p.1; omega
   · show p.1 ≤ (9223372036854775807 : Int); omega
 simpa [Lit.wf] using this
theorem keysD_mem {m : List (Int × List UInt8)} {z : Int} : z ∈ keysD m ↔ z ∈ m.map (·.1) := (List.mergeSort_perm _ _).mem_iff
theorem getM_mem {m : List (Int × List UInt8)} {z : Int} (h : z ∈ m.map (·.1)) : ∃ v, getM m z = some v ∧ (z, v) ∈ m := by
 induction m with
 | nil => cases h
 | cons p m ih =>
   by_cases e : p.1 = z
   · exact ⟨p.2, by simp [getM, e], by subst e; simp⟩
   · have : z ∈ m.map (·.1) := by
       rcases List.mem_cons.1 h with h1 | h1
       · exact absurd h1.symm e
       · exact h1
     obtain ⟨v, h1, h2⟩ := ih this
     exact ⟨v, by simp [getM, e, h1], by simp [h2]⟩
theorem fallRow_len (m : List (Int × List UInt8)) (c : CrashD) (ll : List (List UInt8)) (z : Int) : (fallRow m c ll z).length = ll.length := by simp [fallRow]
theorem fallL_len (m : List (Int × List UInt8)) (c : CrashD) : ∀ (ks : List Int) (ll : List (List UInt8)), (fallL m c ks ll).length = ll.length
 | [], _ => rfl
 | z :: ks, ll => by
   show (fallL m c ks (fallRow m c ll z)).length = _
   rw [fallL_len m c ks, fallRow_len]
theorem fallL_succ (m : List (Int × List UInt8)) (c : CrashD) (ks : List Int) (ll : List (List UInt8)) {a : Nat} (h : a < ks.length) : fallL m c (ks.take (a + 1)) ll = fallRow m c (fallL m c (ks.take a) ll) (ks.getD a 0) := by
 rw [List.take_succ_eq_append_getElem h, List.getD_eq_getElem?_getD, List.getElem?_eq_getElem h]
 unfold fallL
 rw [List.foldl_append]
 rfl
theorem keptN_le (c : CrashD) (z : Int) : keptN c z ≤ 128 := by
 unfold keptN
 split
 · omega
 · split
   · omega
   · omega
theorem fallRow_rows {m : List (Int × List UInt8)} {c : CrashD} {ll : List (List UInt8)} {z : Int} (h : ∀ l ∈ ll, l.length = 128) (hm : ∀ v, getM m z = some v → v.length = 128) (hs : (getM m z).isSome = true) : ∀ l ∈ fallRow m c ll z, l.length = 128 := by
 intro l hl
 unfold fallRow at hl
 rcases List.mem_or_eq_of_mem_set hl with h1 | h1
 · exact h l h1
 · have hk := keptN_le c z
   cases hv : getM m z with
   | none => rw [hv] at hs; cases hs
   | some v =>
     have h2 := hm v hv
     by_cases hz : z.toNat < ll.length
     · have h3 : (ll.getD z.toNat []).length = 128 := h _ (by rw [List.getD_eq_getElem?_getD, List.getElem?_eq_getElem hz]; simp)
       rw [h1, hv, List.length_append, List.length_take, List.length_drop, h3, Option.getD_some, h2]; omega
     · rw [List.set_eq_of_length_le (by omega)] at hl
       exact h l hl
theorem fallL_rows {d : DiskD} (hd : d.Ok) (c : CrashD) : ∀ (ks : List Int) (ll : List (List UInt8)), (∀ l ∈ ll, l.length = 128) → (∀ z ∈ ks, z ∈ d.waits.map (·.1)) → ∀ l ∈ fallL d.waits c ks ll, l.length = 128
 | [], _, h, _ => h
 | z :: ks, ll, h, hk => by
   obtain ⟨v, h1, h2⟩ := getM_mem (hk z (by simp))
   exact fallL_rows hd c ks _ (fallRow_rows h (fun v' hv' => by rw [h1] at hv'; cases hv'; exact (hd.keys _ h2).2.2) (by rw [h1]; rfl)) (fun y hy => hk y (by simp [hy]))
theorem rowSet_fall {m : List (Int × List UInt8)} {c : CrashD} {ll : List (List UInt8)} {z : Int} {v xs : List UInt8} (hv : getM m z = some v) (hl : v.length = 128) (hx : xs = v.take (keptN c z)) : rowSet ll z.toNat 0 xs = fallRow m c ll z := by
 have hk := keptN_le c z
 have hxl : xs.length = keptN c z := by rw [hx, List.length_take]; omega
 unfold rowSet fallRow
 rw [hv, Option.getD_some, List.take_zero, List.nil_append, hxl, hx, Nat.zero_add]
theorem takes {k : Nat} {v : List UInt8} (h : k ≤ v.length) : List.take ((List.take k (List.drop 0 v)).length.min k) (List.take k (List.drop 0 v)) = v.take k := by
 have e : (List.take k v).length = k := by rw [List.length_take]; omega
 rw [List.drop_zero, e]
 show List.take (min k k) (List.take k v) = _
 rw [Nat.min_self, List.take_take, Nat.min_self]
theorem fallRow_zero {m : List (Int × List UInt8)} {c : CrashD} {ll : List (List UInt8)} {z : Int} (h : keptN c z = 0) : fallRow m c ll z = ll := by
 unfold fallRow
 rw [h, List.take_zero, List.drop_zero, List.nil_append]
 by_cases hz : z.toNat < ll.length
 · rw [List.getD_eq_getElem?_getD, List.getElem?_eq_getElem hz, Option.getD_some, List.set_getElem_self]
 · exact List.set_eq_of_length_le (by omega)
def fallH (T : TypeId) (d : DiskD) : List AB := [.mem T none [.ow 1 d.stays.length, .mp 2, .any, .any, .any, .any, ivA d.writes, .any], .obj (.rows 128 d.stays), .obj (.wmap d.waits)]
set_option maxHeartbeats 4000000 in
set_option maxRecDepth 100000 in
theorem falls_to (hok : S1.Ok Try.prog) (T : TypeId) (d : DiskD) (c : CrashD) (hd : d.Ok) (hk : c.keep.length ≤ 1000000) (hc : fits .i64 c.at_) :
   To S1 Try.prog 57 (startOf Try.prog 57 [.ptr 0 0, .agg [ivA c.w, .im 1 c.keep.length (intsF c.keep), ivA c.torn, ivA c.at_]] (memF (fallH T d) 0 .e) 3)
     (fun x H _ => x = .tup [] ∧ H.get 0 = some (.mem T none [.ow 1 d.stays.length, .mp 9, .v (iv 0), .v (.slice none 0 0), .v (iv 0), .v (iv 0), ivA d.writes, .v (.bool true)]) ∧ H.get 1 = some (.obj (.rows 128 (fallL d.waits c (keysD d.waits) d.stays))) ∧ H.get 2 = some (.obj (.wmap d.waits)) ∧ H.get 9 = some (.map [] 0)) := by
 have w1 := hd.npos
 have w2 := hd.le
 have w3 := hd.len
 have w4 := hd.wf
 have e1 := numsF_ints c.keep
 refine To.R (k := 39) (C := (d.stays.length ≠ 0 ∧ d.stays.length ≤ 100000 ∧ d.waits.length ≤ 1000000 ∧ (∀ (p : Int × List UInt8), p ∈ d.waits → (Lit.int IntKind.i64 p.fst).wf = true)) ∧ True) (h := ?_)
 refine To.L (L := [LN.old 3, LN.old 4, LN.old 5, LN.old 6, LN.old 7, LN.old 8]) (kp := [10, 9, 8, 2, 0]) (ks := [[2]]) (C := (Same IntKind.i64 ∧ (0 : Int) = (↑(0 : Nat) : Int)) ∧ Ob.rows 128 d.stays = Ob.rows 128 (fallL d.waits c (List.take 0 (keysD d.waits)) d.stays)) (st := fun (a : Nat) => (⟨(⟨89, 34, (slotT 34 [(0, AV.yl 8), (2, AV.ptr 6 0), (8, AV.im 1 d.waits.length (intsF (keysD d.waits))), (9, AV.sy (Value.int IntKind.i64 d.waits.length)), (10, AV.sy (Value.int IntKind.i64 a))]), ARg.no, [(AItem.code (subC (bodyC Try.prog 89) [1, 0, 0])), (AItem.inLoop (subC (bodyC Try.prog 89) [1, 0, 0])), (AItem.inBlock 0)], [], false, none, 9⟩ : AFr), [(⟨57, 42, (slotT 42 [(2, AV.ptr 3 0)]), ARg.no, [(AItem.inRF 8), (AItem.inBlock 0), (AItem.code (subC (bodyC Try.prog 57) [1, 0, 1, 1])), (AItem.inScope (subC (bodyC Try.prog 57) [1, 0]))], [7], false, none, 3⟩ : AFr)], memF [AB.mem T none [AV.ow 1 d.stays.length, AV.mp 2, AV.any, AV.any, AV.any, AV.any, AV.sy (Value.int IntKind.i64 d.writes), AV.any], AB.obj (Ob.rows 128 (fallL d.waits c (List.take a (keysD d.waits)) d.stays)), AB.obj (Ob.wmap d.waits), AB.mem 22 none [AV.ptr 0 0], AB.mem 52 none [AV.sy (Value.int IntKind.i64 c.w), AV.im 1 c.keep.length (intsF c.keep), AV.sy (Value.int IntKind.i64 c.torn), AV.sy (Value.int IntKind.i64 c.at_)], AB.mem 22 none [AV.ptr 0 0], AB.mem 52 none [AV.sy (Value.int IntKind.i64 c.w), AV.im 1 c.keep.length (intsF c.keep), AV.sy (Value.int IntKind.i64 c.torn), AV.sy (Value.int IntKind.i64 c.at_)], AB.dfd true, (AB.loop LoopState.ready (none : Option Code) 57 42 (slotT 42 [(0, AV.ptr 0 0), (1, AV.agg [AV.sy (Value.int IntKind.i64 c.w), AV.im 1 c.keep.length (intsF c.keep), AV.sy (Value.int IntKind.i64 c.torn), AV.sy (Value.int IntKind.i64 c.at_)]), (2, AV.ptr 3 0), (3, AV.ptr 4 0), (4, AV.v (Value.tuple #[])), (5, AV.v (Value.tuple #[])), (6, AV.v (Value.tuple #[])), (7, AV.ptr 0 0), (8, AV.agg [AV.sy (Value.int IntKind.i64 c.w), AV.im 1 c.keep.length (intsF c.keep), AV.sy (Value.int IntKind.i64 c.torn), AV.sy (Value.int IntKind.i64 c.at_)]), (9, AV.fn (Fn.func 89) [] [AV.ptr 5 0, AV.ptr 6 0]), (10, AV.v (Value.tuple #[])), (11, AV.v (Value.tuple #[])), (12, AV.v (Value.tuple #[])), (13, AV.v (Value.tuple #[])), (14, AV.v (Value.tuple #[])), (15, AV.v (Value.tuple #[])), (16, AV.v (Value.tuple #[])), (17, AV.v (Value.tuple #[])), (18, AV.v (Value.tuple #[])), (19, AV.v (Value.tuple #[])), (20, AV.v (Value.tuple #[])), (21, AV.v (Value.tuple #[])), (22, AV.v (Value.tuple #[])), (23, AV.v (Value.tuple #[])), (24, AV.v (Value.tuple #[])), (25, AV.v (Value.tuple #[])), (26, AV.v (Value.tuple #[])), (27, AV.v (Value.tuple #[])), (28, AV.v (Value.tuple #[])), (29, AV.v (Value.tuple #[])), (30, AV.v (Value.tuple #[])), (31, AV.v (Value.tuple #[])), (32, AV.v (Value.tuple #[])), (33, AV.v (Value.tuple #[])), (34, AV.v (Value.tuple #[])), (35, AV.v (Value.tuple #[])), (36, AV.v (Value.tuple #[])), (37, AV.v (Value.tuple #[])), (38, AV.v (Value.tuple #[])), (39, AV.v (Value.tuple #[])), (40, AV.v (Value.tuple #[])), (41, AV.v (Value.tuple #[]))]) [10, 11] (subC (bodyC Try.prog 57) [1, 0, 1, 0, 1, 0, 0]) (subC (bodyC Try.prog 57) [1, 0, 1, 0, 1, 0, 1]) 7)] 0 Tr.e, 9⟩ : ASt)) (hc := ?_) (h := ?_) (fun (a : Nat) => [(10, ivA (a : Int))]) (fun a => [(1, .obj (.rows 128 (fallL d.waits c ((keysD d.waits).take a) d.stays)))]) (fun a => a ≤ d.waits.length) (fun a => d.waits.length - a) (0)
 · exact ⟨⟨rfl, rfl⟩, rfl⟩
 intro a ha ih
 have hkl := keysD_len d.waits
 refine To.R (h := ?_)
 refine To.Bd ((a : Int) < d.waits.length) (h := ?_) (g := ?_)
 · intro h1
   have hlt : a < d.waits.length := by omega
   have hi1 : a + 1 ≤ d.waits.length := hlt
   have hi2 : d.waits.length - (a + 1) < d.waits.length - a := by omega
   have hzm : (keysD d.waits).getD (a) 0 ∈ d.waits.map (·.1) := by
     rw [← keysD_mem, List.getD_eq_getElem?_getD, List.getElem?_eq_getElem (by omega)]; simp
   obtain ⟨v, hv, hvm⟩ := getM_mem hzm
   obtain ⟨hz0, hzN, hzl⟩ : 0 ≤ (keysD d.waits).getD (a) 0 ∧ (keysD d.waits).getD (a) 0 < d.stays.length ∧ v.length = 128 := hd.keys _ hvm
   have hsucc := fallL_succ d.waits c (keysD d.waits) d.stays (a := a) (by omega)
   have hlen := fallL_len d.waits c ((keysD d.waits).take a) d.stays
   have hrow := fun xs => rowSet_fall (c := c) (ll := fallL d.waits c ((keysD d.waits).take a) d.stays) (xs := xs) hv hzl
   have hkn : keptN c ((keysD d.waits).getD (a) 0) = if (keysD d.waits).getD (a) 0 ∈ c.keep then 128 else if c.torn = (keysD d.waits).getD (a) 0 then (max 0 (min c.at_ 128)).toNat else 0 := rfl
   have hvz : ((getM d.waits ((keysD d.waits).getD (a) 0)).getD (List.replicate 128 0)).length = 128 := by rw [hv]; exact hzl
   refine To.R (C := ((0 : Int) ≤ a ∧ (a : Int) < d.waits.length) ∧ True) (h := ?_)
   refine To.Bd ((keysD d.waits).getD a 0 ∈ numsF c.keep.length (intsF c.keep)) (C := (∀ (r : Nat), r < c.keep.length → intsF c.keep r = intsF (numsF c.keep.length (intsF c.keep)) r) ∧ (numsF c.keep.length (intsF c.keep)).length ≤ 1000000) (hc := ?_) (h := ?_) (g := ?_); (and_intros <;> try exact cl)
   · rw [e1]; exact fun r hr => rfl
   · rw [e1]; exact hk
   · intro h2
     rw [e1] at h2
     refine To.R (k := 66) (C := True ∧ ((getM d.waits ((keysD d.waits).getD a 0)).getD (List.replicate 128 0)).length = 128 ∧ (0 ≤ (keysD d.waits).getD a 0 ∧ (keysD d.waits).getD a 0 < d.stays.length) ∧ ((0 : Int) ≤ 128 ∧ (128 : Int) ≤ (↑(128 : Nat) : Int)) ∧ (128 ≤ ((getM d.waits ((keysD d.waits).getD a 0)).getD (List.replicate 128 0)).length ∧ ((keysD d.waits).getD a 0).toNat < (fallL d.waits c (List.take a (keysD d.waits)) d.stays).length ∧ 128 ≤ 128) ∧ fits IntKind.i64 (a + 1)) (h := ?_)
     refine To.K (L := [LN.old 3, LN.old 4, LN.old 5, LN.old 6, LN.old 7, LN.old 8]) (kp := [10, 9, 8, 2, 0]) (ks := [[2]]) (ov := [(10, AV.sy (Value.int IntKind.i64 (↑(a + 1) : Int)))]) (ob := [(1, AB.obj (Ob.rows 128 (fallL d.waits c (List.take (a + 1) (keysD d.waits)) d.stays)))]) (C := (Same IntKind.i64 ∧ (↑a : Int) + 1 = (↑(a + 1) : Int)) ∧ Ob.rows 128 (rowSet (fallL d.waits c (List.take a (keysD d.waits)) d.stays) ((keysD d.waits).getD a 0).toNat 0 (List.take ((List.take 128 (List.drop 0 ((getM d.waits ((keysD d.waits).getD a 0)).getD (List.replicate 128 0)))).length.min 128) (List.take 128 (List.drop 0 ((getM d.waits ((keysD d.waits).getD a 0)).getD (List.replicate 128 0)))))) = Ob.rows 128 (fallL d.waits c (List.take (a + 1) (keysD d.waits)) d.stays)) (hc := ?_) (ih (a + 1) hi1 hi2)
     rw [if_pos h2] at hkn
     refine ⟨⟨rfl, by omega⟩, ?_⟩
     rw [hsucc]
     refine congrArg (Ob.rows 128) (hrow _ ?_)
     rw [hv, hkn]
     exact takes (by rw [Option.getD_some]; omega)
   · intro h2
     rw [e1] at h2
     rw [if_neg h2] at hkn
     refine To.R (h := ?_)
     refine To.Bd (c.torn = (keysD d.waits).getD a 0) (h := ?_) (g := ?_)
     · intro h3
       rw [if_pos h3] at hkn
       have hm0 : 0 ≤ max 0 (min c.at_ 128) := by omega
       have hm1 : max 0 (min c.at_ 128) ≤ 128 := by omega
       have hm2 : (max 0 (min c.at_ 128)).toNat ≤ 128 := by omega
       refine To.R (C := True ∧ True) (h := ?_)
       refine To.Bd (max 0 (min c.at_ 128) = 0) (h := ?_) (g := ?_)
       · intro h4
         refine To.R (k := 14) (C := fits IntKind.i64 (a + 1)) (h := ?_)
         refine To.K (L := [LN.old 3, LN.old 4, LN.old 5, LN.old 6, LN.old 7, LN.old 8]) (kp := [10, 9, 8, 2, 0]) (ks := [[2]]) (ov := [(10, AV.sy (Value.int IntKind.i64 (↑(a + 1) : Int)))]) (ob := [(1, AB.obj (Ob.rows 128 (fallL d.waits c (List.take (a + 1) (keysD d.waits)) d.stays)))]) (C := (Same IntKind.i64 ∧ (↑a : Int) + 1 = (↑(a + 1) : Int)) ∧ Ob.rows 128 (fallL d.waits c (List.take a (keysD d.waits)) d.stays) = Ob.rows 128 (fallL d.waits c (List.take (a + 1) (keysD d.waits)) d.stays)) (hc := ?_) (ih (a + 1) hi1 hi2)
         refine ⟨⟨rfl, by omega⟩, ?_⟩
         rw [hsucc, fallRow_zero (by rw [hkn, h4]; rfl)]
       · intro h4
         refine To.R (k := 39) (C := True ∧ ((getM d.waits ((keysD d.waits).getD a 0)).getD (List.replicate 128 0)).length = 128 ∧ (0 ≤ (keysD d.waits).getD a 0 ∧ (keysD d.waits).getD a 0 < d.stays.length) ∧ (0 ≤ max 0 (min c.at_ 128) ∧ max (0 : Int) (min c.at_ (128 : Int)) ≤ (↑(128 : Nat) : Int)) ∧ (0 ≤ max 0 (min c.at_ 128) ∧ max (0 : Int) (min c.at_ (128 : Int)) ≤ (↑(128 : Nat) : Int)) ∧ (0 + (max 0 (min c.at_ 128)).toNat ≤ ((getM d.waits ((keysD d.waits).getD a 0)).getD (List.replicate 128 0)).length ∧ ((keysD d.waits).getD a 0).toNat < (fallL d.waits c (List.take a (keysD d.waits)) d.stays).length ∧ 0 + (max 0 (min c.at_ 128)).toNat ≤ 128) ∧ fits IntKind.i64 (a + 1)) (h := ?_)
         refine To.K (L := [LN.old 3, LN.old 4, LN.old 5, LN.old 6, LN.old 7, LN.old 8]) (kp := [10, 9, 8, 2, 0]) (ks := [[2]]) (ov := [(10, AV.sy (Value.int IntKind.i64 (↑(a + 1) : Int)))]) (ob := [(1, AB.obj (Ob.rows 128 (fallL d.waits c (List.take (a + 1) (keysD d.waits)) d.stays)))]) (C := (Same IntKind.i64 ∧ (↑a : Int) + 1 = (↑(a + 1) : Int)) ∧ Ob.rows 128 (rowSet (fallL d.waits c (List.take a (keysD d.waits)) d.stays) ((keysD d.waits).getD a 0).toNat 0 (List.take ((List.take (max 0 (min c.at_ 128)).toNat (List.drop 0 ((getM d.waits ((keysD d.waits).getD a 0)).getD (List.replicate 128 0)))).length.min (max 0 (min c.at_ 128)).toNat) (List.take (max 0 (min c.at_ 128)).toNat (List.drop 0 ((getM d.waits ((keysD d.waits).getD a 0)).getD (List.replicate 128 0)))))) = Ob.rows 128 (fallL d.waits c (List.take (a + 1) (keysD d.waits)) d.stays)) (hc := ?_) (ih (a + 1) hi1 hi2)
         refine ⟨⟨rfl, by omega⟩, ?_⟩
         rw [hsucc]
         refine congrArg (Ob.rows 128) (hrow _ ?_)
         rw [hv, hkn]
         exact takes (by rw [Option.getD_some]; omega)
     · intro h3
       rw [if_neg h3] at hkn
       refine To.R (k := 39) (C := fits IntKind.i64 (a + 1)) (h := ?_)
       refine To.K (L := [LN.old 3, LN.old 4, LN.old 5, LN.old 6, LN.old 7, LN.old 8]) (kp := [10, 9, 8, 2, 0]) (ks := [[2]]) (ov := [(10, AV.sy (Value.int IntKind.i64 (↑(a + 1) : Int)))]) (ob := [(1, AB.obj (Ob.rows 128 (fallL d.waits c (List.take (a + 1) (keysD d.waits)) d.stays)))]) (C := (Same IntKind.i64 ∧ (↑a : Int) + 1 = (↑(a + 1) : Int)) ∧ Ob.rows 128 (fallL d.waits c (List.take a (keysD d.waits)) d.stays) = Ob.rows 128 (fallL d.waits c (List.take (a + 1) (keysD d.waits)) d.stays)) (hc := ?_) (ih (a + 1) hi1 hi2)
       refine ⟨⟨rfl, by omega⟩, ?_⟩
       rw [hsucc, fallRow_zero hkn]
 · intro h1
   have hfin : (keysD d.waits).take a = keysD d.waits := List.take_of_length_le (by omega)
   refine To.R (C := Same (AV.ptr 0 0) ∧ Same (AV.ptr 0 0) ∧ Same (AV.ptr 0 0) ∧ Same (AV.ptr 0 0) ∧ Same (AV.ptr 0 0) ∧ Same (AV.ptr 0 0)) (h := ?_)
   refine To.E (AV.tup []) (hq := ?_)
   rw [hfin]
   exact ⟨rfl, by kernel_rfl, by kernel_rfl, by kernel_rfl, by kernel_rfl⟩
open Classical in
noncomputable def imOff (w : World) (F : Nat → Prop) : Im := fun k => if F k then none else imOf w k
noncomputable def offEnv (w : World) (F : Nat → Prop) : Env := ⟨fun _ => none, imOff w F⟩
theorem imOff_at {w : World} {F : Nat → Prop} {k : Nat} (h : ¬ F k) : imOff w F k = imOf w k := if_neg h
theorem imOff_some {w : World} {F : Nat → Prop} {k : Nat} {c : Array Value} (h : imOff w F k = some c) : ¬ F k ∧ imOf w k = some c := by
 by_cases hk : F k
 · rw [show imOff w F k = none from if_pos hk] at h; cases h
 · exact ⟨hk, (imOff_at hk).symm.trans h⟩
theorem imOff_cell {w : World} {F : Nat → Prop} {ad : Addr} {j : Nat} {u : Value} (h : ¬ F ad.block) (hc : w.cell? (ad.add j) = some u) : (imOff w F).cell (ad.add j) = some u := by
 have := imOf_cell hc
 unfold Im.cell at this ⊢
 rw [add_block] at this ⊢
 rw [imOff_at h]; exact this
section
variable {w0 : Bs} {w w' : World} {ρ : Env} {H : Tr AB} {n : Nat} {F : Nat → Nat → Prop} {i : Nat} {p : Nat × Nat} {B : AB}
theorem Foot.offIm (hr : HR w0 ρ H n w) (hF : Foot w0 ρ H w F) (hi : ρ i = some p) (hB : H.get i = some B) (hl : B.live = true) : ρ.im.le (imOff w (F i)) := fun k c h => by
 have : ¬ F i k := fun hk => by have := (hF.there hi hB hl hk).2.2; rw [h] at this; cases this
 rw [imOff_at this]; exact im_all hr k c h
theorem Foot.named (hF : Foot w0 ρ H w F) (hi : ρ i = some p) (hB : H.get i = some B) (hl : B.live = true) {j k c : Nat} {C : AB} (hj : ρ j = some (k, c)) (hC : H.get j = some C) (hlC : C.live = true) (hne : j ≠ i) : ¬ F i k := fun hk =>
 hne (hF.apart hj hi hC hB hlC hl (hF.one hj hC hlC).1 hk)
theorem bsrc_off (hr : HR w0 ρ H n w) (hF : Foot w0 ρ H w F) (hi : ρ i = some p) {d : DiskD} (hB : H.get i = some (.obj (.disk d))) {x : AV} {u : Value} {r : List UInt8 × Prop} (h : bsrc x H = some r) (hC : r.2) (hx : VR ρ x u) : VR (offEnv w (F i)) (.by8 r.1) u := by
 obtain ⟨a, c, rfl, hw⟩ := bsrc_sound hr h hC hx
 have off : ∀ {j k c : Nat} {C : AB}, ρ j = some (k, c) → H.get j = some C → C.live = true → C ≠ .obj (.disk d) → ¬ F i k := fun h1 h2 h3 h4 => hF.named hi hB rfl h1 h2 h3 (fun e => by subst e; rw [hB] at h2; cases h2; exact h4 rfl)
 have key : r.1 ≠ [] → ∀ ad, a = some ad → ¬ F i ad.block := by
   intro hne ad had
   subst had
   unfold bsrc at h
   split at h
   · rename_i bs
     cases h
     cases hx with
     | by8 hw' =>
       intro hk
       cases hb : bs with
       | nil => exact absurd hb hne
       | cons z l =>
         have hc := hw'.cell ad rfl 0 (byt z) (by rw [hb]; rfl)
         unfold Im.cell at hc
         rw [add_block, (hF.there hi hB rfl hk).2.2] at hc
         cases hc
   · cases h; exact absurd rfl hne
   · generalize hu : Value.slice (some ad) r.1.length c = u at hx
     cases hx with
     | pw r' w' j' n' k' e hn =>
       cases hu
       split at h
       · rename_i hB'; exact off e hB' rfl (by simp)
       · rename_i hB'; exact off e hB' rfl (by simp)
       · cases h
   · generalize hu : Value.slice (some ad) r.1.length c = u at hx
     cases hx with
     | sl o' n' c' e =>
       cases hu
       split at h
       · rename_i hB'; exact off e hB' rfl (by simp)
       · cases h
   · rename_i i' m
     generalize hu : Value.slice (some ad) r.1.length c = u at hx
     cases hx with
     | ow m' e hn hc =>
       cases hu
       split at h
       · rename_i hB'; exact off e hB' rfl (by simp)
       · cases h
     | ow0 => cases hu
   · cases h
 exact .by8 ⟨by have := hw.len; omega, hw.cap, hw.max, hw.nil, fun ad hd j u hu => by
   have hne : r.1 ≠ [] := fun e => by rw [e] at hu; cases hu
   exact imOff_cell (key hne ad hd) (hw.cell ad hd j u hu)⟩
theorem isrc_off (hr : HR w0 ρ H n w) (hF : Foot w0 ρ H w F) (hi : ρ i = some p) (hB : H.get i = some B) (hl : B.live = true) (hrw : (∀ T w n f, B ≠ .rw T w n f) ∧ ∀ T z l, B ≠ .mem T z l) {x : AV} {u : Value} {r : List Int × Prop} (h : isrc x H = some r) (hC : r.2) (hx : VR ρ x u) : VR (offEnv w (F i)) (.im 1 r.1.length (intsF r.1)) u := by
 have him := hF.offIm hr hi hB hl
 unfold isrc at h
 split at h
 · cases h; cases hx; exact .im (winE_nil _ _) (fun r hr => absurd hr (Nat.not_lt_zero _))
 · rename_i m f
   cases h
   cases hx with
   | im hw hf =>
     rw [numsF_len]
     exact .im (hw.mono him) (fun r hr' => by rw [← hC r hr']; exact (hf r hr').mono him)
 · rename_i a c m f
   cases h
   cases hx with
   | ix hw hf =>
     rw [numsF_len]
     exact .im (hw.mono him) (fun r hr' => by rw [← hC r hr']; exact (hf r hr').mono him)
 · rename_i i' m
   split at h
   · rename_i T m' f hB'
     cases h
     obtain ⟨rfl, hC'⟩ : m' = m ∧ ∀ r, r < m → f r = intsF (numsF m f) r := hC
     rw [numsF_len]
     cases hx with
     | @ow _ b c _ hi' hn hc =>
       obtain ⟨ob, ho, vs, sp, rfl, g1, g2, g3, g4, g5⟩ := hr.blk hi' hB'
       have hoff := hF.named hi hB hl hi' hB' rfl (fun e => by subst e; rw [hB] at hB'; cases hB'; exact hrw.1 _ _ _ _ rfl)
       refine .im (vs := vs) ⟨by rw [g1], hn, hc, (fun e => by cases e), fun ad had j u hu => ?_⟩ (fun r hr' => by rw [← hC' r hr']; exact (g5 r hr').mono him)
       cases had
       refine imOff_cell hoff ?_
       rw [Addr.add_lit, cells_cell ho, Nat.zero_add, List.getElem?_append_left (List.getElem?_eq_some_iff.1 hu).1]; exact hu
     | ow0 => exact .im (winE_nil _ _) (fun r hr => absurd hr (Nat.not_lt_zero _))
   · cases h
 · rename_i i' o m c
   split at h
   · rename_i T z l hB'
     cases hc : (Nat.ble m c && Nat.ble c 1073741824 && Nat.ble (o + m) l.length) with
     | false => rw [hc] at h; cases h
     | true =>
       rw [hc, cond_true] at h
       simp only [Bool.and_eq_true, Nat.ble_eq] at hc
       split at h
       · rename_i zs hz
         cases h
         cases hx with
         | @sl _ b d _ _ _ hi' =>
           have hoff := hF.named hi hB hl hi' hB' rfl (fun e => by subst e; rw [hB] at hB'; cases hB'; exact hrw.2 _ _ _ rfl)
           have hw := mem_win (xs := zs.map iv) hr hi' hB' hc.2 hc.1.1 (by have := hc.1.2; simp only [maxLen]; omega) (fun vs hv => intsL_sound hz hv)
           have hlz : m = zs.length := by have := hw.len; simpa using this.symm
           subst hlz
           refine im_ints hw.cap hw.max hw.nil fun ad had j y hy => ?_
           have hcell := hw.cell ad had j (iv y) (by rw [List.getElem?_map, hy]; rfl)
           cases had
           exact imOff_cell hoff hcell
       · cases h
   · cases h
 · cases h
theorem bsrcM_off (hr : HR w0 ρ H n w) (hF : Foot w0 ρ H w F) (hi : ρ i = some p) {d : DiskD} (hB : H.get i = some (.obj (.disk d))) {x : AV} {u : Value} {r : List UInt8 × Prop} (h : bsrcM x H = some r) (hC : r.2) (hx : VR ρ x u) : VR (offEnv w (F i)) (.by8 r.1) u := by
 obtain ⟨⟨a, c, rfl, hw⟩, h1 | h0 | ⟨i', b, d', o, c', B', h1, h2, hlv, hob, h3⟩⟩ := bsrcM_sound hr h hC hx
 · exact bsrc_off hr hF hi hB h1 hC hx
 · exact .by8 ⟨by have := hw.len; omega, hw.cap, hw.max, hw.nil, fun ad hd j u hu => by rw [h0] at hu; cases hu⟩
 · have hoff := hF.named hi hB rfl h1 h2 hlv (fun e => by subst e; rw [hB] at h2; cases h2; cases hob)
   cases h3
   exact .by8 ⟨by have := hw.len; omega, hw.cap, hw.max, hw.nil, fun ad hd j u hu => by
     have hcell := hw.cell ad hd j u hu
     cases hd
     exact imOff_cell hoff hcell⟩
theorem Foot.putO (hr : HR w0 ρ H n w) (hF : Foot w0 ρ H w F) (hi : ρ i = some p) (hB : H.get i = some B) (hl : B.live = true) {b c : Nat} (hp : p = (b, c)) {x : Ob} {F' : Nat → Prop} (hf : Fr (F i) w w') (hrep : x.rep ρ.im w' b c F') (hb : F' b) (hF' : ∀ k, F' k → (F i k ∨ w.heap.size ≤ k) ∧ k < w'.heap.size) :
   Foot w0 ρ (tput H i (.obj x)) w' (fun j k => if j = i then F' k else F j k) := by
 subst hp
 have sep : ∀ {j k : Nat} {p : Nat × Nat} {C : AB}, j ≠ i → ρ j = some p → H.get j = some C → C.live = true → F j k → ¬ F i k := fun hj h1 h2 h3 h4 h5 => hj (hF.apart h1 hi h2 hB h3 hl h4 h5)
 have same : ∀ {j k : Nat} {p : Nat × Nat} {C : AB}, j ≠ i → ρ j = some p → H.get j = some C → C.live = true → F j k → w'.heap[k]? = w.heap[k]? := fun hj h1 h2 h3 h4 => hf.block _ (hF.there h1 h2 h3 h4).2.1 (sep hj h1 h2 h3 h4)
 have get : ∀ {j : Nat} {C : AB}, (tput H i (.obj x)).get j = some C → (j = i ∧ C = .obj x) ∨ (j ≠ i ∧ H.get j = some C) := fun {j C} hq => by
   rw [get_tput] at hq
   split at hq
   · rename_i e; cases hq; exact .inl ⟨e, rfl⟩
   · rename_i e; exact .inr ⟨e, hq⟩
 refine ⟨fun {j b' c' C} h1 h2 h3 => ?_, fun {j b' c' y} h1 h2 => ?_, fun {j l k p q C D} h1 h2 h3 h4 h5 h6 h7 h8 => ?_, fun {j k p C} h1 h2 h3 h4 => ?_⟩
 · rcases get h2 with ⟨rfl, rfl⟩ | ⟨hj, h4⟩
   · rw [hi] at h1; cases h1
     simp only [if_true]
     exact ⟨hb, fun e => by cases e⟩
   · simp only [if_neg hj]; exact hF.one h1 h4 h3
 · rcases get h2 with ⟨rfl, e⟩ | ⟨hj, h4⟩
   · cases e
     rw [hi] at h1; cases h1
     simp only [if_true]
     exact hrep
   · simp only [if_neg hj]
     exact Ob.rep_st (hF.obj h1 h4) (fun k hk => same hj h1 h4 rfl hk)
 · rcases get h3 with ⟨rfl, rfl⟩ | ⟨hj, g3⟩
   · rcases get h4 with ⟨rfl, rfl⟩ | ⟨hj', g4⟩
     · rfl
     · exfalso
       simp only [if_true] at h7
       simp only [if_neg hj'] at h8
       rcases (hF' k h7).1 with h9 | h9
       · exact sep hj' h2 g4 h6 h8 h9
       · have := (hF.there h2 g4 h6 h8).2.1; omega
   · rcases get h4 with ⟨rfl, rfl⟩ | ⟨hj', g4⟩
     · exfalso
       simp only [if_true] at h8
       simp only [if_neg hj] at h7
       rcases (hF' k h8).1 with h9 | h9
       · exact sep hj h1 g3 h5 h7 h9
       · have := (hF.there h1 g3 h5 h7).2.1; omega
     · simp only [if_neg hj] at h7
       simp only [if_neg hj'] at h8
       exact hF.apart h1 h2 g3 g4 h5 h6 h7 h8
 · rcases get h2 with ⟨rfl, rfl⟩ | ⟨hj, g2⟩
   · simp only [if_true] at h4
     obtain ⟨h5, h6⟩ := hF' k h4
     refine ⟨?_, h6, ?_⟩
     · rcases h5 with h5 | h5
       · exact (hF.there hi hB hl h5).1
       · exact .inr (Nat.le_trans hr.fr.size h5)
     · cases hk : ρ.im k with
       | none => rfl
       | some d =>
         rcases h5 with h5 | h5
         · have := (hF.there hi hB hl h5).2.2; rw [hk] at this; cases this
         · have := hr.imlt hk; omega
   · simp only [if_neg hj] at h4
     obtain ⟨h5, h6, h7⟩ := hF.there h1 g2 h3 h4
     exact ⟨h5, Nat.lt_of_lt_of_le h6 hf.size, h7⟩
theorem HR.nameX (h : HR w0 ρ H n w) (hF : Foot w0 ρ H w F) {g c : Nat} {F2 : Nat → Prop} (hg : F2 g) (hF2 : ∀ k, F2 k → (w0.S k ∨ w0.w.heap.size ≤ k) ∧ k < w.heap.size ∧ ρ.im k = none) (hoff : ∀ {j k : Nat} {p : Nat × Nat} {C : AB}, ρ j = some p → H.get j = some C → C.live = true → F j k → ¬ F2 k)
   (hbr : ∃ o, w.heap[g]? = some o ∧ BR (ρ.set n (g, c)) c B o) (hno : B.isObj = false → ∀ k, F2 k → k = g) (hob : ∀ x, B = .obj x → x.rep ρ.im w g c F2) :
   HR w0 (ρ.set n (g, c)) (tput H n B) (n + 1) w ∧ Ext ρ (ρ.set n (g, c)) H (tput H n B) n (n + 1) := by
 have hn := (h.top (Nat.le_refl n)).1
 have hle : ρ.le (ρ.set n (g, c)) := Env.le_set hn _
 have get : ∀ {j : Nat} {C : AB}, (tput H n B).get j = some C → (j = n ∧ C = B) ∨ (j ≠ n ∧ H.get j = some C) := fun {j C} hq => by
   rw [get_tput] at hq
   split at hq
   · rename_i e; cases hq; exact .inl ⟨e, rfl⟩
   · rename_i e; exact .inr ⟨e, hq⟩
 have nm : ∀ {j : Nat} {p : Nat × Nat}, (ρ.set n (g, c)) j = some p → j ≠ n → ρ j = some p := fun {j p} h1 h2 => by rwa [Env.set_at, if_neg h2] at h1
 refine ⟨⟨fun {j b' c' C} h1 h2 => ?_, ⟨fun j k => if j = n then F2 k else F j k, fun {j b' c' C} h1 h2 h3 => ?_, fun {j b' c' y} h1 h2 => ?_, fun {j l k p q C D} h1 h2 h3 h4 h5 h6 h7 h8 => ?_, fun {j k p C} h1 h2 h3 h4 => ?_⟩, fun {j} hj => ⟨?_, ?_⟩, fun {j b' c'} h1 => ?_, h.fr, Env.le_trans h.le hle, fun {k d} h1 => h.im h1, h.imn, fun {j} hk => ⟨by rw [Env.set_at, if_neg (Nat.ne_of_lt (h.kb hk).2.1)]; exact (h.kb hk).1, Nat.lt_succ_of_lt (h.kb hk).2.1, fun T l => by rw [get_tput, if_neg (Nat.ne_of_lt (h.kb hk).2.1)]; exact (h.kb hk).2.2 T l⟩⟩, ⟨hle, fun {j} hj => by rw [Env.set_at, if_neg (by omega)], fun {j} hj _ => Keeps.of (by rw [get_tput, if_neg (by omega)]), Nat.le_succ _⟩⟩
 · rcases get h2 with ⟨rfl, rfl⟩ | ⟨hj, h3⟩
   · rw [Env.set_same] at h1; cases h1
     exact hbr
   · obtain ⟨o, ho, hbr'⟩ := h.blk (nm h1 hj) h3
     exact ⟨o, ho, hbr'.mono hle⟩
 · rcases get h2 with ⟨rfl, rfl⟩ | ⟨hj, h4⟩
   · rw [Env.set_same] at h1; cases h1
     simp only [if_true]
     exact ⟨hg, hno⟩
   · simp only [if_neg hj]; exact hF.one (nm h1 hj) h4 h3
 · rcases get h2 with ⟨rfl, e⟩ | ⟨hj, h4⟩
   · rw [Env.set_same] at h1; cases h1
     simp only [if_true]
     exact hob y e.symm
   · simp only [if_neg hj]
     exact hF.obj (nm h1 hj) h4
 · rcases get h3 with ⟨rfl, rfl⟩ | ⟨hj, g3⟩
   · rcases get h4 with ⟨rfl, rfl⟩ | ⟨hj', g4⟩
     · rfl
     · exfalso
       simp only [if_true] at h7
       simp only [if_neg hj'] at h8
       exact hoff (nm h2 hj') g4 h6 h8 h7
   · rcases get h4 with ⟨rfl, rfl⟩ | ⟨hj', g4⟩
     · exfalso
       simp only [if_true] at h8
       simp only [if_neg hj] at h7
       exact hoff (nm h1 hj) g3 h5 h7 h8
     · simp only [if_neg hj] at h7
       simp only [if_neg hj'] at h8
       exact hF.apart (nm h1 hj) (nm h2 hj') g3 g4 h5 h6 h7 h8
 · rcases get h2 with ⟨rfl, rfl⟩ | ⟨hj, g2⟩
   · simp only [if_true] at h4
     exact hF2 k h4
   · simp only [if_neg hj] at h4
     exact hF.there (nm h1 hj) g2 h3 h4
 · rw [Env.set_at, if_neg (by omega)]; exact (h.top (by omega)).1
 · rw [get_tput, if_neg (by omega)]; exact (h.top (by omega)).2
 · by_cases hj : j = n
   · subst hj
     rw [Env.set_same] at h1; cases h1
     have := hF2 g hg
     exact ⟨this.1, this.2.1⟩
   · exact h.base (nm h1 hj)
end
def isrcI (x : AV) : Option (List Int × Prop) :=
 match x with
 | .v (.slice none 0 0) => some ([], True)
 | .im 1 n f => some (numsF n f, ∀ r, r < n → f r = intsF (numsF n f) r)
 | .ix _ _ 1 n f => some (numsF n f, ∀ r, r < n → f r = intsF (numsF n f) r)
 | _ => none
theorem isrcI_sound {ρ ρ' : Env} (him : ρ'.im = ρ.im) {x : AV} {u : Value} {r : List Int × Prop} (h : isrcI x = some r) (hC : r.2) (hx : VR ρ x u) : VR ρ' (.im 1 r.1.length (intsF r.1)) u := by
 unfold isrcI at h
 split at h
 · cases h; cases hx; exact .im (winE_nil _ _) (fun r hr => absurd hr (Nat.not_lt_zero _))
 · cases h
   cases hx with
   | im hw hf =>
     rw [numsF_len]
     exact .im (by rw [him]; exact hw) (fun r hr' => by rw [← hC r hr', him]; exact hf r hr')
 · cases h
   cases hx with
   | ix hw hf =>
     rw [numsF_len]
     exact .im (by rw [him]; exact hw) (fun r hr' => by rw [← hC r hr', him]; exact hf r hr')
 · cases h
def fallsK (args : List AV) (H : Tr AB) (n : Nat) : Option ((AV × Tr AB × Nat) × Prop) := match args with
 | [.ptr i 0, .agg [cw, kp, ct, ca]] => match H.get i with
   | some (.mem T none [.ow q1 N, .mp q, x2, x3, x4, x5, wx, x7]) => match H.get q1, H.get q with
     | some (.obj (.rows k ll)), some (.obj (.wmap m)) => match isrcI kp, intA cw, intA ct, intA ca, intA wx with
       | some r, some (.i64, w), some (.i64, t), some (.i64, a), some (.i64, wr) =>
         some ((.tup [], tput (tput (tput H i (.mem T none [.ow q1 N, .mp n, .v (iv 0), .v (.slice none 0 0), .v (iv 0), .v (iv 0), ivA wr, .v (.bool true)])) q1 (.obj (.rows 128 (fallL m ⟨w, r.1, t, a⟩ (keysD m) ll)))) n (.map [] 0), n + 1),
           r.2 ∧ k = 128 ∧ N = ll.length ∧ DiskD.Ok ⟨ll, m, .none, wr, false⟩ ∧ r.1.length ≤ 1000000 ∧ fits .i64 a)
       | _, _, _, _, _ => none
     | _, _ => none
   | _ => none
 | _ => none
def fallsF : CF := oneF 57 fallsK
theorem fallsF_ok : FOk Try.prog fallsF := oneF_ok tab Try.func57 (by kernel_rfl) fun {args H n r} h hC {w0 ρ w vs} hr hv => by
 unfold fallsK at h
 split at h
 · rename_i i cw kp ct ca
   split at h
   · rename_i T q1 N q x2 x3 x4 x5 wx x7 hB
     split at h
     · rename_i k ll m hB1 hB2
       split at h
       · rename_i r' cwv ctv cav wr hk hcw hct hca hwx
         cases h
         obtain ⟨c1, rfl, rfl, hok, hk2, hfa⟩ := (show r'.2 ∧ k = 128 ∧ N = ll.length ∧ DiskD.Ok ⟨ll, m, .none, wr, false⟩ ∧ r'.1.length ≤ 1000000 ∧ fits .i64 cav from hC)
         have hnn : ll.length ≠ 0 := hok.npos
         cases hv with
         | cons e1 t =>
         cases t with
         | cons e2 t =>
         cases t
         cases e1 with
         | @ptr _ b c _ hi =>
           obtain ⟨F, hF⟩ := hr.foot
           obtain ⟨o, ho, us, sp, fz, hus, rfl, hz, hsp⟩ := hr.blk hi hB
           have hq1 : ρ q1 ≠ none := by
             cases hus with
             | cons a _ =>
               generalize hL : ll.length = L at a hnn
               cases a with
               | ow _ e _ _ => rw [e]; simp
               | ow0 => exact absurd rfl hnn
           have hq : ρ q ≠ none := by
             cases hus with
             | cons _ t => cases t with
               | cons a _ => cases a with
                 | mp e => rw [e]; simp
           have n1 : i ≠ q1 := fun e => by rw [← e, hB] at hB1; cases hB1
           have n2 : i ≠ q := fun e => by rw [← e, hB] at hB2; cases hB2
           have n3 : q1 ≠ q := fun e => by rw [← e, hB1] at hB2; cases hB2
           have hμ : [i, q1, q].Nodup := by simp [n1, n2, n3]
           have s0 : inS [i, q1, q] q1 = some 1 := (inS_iff hμ).2 rfl
           have s1 : inS [i, q1, q] q = some 2 := (inS_iff hμ).2 rfl
           have hin := hr.inner (L := fallH T ⟨ll, m, .none, wr, false⟩) hF hμ rfl (fun j i' hj => by
             match j, hj with
             | 0, hj =>
               cases hj
               refine ⟨_, hB, rfl, _, rfl, rfl, rfl, ?_⟩
               have hw' : leA (renA (inS [i, q1, q]) wx) (ivA wr) := by
                 unfold intA at hwx
                 split at hwx <;> cases hwx <;> simp [renA, leA]
               simp only [renL, renA, s0, s1, leL]
               exact ⟨by simp [leA], by simp [leA], by simp [leA], by simp [leA], by simp [leA], by simp [leA], hw', by simp [leA], trivial⟩
             | 1, hj => cases hj; exact ⟨_, hB1, rfl, _, rfl, by simp [renB, leB]⟩
             | 2, hj => cases hj; exact ⟨_, hB2, rfl, _, rfl, by simp [renB, leB]⟩
             | j + 3, hj => simp at hj) (fun i' hi' T l hq' => by
               simp only [List.mem_cons, List.not_mem_nil, or_false] at hi'
               rcases hi' with rfl | rfl | rfl
               · rw [hi]; simp
               · exact hq1
               · exact hq)
           cases e2 with
           | @agg _ gs g =>
             obtain ⟨u0, us0, rfl, a0, t0⟩ : ∃ v t, gs = v :: t ∧ VR ρ cw v ∧ VRs ρ [kp, ct, ca] t := by cases g with | cons e t => exact ⟨_, _, rfl, e, t⟩
             obtain ⟨u1, us1, rfl, a1, t1⟩ : ∃ v t, us0 = v :: t ∧ VR ρ kp v ∧ VRs ρ [ct, ca] t := by cases t0 with | cons e t => exact ⟨_, _, rfl, e, t⟩
             obtain ⟨u2, us2, rfl, a2, t2⟩ : ∃ v t, us1 = v :: t ∧ VR ρ ct v ∧ VRs ρ [ca] t := by cases t1 with | cons e t => exact ⟨_, _, rfl, e, t⟩
             obtain ⟨u3, us3, rfl, a3, t3⟩ : ∃ v t, us2 = v :: t ∧ VR ρ ca v ∧ VRs ρ [] t := by cases t2 with | cons e t => exact ⟨_, _, rfl, e, t⟩
             cases t3
             obtain rfl := intA_sound hcw a0
             obtain rfl := intA_sound hct a2
             obtain rfl := intA_sound hca a3
             have a1' : VR (inEnv ρ [i, q1, q]) (.im 1 r'.1.length (intsF r'.1)) u1 := isrcI_sound (ρ := ρ) (ρ' := inEnv ρ [i, q1, q]) (show (inEnv ρ [i, q1, q]).im = ρ.im from rfl) hk c1 a1
             have hp : VR (inEnv ρ [i, q1, q]) (.ptr 0 0) (.pointer (some ⟨b, 0, none⟩)) := .ptr 0 (by show (inEnv ρ [i, q1, q]) 0 = _; rw [inEnv_at]; exact hi)
             have main := To.calls s1_ok (startOf_some (by kernel_rfl)) (falls_to s1_ok T ⟨ll, m, .none, wr, false⟩ ⟨cwv, r'.1, ctv, cav⟩ hok hk2 hfa) hin (.cons hp (.cons (.agg (.cons (.sy _) (.cons a1' (.cons (.sy _) (.cons (.sy _) .nil))))) .nil))
             refine main.mono ?_
             rintro e w' ⟨x, H', n', ρ', v, ⟨rfl, p0, p1, p2, p9⟩, rfl, hv, hr'⟩
             have hbd : ∀ i' ∈ [i, q1, q], ρ i' ≠ none := fun i' hi' => by
               simp only [List.mem_cons, List.not_mem_nil, or_false] at hi'
               rcases hi' with rfl | rfl | rfl
               · rw [hi]; simp
               · exact hq1
               · exact hq
             have hin' : i < n ∧ q1 < n ∧ q < n := by
               refine ⟨?_, ?_, ?_⟩ <;> refine Nat.lt_of_not_le fun hle => ?_
               · rw [(hr.top hle).2] at hB; cases hB
               · rw [(hr.top hle).2] at hB1; cases hB1
               · rw [(hr.top hle).2] at hB2; cases hB2
             have o1 : outS [i, q1, q] [9] n 1 = some q1 := rfl
             have o9 : outS [i, q1, q] [9] n 9 = some n := rfl
             obtain ⟨g1, g2⟩ := hr.outer (H2 := tput (tput (tput H i (.mem T none [.ow q1 ll.length, .mp n, .v (iv 0), .v (.slice none 0 0), .v (iv 0), .v (iv 0), ivA wr, .v (.bool true)])) q1 (.obj (.rows 128 (fallL m ⟨cwv, r'.1, ctv, cav⟩ (keysD m) ll)))) n (.map [] 0)) (E := [9]) hF hμ (fun i' hi' => by
                 simp only [List.mem_cons, List.not_mem_nil, or_false] at hi'
                 rcases hi' with rfl | rfl | rfl
                 · exact ⟨_, hB, rfl, fun _ _ _ => by rw [hi]; simp⟩
                 · exact ⟨_, hB1, rfl, fun _ _ e => by cases e⟩
                 · exact ⟨_, hB2, rfl, fun _ _ e => by cases e⟩) (by simp) (fun j hj => by simp at hj; subst hj; simp) hr'
               (fun q' hq' hm => by
                 simp only [List.mem_cons, List.not_mem_nil, or_false, not_or] at hm
                 rw [get_tput, if_neg (by omega), get_tput, if_neg hm.2.1, get_tput, if_neg hm.1])
               (fun j i' hj => by
                 match j, hj with
                 | 0, hj =>
                   cases hj
                   refine ⟨_, by rw [get_tput, if_neg (by omega), get_tput, if_neg n1, get_tput, if_pos rfl], _, p0, ?_⟩
                   simp only [renB, renL, renA, o1, o9]
                   exact leB_refl _
                 | 1, hj => cases hj; exact ⟨_, by rw [get_tput, if_neg (by omega), get_tput, if_pos rfl]; rfl, _, p1, leB_refl _⟩
                 | 2, hj => cases hj; exact ⟨_, by rw [get_tput, if_neg (by omega), get_tput, if_neg n3.symm, get_tput, if_neg n2.symm]; exact hB2, _, p2, leB_refl _⟩
                 | j + 3, hj => simp at hj)
               (fun p j hp => by
                 cases p with
                 | zero =>
                   have : j = 9 := by simpa using hp.symm
                   subst this
                   exact ⟨_, by rw [Nat.add_zero, get_tput, if_pos rfl]; rfl, _, p9, leB_refl _⟩
                 | succ p => simp at hp)
               (fun q' hq' => by
                 have : n + 1 ≤ q' := hq'
                 rw [get_tput, if_neg (by omega), get_tput, if_neg (by omega), get_tput, if_neg (by omega)]; exact (hr.top (by omega)).2)
             refine ⟨_, v, rfl, ?_, g1, g2⟩
             cases hv with
             | tup t => cases t; exact .tup .nil
       · cases h
     · cases h
   · cases h
 · cases h
noncomputable abbrev S2 : Sy := sym Try.prog (orF waitsF (orF fallsF (orF cloneBF cloneZF))) containsG
theorem s2_ok : S2.Ok Try.prog := sym_ok (orF_ok waitsF_ok (orF_ok fallsF_ok (orF_ok cloneBF_ok cloneZF_ok))) containsG_ok tab mix
structure DiskD.Fine (d : DiskD) : Prop where
 ok : d.Ok
 cw : 0 ≤ d.crash.w ∧ fits .i64 d.crash.w
 keep : d.crash.keep.length ≤ 1000000
 at_ : fits .i64 d.crash.at_
 wr : 0 ≤ d.writes ∧ d.writes ≤ 4000000000000000000
def fallD (d : DiskD) (c : CrashD) : DiskD := ⟨fallL d.waits c (keysD d.waits) d.stays, [], CrashD.none, d.writes, true⟩
def DiskD.put (d : DiskD) (z : Int) (b : List UInt8) : DiskD := { d with waits := putM d.waits z (b.take 128), writes := d.writes + 1 }
def DiskD.tick (d : DiskD) : DiskD := { d with crash := { d.crash with w := d.crash.w - 1 } }
def writeD (d : DiskD) (z : Int) (b : List UInt8) : DiskD × Int :=
 if d.down then (d, 31) else if ¬ (0 ≤ z) then (d, 30) else if ¬ (z < d.stays.length) then (d, 30) else if b.length ≠ 128 then (d, 30)
 else if d.crash.w = 0 then (d.put z b, 0) else if 0 < d.crash.w - 1 then ((d.put z b).tick, 0) else (fallD (d.put z b).tick (d.put z b).tick.crash, 31)
theorem DEnd.up {ka : Option Addr} {kc : Nat} {d : DiskD} {H' : Tr AB} {T : TypeId} {ll : List (List UInt8)} {m : List (Int × List UInt8)} {cx wx dx : AV} {w wr : Int} {dn : Bool} {N : Nat}
   (h0 : H'.get 0 = some (.mem T none [.ow 1 N, .mp 2, cx, .ix ka kc 1 d.crash.keep.length (intsF d.crash.keep), ivA d.crash.torn, ivA d.crash.at_, wx, dx]))
   (h1 : H'.get 1 = some (.obj (.rows 128 ll))) (h2 : H'.get 2 = some (.obj (.wmap m))) (hc : intA cx = some (.i64, w)) (hw : intA wx = some (.i64, wr)) (hd : boolA dx = some dn) (hN : N = ll.length) (hne : N ≠ 0) :
   DEnd 0 ka kc d.crash.keep ⟨ll, m, ⟨w, d.crash.keep, d.crash.torn, d.crash.at_⟩, wr, dn⟩ H' [] :=
 ⟨T, 1, N, .mp 2, cx, _, _, _, wx, dx, h0, h1, hN, .map h2, hc, .was, rfl, rfl, hw, hd, hne, fun g hg => by cases hg⟩
theorem DEnd.fall {ka : Option Addr} {kc : Nat} {keep0 : List Int} {H' : Tr AB} {T : TypeId} {ll : List (List UInt8)} {wx : AV} {wr : Int} {N q : Nat}
   (h0 : H'.get 0 = some (.mem T none [.ow 1 N, .mp q, .v (iv 0), .v (.slice none 0 0), .v (iv 0), .v (iv 0), wx, .v (.bool true)]))
   (h1 : H'.get 1 = some (.obj (.rows 128 ll))) {c : Nat} (h2 : H'.get q = some (.map [] c)) (hw : intA wx = some (.i64, wr)) (hN : N = ll.length) (hne : N ≠ 0) :
   DEnd 0 ka kc keep0 ⟨ll, [], CrashD.none, wr, true⟩ H' [] :=
 ⟨T, 1, N, .mp q, _, _, _, _, wx, _, h0, h1, hN, .new h2, rfl, .nil, rfl, rfl, hw, rfl, hne, fun g hg => by cases hg⟩
theorem putM_mem {m : List (Int × List UInt8)} {z : Int} {bs : List UInt8} {p : Int × List UInt8} (h : p ∈ putM m z bs) : p ∈ m ∨ p = (z, bs) := by
 induction m with
 | nil => simp [putM] at h; exact .inr h
 | cons q m ih =>
   unfold putM at h
   split at h
   · rcases List.mem_cons.1 h with h | h
     · exact .inr h
     · exact .inl (by simp [h])
   · rcases List.mem_cons.1 h with h | h
     · exact .inl (by simp [h])
     · rcases ih h with h | h
       · exact .inl (by simp [h])
       · exact .inr h
theorem putM_keys (m : List (Int × List UInt8)) (z : Int) (bs : List UInt8) : (putM m z bs).map (·.1) = if z ∈ m.map (·.1) then m.map (·.1) else m.map (·.1) ++ [z] := by
 induction m with
 | nil => simp [putM]
 | cons q m ih =>
   unfold putM
   by_cases hq : q.1 = z
   · rw [if_pos hq]; simp [hq]
   · rw [if_neg hq, List.map_cons, ih]
     have : (z = q.1) = False := by simp; exact fun e => hq e.symm
     simp only [List.map_cons, List.mem_cons, this, false_or]
     split <;> simp
theorem DiskD.Ok.of {d d' : DiskD} (h : d.Ok) (h1 : d'.stays = d.stays) (h2 : d'.waits = d.waits) : d'.Ok := by
 obtain ⟨a, b, c, e, f⟩ := h
 exact ⟨by rw [h1]; exact a, by rw [h1]; exact b, by rw [h1]; exact c, by rw [h1, h2]; exact e, by rw [h2]; exact f⟩
theorem DiskD.Ok.put {d : DiskD} (h : d.Ok) {z : Int} {bs : List UInt8} (h0 : 0 ≤ z) (h1 : z < d.stays.length) (hl : (bs.take 128).length = 128) : (d.put z bs).Ok := by
 obtain ⟨a, b, c, e, f⟩ := h
 refine ⟨a, b, c, fun p hp => ?_, ?_⟩
 · rcases putM_mem hp with hp | rfl
   · exact e p hp
   · exact ⟨h0, h1, hl⟩
 · show ((putM d.waits z (bs.take 128)).map (·.1)).Nodup
   rw [putM_keys]
   split
   · exact f
   · rename_i hm
     exact List.nodup_append.2 ⟨f, by simp, fun x hx y hy => by simp at hy; subst hy; exact fun e => hm (e ▸ hx)⟩
set_option maxHeartbeats 4000000 in
set_option maxRecDepth 100000 in
theorem write_to (hok : S2.Ok Try.prog) (T : TypeId) (d : DiskD) (ka : Option Addr) (kc : Nat) (z : Int) (bs : List UInt8) (hd : d.Fine) :
   To S2 Try.prog 20 (startOf Try.prog 20 [.ptr 0 0, ivA z, .by8 bs] (memF (diskH T d ka kc) 0 .e) 3)
     (fun x H _ => intA x = some (.i64, (writeD d z bs).2) ∧ DEnd 0 ka kc d.crash.keep (writeD d z bs).1 H []) := by
 have w1 := hd.ok.npos
 have w2 := hd.ok.le
 have w3 := hd.cw
 have w4 := hd.wr
 have w5 := hd.keep
 have w6 := hd.at_
 have e1 := numsF_ints d.crash.keep
 have w7 : fits .i64 (d.crash.w - 1) := by
   have h1 : (-9223372036854775808 : Int) ≤ d.crash.w := w3.2.1
   have h2 : d.crash.w ≤ (9223372036854775807 : Int) := w3.2.2
   exact fits_i64 (by omega) (by omega)
 refine To.R (h := ?_)
 refine To.Nd (d.stays.length = (0 : Int)) (h := ?_)
 refine To.R (h := ?_)
 refine To.B (d.down) (h := ?_) (g := ?_)
 · intro h1
   refine To.R (h := ?_)
   refine To.E (AV.v (Value.int IntKind.i64 31)) (hq := ?_)
   have hw : writeD d z bs = (d, 31) := by unfold writeD; rw [if_pos h1]
   rw [hw]
   exact ⟨by kernel_rfl, DEnd.up (T := T) (N := d.stays.length) (cx := ivA d.crash.w) (wx := ivA d.writes) (dx := .sy (.bool d.down)) (by kernel_rfl) (by kernel_rfl) (by kernel_rfl) rfl rfl rfl rfl w1⟩
 · intro h1
   refine To.R (h := ?_)
   refine To.Bd (0 ≤ z) (h := ?_) (g := ?_)
   · intro h2
     refine To.R (h := ?_)
     refine To.Bd (z < d.stays.length) (h := ?_) (g := ?_)
     · intro h3
       refine To.R (h := ?_)
       refine To.Bn (bs.length = (128 : Int)) (h := ?_) (g := ?_)
       · intro h4
         refine To.R (h := ?_)
         refine To.E (AV.v (Value.int IntKind.i64 30)) (hq := ?_)
         have hw : writeD d z bs = (d, 30) := by unfold writeD; rw [if_neg (by simp [h1]), if_neg (by omega), if_neg (by omega), if_pos (by omega)]
         rw [hw]
         exact ⟨by kernel_rfl, DEnd.up (T := T) (N := d.stays.length) (cx := ivA d.crash.w) (wx := ivA d.writes) (dx := .sy (.bool d.down)) (by kernel_rfl) (by kernel_rfl) (by kernel_rfl) rfl rfl rfl rfl w1⟩
       · intro h4
         have h5 : bs.length = 128 := by omega
         have h5' : (bs.take 128).length = 128 := by rw [List.length_take]; omega
         have hput := hd.ok.put (z := z) (bs := bs) h2 h3 h5'
         refine To.R (C := 128 ≤ bs.length ∧ 128 ≤ bs.length ∧ True ∧ fits IntKind.i64 (d.writes + 1)) (h := ?_)
         refine To.Bd (d.crash.w = 0) (h := ?_) (g := ?_)
         · intro h6
           refine To.R (h := ?_)
           refine To.E (AV.v (Value.int IntKind.i64 0)) (hq := ?_)
           have hw : writeD d z bs = (d.put z bs, 0) := by unfold writeD; rw [if_neg (by simp [h1]), if_neg (by omega), if_neg (by omega), if_neg (by omega), if_pos h6]
           rw [hw]
           exact ⟨by kernel_rfl, DEnd.up (d := d.put z bs) (T := T) (N := d.stays.length) (cx := ivA d.crash.w) (wx := ivA (d.writes + 1)) (dx := .sy (.bool d.down)) (by kernel_rfl) (by kernel_rfl) (by kernel_rfl) rfl rfl rfl rfl w1⟩
         · intro h6
           refine To.R (C := fits IntKind.i64 (d.crash.w - 1)) (h := ?_)
           refine To.Bd (0 < d.crash.w - 1) (h := ?_) (g := ?_)
           · intro h7
             refine To.R (h := ?_)
             refine To.E (AV.v (Value.int IntKind.i64 0)) (hq := ?_)
             have hw : writeD d z bs = ((d.put z bs).tick, 0) := by unfold writeD; rw [if_neg (by simp [h1]), if_neg (by omega), if_neg (by omega), if_neg (by omega), if_neg h6, if_pos h7]
             rw [hw]
             exact ⟨by kernel_rfl, DEnd.up (d := d.put z bs) (T := T) (N := d.stays.length) (cx := ivA (d.crash.w - 1)) (wx := ivA (d.writes + 1)) (dx := .sy (.bool d.down)) (by kernel_rfl) (by kernel_rfl) (by kernel_rfl) rfl rfl rfl rfl w1⟩
           · intro h7
             refine To.R (C := (∀ (r : Nat), r < d.crash.keep.length → intsF d.crash.keep r = intsF (numsF d.crash.keep.length (intsF d.crash.keep)) r) ∧ Same 128 ∧ Same d.stays.length ∧ (DiskD.mk d.stays (putM d.waits z (List.take 128 bs)) CrashD.none (d.writes + 1) false).Ok ∧ (numsF d.crash.keep.length (intsF d.crash.keep)).length ≤ 1000000 ∧ fits IntKind.i64 d.crash.at_) (hc := ?_) (h := ?_); (and_intros <;> try exact cl)
             · rw [e1]; exact fun r hr => rfl
             · exact hput.of rfl rfl
             · show (numsF d.crash.keep.length (intsF d.crash.keep)).length ≤ 1000000
               rw [e1]; exact w5
             refine To.E (AV.v (Value.int IntKind.i64 31)) (hq := ?_)
             have hw : writeD d z bs = (fallD (d.put z bs).tick (d.put z bs).tick.crash, 31) := by unfold writeD; rw [if_neg (by simp [h1]), if_neg (by omega), if_neg (by omega), if_neg (by omega), if_neg h6, if_neg h7]
             rw [hw]
             refine ⟨by kernel_rfl, ?_⟩
             have e2 : fallD (d.put z bs).tick (d.put z bs).tick.crash = ⟨fallL (putM d.waits z (List.take 128 bs)) ⟨d.crash.w - 1, numsF d.crash.keep.length (intsF d.crash.keep), d.crash.torn, d.crash.at_⟩ (keysD (putM d.waits z (List.take 128 bs))) d.stays, [], CrashD.none, d.writes + 1, true⟩ := by rw [e1]; rfl
             show DEnd 0 ka kc d.crash.keep (fallD (d.put z bs).tick (d.put z bs).tick.crash) _ []
             rw [e2]
             exact DEnd.fall (T := T) (N := d.stays.length) (q := 3) (c := 0) (wx := ivA (d.writes + 1)) (by kernel_rfl) (by kernel_rfl) (by kernel_rfl) rfl (fallL_len _ _ _ _).symm w1
     · intro h3
       refine To.R (h := ?_)
       refine To.E (AV.v (Value.int IntKind.i64 30)) (hq := ?_)
       have hw : writeD d z bs = (d, 30) := by unfold writeD; rw [if_neg (by simp [h1]), if_neg (by omega), if_pos (by omega)]
       rw [hw]
       exact ⟨by kernel_rfl, DEnd.up (T := T) (N := d.stays.length) (cx := ivA d.crash.w) (wx := ivA d.writes) (dx := .sy (.bool d.down)) (by kernel_rfl) (by kernel_rfl) (by kernel_rfl) rfl rfl rfl rfl w1⟩
   · intro h2
     refine To.R (h := ?_)
     refine To.E (AV.v (Value.int IntKind.i64 30)) (hq := ?_)
     have hw : writeD d z bs = (d, 30) := by unfold writeD; rw [if_neg (by simp [h1]), if_pos (by omega)]
     rw [hw]
     exact ⟨by kernel_rfl, DEnd.up (T := T) (N := d.stays.length) (cx := ivA d.crash.w) (wx := ivA d.writes) (dx := .sy (.bool d.down)) (by kernel_rfl) (by kernel_rfl) (by kernel_rfl) rfl rfl rfl rfl w1⟩
theorem getM_none {m : List (Int × List UInt8)} {z : Int} (h : z ∉ m.map (·.1)) : getM m z = none := by
 induction m with
 | nil => rfl
 | cons p m ih =>
   have h1 : p.1 ≠ z := fun e => h (by simp [e])
   have h2 : z ∉ m.map (·.1) := fun e => h (by simp only [List.map_cons, List.mem_cons]; exact .inr e)
   simp [getM, h1, ih h2]
def bootD (d : DiskD) : DiskD := { d with down := false }
def spoilD (d : DiskD) (z : Int) (b : List UInt8) : DiskD × Int :=
 if ¬ (0 ≤ z) then (d, 30) else if ¬ (z < d.stays.length) then (d, 30) else if b.length ≠ 128 then (d, 30) else ({ d with stays := d.stays.set z.toNat (b.take 128) }, 0)
def downD (d : DiskD) (c : CrashD) : DiskD × Int := if d.down then (d, 31) else (fallD d c, 0)
def armD (d : DiskD) (c : CrashD) : DiskD × Int := if c.w < 1 then (d, 2) else ({ d with crash := c }, 0)
set_option maxHeartbeats 4000000 in
set_option maxRecDepth 100000 in
theorem boot_to (hok : S2.Ok Try.prog) (T : TypeId) (d : DiskD) (ka : Option Addr) (kc : Nat) (hd : d.Fine) :
   To S2 Try.prog 17 (startOf Try.prog 17 [.ptr 0 0] (memF (diskH T d ka kc) 0 .e) 3)
     (fun x H _ => intA x = some (.i64, 0) ∧ DEnd 0 ka kc d.crash.keep (bootD d) H []) := by
 have w1 := hd.ok.npos
 refine To.R (h := ?_)
 refine To.Nd (d.stays.length = (0 : Int)) (h := ?_)
 refine To.R (h := ?_)
 refine To.E (AV.v (Value.int IntKind.i64 0)) (hq := ?_)
 exact ⟨by kernel_rfl, DEnd.up (d := d) (T := T) (N := d.stays.length) (cx := ivA d.crash.w) (wx := ivA d.writes) (dx := .v (.bool false)) (by kernel_rfl) (by kernel_rfl) (by kernel_rfl) rfl rfl rfl rfl w1⟩
set_option maxHeartbeats 4000000 in
set_option maxRecDepth 100000 in
theorem up_to (hok : S2.Ok Try.prog) (T : TypeId) (d : DiskD) (ka : Option Addr) (kc : Nat) (hd : d.Fine) :
   To S2 Try.prog 49 (startOf Try.prog 49 [.ptr 0 0] (memF (diskH T d ka kc) 0 .e) 3)
     (fun x H _ => boolA x = some (!d.down) ∧ DEnd 0 ka kc d.crash.keep d H []) := by
 have w1 := hd.ok.npos
 refine To.R (h := ?_)
 refine To.Nd (d.stays.length = (0 : Int)) (h := ?_)
 refine To.R (h := ?_)
 refine To.B (!d.down) (h := ?_) (g := ?_)
 · intro h1
   refine To.R (h := ?_)
   refine To.E (AV.v (Value.bool true)) (hq := ?_)
   rw [h1]
   exact ⟨by kernel_rfl, DEnd.up (d := d) (T := T) (N := d.stays.length) (cx := ivA d.crash.w) (wx := ivA d.writes) (dx := .sy (.bool d.down)) (by kernel_rfl) (by kernel_rfl) (by kernel_rfl) rfl rfl rfl rfl w1⟩
 · intro h1
   refine To.R (h := ?_)
   refine To.E (AV.v (Value.bool false)) (hq := ?_)
   rw [h1]
   exact ⟨by kernel_rfl, DEnd.up (d := d) (T := T) (N := d.stays.length) (cx := ivA d.crash.w) (wx := ivA d.writes) (dx := .sy (.bool d.down)) (by kernel_rfl) (by kernel_rfl) (by kernel_rfl) rfl rfl rfl rfl w1⟩
set_option maxHeartbeats 4000000 in
set_option maxRecDepth 100000 in
theorem writes_to (hok : S2.Ok Try.prog) (T : TypeId) (d : DiskD) (ka : Option Addr) (kc : Nat) (hd : d.Fine) :
   To S2 Try.prog 50 (startOf Try.prog 50 [.ptr 0 0] (memF (diskH T d ka kc) 0 .e) 3)
     (fun x H _ => intA x = some (.i64, d.writes) ∧ DEnd 0 ka kc d.crash.keep d H []) := by
 have w1 := hd.ok.npos
 refine To.R (h := ?_)
 refine To.Nd (d.stays.length = (0 : Int)) (h := ?_)
 refine To.R (h := ?_)
 refine To.E (AV.sy (Value.int IntKind.i64 d.writes)) (hq := ?_)
 exact ⟨by kernel_rfl, DEnd.up (d := d) (T := T) (N := d.stays.length) (cx := ivA d.crash.w) (wx := ivA d.writes) (dx := .sy (.bool d.down)) (by kernel_rfl) (by kernel_rfl) (by kernel_rfl) rfl rfl rfl rfl w1⟩
set_option maxHeartbeats 4000000 in
set_option maxRecDepth 100000 in
theorem size_to (hok : S2.Ok Try.prog) (T : TypeId) (d : DiskD) (ka : Option Addr) (kc : Nat) (hd : d.Fine) :
   To S2 Try.prog 53 (startOf Try.prog 53 [.ptr 0 0] (memF (diskH T d ka kc) 0 .e) 3)
     (fun x H _ => intA x = some (.i64, (d.stays.length : Int)) ∧ DEnd 0 ka kc d.crash.keep d H []) := by
 have w1 := hd.ok.npos
 refine To.R (h := ?_)
 refine To.Nd (d.stays.length = (0 : Int)) (h := ?_)
 refine To.R (h := ?_)
 refine To.E (AV.sy (Value.int IntKind.i64 d.stays.length)) (hq := ?_)
 exact ⟨by kernel_rfl, DEnd.up (d := d) (T := T) (N := d.stays.length) (cx := ivA d.crash.w) (wx := ivA d.writes) (dx := .sy (.bool d.down)) (by kernel_rfl) (by kernel_rfl) (by kernel_rfl) rfl rfl rfl rfl w1⟩
set_option maxHeartbeats 4000000 in
set_option maxRecDepth 100000 in
theorem spoil_to (hok : S2.Ok Try.prog) (T : TypeId) (d : DiskD) (ka : Option Addr) (kc : Nat) (z : Int) (bs : List UInt8) (hd : d.Fine) :
   To S2 Try.prog 11 (startOf Try.prog 11 [.ptr 0 0, ivA z, .by8 bs] (memF (diskH T d ka kc) 0 .e) 3)
     (fun x H _ => intA x = some (.i64, (spoilD d z bs).2) ∧ DEnd 0 ka kc d.crash.keep (spoilD d z bs).1 H []) := by
 have w1 := hd.ok.npos
 have w2 := hd.ok.le
 refine To.R (h := ?_)
 refine To.Nd (d.stays.length = (0 : Int)) (h := ?_)
 refine To.R (h := ?_)
 refine To.Bd (0 ≤ z) (h := ?_) (g := ?_)
 · intro h2
   refine To.R (h := ?_)
   refine To.Bd (z < d.stays.length) (h := ?_) (g := ?_)
   · intro h3
     refine To.R (h := ?_)
     refine To.Bn (bs.length = (128 : Int)) (h := ?_) (g := ?_)
     · intro h4
       refine To.R (h := ?_)
       refine To.E (AV.v (Value.int IntKind.i64 30)) (hq := ?_)
       have hw : spoilD d z bs = (d, 30) := by unfold spoilD; rw [if_neg (by omega), if_neg (by omega), if_pos (by omega)]
       rw [hw]
       exact ⟨by kernel_rfl, DEnd.up (d := d) (T := T) (N := d.stays.length) (cx := ivA d.crash.w) (wx := ivA d.writes) (dx := .sy (.bool d.down)) (by kernel_rfl) (by kernel_rfl) (by kernel_rfl) rfl rfl rfl rfl w1⟩
     · intro h4
       have h5 : bs.length = 128 := by omega
       have h5' : (bs.take 128).length = 128 := by rw [List.length_take]; omega
       refine To.R (C := 128 ≤ bs.length ∧ 128 ≤ bs.length ∧ (0 ≤ z ∧ z < d.stays.length) ∧ z.toNat < d.stays.length ∧ (List.take 128 bs).length = 128) (h := ?_)
       refine To.E (AV.v (Value.int IntKind.i64 0)) (hq := ?_)
       have hw : spoilD d z bs = ({ d with stays := d.stays.set z.toNat (bs.take 128) }, 0) := by unfold spoilD; rw [if_neg (by omega), if_neg (by omega), if_neg (by omega)]
       rw [hw]
       exact ⟨by kernel_rfl, DEnd.up (d := d) (T := T) (N := d.stays.length) (cx := ivA d.crash.w) (wx := ivA d.writes) (dx := .sy (.bool d.down)) (by kernel_rfl) (by kernel_rfl) (by kernel_rfl) rfl rfl rfl (by simp) w1⟩
   · intro h3
     refine To.R (h := ?_)
     refine To.E (AV.v (Value.int IntKind.i64 30)) (hq := ?_)
     have hw : spoilD d z bs = (d, 30) := by unfold spoilD; rw [if_neg (by omega), if_pos (by omega)]
     rw [hw]
     exact ⟨by kernel_rfl, DEnd.up (d := d) (T := T) (N := d.stays.length) (cx := ivA d.crash.w) (wx := ivA d.writes) (dx := .sy (.bool d.down)) (by kernel_rfl) (by kernel_rfl) (by kernel_rfl) rfl rfl rfl rfl w1⟩
 · intro h2
   refine To.R (h := ?_)
   refine To.E (AV.v (Value.int IntKind.i64 30)) (hq := ?_)
   have hw : spoilD d z bs = (d, 30) := by unfold spoilD; rw [if_pos (by omega)]
   rw [hw]
   exact ⟨by kernel_rfl, DEnd.up (d := d) (T := T) (N := d.stays.length) (cx := ivA d.crash.w) (wx := ivA d.writes) (dx := .sy (.bool d.down)) (by kernel_rfl) (by kernel_rfl) (by kernel_rfl) rfl rfl rfl rfl w1⟩
set_option maxHeartbeats 4000000 in
set_option maxRecDepth 100000 in
theorem down_to (hok : S2.Ok Try.prog) (T : TypeId) (d : DiskD) (ka : Option Addr) (kc : Nat) (c : CrashD) (hd : d.Fine) (hk : c.keep.length ≤ 1000000) (hc : fits .i64 c.at_) :
   To S2 Try.prog 42 (startOf Try.prog 42 [.ptr 0 0, .agg [ivA c.w, .im 1 c.keep.length (intsF c.keep), ivA c.torn, ivA c.at_]] (memF (diskH T d ka kc) 0 .e) 3)
     (fun x H _ => intA x = some (.i64, (downD d c).2) ∧ DEnd 0 ka kc d.crash.keep (downD d c).1 H []) := by
 have w1 := hd.ok.npos
 have e1 := numsF_ints c.keep
 have w2 : DiskD.Ok ⟨d.stays, d.waits, CrashD.none, d.writes, false⟩ := hd.ok.of rfl rfl
 have w3 : (numsF c.keep.length (intsF c.keep)).length ≤ 1000000 := by rw [e1]; exact hk
 have w4 : ∀ r, r < c.keep.length → intsF c.keep r = intsF (numsF c.keep.length (intsF c.keep)) r := by rw [e1]; exact fun r hr => rfl
 refine To.R (h := ?_)
 refine To.Nd (d.stays.length = (0 : Int)) (h := ?_)
 refine To.R (h := ?_)
 refine To.B (d.down) (h := ?_) (g := ?_)
 · intro h1
   refine To.R (h := ?_)
   refine To.E (AV.v (Value.int IntKind.i64 31)) (hq := ?_)
   have hw : downD d c = (d, 31) := by unfold downD; rw [if_pos h1]
   rw [hw]
   exact ⟨by kernel_rfl, DEnd.up (d := d) (T := T) (N := d.stays.length) (cx := ivA d.crash.w) (wx := ivA d.writes) (dx := .sy (.bool d.down)) (by kernel_rfl) (by kernel_rfl) (by kernel_rfl) rfl rfl rfl rfl w1⟩
 · intro h1
   refine To.R (C := (∀ (r : Nat), r < c.keep.length → intsF c.keep r = intsF (numsF c.keep.length (intsF c.keep)) r) ∧ Same 128 ∧ Same d.stays.length ∧ (DiskD.mk d.stays d.waits CrashD.none d.writes false).Ok ∧ (numsF c.keep.length (intsF c.keep)).length ≤ 1000000 ∧ fits IntKind.i64 c.at_) (h := ?_)
   refine To.E (AV.v (Value.int IntKind.i64 0)) (hq := ?_)
   have hw : downD d c = (fallD d c, 0) := by unfold downD; rw [if_neg (by simp [h1])]
   rw [hw]
   refine ⟨by kernel_rfl, ?_⟩
   have e2 : fallD d c = ⟨fallL d.waits ⟨c.w, numsF c.keep.length (intsF c.keep), c.torn, c.at_⟩ (keysD d.waits) d.stays, [], CrashD.none, d.writes, true⟩ := by rw [e1]; rfl
   show DEnd 0 ka kc d.crash.keep (fallD d c) _ []
   rw [e2]
   exact DEnd.fall (T := T) (N := d.stays.length) (q := 4) (c := 0) (wx := ivA d.writes) (by kernel_rfl) (by kernel_rfl) (by kernel_rfl) rfl (fallL_len _ _ _ _).symm w1
set_option maxHeartbeats 4000000 in
set_option maxRecDepth 100000 in
theorem arm_to1 (hok : S2.Ok Try.prog) (T : TypeId) (d : DiskD) (ka : Option Addr) (kc : Nat) (cw y ct ca : Int) (l : List Int) (hd : d.Fine) (hk : l.length + 1 ≤ 1000000) :
   To S2 Try.prog 44 (startOf Try.prog 44 [.ptr 0 0, .agg [ivA cw, .im 1 (Nat.succ l.length) (intsF (y :: l)), ivA ct, ivA ca]] (memF (diskH T d ka kc) 0 .e) 3)
     (fun x H _ => intA x = some (.i64, (armD d ⟨cw, y :: l, ct, ca⟩).2) ∧ (DEnd 0 ka kc d.crash.keep (armD d ⟨cw, y :: l, ct, ca⟩).1 H [] ∨ DEndO (armD d ⟨cw, y :: l, ct, ca⟩).1 H)) := by
 have w1 := hd.ok.npos
 refine To.R (h := ?_)
 refine To.Nd (d.stays.length = (0 : Int)) (h := ?_)
 refine To.R (h := ?_)
 refine To.Bd (cw < 1) (h := ?_) (g := ?_)
 · intro h1
   refine To.R (h := ?_)
   refine To.E (AV.v (Value.int IntKind.i64 2)) (hq := ?_)
   have hw : armD d ⟨cw, y :: l, ct, ca⟩ = (d, 2) := by unfold armD; rw [if_pos h1]
   rw [hw]
   exact ⟨by kernel_rfl, .inl (DEnd.up (d := d) (T := T) (N := d.stays.length) (cx := ivA d.crash.w) (wx := ivA d.writes) (dx := .sy (.bool d.down)) (by kernel_rfl) (by kernel_rfl) (by kernel_rfl) rfl rfl rfl rfl w1)⟩
 · intro h1
   refine To.R (C := l.length + 1 ≤ 1000000 ∧ (∀ (r : Nat), r < l.length + 1 → (intsF (y :: l) r).all oneA = true)) (hc := ?_) (h := ?_); (and_intros <;> try exact cl)
   · exact fun r hr => rfl
   refine To.E (AV.v (Value.int IntKind.i64 0)) (hq := ?_)
   have hw : armD d ⟨cw, y :: l, ct, ca⟩ = ({ d with crash := ⟨cw, y :: l, ct, ca⟩ }, 0) := by unfold armD; rw [if_neg h1]
   rw [hw]
   exact ⟨by kernel_rfl, .inr ⟨T, d.stays.length, ivA cw, ivA ct, ivA ca, ivA d.writes, .sy (.bool d.down), 4, 3, intsF (y :: l), by kernel_rfl, by kernel_rfl, rfl, by kernel_rfl, rfl, by kernel_rfl, fun r _ => rfl, by simp, rfl, rfl, rfl, rfl, w1⟩⟩
set_option maxHeartbeats 4000000 in
set_option maxRecDepth 100000 in
theorem arm_to0 (hok : S2.Ok Try.prog) (T : TypeId) (d : DiskD) (ka : Option Addr) (kc : Nat) (cw ct ca : Int) (f : Nat → List AV) (hd : d.Fine) :
   To S2 Try.prog 44 (startOf Try.prog 44 [.ptr 0 0, .agg [ivA cw, .im 1 0 f, ivA ct, ivA ca]] (memF (diskH T d ka kc) 0 .e) 3)
     (fun x H _ => intA x = some (.i64, (armD d ⟨cw, [], ct, ca⟩).2) ∧ (DEnd 0 ka kc d.crash.keep (armD d ⟨cw, [], ct, ca⟩).1 H [] ∨ DEndO (armD d ⟨cw, [], ct, ca⟩).1 H)) := by
 have w1 := hd.ok.npos
 refine To.R (h := ?_)
 refine To.Nd (d.stays.length = (0 : Int)) (h := ?_)
 refine To.R (h := ?_)
 refine To.Bd (cw < 1) (h := ?_) (g := ?_)
 · intro h1
   refine To.R (h := ?_)
   refine To.E (AV.v (Value.int IntKind.i64 2)) (hq := ?_)
   have hw : armD d ⟨cw, [], ct, ca⟩ = (d, 2) := by unfold armD; rw [if_pos h1]
   rw [hw]
   exact ⟨by kernel_rfl, .inl (DEnd.up (d := d) (T := T) (N := d.stays.length) (cx := ivA d.crash.w) (wx := ivA d.writes) (dx := .sy (.bool d.down)) (by kernel_rfl) (by kernel_rfl) (by kernel_rfl) rfl rfl rfl rfl w1)⟩
 · intro h1
   refine To.R (h := ?_)
   refine To.E (AV.v (Value.int IntKind.i64 0)) (hq := ?_)
   have hw : armD d ⟨cw, [], ct, ca⟩ = ({ d with crash := ⟨cw, [], ct, ca⟩ }, 0) := by unfold armD; rw [if_neg h1]
   rw [hw]
   exact ⟨by kernel_rfl, .inl ⟨T, 1, d.stays.length, .mp 2, ivA cw, .im 1 0 f, ivA ct, ivA ca, ivA d.writes, .sy (.bool d.down), by kernel_rfl, by kernel_rfl, rfl, .map (by kernel_rfl), rfl, .im0, rfl, rfl, rfl, rfl, w1, fun g hg => by cases hg⟩⟩
theorem getM_len {d : DiskD} (hd : d.Ok) (z : Int) : ((getM d.waits z).getD (List.replicate 128 0)).length = 128 := by
 cases hv : getM d.waits z with
 | none => simp
 | some v =>
   have hm : z ∈ d.waits.map (·.1) := by
     refine Classical.byContradiction fun hn => ?_
     rw [getM_none hn] at hv; cases hv
   obtain ⟨v', g1, g2⟩ := getM_mem hm
   rw [hv] at g1; cases g1
   exact (hd.keys _ g2).2.2
def readD (d : DiskD) (z : Int) : Option (List UInt8) × Int :=
 if d.down then (none, 31) else if ¬ (0 ≤ z) then (none, 30) else if ¬ (z < d.stays.length) then (none, 30) else (some ((getM d.waits z).getD (d.stays.getD z.toNat [])), 0)
theorem DEnd.upM {ka : Option Addr} {kc : Nat} {d : DiskD} {H' : Tr AB} {T : TypeId} (M : List Nat) (hM : ∀ g ∈ M, g ≠ 0 ∧ g ≠ 1 ∧ g ≠ 2)
   (h0 : H'.get 0 = some (.mem T none [.ow 1 d.stays.length, .mp 2, ivA d.crash.w, .ix ka kc 1 d.crash.keep.length (intsF d.crash.keep), ivA d.crash.torn, ivA d.crash.at_, ivA d.writes, .sy (.bool d.down)]))
   (h1 : H'.get 1 = some (.obj (.rows 128 d.stays))) (h2 : H'.get 2 = some (.obj (.wmap d.waits))) (hne : d.stays.length ≠ 0) :
   DEnd 0 ka kc d.crash.keep d H' M :=
 ⟨T, 1, _, .mp 2, _, _, _, _, _, _, h0, h1, rfl, .map h2, rfl, .was, rfl, rfl, rfl, rfl, hne, fun g hg => ⟨(hM g hg).1, (hM g hg).2.1, fun e => by cases e; exact (hM _ hg).2.2 rfl⟩⟩
def ReadEnd (d : DiskD) (z : Int) (ka : Option Addr) (kc : Nat) (x : AV) (H : Tr AB) : Prop :=
 (∃ c y, y = iv c ∧ readD d z = (none, c) ∧ x = .tup [.v (.slice none 0 0), .v y] ∧ DEnd 0 ka kc d.crash.keep d H []) ∨
 (∃ bs, readD d z = (some bs, 0) ∧ x = .tup [.ow 4 bs.length, .v (iv 0)] ∧ H.get 4 = some (.bb 5 bs) ∧ DEnd 0 ka kc d.crash.keep d H [4])
set_option maxHeartbeats 4000000 in
set_option maxRecDepth 100000 in
theorem read_to (hok : S2.Ok Try.prog) (T : TypeId) (d : DiskD) (ka : Option Addr) (kc : Nat) (z : Int) (hd : d.Fine) :
   To S2 Try.prog 18 (startOf Try.prog 18 [.ptr 0 0, ivA z] (memF (diskH T d ka kc) 0 .e) 3)
     (fun x H _ => ReadEnd d z ka kc x H) := by
 have w1 := hd.ok.npos
 have w2 := getM_len hd.ok z
 refine To.R (h := ?_)
 refine To.Nd (d.stays.length = (0 : Int)) (h := ?_)
 refine To.R (h := ?_)
 refine To.B (d.down) (h := ?_) (g := ?_)
 · intro h1
   refine To.R (h := ?_)
   refine To.E (AV.tup [AV.v (Value.slice none 0 0), AV.v (Value.int IntKind.i64 31)]) (hq := ?_)
   have hw : readD d z = (none, 31) := by unfold readD; rw [if_pos h1]
   exact .inl ⟨31, _, rfl, hw, by kernel_rfl, DEnd.upM (T := T) [] (fun g hg => by cases hg) (by kernel_rfl) (by kernel_rfl) (by kernel_rfl) w1⟩
 · intro h1
   refine To.R (h := ?_)
   refine To.Bd (0 ≤ z) (h := ?_) (g := ?_)
   · intro h2
     refine To.R (h := ?_)
     refine To.Bd (z < d.stays.length) (h := ?_) (g := ?_)
     · intro h3
       have w3 : (d.stays.getD z.toNat []).length = 128 := by
         have hz : z.toNat < d.stays.length := by omega
         exact hd.ok.rows _ (by rw [List.getD_eq_getElem?_getD, List.getElem?_eq_getElem hz]; simp)
       have w4 : 128 ≤ (d.stays.getD z.toNat []).length := by omega
       have ht : ∀ X : List UInt8, X.length = 128 → List.take 128 (List.drop 0 X) = X := fun X hX => by rw [List.drop_zero, List.take_of_length_le (by omega)]
       have hn : ∀ X : List UInt8, X.length = 128 → List.take 128 (List.drop 0 X) ≠ [] := fun X hX e => by rw [ht X hX] at e; subst e; cases hX
       have hl : ∀ X : List UInt8, X.length = 128 → (List.take 128 (List.drop 0 X)).length ≤ 1000000 := fun X hX => by rw [ht X hX, hX]; omega
       refine To.R (C := True ∧ ((getM d.waits z).getD (List.replicate 128 0)).length = 128) (h := ?_)
       refine To.B ((getM d.waits z).isSome) (h := ?_) (g := ?_)
       · intro h4
         refine To.R (C := 128 ≤ ((getM d.waits z).getD (List.replicate 128 0)).length ∧ List.take 128 (List.drop 0 ((getM d.waits z).getD (List.replicate 128 0))) ≠ [] ∧ (List.take 128 (List.drop 0 ((getM d.waits z).getD (List.replicate 128 0)))).length ≤ 1000000) (hc := ?_) (h := ?_); (and_intros <;> try exact cl)
         · exact hn _ w2
         · exact hl _ w2
         refine To.E (AV.tup [AV.ow 4 (List.take 128 (List.drop 0 ((getM d.waits z).getD (List.replicate 128 0)))).length, AV.v (Value.int IntKind.i64 0)]) (hq := ?_)
         have hw : readD d z = (some (List.take 128 (List.drop 0 ((getM d.waits z).getD (List.replicate 128 0)))), 0) := by
           unfold readD; rw [if_neg (by simp [h1]), if_neg (by omega), if_neg (by omega), ht _ w2]
           cases hv : getM d.waits z with
           | none => rw [hv] at h4; cases h4
           | some v => rfl
         exact .inr ⟨_, hw, by kernel_rfl, by kernel_rfl, DEnd.upM (T := T) [4] (fun g hg => by simp at hg; subst hg; simp) (by kernel_rfl) (by kernel_rfl) (by kernel_rfl) w1⟩
       · intro h4
         refine To.R (C := (0 ≤ z ∧ z < d.stays.length) ∧ z.toNat < d.stays.length ∧ (((getM d.waits z).getD (List.replicate 128 0)).length = 128 ∧ (d.stays.getD z.toNat []).length = 128) ∧ 128 ≤ (d.stays.getD z.toNat []).length ∧ List.take 128 (List.drop 0 (d.stays.getD z.toNat [])) ≠ [] ∧ (List.take 128 (List.drop 0 (d.stays.getD z.toNat []))).length ≤ 1000000) (hc := ?_) (h := ?_); (and_intros <;> try exact cl)
         · exact hn _ w3
         · exact hl _ w3
         refine To.E (AV.tup [AV.ow 4 (List.take 128 (List.drop 0 (d.stays.getD z.toNat []))).length, AV.v (Value.int IntKind.i64 0)]) (hq := ?_)
         have hw : readD d z = (some (List.take 128 (List.drop 0 (d.stays.getD z.toNat []))), 0) := by
           unfold readD; rw [if_neg (by simp [h1]), if_neg (by omega), if_neg (by omega), ht _ w3]
           cases hv : getM d.waits z with
           | some v => rw [hv] at h4; cases h4
           | none => rfl
         exact .inr ⟨_, hw, by kernel_rfl, by kernel_rfl, DEnd.upM (T := T) [4] (fun g hg => by simp at hg; subst hg; simp) (by kernel_rfl) (by kernel_rfl) (by kernel_rfl) w1⟩
     · intro h3
       refine To.R (h := ?_)
       refine To.E (AV.tup [AV.v (Value.slice none 0 0), AV.v (Value.int IntKind.i64 30)]) (hq := ?_)
       have hw : readD d z = (none, 30) := by unfold readD; rw [if_neg (by simp [h1]), if_neg (by omega), if_pos (by omega)]
       exact .inl ⟨30, _, rfl, hw, by kernel_rfl, DEnd.upM (T := T) [] (fun g hg => by cases hg) (by kernel_rfl) (by kernel_rfl) (by kernel_rfl) w1⟩
   · intro h2
     refine To.R (h := ?_)
     refine To.E (AV.tup [AV.v (Value.slice none 0 0), AV.v (Value.int IntKind.i64 30)]) (hq := ?_)
     have hw : readD d z = (none, 30) := by unfold readD; rw [if_neg (by simp [h1]), if_pos (by omega)]
     exact .inl ⟨30, _, rfl, hw, by kernel_rfl, DEnd.upM (T := T) [] (fun g hg => by cases hg) (by kernel_rfl) (by kernel_rfl) (by kernel_rfl) w1⟩
def flushRow (m : List (Int × List UInt8)) (ll : List (List UInt8)) (z : Int) : List (List UInt8) := ll.set z.toNat ((getM m z).getD (List.replicate 128 0))
def flushL (m : List (Int × List UInt8)) (ks : List Int) (ll : List (List UInt8)) : List (List UInt8) := ks.foldl (flushRow m) ll
def flushD (d : DiskD) : DiskD × Int := if d.down then (d, 31) else ({ d with stays := flushL d.waits (keysD d.waits) d.stays, waits := [] }, 0)
theorem flushL_len (m : List (Int × List UInt8)) : ∀ (ks : List Int) (ll : List (List UInt8)), (flushL m ks ll).length = ll.length
 | [], _ => rfl
 | z :: ks, ll => by
   show (flushL m ks (flushRow m ll z)).length = _
   rw [flushL_len m ks]; simp [flushRow]
theorem flushL_succ (m : List (Int × List UInt8)) (ks : List Int) (ll : List (List UInt8)) {a : Nat} (h : a < ks.length) : flushL m (ks.take (a + 1)) ll = flushRow m (flushL m (ks.take a) ll) (ks.getD a 0) := by
 rw [List.take_succ_eq_append_getElem h, List.getD_eq_getElem?_getD, List.getElem?_eq_getElem h]
 unfold flushL
 rw [List.foldl_append]
 rfl
set_option maxHeartbeats 4000000 in
set_option maxRecDepth 100000 in
theorem flush_to (hok : S2.Ok Try.prog) (T : TypeId) (d : DiskD) (ka : Option Addr) (kc : Nat) (hd : d.Fine) :
   To S2 Try.prog 22 (startOf Try.prog 22 [.ptr 0 0] (memF (diskH T d ka kc) 0 .e) 3)
     (fun x H _ => intA x = some (.i64, (flushD d).2) ∧ DEnd 0 ka kc d.crash.keep (flushD d).1 H []) := by
 have w1 := hd.ok.npos
 have w2 := hd.ok.le
 have w3 := hd.ok.len
 have w4 := hd.ok.wf
 refine To.R (h := ?_)
 refine To.Nd (d.stays.length = (0 : Int)) (h := ?_)
 refine To.R (h := ?_)
 refine To.B (d.down) (h := ?_) (g := ?_)
 · intro h1
   refine To.R (h := ?_)
   refine To.E (AV.v (Value.int IntKind.i64 31)) (hq := ?_)
   have hw : flushD d = (d, 31) := by unfold flushD; rw [if_pos h1]
   rw [hw]
   exact ⟨by kernel_rfl, DEnd.up (d := d) (T := T) (N := d.stays.length) (cx := ivA d.crash.w) (wx := ivA d.writes) (dx := .sy (.bool d.down)) (by kernel_rfl) (by kernel_rfl) (by kernel_rfl) rfl rfl rfl rfl w1⟩
 · intro h1
   refine To.R (k := 30) (C := (d.stays.length ≠ 0 ∧ d.stays.length ≤ 100000 ∧ d.waits.length ≤ 1000000 ∧ (∀ (p : Int × List UInt8), p ∈ d.waits → (Lit.int IntKind.i64 p.fst).wf = true)) ∧ True) (h := ?_)
   refine To.L (L := []) (kp := [14, 13, 12, 0]) (C := (Same IntKind.i64 ∧ (0 : Int) = (↑(0 : Nat) : Int)) ∧ Ob.rows 128 d.stays = Ob.rows 128 (flushL d.waits (List.take 0 (keysD d.waits)) d.stays)) (st := fun (a : Nat) => (⟨(⟨22, 35, (slotT 35 [(0, AV.ptr 0 0), (12, AV.im 1 d.waits.length (intsF (keysD d.waits))), (13, AV.sy (Value.int IntKind.i64 d.waits.length)), (14, AV.sy (Value.int IntKind.i64 a))]), ARg.no, [(AItem.code (subC (bodyC Try.prog 22) [1, 1, 1, 0, 1, 0, 0])), (AItem.inLoop (subC (bodyC Try.prog 22) [1, 1, 1, 0, 1, 0, 0])), (AItem.inBlock 0), (AItem.code (subC (bodyC Try.prog 22) [1, 1, 1, 1]))], [], false, none, 3⟩ : AFr), [], memF [AB.mem T none [AV.ow 1 d.stays.length, AV.mp 2, AV.sy (Value.int IntKind.i64 d.crash.w), AV.ix ka kc 1 d.crash.keep.length (intsF d.crash.keep), AV.sy (Value.int IntKind.i64 d.crash.torn), AV.sy (Value.int IntKind.i64 d.crash.at_), AV.sy (Value.int IntKind.i64 d.writes), AV.sy (Value.bool d.down)], AB.obj (Ob.rows 128 (flushL d.waits (List.take a (keysD d.waits)) d.stays)), AB.obj (Ob.wmap d.waits)] 0 Tr.e, 3⟩ : ASt)) (hc := ?_) (h := ?_) (fun (a : Nat) => [(14, ivA (a : Int))]) (fun a => [(1, .obj (.rows 128 (flushL d.waits ((keysD d.waits).take a) d.stays)))]) (fun a => a ≤ d.waits.length) (fun a => d.waits.length - a) (0)
   · exact ⟨⟨rfl, rfl⟩, rfl⟩
   intro a ha ih
   have hkl := keysD_len d.waits
   refine To.R (h := ?_)
   refine To.Bd ((a : Int) < d.waits.length) (h := ?_) (g := ?_)
   · intro h2
     have hlt : a < d.waits.length := by omega
     have hi1 : a + 1 ≤ d.waits.length := hlt
     have hi2 : d.waits.length - (a + 1) < d.waits.length - a := by omega
     have hzm : (keysD d.waits).getD (a) 0 ∈ d.waits.map (·.1) := by
       rw [← keysD_mem, List.getD_eq_getElem?_getD, List.getElem?_eq_getElem (by omega)]; simp
     obtain ⟨v, hv, hvm⟩ := getM_mem hzm
     obtain ⟨hz0, hzN, hzl⟩ : 0 ≤ (keysD d.waits).getD (a) 0 ∧ (keysD d.waits).getD (a) 0 < d.stays.length ∧ v.length = 128 := hd.ok.keys _ hvm
     have hsucc := flushL_succ d.waits (keysD d.waits) d.stays (a := a) (by omega)
     have hlen := flushL_len d.waits ((keysD d.waits).take a) d.stays
     have hvz := getM_len hd.ok ((keysD d.waits).getD (a) 0)
     refine To.R (k := 33) (C := ((0 : Int) ≤ a ∧ (a : Int) < d.waits.length) ∧ True ∧ True ∧ (0 ≤ (keysD d.waits).getD a 0 ∧ (keysD d.waits).getD a 0 < d.stays.length) ∧ (((keysD d.waits).getD a 0).toNat < (flushL d.waits (List.take a (keysD d.waits)) d.stays).length ∧ ((getM d.waits ((keysD d.waits).getD a 0)).getD (List.replicate 128 0)).length = 128) ∧ fits IntKind.i64 (a + 1)) (h := ?_)
     refine To.K (L := []) (kp := [14, 13, 12, 0]) (ov := [(14, AV.sy (Value.int IntKind.i64 (↑(a + 1) : Int)))]) (ob := [(1, AB.obj (Ob.rows 128 (flushL d.waits (List.take (a + 1) (keysD d.waits)) d.stays)))]) (C := (Same IntKind.i64 ∧ (↑a : Int) + 1 = (↑(a + 1) : Int)) ∧ Ob.rows 128 ((flushL d.waits (List.take a (keysD d.waits)) d.stays).set ((keysD d.waits).getD a 0).toNat ((getM d.waits ((keysD d.waits).getD a 0)).getD (List.replicate 128 0))) = Ob.rows 128 (flushL d.waits (List.take (a + 1) (keysD d.waits)) d.stays)) (hc := ?_) (ih (a + 1) hi1 hi2)
     exact ⟨⟨rfl, by omega⟩, congrArg (Ob.rows 128) hsucc.symm⟩
   · intro h2
     have hfin : (keysD d.waits).take a = keysD d.waits := List.take_of_length_le (by omega)
     refine To.R (h := ?_)
     refine To.E (AV.v (Value.int IntKind.i64 0)) (hq := ?_)
     have hw : flushD d = ({ d with stays := flushL d.waits (keysD d.waits) d.stays, waits := [] }, 0) := by unfold flushD; rw [if_neg (by simp [h1])]
     rw [hw, hfin]
     exact ⟨by kernel_rfl, DEnd.up (d := d) (T := T) (N := d.stays.length) (cx := ivA d.crash.w) (wx := ivA d.writes) (dx := .sy (.bool d.down)) (by kernel_rfl) (by kernel_rfl) (by kernel_rfl) rfl rfl rfl (flushL_len _ _ _).symm w1⟩
def newD (n : Nat) : DiskD := ⟨List.replicate n (List.replicate 128 0), [], CrashD.none, 0, false⟩
set_option maxHeartbeats 4000000 in
set_option maxRecDepth 100000 in
theorem new_to (hok : S2.Ok Try.prog) (n : Int) (h1 : 1 ≤ n) (h2 : n ≤ 4096) :
   To S2 Try.prog 5 (startOf Try.prog 5 [ivA n] .e 0) (fun x H _ => x = .tup [.ptr 2 0, .v (iv 0)] ∧ DEnd 2 none 0 [] (newD n.toNat) H []) := by
 refine To.R (h := ?_)
 refine To.Nd (n < 1) (h := ?_)
 refine To.R (h := ?_)
 refine To.Nd (4096 < n) (h := ?_)
 refine To.R (C := Same n ∧ 0 ≤ n ∧ n ≤ 1073741824) (h := ?_)
 refine To.E (AV.tup [AV.ptr 2 0, AV.v (Value.int IntKind.i64 0)]) (hq := ?_)
 exact ⟨by kernel_rfl, 66, 0, n.toNat, .mp 1, .v (iv 0), .v (.slice none 0 0), .v (iv 0), .v (iv 0), .v (iv 0), .v (.bool false), by kernel_rfl, by kernel_rfl, (List.length_replicate ..).symm, .new (c := 0) (by kernel_rfl), rfl, .nil, rfl, rfl, rfl, rfl, by omega, fun g hg => by cases hg⟩
set_option maxHeartbeats 4000000 in
set_option maxRecDepth 100000 in
theorem newE_to (hok : S2.Ok Try.prog) (n : Int) (h : n < 1 ∨ 4096 < n) :
   To S2 Try.prog 5 (startOf Try.prog 5 [ivA n] .e 0) (fun x H _ => x = .tup [.v (.pointer none), .v (iv 30)]) := by
 refine To.R (h := ?_)
 refine To.Bd (n < 1) (h := ?_) (g := ?_)
 · intro h1
   refine To.R (h := ?_)
   refine To.E (AV.tup [AV.v (Value.pointer none), AV.v (Value.int IntKind.i64 30)]) (hq := ?_)
   kernel_rfl
 · intro h1
   refine To.R (h := ?_)
   refine To.Yd (4096 < n) (h := ?_)
   refine To.R (h := ?_)
   refine To.E (AV.tup [AV.v (Value.pointer none), AV.v (Value.int IntKind.i64 30)]) (hq := ?_)
   kernel_rfl
theorem VRs.inD {I : Im} {w : World} {b : Nat} {F : Nat → Prop} {d : DiskD} {bs cs bm : Nat} {ka : Option Addr} {kc : Nat} (h : DiskIs I w b F d bs cs bm ka kc) {l : List AV} {vs : List Value} (hv : VRs (offEnv w F) l vs) : VRs (diskEnv b bs cs bm w) l vs :=
 hv.mono ⟨fun _ _ h => (by cases h), fun k c hk => by
   obtain ⟨h1, h2⟩ := imOff_some hk
   have : ¬ (k = b ∨ k = bs ∨ k = bm) := fun e => h1 ((h.foot k).2 (by rcases e with e | e | e <;> simp [e]))
   show (if k = b ∨ k = bs ∨ k = bm then none else imOf w k) = some c
   rw [if_neg this]; exact h2⟩
section
variable {w0 : Bs} {ρ : Env} {H : Tr AB} {n : Nat} {w w' : World} {F : Nat → Nat → Prop} {i b c : Nat} {d d' : DiskD}
theorem disk_im (hr : HR w0 ρ H n w) (hF : Foot w0 ρ H w F) (hi : ρ i = some (b, c)) (hB : H.get i = some (.obj (.disk d))) : ∀ k e, ρ.im k = some e → imOf w k = some e ∧ ¬ F i k := fun k e hk =>
 ⟨im_all hr _ _ hk, fun h => by have := (hF.there hi hB rfl h).2.2; rw [hk] at this; cases this⟩
theorem disk_core {S : Sy} {P : Program} (hok : S.Ok P) {f : FuncId} {rest : List AV} {Q : Option Addr → Nat → AV → Tr AB → Prop}
   (h0 : ∀ T ka kc, (startF (tabOf P) f (.ptr 0 0 :: rest) (memF (diskH T d ka kc) 0 .e) 3).isSome = true)
   (h : ∀ T ka kc, To S P f (startOf P f (.ptr 0 0 :: rest) (memF (diskH T d ka kc) 0 .e) 3) (fun x H' _ => Q ka kc x H'))
   (hr : HR w0 ρ H n w) (hF : Foot w0 ρ H w F) (hi : ρ i = some (b, c)) (hB : H.get i = some (.obj (.disk d))) {vs : List Value} (hrest : VRs (offEnv w (F i)) rest vs) :
   Calls P f (Value.pointer (some ⟨b, 0, none⟩) :: vs).toArray w (fun e w' => ∃ ka kc x H' n' ρ' v bs cs bm, Q ka kc x H' ∧ e = .returned v ∧ VR ρ' x v ∧ DiskIs ρ.im w b (F i) d bs cs bm ka kc ∧ HR ⟨w, F i, diskEnv b bs cs bm w, fun _ => False⟩ ρ' H' n' w') := by
 obtain ⟨bs, cs, bm, ka, kc, hd⟩ := DiskAt.is (hF.obj hi hB)
 obtain ⟨T, ho⟩ := HR.openD hd (disk_im hr hF hi hB)
 refine (To.calls hok (startOf_some (h0 T ka kc)) (h T ka kc) ho (.cons (.ptr 0 rfl) (hrest.inD hd))).mono ?_
 rintro e w' ⟨x, H', n', ρ', v, hq, rfl, hv, hr'⟩
 exact ⟨ka, kc, x, H', n', ρ', v, bs, cs, bm, hq, rfl, hv, hd, hr'⟩
theorem disk_put (hr : HR w0 ρ H n w) (hF : Foot w0 ρ H w F) (hi : ρ i = some (b, c)) (hB : H.get i = some (.obj (.disk d))) {bs cs bm : Nat} {ka : Option Addr} {kc : Nat} (hd : DiskIs ρ.im w b (F i) d bs cs bm ka kc) {ρ' : Env} {H' : Tr AB} {n' : Nat} (hr' : HR ⟨w, F i, diskEnv b bs cs bm w, fun _ => False⟩ ρ' H' n' w') {M : List Nat} (he : DEnd 0 ka kc d.crash.keep d' H' M) :
   ∃ F' : Nat → Prop, HR w0 ρ (tput H i (.obj (.disk d'))) n w' ∧ Ext ρ ρ H (tput H i (.obj (.disk d'))) n n ∧ Foot w0 ρ (tput H i (.obj (.disk d'))) w' (fun j k => if j = i then F' k else F j k) ∧ ∀ {g bg cg : Nat} {B : AB}, g ∈ M → ρ' g = some (bg, cg) → H'.get g = some B → B.live = true → ¬ F' bg := by
 obtain ⟨F', g1, g2, g3, g4⟩ := hr'.closeE (hr'.le.nm 0 _ rfl) hd.keep he
 have hf : Fr (F i) w w' := hr'.fr
 have g3' : ∀ k, F' k → (F i k ∨ w.heap.size ≤ k) ∧ k < w'.heap.size := fun k hk => ⟨(g3 k hk).1, (g3 k hk).2.1⟩
 obtain ⟨h1, h2⟩ := hr.putO (x := .disk d') hF hi hB rfl hf g1 g2 g3'
 exact ⟨F', h1, h2, hF.putO hr hi hB rfl rfl hf g1 g2 g3', g4⟩
theorem disk_putO (hr : HR w0 ρ H n w) (hF : Foot w0 ρ H w F) (hi : ρ i = some (b, c)) (hB : H.get i = some (.obj (.disk d))) {bs cs bm : Nat} {ka : Option Addr} {kc : Nat} (hd : DiskIs ρ.im w b (F i) d bs cs bm ka kc) {ρ' : Env} {H' : Tr AB} {n' : Nat} (hr' : HR ⟨w, F i, diskEnv b bs cs bm w, fun _ => False⟩ ρ' H' n' w') (he : DEndO d' H') :
   ∃ J : Im, HR w0 ⟨ρ.nm, J⟩ (tput H i (.obj (.disk d'))) n w' ∧ Ext ρ ⟨ρ.nm, J⟩ H (tput H i (.obj (.disk d'))) n n := by
 have hI := disk_im hr hF hi hB
 obtain ⟨F', J, g1, g2, g3, g4, g5⟩ := hr'.closeO (I := ρ.im) (hr'.le.nm 0 _ rfl) (hr'.le.nm 1 _ rfl) (hr'.le.nm 2 _ rfl) hd.foot (fun k e hk => ⟨(hI k e hk).2, by
   obtain ⟨T, fz, h⟩ := hr.im hk
   exact (Array.getElem?_eq_some_iff.1 h).1⟩) he
 have hf : Fr (F i) w w' := hr'.fr
 refine ⟨J, hr.putX (x := .disk d') hF hi hB rfl hf g1 g2 (fun k hk => ⟨(g3 k hk).1, (g3 k hk).2.1⟩) g4 (fun k e hk => ?_) (fun k e hk => ?_)⟩
 · rcases g5 k e hk with h | ⟨h1, h2, _⟩
   · refine ⟨.inl h, fun hk' => ?_⟩
     rcases (g3 k hk').1 with h3 | h3
     · exact (hI k e h).2 h3
     · have h3' : w.heap.size ≤ k := h3
       have := hr.imlt h; omega
   · exact ⟨.inr h1, h2⟩
 · rcases g5 k e hk with h | ⟨_, _, h3⟩
   · obtain ⟨T, fz, h1⟩ := hr.im h
     exact ⟨T, fz, (hf.block k (hr.imlt h) (hI k e h).2).trans h1⟩
   · exact h3
theorem disk_int {S : Sy} {P : Program} (hok : S.Ok P) {f : FuncId} {rest : List AV} {z : Int}
   (h0 : ∀ T ka kc, (startF (tabOf P) f (.ptr 0 0 :: rest) (memF (diskH T d ka kc) 0 .e) 3).isSome = true)
   (h : ∀ T ka kc, To S P f (startOf P f (.ptr 0 0 :: rest) (memF (diskH T d ka kc) 0 .e) 3) (fun x H' _ => intA x = some (.i64, z) ∧ (DEnd 0 ka kc d.crash.keep d' H' [] ∨ DEndO d' H')))
   (hr : HR w0 ρ H n w) (hF : Foot w0 ρ H w F) (hi : ρ i = some (b, c)) (hB : H.get i = some (.obj (.disk d))) {vs : List Value} (hrest : VRs (offEnv w (F i)) rest vs) :
   Calls P f (Value.pointer (some ⟨b, 0, none⟩) :: vs).toArray w (fun e w' => ∃ ρ' v, e = .returned v ∧ VR ρ' (ivA z) v ∧ HR w0 ρ' (tput H i (.obj (.disk d'))) n w' ∧ Ext ρ ρ' H (tput H i (.obj (.disk d'))) n n) := by
 refine (disk_core hok h0 h hr hF hi hB hrest).mono ?_
 rintro e w' ⟨ka, kc, x, H', n', ρ', v, bs, cs, bm, ⟨hx, he⟩, rfl, hv, hd, hr'⟩
 obtain rfl := intA_sound hx hv
 rcases he with he | he
 · obtain ⟨F', g1, g2, _⟩ := disk_put hr hF hi hB hd hr' he
   exact ⟨ρ, _, rfl, .sy _, g1, g2⟩
 · obtain ⟨J, g1, g2⟩ := disk_putO hr hF hi hB hd hr' he
   exact ⟨_, _, rfl, .sy _, g1, g2⟩
end
def mk0 (z : DiskD → Int) (g : DiskD → DiskD) (args : List AV) (H : Tr AB) (n : Nat) : Option ((AV × Tr AB × Nat) × Prop) := match args with
 | [.ptr i 0] => match H.get i with
   | some (.obj (.disk d)) => some ((ivA (z d), tput H i (.obj (.disk (g d))), n), d.Fine)
   | _ => none
 | _ => none
theorem mk0_ok {f : FuncId} {fn : Func} {z : DiskD → Int} {g : DiskD → DiskD} (hf : Try.prog.funcs[f]? = some fn) (hb : fn.body.isSome = true)
   (h0 : ∀ T d ka kc, (startF (tabOf Try.prog) f [.ptr 0 0] (memF (diskH T d ka kc) 0 .e) 3).isSome = true)
   (h : ∀ T d ka kc, d.Fine → To S2 Try.prog f (startOf Try.prog f [.ptr 0 0] (memF (diskH T d ka kc) 0 .e) 3) (fun x H' _ => intA x = some (.i64, z d) ∧ DEnd 0 ka kc d.crash.keep (g d) H' [])) : FOk Try.prog (oneF f (mk0 z g)) :=
 oneF_ok tab hf hb fun {args H n r} hk hC {w0 ρ w vs} hr hv => by
   unfold mk0 at hk
   split at hk
   · rename_i i
     split at hk
     · rename_i d hB
       cases hk
       cases hv with
       | cons e1 t =>
       cases t
       cases e1 with
       | @ptr _ b c _ hi =>
         obtain ⟨F, hF⟩ := hr.foot
         exact disk_int s2_ok (fun T ka kc => h0 T d ka kc) (fun T ka kc => (h T d ka kc hC).mono fun _ _ _ q => ⟨q.1, .inl q.2⟩) hr hF hi hB .nil
     · cases hk
   · cases hk
def mkB (g : DiskD → Int → List UInt8 → DiskD × Int) (args : List AV) (H : Tr AB) (n : Nat) : Option ((AV × Tr AB × Nat) × Prop) := match args with
 | [.ptr i 0, zx, bx] => match H.get i, intA zx, bsrcM bx H with
   | some (.obj (.disk d)), some (.i64, z), some r => some ((ivA (g d z r.1).2, tput H i (.obj (.disk (g d z r.1).1)), n), r.2 ∧ d.Fine)
   | _, _, _ => none
 | _ => none
theorem mkB_ok {f : FuncId} {fn : Func} {g : DiskD → Int → List UInt8 → DiskD × Int} (hf : Try.prog.funcs[f]? = some fn) (hb : fn.body.isSome = true)
   (h0 : ∀ T d ka kc z bs, (startF (tabOf Try.prog) f [.ptr 0 0, ivA z, .by8 bs] (memF (diskH T d ka kc) 0 .e) 3).isSome = true)
   (h : ∀ T d ka kc z bs, d.Fine → To S2 Try.prog f (startOf Try.prog f [.ptr 0 0, ivA z, .by8 bs] (memF (diskH T d ka kc) 0 .e) 3) (fun x H' _ => intA x = some (.i64, (g d z bs).2) ∧ DEnd 0 ka kc d.crash.keep (g d z bs).1 H' [])) : FOk Try.prog (oneF f (mkB g)) :=
 oneF_ok tab hf hb fun {args H n r} hk hC {w0 ρ w vs} hr hv => by
   unfold mkB at hk
   split at hk
   · rename_i i zx bx
     split at hk
     · rename_i d z r' hB hz hbx
       cases hk
       obtain ⟨hC1, hC2⟩ : r'.2 ∧ d.Fine := hC
       cases hv with
       | cons e1 t =>
       cases t with
       | cons e2 t =>
       cases t with
       | cons e3 t =>
       cases t
       cases e1 with
       | @ptr _ b c _ hi =>
         obtain ⟨F, hF⟩ := hr.foot
         obtain rfl := intA_sound hz e2
         exact disk_int s2_ok (fun T ka kc => h0 T d ka kc z r'.1) (fun T ka kc => (h T d ka kc z r'.1 hC2).mono fun _ _ _ q => ⟨q.1, .inl q.2⟩) hr hF hi hB (.cons (.sy _) (.cons (bsrcM_off hr hF hi hB hbx hC1 e3) .nil))
     · cases hk
   · cases hk
def mkC (g : DiskD → CrashD → DiskD × Int) (args : List AV) (H : Tr AB) (n : Nat) : Option ((AV × Tr AB × Nat) × Prop) := match args with
 | [.ptr i 0, .agg [cw, kp, ct, ca]] => match H.get i, intA cw, isrc kp H, intA ct, intA ca with
   | some (.obj (.disk d)), some (.i64, w), some r, some (.i64, t), some (.i64, a) => some ((ivA (g d ⟨w, r.1, t, a⟩).2, tput H i (.obj (.disk (g d ⟨w, r.1, t, a⟩).1)), n), r.2 ∧ d.Fine ∧ r.1.length ≤ 1000000 ∧ fits .i64 a)
   | _, _, _, _, _ => none
 | _ => none
theorem mkC_ok {f : FuncId} {fn : Func} {g : DiskD → CrashD → DiskD × Int} (hf : Try.prog.funcs[f]? = some fn) (hb : fn.body.isSome = true)
   (h0 : ∀ T d ka kc (cr : CrashD), (startF (tabOf Try.prog) f [.ptr 0 0, .agg [ivA cr.w, .im 1 cr.keep.length (intsF cr.keep), ivA cr.torn, ivA cr.at_]] (memF (diskH T d ka kc) 0 .e) 3).isSome = true)
   (h : ∀ T d ka kc (cr : CrashD), d.Fine → cr.keep.length ≤ 1000000 → fits .i64 cr.at_ → To S2 Try.prog f (startOf Try.prog f [.ptr 0 0, .agg [ivA cr.w, .im 1 cr.keep.length (intsF cr.keep), ivA cr.torn, ivA cr.at_]] (memF (diskH T d ka kc) 0 .e) 3) (fun x H' _ => intA x = some (.i64, (g d cr).2) ∧ (DEnd 0 ka kc d.crash.keep (g d cr).1 H' [] ∨ DEndO (g d cr).1 H'))) : FOk Try.prog (oneF f (mkC g)) :=
 oneF_ok tab hf hb fun {args H n r} hk hC {w0 ρ w vs} hr hv => by
   unfold mkC at hk
   split at hk
   · rename_i i cw kp ct ca
     split at hk
     · rename_i d cwv r' ctv cav hB hcw hkp hct hca
       cases hk
       obtain ⟨hC1, hC2, hC3, hC4⟩ : r'.2 ∧ d.Fine ∧ r'.1.length ≤ 1000000 ∧ fits .i64 cav := hC
       cases hv with
       | cons e1 t =>
       cases t with
       | cons e2 t =>
       cases t
       cases e1 with
       | @ptr _ b c _ hi =>
         obtain ⟨F, hF⟩ := hr.foot
         cases e2 with
         | @agg _ gs g' =>
           obtain ⟨u0, us0, rfl, a0, t0⟩ : ∃ v t, gs = v :: t ∧ VR ρ cw v ∧ VRs ρ [kp, ct, ca] t := by cases g' with | cons e t => exact ⟨_, _, rfl, e, t⟩
           obtain ⟨u1, us1, rfl, a1, t1⟩ : ∃ v t, us0 = v :: t ∧ VR ρ kp v ∧ VRs ρ [ct, ca] t := by cases t0 with | cons e t => exact ⟨_, _, rfl, e, t⟩
           obtain ⟨u2, us2, rfl, a2, t2⟩ : ∃ v t, us1 = v :: t ∧ VR ρ ct v ∧ VRs ρ [ca] t := by cases t1 with | cons e t => exact ⟨_, _, rfl, e, t⟩
           obtain ⟨u3, us3, rfl, a3, t3⟩ : ∃ v t, us2 = v :: t ∧ VR ρ ca v ∧ VRs ρ [] t := by cases t2 with | cons e t => exact ⟨_, _, rfl, e, t⟩
           cases t3
           obtain rfl := intA_sound hcw a0
           obtain rfl := intA_sound hct a2
           obtain rfl := intA_sound hca a3
           exact disk_int s2_ok (fun T ka kc => h0 T d ka kc ⟨cwv, r'.1, ctv, cav⟩) (fun T ka kc => h T d ka kc ⟨cwv, r'.1, ctv, cav⟩ hC2 hC3 hC4) hr hF hi hB
             (.cons (.agg (.cons (.sy _) (.cons (isrc_off hr hF hi hB rfl ⟨(fun _ _ _ _ e => by cases e), (fun _ _ _ e => by cases e)⟩ hkp hC1 a1) (.cons (.sy _) (.cons (.sy _) .nil))))) .nil)
     · cases hk
   · cases hk
theorem arm_to (T : TypeId) (d : DiskD) (ka : Option Addr) (kc : Nat) (cr : CrashD) (hd : d.Fine) (hk : cr.keep.length ≤ 1000000) :
   To S2 Try.prog 44 (startOf Try.prog 44 [.ptr 0 0, .agg [ivA cr.w, .im 1 cr.keep.length (intsF cr.keep), ivA cr.torn, ivA cr.at_]] (memF (diskH T d ka kc) 0 .e) 3)
     (fun x H' _ => intA x = some (.i64, (armD d cr).2) ∧ (DEnd 0 ka kc d.crash.keep (armD d cr).1 H' [] ∨ DEndO (armD d cr).1 H')) := by
 obtain ⟨w, keep, torn, at_⟩ := cr
 cases keep with
 | nil => exact arm_to0 s2_ok T d ka kc w torn at_ (intsF []) hd
 | cons y l => exact arm_to1 s2_ok T d ka kc w y torn at_ l hd hk
def bootF : CF := oneF 17 (mk0 (fun _ => 0) bootD)
def writesF : CF := oneF 50 (mk0 (·.writes) id)
def sizeF : CF := oneF 53 (mk0 (fun d => (d.stays.length : Int)) id)
def flushF : CF := oneF 22 (mk0 (fun d => (flushD d).2) (fun d => (flushD d).1))
def writeF : CF := oneF 20 (mkB writeD)
def spoilF : CF := oneF 11 (mkB spoilD)
def downF : CF := oneF 42 (mkC downD)
def armF : CF := oneF 44 (mkC armD)
theorem bootF_ok : FOk Try.prog bootF := mk0_ok Try.func17 (by kernel_rfl) (fun _ _ _ _ => by kernel_rfl) (fun T d ka kc h => boot_to s2_ok T d ka kc h)
theorem writesF_ok : FOk Try.prog writesF := mk0_ok Try.func50 (by kernel_rfl) (fun _ _ _ _ => by kernel_rfl) (fun T d ka kc h => writes_to s2_ok T d ka kc h)
theorem sizeF_ok : FOk Try.prog sizeF := mk0_ok Try.func53 (by kernel_rfl) (fun _ _ _ _ => by kernel_rfl) (fun T d ka kc h => size_to s2_ok T d ka kc h)
theorem flushF_ok : FOk Try.prog flushF := mk0_ok Try.func22 (by kernel_rfl) (fun _ _ _ _ => by kernel_rfl) (fun T d ka kc h => flush_to s2_ok T d ka kc h)
theorem writeF_ok : FOk Try.prog writeF := mkB_ok Try.func20 (by kernel_rfl) (fun _ _ _ _ _ _ => by kernel_rfl) (fun T d ka kc z bs h => write_to s2_ok T d ka kc z bs h)
theorem spoilF_ok : FOk Try.prog spoilF := mkB_ok Try.func11 (by kernel_rfl) (fun _ _ _ _ _ _ => by kernel_rfl) (fun T d ka kc z bs h => spoil_to s2_ok T d ka kc z bs h)
theorem downF_ok : FOk Try.prog downF := mkC_ok Try.func42 (by kernel_rfl) (fun _ _ _ _ _ => by kernel_rfl) (fun T d ka kc cr h h1 h2 => (down_to s2_ok T d ka kc cr h h1 h2).mono fun _ _ _ q => ⟨q.1, .inl q.2⟩)
theorem armF_ok : FOk Try.prog armF := mkC_ok Try.func44 (by kernel_rfl) (fun _ _ _ _ _ => by kernel_rfl) (fun T d ka kc cr h h1 _ => arm_to T d ka kc cr h h1)
def readK (args : List AV) (H : Tr AB) : Option (Bool × Prop × (Nat → Bool → AV × Tr AB × Nat)) := match args with
 | [.ptr i 0, zx] => match H.get i, intA zx with
   | some (.obj (.disk d)), some (.i64, z) => some ((readD d z).1.isSome, d.Fine, fun n b => cond b
       (.tup [.ow n ((readD d z).1.getD []).length, .v (iv 0)], tput (tput H i (.obj (.disk d))) n (.bb 5 ((readD d z).1.getD [])), n + 1)
       (.tup [.v (.slice none 0 0), ivA (readD d z).2], tput H i (.obj (.disk d)), n))
   | _, _ => none
 | _ => none
def readG : CG := oneG 18 readK
theorem readD_len {d : DiskD} (hd : d.Fine) {z : Int} {bs : List UInt8} (h : readD d z = (some bs, 0)) : bs.length = 128 := by
 unfold readD at h
 split at h
 · cases h
 · split at h
   · cases h
   · split at h
     · cases h
     · rename_i h1 h2 h3
       have h4 := getM_len hd.ok z
       simp only [Prod.mk.injEq, Option.some.injEq, and_true] at h
       subst h
       cases hv : getM d.waits z with
       | some v => rw [hv] at h4; exact h4
       | none =>
         have hz : z.toNat < d.stays.length := by omega
         exact hd.ok.rows _ (by rw [Option.getD_none, List.getD_eq_getElem?_getD, List.getElem?_eq_getElem hz]; simp)
theorem readG_ok : GOk Try.prog readG := oneG_ok tab Try.func18 (by kernel_rfl) fun {args H r} hk hC {w0 ρ w vs n} hr hv => by
 unfold readK at hk
 split at hk
 · rename_i i zx
   split at hk
   · rename_i d z hB hz
     cases hk
     have hd : d.Fine := hC
     cases hv with
     | cons e1 t =>
     cases t with
     | cons e2 t =>
     cases t
     cases e1 with
     | @ptr _ b c _ hi =>
       obtain ⟨F, hF⟩ := hr.foot
       obtain rfl := intA_sound hz e2
       refine (disk_core s2_ok (rest := [ivA z]) (Q := fun ka kc x H' => ReadEnd d z ka kc x H') (fun T ka kc => by kernel_rfl) (fun T ka kc => read_to s2_ok T d ka kc z hd) hr hF hi hB (.cons (.sy _) .nil)).mono ?_
       rintro e w' ⟨ka, kc, x, H', n', ρ', v, bs0, cs, bm, hq, rfl, hv, hdi, hr'⟩
       rcases hq with ⟨cc, y, rfl, hrd, rfl, he⟩ | ⟨bs, hrd, rfl, h4, he⟩
       · obtain ⟨F', g1, g2, _⟩ := disk_put hr hF hi hB hdi hr' he
         simp only [hrd, Option.isSome_none, cond_false]
         cases hv with
         | tup t =>
         cases t with
         | cons a1 t => cases t with
           | cons a2 t =>
           cases t; cases a1; cases a2
           exact ⟨ρ, _, rfl, .tup (.cons (.v _) (.cons (.sy _) .nil)), g1, g2⟩
       · obtain ⟨F', g1, g2, g3, g4⟩ := disk_put hr hF hi hB hdi hr' he
         have hlen := readD_len hd hrd
         simp only [hrd, Option.isSome_some, Option.getD_some, cond_true]
         cases hv with
         | tup t =>
         cases t with
         | cons a1 t => cases t with
           | cons a2 t =>
           cases t; cases a2
           generalize hL : bs.length = L at a1 hlen
           subst hlen
           cases a1 with
           | @ow _ bg cg _ hg hn hc =>
             have hnF := g4 (by simp) hg h4 rfl
             obtain ⟨o, ho, hbr⟩ := hr'.blk hg h4
             have hbase := hr'.base hg
             have hbase' : (F i bg ∨ w.heap.size ≤ bg) ∧ bg < w'.heap.size := hbase
             obtain ⟨k1, k2⟩ := g1.nameX (B := .bb 5 bs) (g := bg) (c := cg) (F2 := fun k => k = bg) g3 rfl (fun k hk => by
               subst hk
               refine ⟨?_, hbase'.2, ?_⟩
               · rcases hbase'.1 with h | h
                 · exact (hF.there hi hB rfl h).1
                 · exact .inr (Nat.le_trans hr.fr.size h)
               · rcases hbase'.1 with h | h
                 · exact (hF.there hi hB rfl h).2.2
                 · cases hk : ρ.im k with
                   | none => rfl
                   | some cc => have := hr.imlt hk; omega) (fun {j k p C} e1 e2 e3 e4 e5 => by
               subst e5
               by_cases hj : j = i
               · subst hj; simp only [if_true] at e4; exact hnF e4
               · simp only [if_neg hj] at e4
                 rw [get_tput, if_neg hj] at e2
                 rcases hbase'.1 with h | h
                 · exact hj (hF.apart e1 hi e2 hB e3 rfl e4 h)
                 · have := (hF.there e1 e2 e3 e4).2.1; omega) ⟨o, ho, hbr⟩ (fun _ k hk => hk) (fun x e => by cases e)
             exact ⟨_, _, rfl, .tup (.cons (.ow _ (Env.set_same _ _ _) hn hc) (.cons (.v _) .nil)), k1, g2.trans k2⟩
   · cases hk
 · cases hk
def upK (args : List AV) (H : Tr AB) : Option (Bool × Prop × (Nat → Bool → AV × Tr AB × Nat)) := match args with
 | [.ptr i 0] => match H.get i with
   | some (.obj (.disk d)) => some (!d.down, d.Fine, fun n b => (.v (.bool b), tput H i (.obj (.disk d)), n))
   | _ => none
 | _ => none
def upG : CG := oneG 49 upK
theorem upG_ok : GOk Try.prog upG := oneG_ok tab Try.func49 (by kernel_rfl) fun {args H r} hk hC {w0 ρ w vs n} hr hv => by
 unfold upK at hk
 split at hk
 · rename_i i
   split at hk
   · rename_i d hB
     cases hk
     have hd : d.Fine := hC
     cases hv with
     | cons e1 t =>
     cases t
     cases e1 with
     | @ptr _ b c _ hi =>
       obtain ⟨F, hF⟩ := hr.foot
       refine (disk_core s2_ok (rest := []) (Q := fun ka kc x H' => boolA x = some (!d.down) ∧ DEnd 0 ka kc d.crash.keep d H' []) (fun T ka kc => by kernel_rfl) (fun T ka kc => up_to s2_ok T d ka kc hd) hr hF hi hB .nil).mono ?_
       rintro e w' ⟨ka, kc, x, H', n', ρ', v, bs0, cs, bm, ⟨hx, he⟩, rfl, hv, hdi, hr'⟩
       obtain ⟨F', g1, g2, _⟩ := disk_put hr hF hi hB hdi hr' he
       obtain rfl := boolA_sound hx hv
       exact ⟨ρ, _, rfl, .v _, g1, g2⟩
   · cases hk
 · cases hk
def newK (args : List AV) (H : Tr AB) : Option (Bool × Prop × (Nat → Bool → AV × Tr AB × Nat)) := match args with
 | [zx] => match intA zx with
   | some (.i64, z) => some (decide (1 ≤ z ∧ z ≤ 4096), True, fun n b => cond b (.tup [.ptr n 0, .v (iv 0)], tput H n (.obj (.disk (newD z.toNat))), n + 1) (.tup [.v (.pointer none), .v (iv 30)], H, n))
   | _ => none
 | _ => none
def newG : CG := oneG 5 newK
theorem newG_ok : GOk Try.prog newG := oneG_ok tab Try.func5 (by kernel_rfl) fun {args H r} hk hC {w0 ρ w vs n} hr hv => by
 unfold newK at hk
 split at hk
 · rename_i zx
   split at hk
   · rename_i z hz
     cases hk
     cases hv with
     | cons e1 t =>
     cases t
     obtain rfl := intA_sound hz e1
     by_cases hzz : 1 ≤ z ∧ z ≤ 4096
     · simp only [hzz, and_self, decide_true, cond_true]
       refine (pure_calls s2_ok (by kernel_rfl) (new_to s2_ok z hzz.1 hzz.2) (w := w) (.cons (.sy _) .nil)).mono ?_
       rintro e w' ⟨x, H', n', ρ', v, ⟨rfl, he⟩, rfl, hv, hf, hr'⟩
       cases hv with
       | tup t =>
       cases t with
       | cons a1 t => cases t with
         | cons a2 t =>
         cases t; cases a2
         cases a1 with
         | @ptr _ b c _ h2 =>
           obtain ⟨F', g1, g2, g3, _⟩ := hr'.closeE (I := ρ.im) h2 (winE_nil _ _) he
           obtain ⟨k1, k2⟩ := hr.newX (x := .disk (newD z.toNat)) (g := b) (c := c) hf g1 g2 (fun k hk => by
             obtain ⟨a, b', _⟩ := g3 k hk
             refine ⟨?_, b'⟩
             rcases a with a | a
             · exact absurd a (No.no k)
             · exact a)
           exact ⟨_, _, rfl, .tup (.cons (.ptr 0 (Env.set_same _ _ _)) (.cons (.v _) .nil)), k1, k2⟩
     · simp only [hzz, decide_false, cond_false]
       refine (pure_calls s2_ok (by kernel_rfl) (newE_to s2_ok z (by omega)) (w := w) (.cons (.sy _) .nil)).mono ?_
       rintro e w' ⟨x, H', n', ρ', v, rfl, rfl, hv, hf, hr'⟩
       cases hv with
       | tup t =>
       cases t with
       | cons a1 t => cases t with
         | cons a2 t =>
         cases t; cases a2; cases a1
         exact ⟨ρ, _, rfl, .tup (.cons (.v _) (.cons (.v _) .nil)), hr.old hf, Ext.refl _ _ _⟩
   · cases hk
 · cases hk
def waitsDF : CF := oneF 51 fun args H n => match args with
 | [.ptr i 0] => match H.get i with
   | some (.obj (.disk d)) => some ((.im 1 d.waits.length (intsF (keysD d.waits)), H, n), d.Fine)
   | _ => none
 | _ => none
theorem waitsDF_ok : FOk Try.prog waitsDF := oneF_ok tab Try.func51 (by kernel_rfl) fun {args H n r} h hC {w0 ρ w vs} hr hv => by
 split at h
 · rename_i i
   split at h
   · rename_i d hB
     cases h
     have hd : d.Fine := hC
     cases hv with
     | cons e1 t =>
     cases t
     cases e1 with
     | @ptr _ b c _ hi =>
       obtain ⟨F, hF⟩ := hr.foot
       obtain ⟨bs, cs, bm, ka, kc, hdi⟩ := DiskAt.is (hF.obj hi hB)
       obtain ⟨T, fz, hat, hfz⟩ := hdi.at_
       have hz' : MapZ w bm (d.waits.map (·.1)) := by
         obtain ⟨es, clock, g1, g2, g3⟩ := hdi.map
         have hlen : es.size = d.waits.length := by
           have := congrArg List.length g3
           simpa using this
         have := hd.ok.len
         refine ⟨es, clock, g1, g2, ?_, by omega, fun k hk => ?_⟩
         · have := congrArg (List.map Prod.fst) g3
           simpa [Function.comp_def, iv] using this
         · obtain ⟨p, hp, rfl⟩ := List.mem_map.1 hk
           exact hd.ok.wf p hp
       have hle := hd.ok.le
       refine (waits_ok b bm d.stays.length cs (some ⟨bs, 0, none⟩) (d.waits.map (·.1)) w (by rw [cells_cell hat]; rfl) (by have := hd.ok.npos; omega) (by omega) (by rw [cells_cell hat]; rfl) hz').mono ?_
       rintro e w' ⟨v, rfl, hown, hnil, hnew, hf⟩
       rw [List.length_map] at hown
       rcases hown.cases with ⟨rfl, h0, h00⟩ | ⟨g, cg, rfl⟩
       · refine ⟨ρ, _, rfl, ?_, hr.old hf, Ext.refl _ _ _⟩
         rw [h0]
         exact .im (winE_nil _ _) (fun r hr => absurd hr (Nat.not_lt_zero _))
       · obtain ⟨sp2, k1, k2, k3, k4, k5⟩ := hown.blk
         obtain ⟨g1, g2⟩ := hr.newIm hf (hnew g rfl) k1
         refine ⟨_, _, rfl, ?_, g1, g2⟩
         have hl := keysD_len d.waits
         refine .im (vs := (keysD d.waits).map iv) ⟨by rw [List.length_map, hl, Nat.mul_one], k4, k5, fun e => (by cases e), fun ad' had j u hu => ?_⟩ (fun r hr' => rows1 _ _ r (by rw [hl]; exact hr'))
         cases had
         rw [Addr.add_lit]
         refine (im_cell (show _ = some _ from if_pos rfl) _).trans ?_
         rw [Nat.zero_add, List.getElem?_toArray]
         rw [List.getElem?_append_left (by
           have := (List.getElem?_eq_some_iff.1 hu).1
           rw [List.length_map, hl] at this
           rw [k2]; omega)]
         exact hu
   · cases h
 · cases h
end Go.Proofs.Ytnfdknnbaebagaa.Sm
/-
 What is handed in, opened: a type's reading as a predicate; a slice, a struct taken apart. No program in sight.
-/
namespace Go.Proofs.Ytnfdknnbaebagaa
open Go.RowKit
def Rd (P : Program) (w : World) (t : TypeId) (cs : List Value) : Prop :=
 ∃ (H : Type) (enc : TypeId × Value → H) (fuel : Nat) (x : DataW H × List MemPlace), DataW.trod enc P w 0 (fun _ => true) true fuel t cs = some x
section
variable {P : Program} {w : World} {t : TypeId} {cs : List Value}
theorem Rd.of {H : Type} {enc : TypeId × Value → H} {v : Value} {d : DataW H} {p : List MemPlace} (h : DataW.Trod enc P w 0 (fun _ => true) true t v d p) : Rd P w t v.cells.toList := by
 obtain ⟨fuel, hf⟩ := h
 exact ⟨H, enc, fuel, _, hf⟩
theorem Rd.int {k : IntKind} (ht : P.underlying t = some (.int k)) (h : Rd P w t cs) : ∃ n, cs = [.int k n] ∧ (Lit.int k n).wf = true := by
 obtain ⟨H, enc, fuel, x, hf⟩ := h
 obtain ⟨n, h1, _, h2⟩ := DataW.trod_int ht hf
 exact ⟨n, h1, h2⟩
structure ElemAt (P : Program) (w : World) (e : TypeId) (size : Nat) (ad : Addr) (i : Nat) (cs : List Value) : Prop where
 len : cs.length = size
 rd : Rd P w e cs
 cell : ∀ (j : Nat) (u : Value), cs[j]? = some u → w.cell? ((ad.add (i * size)).add j) = some u
theorem Rd.slice {e : TypeId} {size : Nat} (ht : P.underlying t = some (.slice e)) (hs : P.cellsOf e = size) (h : Rd P w t cs) :
   ∃ a len cap, cs = [.slice a len cap] ∧ len ≤ cap ∧ cap ≤ maxLen ∧ (a = none → len = 0 ∧ cap = 0) ∧ ∀ ad, a = some ad → ∀ i, i < len → ∃ cs', ElemAt P w e size ad i cs' := by
 subst hs
 obtain ⟨H, enc, fuel, x, hf⟩ := h
 rcases Go.Deep.open_slice ht hf with ⟨h1, _⟩ | ⟨a, len, cap, m, n, D, Pl, h1, _, h2, h3, h4, _, h5⟩
 · exact ⟨none, 0, 0, h1, Nat.le_refl _, Nat.zero_le _, fun _ => ⟨rfl, rfl⟩, fun ad hd => (nomatch hd)⟩
 · refine ⟨some a, len, cap, h1, h2, h3, fun hd => (nomatch hd), ?_⟩
   rintro ad hd i hi
   cases hd
   obtain ⟨cs', h6, h7⟩ := h5 i (by simp only [if_true] at h4; omega)
   obtain ⟨_, h8, h9⟩ := World.cells?_some h6
   refine ⟨cs', h8, ⟨H, enc, n, _, h7⟩, fun j u hu => ?_⟩
   rw [h9 j (by have := (List.getElem?_eq_some_iff.1 hu).1; omega), hu]
def fieldsOk (P : Program) (t : TypeId) (l : List (Nat × TypeId)) : Bool :=
 match P.underlying t with
 | some (.struct fs) => fs.toList.map (fun f => (f.offset, f.type)) == l
 | _ => false
theorem Rd.struct {l : List (Nat × TypeId)} (hok : fieldsOk P t l = true) (h : Rd P w t cs) : cs.length = P.cellsOf t ∧ ∀ (j o : Nat) (ft : TypeId), l[j]? = some (o, ft) → Rd P w ft ((cs.drop o).take (P.cellsOf ft)) := by
 unfold fieldsOk at hok
 split at hok
 · rename_i fs ht
   obtain ⟨H, enc, fuel, x, hf⟩ := h
   obtain ⟨xs, n, _, _, h1, h2, h3⟩ := DataW.trod_struct ht hf
   refine ⟨h1, fun j o ft hj => ?_⟩
   rw [beq_iff_eq] at hok
   rw [← hok, List.getElem?_map] at hj
   cases hfj : fs.toList[j]? with
   | none => rw [hfj] at hj; cases hj
   | some f =>
     rw [hfj] at hj
     simp only [Option.map_some, Option.some.injEq, Prod.mk.injEq] at hj
     obtain ⟨rfl, rfl⟩ := hj
     have hfj' : fs[j]? = some f := by simpa using hfj
     have h4 := h3 j f hfj'
     have hlt : j < xs.length := by rw [h2]; exact (Array.getElem?_eq_some_iff.1 hfj').1
     rw [List.getElem?_eq_getElem hlt] at h4
     exact ⟨H, enc, n, _, h4⟩
 · cases hok
end
theorem u8_bd {n : Int} (h : (Lit.int .u8 n).wf = true) : 0 ≤ n ∧ n < 256 := by
 simp [Lit.wf, IntKind.min, IntKind.max, IntKind.signed, IntKind.bits] at h
 omega
theorem bytes_open {P : Program} {w : World} {t e : TypeId} (ht : P.underlying t = some (.slice e)) (he : P.underlying e = some (.int .u8)) (hc : P.cellsOf e = 1) {a : Option Addr} {n c : Nat} (h : Rd P w t [.slice a n c]) : ∃ bs : List UInt8, Win w a n c (bs.map byt) := by
 obtain ⟨a', n', c', e1, h1, h2, h3, h4⟩ := h.slice ht hc
 injection e1 with e1 _
 injection e1 with e1 e2 e3
 subst e1
 subst e2
 subst e3
 cases a with
 | none =>
   obtain ⟨rfl, rfl⟩ := h3 rfl
   exact ⟨[], Win.nilw w⟩
 | some ad =>
   have each : ∀ i, i < n → ∃ x : UInt8, w.cell? (ad.add i) = some (byt x) := by
     intro i hi
     obtain ⟨cs, he'⟩ := h4 ad rfl i hi
     obtain ⟨m, rfl, hw⟩ := he'.rd.int he
     have hb := u8_bd hw
     refine ⟨UInt8.ofNat m.toNat, ?_⟩
     have hcell := he'.cell 0 _ rfl
     rw [Nat.mul_one, add_zero] at hcell
     rw [hcell]
     unfold byt
     congr 2
     simp
     omega
   obtain ⟨f, hf⟩ := Go.Deep.choose_lt each
   refine ⟨(List.range n).map f, by simp, h1, h2, fun hd => (nomatch hd), fun ad' hd j u hu => ?_⟩
   cases hd
   simp only [List.map_map, List.getElem?_map] at hu
   cases hr : (List.range n)[j]? with
   | none => rw [hr] at hu; cases hu
   | some i =>
     rw [hr] at hu
     obtain ⟨hj, rfl⟩ := List.getElem?_eq_some_iff.1 hr
     simp only [List.length_range] at hj
     simp only [List.getElem_range] at hu
     cases hu
     exact hf j hj
/-! Arguments by their types. -/
section
open Go.ChangeShapes Go.WideShapes Go.ChangeAt
variable {P : Program} {w : World} {t : TypeId} {r : Reach} {b0 : Nat} {v : Value}
theorem arg_int {H : Type} {enc : TypeId × Value → H} {d : DataW H} {p : List MemPlace} {k : IntKind} (ht : P.underlying t = some (.int k)) (hv : Value.okWide P w r b0 t v) (h : DataW.Trod enc P w 0 (fun _ => true) true t v d p) : ∃ n, v = .int k n ∧ (Lit.int k n).wf = true := by
 obtain ⟨a, h1, _, _, h2⟩ := open_int ht hv h
 exact ⟨a, h1, h2⟩
theorem arg_slice {e : TypeId} (ht : P.underlying t = some (.slice e)) (hv : Value.okWide P w r b0 t v) : ∃ a n c, v = .slice a n c := okWide_slice ht hv
theorem again_all {H : Type} {enc : TypeId × Value → H} (hl : laidOutB P = true) {W W' : World} (hb : Below W.heap.size W W') : ∀ {ts : List TypeId} {vs : List Value} {ds : List (DataW H)} {ps : List MemPlace}, (ts.all fun t => P.readableRec t && decide (t < P.types.size)) = true → DataW.TrodAll enc P W 0 (fun _ => true) true ts vs ds ps → (∀ x ∈ ps, x.block < W.heap.size) →
   DataW.TrodAll enc P W' 0 (fun b => decide (b < W.heap.size)) true ts vs ds ps := by
 intro ts
 induction ts with
 | nil =>
   intro vs ds ps _ h _
   obtain ⟨rfl, rfl, rfl⟩ := trodAll_nil h
   exact trodAll_mk0
 | cons t ts ih =>
   intro vs ds ps hr h hlt
   obtain ⟨v, vs', d, ds', p, q, rfl, rfl, rfl, h1, h2⟩ := trodAll_cons h
   simp only [List.all_cons, Bool.and_eq_true, decide_eq_true_eq] at hr
   exact trodAll_cons_mk (Below.trod hl hr.1.1 hr.1.2 h1 hb (fun x hx => hlt x (List.mem_append.2 (.inl hx)))) (ih (by simpa using hr.2) h2 (fun x hx => hlt x (List.mem_append.2 (.inr hx))))
end
end Go.Proofs.Ytnfdknnbaebagaa
namespace Go.Proofs.Ytnfdknnbaebagaa.Sm
open Go Go.RowKit
structure OpD where
 kind : Int
 at_ : Int
 b : List UInt8
 c : CrashD
def crashF (c : CrashD) : List AV := [ivA c.w, .im 1 c.keep.length (intsF c.keep), ivA c.torn, ivA c.at_]
def opF (o : OpD) : List AV := [ivA o.kind, ivA o.at_, .by8 o.b, ivA o.c.w, .im 1 o.c.keep.length (intsF o.c.keep), ivA o.c.torn, ivA o.c.at_]
instance : Inhabited CrashD := ⟨CrashD.none⟩
instance : Inhabited OpD := ⟨⟨0, 0, [], CrashD.none⟩⟩
def opsF (l : List OpD) (r : Nat) : List AV := opF (l.getD r default)
structure CrashD.Wf (c : CrashD) : Prop where
 w : fits .i64 c.w
 torn : fits .i64 c.torn
 at_ : fits .i64 c.at_
structure OpD.Wf (o : OpD) : Prop where
 kind : fits .i64 o.kind
 at_ : fits .i64 o.at_
 c : o.c.Wf
theorem i64_bd {n : Int} (h : (Lit.int .i64 n).wf = true) : fits .i64 n := by
 simp [Lit.wf] at h
 exact fits_i64 h.1 h.2
theorem int_open {w : World} {cs : List Value} (h : Rd Try.prog w 3 cs) : ∃ z, cs = [iv z] ∧ fits .i64 z := by
 obtain ⟨n, h1, h2⟩ := h.int Try.underlying3
 exact ⟨n, h1, i64_bd h2⟩
theorem ints_open {w : World} {cs : List Value} (h : Rd Try.prog w 50 cs) : ∃ l a c, cs = [.slice a (List.length l) c] ∧ VR0 (imOf w) (.im 1 l.length (intsF l)) (.slice a l.length c) := by
 obtain ⟨a, n, c, rfl, h1, h2, h3, h4⟩ := h.slice Try.underlying50 (show Try.prog.cellsOf 3 = 1 by kernel_rfl)
 cases a with
 | none =>
   obtain ⟨rfl, rfl⟩ := h3 rfl
   exact ⟨[], none, 0, rfl, .im (winE_nil _ _) (fun r hr => absurd hr (Nat.not_lt_zero _))⟩
 | some ad =>
   have each : ∀ i, i < n → ∃ z : Int, w.cell? (ad.add i) = some (iv z) := by
     intro i hi
     obtain ⟨cs, he'⟩ := h4 ad rfl i hi
     obtain ⟨z, rfl, _⟩ := int_open he'.rd
     have hcell := he'.cell 0 _ rfl
     rw [Nat.mul_one, add_zero] at hcell
     exact ⟨z, hcell⟩
   obtain ⟨f, hf⟩ := Go.Deep.choose_lt each
   have hl : ((List.range n).map f).length = n := by simp
   refine ⟨(List.range n).map f, some ad, c, by rw [hl], .im (vs := ((List.range n).map f).map iv) ⟨by simp, by rw [hl]; exact h1, h2, (fun e => by cases e), fun ad' hd j u hu => ?_⟩ (fun r hr => rows1 _ _ r hr)⟩
   cases hd
   rw [List.map_map, List.getElem?_map] at hu
   cases hr : (List.range n)[j]? with
   | none => rw [hr] at hu; cases hu
   | some i =>
     rw [hr] at hu
     obtain ⟨hj, rfl⟩ := List.getElem?_eq_some_iff.1 hr
     simp only [List.length_range] at hj
     simp only [List.getElem_range] at hu
     cases hu
     exact imOf_cell (hf j hj)
theorem by8_open {w : World} {cs : List Value} (h : Rd Try.prog w 36 cs) : ∃ bs a n c, cs = [.slice a n c] ∧ VR0 (imOf w) (.by8 bs) (.slice a n c) := by
 obtain ⟨a, n, c, rfl, _⟩ := h.slice Try.underlying36 (show Try.prog.cellsOf 5 = 1 by kernel_rfl)
 obtain ⟨bs, hb⟩ := bytes_open Try.underlying36 Try.underlying5 (by kernel_rfl) h
 have := hb.len
 exact ⟨bs, a, n, c, rfl, .by8 ⟨by omega, hb.cap, hb.max, hb.nil, fun ad hd j u hu => imOf_cell (hb.cell ad hd j u hu)⟩⟩
set_option maxRecDepth 100000 in
theorem crash_open {w : World} {cs : List Value} (h : Rd Try.prog w 52 cs) : ∃ c : CrashD, VRs0 (imOf w) (crashF c) cs ∧ c.Wf := by
 obtain ⟨hl, hf⟩ := h.struct (l := [(0, 3), (1, 50), (2, 3), (3, 3)]) (by kernel_rfl)
 have hl' : cs.length = 4 := hl.trans (by kernel_rfl)
 match cs, hl' with
 | [a, b, c, d], _ =>
   have c1 : Try.prog.cellsOf 3 = 1 := by kernel_rfl
   have c2 : Try.prog.cellsOf 50 = 1 := by kernel_rfl
   have f0 := hf 0 0 3 rfl
   have f1 := hf 1 1 50 rfl
   have f2 := hf 2 2 3 rfl
   have f3 := hf 3 3 3 rfl
   rw [c1] at f0 f2 f3
   rw [c2] at f1
   obtain ⟨z0, e0, w0⟩ := int_open f0
   obtain ⟨l, ka, kc, e1, v1⟩ := ints_open f1
   obtain ⟨z2, e2, w2⟩ := int_open f2
   obtain ⟨z3, e3, w3⟩ := int_open f3
   simp at e0 e1 e2 e3
   subst e0 e1 e2 e3
   exact ⟨⟨z0, l, z2, z3⟩, .cons (.sy _) (.cons v1 (.cons (.sy _) (.cons (.sy _) .nil))), ⟨w0, w2, w3⟩⟩
set_option maxRecDepth 100000 in
theorem op_open {w : World} {cs : List Value} (h : Rd Try.prog w 54 cs) : ∃ o : OpD, VRs0 (imOf w) (opF o) cs ∧ o.Wf := by
 obtain ⟨hl, hf⟩ := h.struct (l := [(0, 3), (1, 3), (2, 36), (3, 52)]) (by kernel_rfl)
 have hl' : cs.length = 7 := hl.trans (by kernel_rfl)
 match cs, hl' with
 | [a, b, c, d, e, f, g], _ =>
   have c1 : Try.prog.cellsOf 3 = 1 := by kernel_rfl
   have c2 : Try.prog.cellsOf 36 = 1 := by kernel_rfl
   have c3 : Try.prog.cellsOf 52 = 4 := by kernel_rfl
   have f0 := hf 0 0 3 rfl
   have f1 := hf 1 1 3 rfl
   have f2 := hf 2 2 36 rfl
   have f3 := hf 3 3 52 rfl
   rw [c1] at f0 f1
   rw [c2] at f2
   rw [c3] at f3
   obtain ⟨z0, e0, w0⟩ := int_open f0
   obtain ⟨z1, e1, w1⟩ := int_open f1
   obtain ⟨bs, ba, bn, bc, e2, v2⟩ := by8_open f2
   obtain ⟨cr, v3, w3⟩ := crash_open f3
   simp at e0 e1 e2
   subst e0 e1 e2
   exact ⟨⟨z0, z1, bs, cr⟩, .cons (.sy _) (.cons (.sy _) (.cons v2 v3)), ⟨w0, w1, w3⟩⟩
theorem ops_open {w : World} {a : Option Addr} {n c : Nat} (h : Rd Try.prog w 43 [.slice a n c]) : ∃ l : List OpD, l.length = n ∧ VR0 (imOf w) (.im 7 l.length (opsF l)) (.slice a n c) ∧ ∀ o ∈ l, o.Wf := by
 obtain ⟨a', n', c', e1, h1, h2, h3, h4⟩ := h.slice Try.underlying43 (show Try.prog.cellsOf 54 = 7 by kernel_rfl)
 injection e1 with e1 _
 injection e1 with e1 e2 e3
 subst e1
 subst e2
 subst e3
 cases a with
 | none =>
   obtain ⟨rfl, rfl⟩ := h3 rfl
   exact ⟨[], rfl, .im (winE_nil _ _) (fun r hr => absurd hr (Nat.not_lt_zero _)), fun o ho => by cases ho⟩
 | some ad =>
   have each : ∀ i, i < n → ∃ p : OpD × List Value, (p.2.length = 7 ∧ ∀ (j : Nat) (u : Value), p.2[j]? = some u → w.cell? ((ad.add (i * 7)).add j) = some u) ∧ VRs0 (imOf w) (opF p.1) p.2 ∧ p.1.Wf := by
     intro i hi
     obtain ⟨cs, he'⟩ := h4 ad rfl i hi
     obtain ⟨o, h5, h6⟩ := op_open he'.rd
     exact ⟨(o, cs), ⟨he'.len, he'.cell⟩, h5, h6⟩
   obtain ⟨f, hf⟩ := Go.Deep.choose_lt each
   have hl : ((List.range n).map fun r => (f r).1).length = n := by simp
   have hopf : ∀ r, r < n → opsF ((List.range n).map fun r => (f r).1) r = opF (f r).1 := fun r hr => by simp [opsF, List.getD_eq_getElem?_getD, hr]
   have hlen7 : ∀ (m : Nat), m ≤ n → (((List.range m).map fun r => (f r).2).flatten).length = m * 7 := by
     intro m
     induction m with
     | zero => intro _; simp
     | succ m ih =>
       intro hm
       rw [List.range_succ, List.map_append, List.flatten_append, List.length_append, ih (by omega)]
       have := (hf m (by omega)).1.1
       simp [this, Nat.succ_mul]
   have hrow : ∀ (m r : Nat), m ≤ n → r < m → ((((List.range m).map fun r => (f r).2).flatten).drop (r * 7)).take 7 = (f r).2 := by
     intro m
     induction m with
     | zero => intro r _ hr; omega
     | succ m ih =>
       intro r hm hr
       have hlm := hlen7 m (by omega)
       have h7 := (hf r (by omega)).1.1
       rw [List.range_succ, List.map_append, List.flatten_append]
       by_cases e : r = m
       · subst e
         rw [List.drop_append_of_le_length (by omega), List.drop_of_length_le (by omega), List.nil_append]
         simp [List.take_of_length_le (Nat.le_of_eq h7)]
       · have hr' : r < m := by omega
         rw [List.drop_append_of_le_length (by rw [hlm]; omega), List.take_append_of_le_length (by rw [List.length_drop, hlm]; omega)]
         exact ih r (by omega) hr'
   refine ⟨(List.range n).map fun r => (f r).1, hl, ?_, fun o ho => ?_⟩
   · rw [hl]
     refine .im (vs := ((List.range n).map fun r => (f r).2).flatten) ⟨hlen7 n (Nat.le_refl _), h1, h2, (fun e => by cases e), fun ad' hd j u hu => ?_⟩ (fun r hr => ?_)
     · cases hd
       have hj : j < n * 7 := by
         have := (List.getElem?_eq_some_iff.1 hu).1
         rwa [hlen7 n (Nat.le_refl _)] at this
       have hr : j / 7 < n := by omega
       have hc := (hf (j / 7) hr).1.2 (j % 7) u (by
         rw [← hrow n (j / 7) (Nat.le_refl _) hr, List.getElem?_take, if_pos (by omega), List.getElem?_drop]
         rw [show j / 7 * 7 + j % 7 = j by omega]; exact hu)
       have e : (ad.add (j / 7 * 7)).add (j % 7) = ad.add j := by
         rw [add_add]; congr 1; omega
       rw [e] at hc
       exact imOf_cell hc
     · rw [hrow n r (Nat.le_refl _) hr, hopf r hr]
       exact (hf r hr).2.1
   · obtain ⟨r, hr, rfl⟩ := List.mem_map.1 ho
     exact (hf r (List.mem_range.1 hr)).2.2
def bigO (o : OpD) : Bool := decide (500 < o.b.length) || decide (100 < o.c.keep.length)
def greatL (l : List OpD) : Bool := decide (200 < l.length) || l.any bigO
theorem any_take_succ {α : Type} [Inhabited α] (p : α → Bool) {l : List α} {a : Nat} (h : a < l.length) : (l.take (a + 1)).any p = ((l.take a).any p || p (l.getD a default)) := by
 rw [List.take_succ_eq_append_getElem h, List.any_append, List.getD_eq_getElem?_getD, List.getElem?_eq_getElem h]; simp
set_option maxRecDepth 100000 in
theorem great_to (hok : S0.Ok Try.prog) (l : List OpD) : To S0 Try.prog 14 (startOf Try.prog 14 [.im 7 l.length (opsF l)] .e 0) (fun x _ _ => x = .v (.bool (greatL l))) := by
 refine To.R (h := ?_)
 refine To.Bd ((200 : Int) < l.length) (h := ?_) (g := ?_)
 · intro h
   refine To.R (h := ?_)
   refine To.E (AV.v (Value.bool true)) (hq := ?_)
   have : greatL l = true := by unfold greatL; simp; left; omega
   rw [this]
 · intro h
   refine To.R (k := 12) (h := ?_)
   refine To.L (L := []) (kp := [9, 8, 0]) (C := (Same IntKind.i64 ∧ (0 : Int) = (↑(0 : Nat) : Int)) ∧ True ∧ True ∧ True ∧ True ∧ True ∧ True ∧ True ∧ True) (st := fun (a : Nat) => (⟨(⟨14, 30, (slotT 30 [(0, AV.im 7 l.length (opsF l)), (8, AV.sy (Value.int IntKind.i64 l.length)), (9, AV.sy (Value.int IntKind.i64 a))]), ARg.no, [(AItem.code (subC (bodyC Try.prog 14) [1, 1, 0, 1, 0, 0])), (AItem.inLoop (subC (bodyC Try.prog 14) [1, 1, 0, 1, 0, 0])), (AItem.inBlock 0), (AItem.code (subC (bodyC Try.prog 14) [1, 1, 1]))], [], false, none, 0⟩ : AFr), [], memF [] 0 Tr.e, 0⟩ : ASt)) (hI := ?_) (h := ?_) (fun (a : Nat) => [(9, ivA (a : Int)), (20, .any), (21, .any), (22, .any), (23, .any), (24, .any), (25, .any), (26, .any), (27, .any)]) (fun _ => []) (fun a => a ≤ l.length ∧ (l.take a).any bigO = false) (fun a => l.length - a) (0)
   · simp
   intro a ⟨ha, hn⟩ ih
   refine To.R (h := ?_)
   refine To.Bd ((a : Int) < l.length) (h := ?_) (g := ?_)
   · intro h1
     have hlt : a < l.length := by omega
     have hst := any_take_succ bigO hlt
     refine To.R (C := ((0 : Int) ≤ a ∧ (a : Int) < l.length) ∧ True ∧ True ∧ True) (h := ?_)
     refine To.Bd ((500 : Int) < (l.getD a default).b.length) (h := ?_) (g := ?_)
     · intro h2
       refine To.R (h := ?_)
       refine To.E (AV.v (Value.bool true)) (hq := ?_)
       have : greatL l = true := by
         have h5 : bigO (l.getD (a) default) = true := by unfold bigO; rw [Bool.or_eq_true]; exact .inl (decide_eq_true (by omega))
         have h6 : l.any bigO = true := by
           refine List.any_eq_true.2 ⟨_, ?_, h5⟩
           rw [List.getD_eq_getElem?_getD, List.getElem?_eq_getElem hlt]; simp
         unfold greatL; rw [h6]; simp
       rw [this]
     · intro h2
       refine To.R (C := ((0 : Int) ≤ a ∧ (a : Int) < l.length) ∧ True ∧ True ∧ True ∧ True) (h := ?_)
       refine To.Bd ((100 : Int) < (l.getD a default).c.keep.length) (h := ?_) (g := ?_)
       · intro h3
         refine To.R (h := ?_)
         refine To.E (AV.v (Value.bool true)) (hq := ?_)
         have : greatL l = true := by
           have h5 : bigO (l.getD (a) default) = true := by unfold bigO; rw [Bool.or_eq_true]; exact .inr (decide_eq_true (by omega))
           have h6 : l.any bigO = true := by
             refine List.any_eq_true.2 ⟨_, ?_, h5⟩
             rw [List.getD_eq_getElem?_getD, List.getElem?_eq_getElem hlt]; simp
           unfold greatL; rw [h6]; simp
         rw [this]
       · intro h3
         refine To.R (k := 10) (C := fits IntKind.i64 (a + 1)) (h := ?_)
         have hi1 : (l.take (a + 1)).any bigO = false := by
           rw [hst, hn, Bool.false_or]
           unfold bigO; rw [Bool.or_eq_false_iff]; exact ⟨decide_eq_false (by omega), decide_eq_false (by omega)⟩
         have hi2 : a + 1 ≤ l.length := hlt
         have hi3 : l.length - (a + 1) < l.length - a := by omega
         refine To.K (L := []) (kp := [9, 8, 0]) (ov := [(9, AV.sy (Value.int IntKind.i64 (↑(a + 1) : Int)))]) (C := Same IntKind.i64 ∧ (↑a : Int) + 1 = (↑(a + 1) : Int)) (ih (a + 1) ⟨hi2, hi1⟩ hi3)
   · intro h1
     refine To.R (h := ?_)
     refine To.E (AV.v (Value.bool false)) (hq := ?_)
     have : greatL l = false := by
       rw [List.take_of_length_le (by omega)] at hn
       unfold greatL; rw [hn, Bool.or_false]; exact decide_eq_false (by omega)
     rw [this]
/-! The calls that a slice reads. -/
def opOf : List AV → OpD
 | [k, a, .by8 b, w, .im _ n f, t, z] => ⟨numF [k], numF [a], b, ⟨numF [w], numsF n f, numF [t], numF [z]⟩⟩
 | _ => default
def opsOf (n : Nat) (f : Nat → List AV) : List OpD := (List.range n).map fun r => opOf (f r)
theorem opOf_F (o : OpD) : opOf (opF o) = o := by
 show (⟨_, _, _, ⟨_, numsF o.c.keep.length (intsF o.c.keep), _, _⟩⟩ : OpD) = o
 rw [numsF_ints]; rfl
theorem opsOf_len (n : Nat) (f : Nat → List AV) : (opsOf n f).length = n := by simp [opsOf]
theorem opsOf_ops (l : List OpD) : opsOf l.length (opsF l) = l := by
 unfold opsOf
 apply List.ext_getElem?
 intro j
 by_cases h : j < l.length
 · rw [List.getElem?_map, List.getElem?_range h, List.getElem?_eq_getElem h, Option.map_some]
   show some (opOf (opF (l.getD j default))) = _
   rw [opOf_F, List.getD_eq_getElem?_getD, List.getElem?_eq_getElem h]; rfl
 · rw [List.getElem?_eq_none (by simp; omega), List.getElem?_eq_none (by omega)]
def greatG : CG := oneG 14 (testG fun args _ => match args with
 | [.im 7 n f] => some (greatL (opsOf n f), ∀ r, r < n → f r = opsF (opsOf n f) r)
 | _ => none)
theorem greatG_ok : GOk Try.prog greatG := testG_ok tab Try.func14 (by kernel_rfl) fun {args H r} h hC {w0 ρ w vs n} hr hv => by
 split at h
 · rename_i m f
   cases h
   have hC' : ∀ r, r < m → f r = opsF (opsOf m f) r := hC
   cases hv with
   | @cons _ u _ _ e1 t =>
   cases t
   have him := im_all hr
   have hx : VR (envOf w) (.im 7 (opsOf m f).length (opsF (opsOf m f))) u := by
     cases e1 with
     | im hw hf =>
       rw [opsOf_len]
       exact .im (hw.mono him) (fun r hr' => by rw [← hC' r hr']; exact (hf r hr').mono him)
   refine (pure_calls s0_ok (by kernel_rfl) (great_to s0_ok (opsOf m f)) (w := w) (.cons hx .nil)).mono ?_
   rintro e w' ⟨x, H', n', ρ', v, rfl, rfl, hv, hf, _⟩
   cases hv
   exact ⟨rfl, hf⟩
 · cases h
set_option maxRecDepth 100000 in
theorem ints_to (hok : S0.Ok Try.prog) (l m : List Int) (hl : l.length ≤ 1000000) : To S0 Try.prog 48 (startOf Try.prog 48 [.im 1 l.length (intsF l), .im 1 m.length (intsF m)] .e 0) (fun x _ _ => x = .v (.bool (decide (l = m)))) := by
 refine To.R (C := True ∧ True) (h := ?_)
 refine To.Bn ((l.length : Int) = m.length) (h := ?_) (g := ?_)
 · intro h
   refine To.R (h := ?_)
   refine To.E (AV.v (Value.bool false)) (hq := ?_)
   have : l ≠ m := fun e => h (by rw [e])
   simp [this]
 · intro h
   have hlen : l.length = m.length := by omega
   refine To.R (k := 10) (h := ?_)
   refine To.L (L := []) (kp := [5, 1, 0]) (C := Same IntKind.i64 ∧ (0 : Int) = (↑(0 : Nat) : Int)) (st := fun (a : Nat) => (⟨(⟨48, 26, (slotT 26 [(0, AV.im 1 l.length (intsF l)), (1, AV.im 1 m.length (intsF m)), (5, AV.sy (Value.int IntKind.i64 a))]), ARg.no, [(AItem.code (subC (bodyC Try.prog 48) [1, 1, 0, 1, 0, 0])), (AItem.inLoop (subC (bodyC Try.prog 48) [1, 1, 0, 1, 0, 0])), (AItem.inBlock 0), (AItem.code (subC (bodyC Try.prog 48) [1, 1, 1]))], [], false, none, 0⟩ : AFr), [], memF [] 0 Tr.e, 0⟩ : ASt)) (hI := ?_) (h := ?_) (fun (a : Nat) => [(5, ivA (a : Int))]) (fun _ => []) (fun a => a ≤ l.length ∧ l.take a = m.take a) (fun a => l.length - a) (0)
   · simp
   intro a ⟨ha, hn⟩ ih
   refine To.R (h := ?_)
   refine To.Bd ((a : Int) < l.length) (h := ?_) (g := ?_)
   · intro h1
     have hlt : a < l.length := by omega
     have hlm : a < m.length := by omega
     have hm1 : (a : Int) < m.length := by omega
     refine To.R (C := ((0 : Int) ≤ a ∧ (a : Int) < l.length) ∧ True ∧ ((0 : Int) ≤ a ∧ (a : Int) < m.length) ∧ True) (h := ?_)
     refine To.Bn (l.getD a 0 = m.getD a 0) (h := ?_) (g := ?_)
     · intro h2
       refine To.R (h := ?_)
       refine To.E (AV.v (Value.bool false)) (hq := ?_)
       have : l ≠ m := fun e => by subst e; simp at h2
       simp [this]
     · intro h2
       have h3 : l.getD (Int.toNat (a : Int)) 0 = m.getD (Int.toNat (a : Int)) 0 := by simpa using h2
       have hi1 : a + 1 ≤ l.length := hlt
       have hi2 : l.take (a + 1) = m.take (a + 1) := by
         rw [Int.toNat_natCast, List.getD_eq_getElem?_getD, List.getElem?_eq_getElem hlt, List.getD_eq_getElem?_getD, List.getElem?_eq_getElem hlm] at h3
         have h4 : l[a] = m[a] := by simpa using h3
         rw [List.take_succ_eq_append_getElem hlt, List.take_succ_eq_append_getElem hlm, hn, h4]
       have hi3 : l.length - (a + 1) < l.length - a := by omega
       refine To.R (k := 10) (C := fits IntKind.i64 (a + 1)) (h := ?_)
       refine To.K (L := []) (kp := [5, 1, 0]) (ov := [(5, AV.sy (Value.int IntKind.i64 (↑(a + 1) : Int)))]) (C := Same IntKind.i64 ∧ (↑a : Int) + 1 = (↑(a + 1) : Int)) (ih (a + 1) ⟨hi1, hi2⟩ hi3)
   · intro h1
     refine To.R (h := ?_)
     refine To.E (AV.v (Value.bool true)) (hq := ?_)
     have : l = m := by
       rwa [List.take_of_length_le (by omega), List.take_of_length_le (by omega)] at hn
     simp [this]
def intsG : CG := oneG 48 (testG fun args H => match args with
 | [x, y] => match isrc x H, isrc y H with
   | some r, some q => some (decide (r.1 = q.1), r.2 ∧ q.2 ∧ r.1.length ≤ 1000000)
   | _, _ => none
 | _ => none)
theorem intsG_ok : GOk Try.prog intsG := testG_ok tab Try.func48 (by kernel_rfl) fun {args H r} h hC {w0 ρ w vs n} hr hv => by
 split at h
 · rename_i x y
   split at h
   · rename_i r q hx hy
     cases h
     obtain ⟨h1, h2, h3⟩ : r.2 ∧ q.2 ∧ r.1.length ≤ 1000000 := hC
     cases hv with
     | cons e1 t =>
     cases t with
     | cons e2 t =>
     cases t
     refine (pure_calls s0_ok (by kernel_rfl) (ints_to s0_ok r.1 q.1 h3) (w := w) (.cons (isrc_sound hr hx h1 e1) (.cons (isrc_sound hr hy h2 e2) .nil))).mono ?_
     rintro e w' ⟨x, H', n', ρ', v, rfl, rfl, hv, hf, _⟩
     cases hv
     exact ⟨rfl, hf⟩
   · cases h
 · cases h
theorem getM_putM (m : List (Int × List UInt8)) (z : Int) (b : List UInt8) (y : Int) : getM (putM m z b) y = if y = z then some b else getM m y := by
 induction m with
 | nil => simp only [putM, getM]; by_cases h : z = y <;> simp [h, eq_comm]
 | cons p m ih =>
   unfold putM
   by_cases hp : p.1 = z
   · rw [if_pos hp]
     by_cases hy : y = z
     · subst hy; simp [getM]
     · rw [if_neg hy]; simp only [getM]; rw [if_neg (fun e => hy e.symm), if_neg (fun e => hy (e.symm.trans hp))]
   · rw [if_neg hp]
     simp only [getM]
     by_cases h1 : p.1 = y
     · rw [if_pos h1, if_pos h1, if_neg (fun e => hp (h1.trans e))]
     · rw [if_neg h1, if_neg h1, ih]
theorem getM_isSome {m : List (Int × List UInt8)} {z : Int} : (getM m z).isSome = true ↔ z ∈ m.map (·.1) := by
 constructor
 · intro h
   by_cases hm : z ∈ m.map (·.1)
   · exact hm
   · rw [getM_none hm] at h; cases h
 · intro h
   obtain ⟨v, hv, _⟩ := getM_mem h
   rw [hv]; rfl
theorem rows_fold (g : Int → List UInt8 → List UInt8) (k : Nat) : ∀ (ks : List Int) (ll : List (List UInt8)), ks.Nodup → (∀ z ∈ ks, 0 ≤ z) → k < ll.length →
   (ks.foldl (fun ll z => ll.set z.toNat (g z (ll.getD z.toNat []))) ll).getD k [] = if (k : Int) ∈ ks then g k (ll.getD k []) else ll.getD k [] := by
 intro ks
 induction ks with
 | nil => intro ll _ _ _; simp
 | cons z ks ih =>
   intro ll hn h0 hk
   have hz := h0 z (by simp)
   rw [List.foldl_cons, ih _ (List.nodup_cons.1 hn).2 (fun y hy => h0 y (by simp [hy])) (by rw [List.length_set]; exact hk)]
   have hzn := (List.nodup_cons.1 hn).1
   by_cases e : (k : Int) = z
   · subst e
     rw [if_neg hzn, if_pos (by simp), Int.toNat_natCast]
     simp [List.getD_eq_getElem?_getD, List.getElem?_set, hk]
   · have e' : ¬ z.toNat = k := by omega
     have e2 : (ll.set z.toNat (g z (ll.getD z.toNat []))).getD k [] = ll.getD k [] := by simp [List.getD_eq_getElem?_getD, List.getElem?_set, e']
     rw [e2]
     simp only [List.mem_cons, e, false_or]
theorem keysD_nodup {m : List (Int × List UInt8)} (h : (m.map (·.1)).Nodup) : (keysD m).Nodup := (List.mergeSort_perm _ _).nodup_iff.2 h
def fallAt (c : CrashD) (z : Int) (w : Option (List UInt8)) (s : List UInt8) : List UInt8 := match w with
 | none => s
 | some v => v.take (keptN c z) ++ s.drop (keptN c z)
theorem fallL_at {d : DiskD} (hd : d.Ok) (c : CrashD) {k : Nat} (hk : k < d.stays.length) : (fallL d.waits c (keysD d.waits) d.stays).getD k [] = fallAt c k (getM d.waits k) (d.stays.getD k []) := by
 have := rows_fold (fun z s => ((getM d.waits z).getD []).take (keptN c z) ++ s.drop (keptN c z)) k (keysD d.waits) d.stays (keysD_nodup hd.one) (fun z hz => by
   obtain ⟨p, hp, rfl⟩ := List.mem_map.1 (keysD_mem.1 hz)
   exact (hd.keys p hp).1) hk
 refine (Eq.trans ?_ this).trans ?_
 · rfl
 · by_cases h : (k : Int) ∈ keysD d.waits
   · rw [if_pos h]
     obtain ⟨v, hv, _⟩ := getM_mem (keysD_mem.1 h)
     rw [hv]; rfl
   · rw [if_neg h, getM_none (fun hm => h (keysD_mem.2 hm))]; rfl
theorem flushL_at {d : DiskD} (hd : d.Ok) {k : Nat} (hk : k < d.stays.length) : (flushL d.waits (keysD d.waits) d.stays).getD k [] = (getM d.waits k).getD (d.stays.getD k []) := by
 have := rows_fold (fun z _ => (getM d.waits z).getD (List.replicate 128 0)) k (keysD d.waits) d.stays (keysD_nodup hd.one) (fun z hz => by
   obtain ⟨p, hp, rfl⟩ := List.mem_map.1 (keysD_mem.1 hz)
   exact (hd.keys p hp).1) hk
 refine (Eq.trans ?_ this).trans ?_
 · rfl
 · by_cases h : (k : Int) ∈ keysD d.waits
   · rw [if_pos h]
     obtain ⟨v, hv, _⟩ := getM_mem (keysD_mem.1 h)
     rw [hv]; rfl
   · rw [if_neg h, getM_none (fun hm => h (keysD_mem.2 hm))]; rfl
theorem rows_ext {a b : List (List UInt8)} (h : a.length = b.length) (hk : ∀ k, k < a.length → a.getD k [] = b.getD k []) : a = b := by
 apply List.ext_getElem h
 intro k h1 h2
 have := hk k h1
 simpa [List.getD_eq_getElem?_getD, h1, h2] using this

structure DiskD.In (d : DiskD) (n : Nat) : Prop where
 fine : d.Fine
 wr : d.writes ≤ n
 size : n ≤ 1000000000
theorem DiskD.In.more {d : DiskD} {n m : Nat} (h : d.In n) (hm : n ≤ m) (hM : m ≤ 1000000000) : d.In m := ⟨h.fine, by have := h.wr; omega, hM⟩
theorem none_cw : (0 : Int) ≤ CrashD.none.w ∧ fits .i64 CrashD.none.w := ⟨Int.le_refl _, fits_i64 (by decide) (by decide)⟩
theorem none_at : fits .i64 CrashD.none.at_ := fits_i64 (by decide) (by decide)
theorem DiskD.Ok.rows' {d d' : DiskD} (h : d.Ok) (h1 : d'.stays.length = d.stays.length) (h2 : ∀ l ∈ d'.stays, l.length = 128) (h3 : d'.waits = d.waits ∨ d'.waits = []) : d'.Ok := by
 obtain ⟨a, b, c, e, f⟩ := h
 refine ⟨fun q => a (List.eq_nil_of_length_eq_zero (by rw [← h1, q]; rfl)), by rw [h1]; exact b, h2, fun p hp => ?_, ?_⟩
 · rcases h3 with h3 | h3
   · rw [h3] at hp; rw [h1]; exact e p hp
   · rw [h3] at hp; cases hp
 · rcases h3 with h3 | h3
   · rw [h3]; exact f
   · rw [h3]; exact List.nodup_nil
theorem DiskD.Ok.fall {d : DiskD} (h : d.Ok) (c : CrashD) : (fallD d c).Ok :=
 h.rows' (fallL_len _ _ _ _) (fallL_rows h c _ _ h.rows (fun z hz => keysD_mem.1 hz)) (.inr rfl)
theorem DiskD.In.fall {d : DiskD} {n : Nat} (h : d.In n) (c : CrashD) : (fallD d c).In n :=
 ⟨⟨h.fine.ok.fall c, none_cw, Nat.zero_le _, none_at, h.fine.wr⟩, h.wr, h.size⟩
theorem DiskD.In.put {d : DiskD} {n : Nat} (h : d.In n) (hn : n < 1000000000) {z : Int} {b : List UInt8} (h0 : 0 ≤ z) (h1 : z < d.stays.length) (hb : b.length = 128) : (d.put z b).In (n + 1) := by
 have hw := h.wr
 have hw2 := h.fine.wr
 refine ⟨⟨h.fine.ok.put h0 h1 (by rw [List.length_take]; omega), h.fine.cw, h.fine.keep, h.fine.at_, ?_⟩, ?_, hn⟩
 · show 0 ≤ d.writes + 1 ∧ d.writes + 1 ≤ 4000000000000000000
   omega
 · show d.writes + 1 ≤ ((n + 1 : Nat) : Int)
   omega
theorem DiskD.In.tick {d : DiskD} {n : Nat} (h : d.In n) (hc : d.crash.w ≠ 0) : d.tick.In n := by
 have h1 := h.fine.cw
 refine ⟨⟨h.fine.ok.of rfl rfl, ⟨?_, ?_⟩, h.fine.keep, h.fine.at_, h.fine.wr⟩, h.wr, h.size⟩
 · show 0 ≤ d.crash.w - 1; omega
 · have h2 : d.crash.w ≤ (9223372036854775807 : Int) := h1.2.2
   exact fits_i64 (by show (-9223372036854775808 : Int) ≤ d.crash.w - 1; omega) (by show d.crash.w - 1 ≤ (9223372036854775807 : Int); omega)
theorem DiskD.In.write {d : DiskD} {n : Nat} (h : d.In n) (hn : n < 1000000000) (z : Int) (b : List UInt8) : (writeD d z b).1.In (n + 1) := by
 unfold writeD
 split
 · exact h.more (by omega) (by omega)
 · split
   · exact h.more (by omega) (by omega)
   · split
     · exact h.more (by omega) (by omega)
     · split
       · exact h.more (by omega) (by omega)
       · rename_i h1 h2 h3 h4
         have hp := h.put hn (z := z) (b := b) (by omega) (by omega) (by omega)
         split
         · exact hp
         · rename_i h5
           split
           · exact hp.tick h5
           · exact (hp.tick h5).fall _
theorem flushL_rows {d : DiskD} (hd : d.Ok) : ∀ (ks : List Int) (ll : List (List UInt8)), (∀ l ∈ ll, l.length = 128) → ∀ l ∈ flushL d.waits ks ll, l.length = 128
 | [], _, h => h
 | z :: ks, ll, h => flushL_rows hd ks _ fun l hl => by
   unfold flushRow at hl
   rcases List.mem_or_eq_of_mem_set hl with h1 | h1
   · exact h l h1
   · rw [h1]; exact getM_len hd z
theorem DiskD.In.flush {d : DiskD} {n : Nat} (h : d.In n) : (flushD d).1.In n := by
 unfold flushD
 split
 · exact h
 · exact ⟨⟨h.fine.ok.rows' (flushL_len _ _ _) (flushL_rows h.fine.ok _ _ h.fine.ok.rows) (.inr rfl), h.fine.cw, h.fine.keep, h.fine.at_, h.fine.wr⟩, h.wr, h.size⟩
theorem DiskD.In.boot {d : DiskD} {n : Nat} (h : d.In n) : (bootD d).In n := ⟨⟨h.fine.ok.of rfl rfl, h.fine.cw, h.fine.keep, h.fine.at_, h.fine.wr⟩, h.wr, h.size⟩
theorem DiskD.In.down {d : DiskD} {n : Nat} (h : d.In n) (c : CrashD) : (downD d c).1.In n := by
 unfold downD
 split
 · exact h
 · exact h.fall c
theorem DiskD.In.arm {d : DiskD} {n : Nat} (h : d.In n) {c : CrashD} (hc : c.Wf) (hk : c.keep.length ≤ 1000000) : (armD d c).1.In n := by
 unfold armD
 split
 · exact h
 · exact ⟨⟨h.fine.ok.of rfl rfl, ⟨by show 0 ≤ c.w; omega, hc.w⟩, hk, hc.at_, h.fine.wr⟩, h.wr, h.size⟩
theorem DiskD.In.spoil {d : DiskD} {n : Nat} (h : d.In n) (z : Int) (b : List UInt8) : (spoilD d z b).1.In n := by
 unfold spoilD
 split
 · exact h
 · split
   · exact h
   · split
     · exact h
     · rename_i h1 h2 h3
       refine ⟨⟨h.fine.ok.rows' ?_ ?_ (.inl rfl), h.fine.cw, h.fine.keep, h.fine.at_, h.fine.wr⟩, h.wr, h.size⟩
       · simp
       · intro l hl
         rcases List.mem_or_eq_of_mem_set hl with h4 | h4
         · exact h.fine.ok.rows l h4
         · rw [h4, List.length_take]; omega
theorem newD_in {k : Nat} (h1 : 1 ≤ k) (h2 : k ≤ 4096) : (newD k).In 0 := by
 refine ⟨⟨⟨?_, by simpa [newD] using h2, fun l hl => ?_, fun p hp => by simp [newD] at hp, by simp [newD]⟩, none_cw, Nat.zero_le _, none_at, ⟨Int.le_refl _, by show (0 : Int) ≤ 4000000000000000000; decide⟩⟩, Int.le_refl _, by omega⟩
 · intro e
   have := congrArg List.length e
   simp [newD] at this
   omega
 · simp only [newD, List.mem_replicate] at hl
   rw [hl.2]; simp
def rowsOf {α : Type} [Inhabited α] (g : α → List AV) (l : List α) : Nat → List AV := fun r => g (l.getD r default)
end Go.Proofs.Ytnfdknnbaebagaa.Sm
