/-
  slices.Insert of one extent, as a contract for the small machine.
-/
import Derived.Test.YtnjhocjgpppeaaaIa
import Derived.Test.YtnjhocjgpppeaaaEs
namespace Go.Proofs.Ytnjhocjgpppeaaa
open Go Go.RowKit
namespace Ev

/-- A block that gets another name. -/
theorem HR.rename {w0 w w' : World} {ρ : Env} {H : Tr AB} {n i b d : Nat} {B B' : AB} {o : Obj} (hr : HR w0 ρ H n w) (hi : ρ i = some (b, d)) (hB : H.get i = some B) (hl : B.live = true) (ho : w'.heap[b]? = some o)
    (hb : BR (ρ.set n (b, d)) d B' o) (hf : Fr (fun k => k = b) w w') : HR w0 (ρ.set n (b, d)) (tput (tput H i .dead) n B') (n + 1) w' ∧ Ext ρ (ρ.set n (b, d)) H (tput (tput H i .dead) n B') n (n + 1) := by
  have hin : i < n := by
    rcases Nat.lt_or_ge i n with h' | h'
    · exact h'
    · rw [(hr.top h').1] at hi; cases hi
  have hle' : ρ.le (ρ.set n (b, d)) := Env.le_set (hr.top (Nat.le_refl _)).1 _
  have hd2 : HR w0 ρ (tput H i .dead) n w' := hr.write (B' := .dead) hi hB hl ho trivial hf
  have hp := hd2.put B'
  refine ⟨⟨fun {j b' d' C} h1 h2 => ?_, fun {j k b' d' e' C D} h1 h2 h3 h4 h5 h6 => ?_, fun {j} hj => ?_, fun {j b' d'} h1 => ?_, hp.fr⟩,
    ⟨hle', fun {j} hj => by unfold Env.set; rw [if_neg (by omega)], fun {j} hj hn => by
      rw [get_tput, if_neg (by omega), get_tput, if_neg (fun ej => by subst ej; rw [hi] at hn; cases hn)], Nat.le_succ _⟩⟩
  · unfold Env.set at h1
    split at h1
    · rename_i ej
      subst ej
      cases h1
      rw [get_tput, if_pos rfl] at h2
      cases h2
      exact ⟨o, ho, hb⟩
    · obtain ⟨o', h3, h4⟩ := hp.blk h1 h2
      exact ⟨o', h3, h4.mono hle'⟩
  · have aux : ∀ {j d' : Nat} {C : AB}, ρ j = some (b, d') → (tput (tput H i .dead) n B').get j = some C → C.live = true → j ≠ n → False := by
      intro j d' C q1 q2 q3 q4
      rw [get_tput, if_neg q4, get_tput] at q2
      split at q2
      · cases q2; cases q3
      · rename_i hji
        exact hji (hr.inj q1 hi q2 hB q3 hl)
    unfold Env.set at h1 h2
    split at h1 <;> split at h2
    · rename_i e1 e2; rw [e1, e2]
    · rename_i e1 e2; cases h1; exact (aux h2 h4 h6 e2).elim
    · rename_i e1 e2; cases h2; exact (aux h1 h3 h5 e1).elim
    · exact hp.inj h1 h2 h3 h4 h5 h6
  · have := hp.top hj
    refine ⟨?_, this.2⟩
    unfold Env.set
    rw [if_neg (by omega)]
    exact this.1
  · unfold Env.set at h1
    split at h1
    · cases h1; exact hd2.base hi
    · exact hp.base h1

/-- .. or of which the new one is a copy. -/
theorem HR.rename' {w0 w w' : World} {ρ : Env} {H : Tr AB} {n i d d' : Nat} {b' : Nat} {B B' : AB} {o : Obj} (hr : HR w0 ρ H n w) (hi : ρ i = some (b', d')) (hB : H.get i = some B) (hl : B.live = true)
    (ho : w'.heap[w.heap.size]? = some o) (hb : BR (ρ.set n (w.heap.size, d)) d B' o) (hf : Fr No w w') (hsz : w.heap.size < w'.heap.size) :
    HR w0 (ρ.set n (w.heap.size, d)) (tput (tput H i .dead) n B') (n + 1) w' ∧ Ext ρ (ρ.set n (w.heap.size, d)) H (tput (tput H i .dead) n B') n (n + 1) := by
  have hin : i < n := by
    rcases Nat.lt_or_ge i n with h' | h'
    · exact h'
    · rw [(hr.top h').1] at hi; cases hi
  have hle' : ρ.le (ρ.set n (w.heap.size, d)) := Env.le_set (hr.top (Nat.le_refl _)).1 _
  obtain ⟨ob, hob, _⟩ := hr.blk hi hB
  have hd1 : HR w0 ρ (tput H i .dead) n w := hr.write (B' := .dead) hi hB hl hob trivial (Fr.refl _ _)
  refine ⟨⟨fun {j b d' C} h1 h2 => ?_, fun {j k b d' e' C D} h1 h2 h3 h4 h5 h6 => ?_, fun {j} hj => ?_, fun {j b d'} h1 => ?_, hr.fr.thn hf⟩,
    ⟨hle', fun {j} hj => by unfold Env.set; rw [if_neg (by omega)], fun {j} hj hn => by
      rw [get_tput, if_neg (by omega), get_tput, if_neg (fun ej => by subst ej; rw [hi] at hn; cases hn)], Nat.le_succ _⟩⟩
  · rw [get_tput] at h2
    unfold Env.set at h1
    split at h1
    · rename_i ej
      subst ej
      cases h1
      rw [if_pos rfl] at h2
      cases h2
      exact ⟨o, ho, hb⟩
    · rename_i ej
      rw [if_neg ej] at h2
      obtain ⟨o', h3, h4⟩ := hd1.blk h1 h2
      exact ⟨o', (hf.block _ (hd1.base h1).2 (No.no _)).trans h3, h4.mono hle'⟩
  · rw [get_tput] at h3 h4
    unfold Env.set at h1 h2
    split at h1 <;> split at h2
    · rename_i e1 e2; rw [e1, e2]
    · cases h1; exact absurd (hd1.base h2).2 (Nat.lt_irrefl _)
    · cases h2; exact absurd (hd1.base h1).2 (Nat.lt_irrefl _)
    · rename_i e1 e2
      rw [if_neg e1] at h3
      rw [if_neg e2] at h4
      exact hd1.inj h1 h2 h3 h4 h5 h6
  · have := hd1.top (i := j) (by omega)
    refine ⟨?_, ?_⟩
    · unfold Env.set
      rw [if_neg (by omega)]
      exact this.1
    · rw [get_tput, if_neg (by omega)]
      exact this.2
  · unfold Env.set at h1
    split at h1
    · cases h1; exact ⟨hr.fr.size, hsz⟩
    · have := hd1.base h1; exact ⟨this.1, Nat.lt_of_lt_of_le this.2 hf.size⟩

def insL (l : List AV) (len k : Nat) (x0 x1 : AV) : List AV := l.take (k * 2) ++ ([x0, x1] ++ (l.drop (k * 2)).take ((len - k) * 2))
/-- The contract. -/
def insHook : Hook := fun f args H n =>
  cond (Nat.beq f 45) (match args with
    | [.su i 0 len 0 q, .v (.int .i64 (.ofNat k)), .sl j 0 1 1] => match H.get i with
      | some (.mem T (some 2) l) => match H.get j with
        | some (.mem T' none [x0, x1]) =>
          cond (Nat.beq T 31 && Nat.beq T' 31 && Nat.blt k len && Nat.ble len 1073741824 && Nat.ble (len * 2) l.length && (l.take (len * 2)).all oneA && oneA x0 && oneA x1 && !(Nat.beq i j))
            (some (.su n 0 (len + 1) 0 (len + 1), tput (tput H i .dead) n (.mem T (some 2) (insL l len k x0 x1)), n + 1)) none
        | _ => none
      | _ => none
    | _ => none) none

theorem ins_shape (L : List Value) (len k : Nat) (u0 u1 : Value) (A M : List Value) (hM : M = (L.drop (k * 2)).take ((len - k) * 2)) (hA : A = L.take (k * 2)) (hk : k < len) (hl : len * 2 ≤ L.length) :
    (L.take ((k + 1) * 2) ++ (L.drop (k * 2)).take ((len - k) * 2) ++ L.drop ((k + 1) * 2 + ((L.drop (k * 2)).take ((len - k) * 2)).length)).take (k * 2) ++ [u0, u1] ++
      (L.take ((k + 1) * 2) ++ (L.drop (k * 2)).take ((len - k) * 2) ++ L.drop ((k + 1) * 2 + ((L.drop (k * 2)).take ((len - k) * 2)).length)).drop (k * 2 + [u0, u1].length) =
    A ++ ([u0, u1] ++ M) ++ L.drop ((len + 1) * 2) := by
  subst hM hA
  have e1 : ((L.drop (k * 2)).take ((len - k) * 2)).length = (len - k) * 2 := by simp; omega
  have e2 : (L.take ((k + 1) * 2)).length = k * 2 + 2 := by simp; omega
  simp only [List.append_assoc, e1]
  rw [List.take_append_of_le_length (by omega), List.take_take, List.drop_left' (by rw [e2]; rfl)]
  rw [show min (k * 2) ((k + 1) * 2) = k * 2 by omega, show (k + 1) * 2 + (len - k) * 2 = (len + 1) * 2 by omega]

theorem insHook_ok : HKok Try.prog insHook := by
  intro f args H n x H' n' h
  unfold insHook at h
  cases hf : Nat.beq f 45 with
  | false => simp [hf] at h
  | true =>
    simp only [hf, cond_true] at h
    have hf' : f = 45 := by simpa using hf
    subst hf'
    refine ⟨fun xs w => ?_, ?_⟩
    · exact (tab_ok (P := Try.prog) (by kernel_rfl)).call (show tabOf Try.prog _ = some _ from Try.func45) (by kernel_rfl) xs w
    intro w0 ρ w vs hr hvs
    split at h
    · rename_i i len q k j
      split at h
      · rename_i T l hB
        split at h
        · rename_i T' x0 x1 hC
          cases hc : (Nat.beq T 31 && Nat.beq T' 31 && Nat.blt k len && Nat.ble len 1073741824 && Nat.ble (len * 2) l.length && (l.take (len * 2)).all oneA && oneA x0 && oneA x1 && !(Nat.beq i j)) with
          | false => simp [hc] at h
          | true =>
            simp only [hc, cond_true, Option.some.injEq, Prod.mk.injEq] at h
            obtain ⟨rfl, rfl, rfl⟩ := h
            simp only [Bool.and_eq_true, Nat.beq_eq, Nat.ble_eq, Nat.blt_eq, Bool.not_eq_true'] at hc
            obtain ⟨⟨⟨⟨⟨⟨⟨⟨rfl, rfl⟩, hk⟩, hlen⟩, hll⟩, ho⟩, ho0⟩, ho1⟩, hij⟩ := hc
            have hij' : i ≠ j := fun e => by subst e; simp at hij
            cases hvs with
            | cons e1 t1 =>
            cases t1 with
            | cons e2 t2 =>
            cases t2 with
            | cons e3 t3 =>
            cases t3
            cases e2
            cases e1 with
            | @su _ b d _ _ _ _ hi hn =>
            cases e3 with
            | @sl _ b2 d2 _ _ _ hj =>
            obtain ⟨o, hob, us, sp, fz, hv, rfl, rfl, hz⟩ := hr.blk hi hB
            obtain ⟨o2, hob2, us2, sp2, fz2, hv2, rfl, rfl, hz2⟩ := hr.blk hj hC
            simp only at hz hz2
            subst hz2
            cases hv2 with
            | cons y0 s1 =>
            cases s1 with
            | cons y1 s2 =>
            cases s2
            rename_i u0 u1
            have hne : b2 ≠ b := fun e => hij' (hr.inj hi (by rw [← e]; exact hj) hB hC rfl rfl)
            have hBb : Blk w b 31 (us ++ sp) := hob
            have hBd : Blk w b2 31 [u0, u1] := hob2
            have hul := hv.length
            have h1 : ∀ v ∈ (us ++ sp).take (len * 2), v.oneCell' = true := by
              rw [List.take_append_of_le_length (by omega)]
              exact oneA_VRs ho (hv.take _)
            have hx : ∀ v ∈ [u0, u1], v.oneCell' = true := oneA_VRs (by simp [ho0, ho1]) (.cons y0 (.cons y1 .nil))
            have hmid : ((us ++ sp).drop (k * 2)).take ((len - k) * 2) = (us.drop (k * 2)).take ((len - k) * 2) := by
              rw [List.drop_append_of_le_length (by omega), List.take_append_of_le_length (by simp; omega)]
            have hhead : (us ++ sp).take (k * 2) = us.take (k * 2) := List.take_append_of_le_length (by omega)
            have hul2 : (us.take (k * 2) ++ ([u0, u1] ++ (us.drop (k * 2)).take ((len - k) * 2))).length = (len + 1) * 2 := by simp; omega
            have hnew : VRs ρ (insL l len k x0 x1) (us.take (k * 2) ++ ([u0, u1] ++ (us.drop (k * 2)).take ((len - k) * 2))) :=
              (hv.take _).append ((VRs.cons y0 (.cons y1 .nil)).append ((hv.drop _).take _))
            have hll' : len * 2 ≤ (us ++ sp).length := by simp; omega
            by_cases hroom : len + 1 ≤ d - 0
            · refine (insert_shift w b b2 len (d - 0) k (us ++ sp) u0 u1 hBb hBd hne hk hroom (by omega) (by simpa using hz) h1 hx).mono fun e w' ⟨he, hw⟩ => ?_
              subst he hw
              have hB1 := Blk.setCells (((us ++ sp).drop (k * 2)).take ((len - k) * 2)) ((k + 1) * 2) (Blk.drew hBb) (by simp; simp at hz; omega)
              have hB2 := Blk.setCells [u0, u1] (k * 2) hB1 (by simp; simp at hz; omega)
              have hfr : Fr (fun y => y = b) w ((w.drew.setCells b ((k + 1) * 2) (((us ++ sp).drop (k * 2)).take ((len - k) * 2))).setCells b (k * 2) [u0, u1]) :=
                Fr.setCells _ _ (Fr.setCells _ _ (Fr.refl _ _).drew (.inl rfl)) (.inl rfl)
              have hq := fun hbr => HR.rename (B' := .mem 31 (some 2) (insL l len k x0 x1)) hr hi hB rfl hB2 hbr hfr
              obtain ⟨q1, q2⟩ := hq (by
                refine ⟨_, (us ++ sp).drop ((len + 1) * 2), (0, 0), hnew.mono (Env.le_set (hr.top (Nat.le_refl _)).1 _), ?_, rfl, ?_⟩
                rotate_left
                · simp at hul2 hz ⊢
                  omega
                · exact congrArg (fun L => Obj.cells (List.toArray L) 31 (0, 0)) (ins_shape (us ++ sp) len k u0 u1 _ _ hmid.symm hhead.symm hk (by simpa using hll')))
              exact ⟨_, _, rfl, .su 0 _ 0 _ (Env.set_same _ _ _) ⟨Nat.le_refl _, hroom⟩, q1, q2⟩
            · refine (insert_grow w b b2 len (d - 0) k (us ++ sp) u0 u1 hBb hBd hk (by omega) (by omega) (by omega) (by simpa using hz) h1 hx).mono fun e w' ⟨G, R, hG, hGm, hRl, hRt, he, hw⟩ => ?_
              subst he hw
              have hN0 : Blk ((w.alloc (.cells R.toArray 31)).drew) w.heap.size 31 R := Blk.new w _ R
              have hN1 := Blk.setCells [u0, u1] (k * 2) hN0 (by rw [hRl]; simp; omega)
              have hN1l : (R.take (k * 2) ++ [u0, u1] ++ R.drop (k * 2 + [u0, u1].length)).length = G * 2 := by simp; omega
              have hml : (((us ++ sp).drop (k * 2)).take ((len - k) * 2)).length = (len - k) * 2 := by simp; omega
              have hN2 := Blk.setCells (((us ++ sp).drop (k * 2)).take ((len - k) * 2)) ((k + 1) * 2) (Blk.drew hN1) (by rw [hN1l, hml]; omega)
              have hfr : Fr No w ((((w.alloc (.cells R.toArray 31)).drew.setCells w.heap.size (k * 2) [u0, u1]).drew).setCells w.heap.size ((k + 1) * 2) (((us ++ sp).drop (k * 2)).take ((len - k) * 2))) :=
                Fr.setCells _ _ (Fr.setCells _ _ ((Fr.refl No w).alloc _).drew (.inr (Nat.le_refl _))).drew (.inr (Nat.le_refl _))
              have hq := fun hbr hsz => HR.rename' (d := G) (B' := .mem 31 (some 2) (insL l len k x0 x1)) hr hi hB rfl hN2 hbr hfr hsz
              obtain ⟨q1, q2⟩ := hq (by
                refine ⟨_, (R.take (k * 2) ++ [u0, u1] ++ R.drop (k * 2 + [u0, u1].length)).drop ((k + 1) * 2 + (((us ++ sp).drop (k * 2)).take ((len - k) * 2)).length), (0, 0), hnew.mono (Env.le_set (hr.top (Nat.le_refl _)).1 _), ?_, rfl, ?_⟩
                rotate_left
                · rw [List.length_append, hul2, List.length_drop, hN1l, hml]
                  omega
                · refine congrArg (fun L => Obj.cells (List.toArray L) 31 (0, 0)) ?_
                  congr 1
                  rw [hmid, ← List.append_assoc, ← hhead, ← hRt]
                  congr 1
                  rw [List.take_left' (by simp; omega)]) hN2.lt
              exact ⟨_, _, rfl, .su 0 _ 0 _ (Env.set_same _ _ _) ⟨Nat.le_refl _, by omega⟩, q1, q2⟩
        · cases h
      · cases h
    · cases h
end Ev
end Go.Proofs.Ytnjhocjgpppeaaa
