/-
  What waits, and a sector of one byte, as hooks of the small machine.
-/
import Derived.Test.YtnkjhicokcmmpaaEv
import Derived.Test.YtnkjhicokcmmpaaDa
namespace Go.Proofs.Ytnkjhicokcmmpaa
open Go Go.RowKit
namespace Ev

/-- Insertion, and sorting by it. -/
def insZ (x : Int) : List Int → List Int
  | [] => [x]
  | y :: l => cond (decide (x ≤ y)) (x :: y :: l) (y :: insZ x l)
def isortZ : List Int → List Int
  | [] => []
  | x :: l => insZ x (isortZ l)
theorem insZ_perm (x : Int) : ∀ l, (insZ x l).Perm (x :: l)
  | [] => .refl _
  | y :: l => by
    unfold insZ
    cases decide (x ≤ y) with
    | true => exact .refl _
    | false => exact ((insZ_perm x l).cons y).trans (.swap x y l)
theorem isortZ_perm : ∀ l, (isortZ l).Perm l
  | [] => .refl _
  | x :: l => (insZ_perm x _).trans ((isortZ_perm l).cons x)
theorem insZ_sorted (x : Int) : ∀ l, l.Pairwise (· ≤ ·) → (insZ x l).Pairwise (· ≤ ·)
  | [], _ => by simp [insZ]
  | y :: l, h => by
    unfold insZ
    rw [List.pairwise_cons] at h
    cases hd : decide (x ≤ y) with
    | true =>
      have hxy := of_decide_eq_true hd
      rw [cond_true, List.pairwise_cons, List.pairwise_cons]
      refine ⟨fun z hz => ?_, h⟩
      rcases List.mem_cons.1 hz with rfl | hz
      · exact hxy
      · exact Int.le_trans hxy (h.1 z hz)
    | false =>
      have hxy := of_decide_eq_false hd
      rw [cond_false, List.pairwise_cons]
      refine ⟨fun z hz => ?_, insZ_sorted x l h.2⟩
      rcases List.mem_cons.1 ((insZ_perm x l).mem_iff.1 hz) with rfl | hz
      · omega
      · exact h.1 z hz
theorem isortZ_sorted : ∀ l, (isortZ l).Pairwise (· ≤ ·)
  | [] => .nil
  | x :: l => insZ_sorted x _ (isortZ_sorted l)
theorem sortZ_eq (l : List Int) : sortZ l = isortZ l := by
  have tr : ∀ a b c : Int, leI a b = true → leI b c = true → leI a c = true := fun a b c h1 h2 => by simp only [leI, decide_eq_true_eq] at *; exact Int.le_trans h1 h2
  have to : ∀ a b : Int, (leI a b || leI b a) = true := fun a b => by simp only [leI, Bool.or_eq_true, decide_eq_true_eq]; exact Int.le_total a b
  refine List.Perm.eq_of_pairwise (le := fun a b => a ≤ b) (fun a b _ _ h1 h2 => Int.le_antisymm h1 h2) ((List.pairwise_mergeSort tr to l).imp (fun h => by simpa [leI] using h)) (isortZ_sorted l) ((List.mergeSort_perm l leI).trans (isortZ_perm l).symm)

/-- A map's keys, as ints; each entry's stamp is below the clock, no stamp and no key comes twice. -/
def keysZ : List (Value × AV × Nat) → Option (List Int)
  | [] => some []
  | (.int .i64 k, _, _) :: l => match keysZ l with
    | some r => some (k :: r)
    | none => none
  | _ => none
def wfZ (k : Int) : Bool := (Lit.int .i64 k).wf
def memN (b : Nat) : List Nat → Bool
  | [] => false
  | x :: l => cond (Nat.beq b x) true (memN b l)
def nodupN : List Nat → Bool
  | [] => true
  | x :: l => !memN x l && nodupN l
def memZ (b : Int) : List Int → Bool
  | [] => false
  | x :: l => cond (decide (b = x)) true (memZ b l)
def nodupZ : List Int → Bool
  | [] => true
  | x :: l => !memZ x l && nodupZ l
theorem memN_iff (b : Nat) : ∀ l, memN b l = true ↔ b ∈ l
  | [] => by simp [memN]
  | x :: l => by
    unfold memN
    rw [beq_dec]
    by_cases h : b = x
    · simp [h]
    · simp [h, memN_iff b l]
theorem nodupN_spec : ∀ l, nodupN l = true → l.Nodup
  | [], _ => .nil
  | x :: l, h => by
    simp only [nodupN, Bool.and_eq_true, Bool.not_eq_true'] at h
    exact List.nodup_cons.2 ⟨fun hx => by rw [(memN_iff x l).2 hx] at h; exact absurd h.1 (by simp), nodupN_spec l h.2⟩
theorem memZ_iff (b : Int) : ∀ l, memZ b l = true ↔ b ∈ l
  | [] => by simp [memZ]
  | x :: l => by
    unfold memZ
    by_cases h : b = x
    · simp [h]
    · simp [h, memZ_iff b l]
theorem nodupZ_spec : ∀ l, nodupZ l = true → l.Nodup
  | [], _ => .nil
  | x :: l, h => by
    simp only [nodupZ, Bool.and_eq_true, Bool.not_eq_true'] at h
    exact List.nodup_cons.2 ⟨fun hx => by rw [(memZ_iff x l).2 hx] at h; exact absurd h.1 (by simp), nodupZ_spec l h.2⟩
theorem keysZ_sound {ρ : Env} {l : List (Value × AV × Nat)} {m : List MapEntry} (h : ERs ρ l m) : ∀ {ks : List Int}, keysZ l = some ks → m.map (·.key) = ks.map encZ ∧ m.map (·.born) = l.map (·.2.2) ∧ m.length = ks.length := by
  induction h with
  | nil => intro ks h; simp [keysZ] at h; subst h; exact ⟨rfl, rfl, rfl⟩
  | cons hx t ih =>
    intro ks h
    unfold keysZ at h
    split at h
    · rename_i heq; cases heq
    · rename_i k x' b' l' heq
      cases heq
      split at h
      · rename_i r hr
        cases h
        obtain ⟨h1, h2, h3⟩ := ih hr
        exact ⟨by simp [h1, encZ], by simp [h2], by simp [h3]⟩
      · cases h
    · cases h

/-- Is what the first cell holds a slice of some elements? -/
def someLen : AV → Bool
  | .sl _ _ n _ => Nat.ble 1 n && Nat.ble n 100000
  | .su _ _ n _ _ => Nat.ble 1 n && Nat.ble n 100000
  | _ => false
theorem someLen_sound {ρ : Env} {x : AV} {u : Value} (h : someLen x = true) (hx : VR ρ x u) : ∃ a n c, u = .slice a n c ∧ 0 < n ∧ n ≤ 100000 := by
  unfold someLen at h
  split at h
  · simp only [Bool.and_eq_true, Nat.ble_eq] at h
    cases hx; exact ⟨_, _, _, rfl, h.1, h.2⟩
  · simp only [Bool.and_eq_true, Nat.ble_eq] at h
    cases hx; exact ⟨_, _, _, rfl, h.1, h.2⟩
  · cases h
/-- The contract of Waits. -/
def waitsHook : Hook := fun f args H n =>
  cond (Nat.beq f 50) (match args with
    | [.ptr i 0] => match H.get i with
      | some (.mem _ _ (x0 :: .mp j :: _)) => match H.get j with
        | some (.map l c) => match keysZ l with
          | some ks => cond (someLen x0 && ks.all wfZ && nodupZ ks && nodupN (l.map (·.2.2)) && (l.all fun e => Nat.blt e.2.2 c) && Nat.ble ks.length 100000)
            (match ks with
             | [] => some (.v (.slice none 0 0), H, n)
             | _ => some (.su n 0 ks.length 0 ks.length, tput H n (.mem 3 (some 1) (((isortZ ks).map encZ).map .v)), n + 1)) none
          | none => none
        | _ => none
      | _ => none
    | _ => none) none

theorem tab : (Try.prog.funcs.toList.all fun fn => !(fn.name == "runtime.NumGoroutine")) = true := by kernel_rfl
theorem waitsHook_ok : HKok Try.prog waitsHook := by
  intro f args H n x H' n' h
  unfold waitsHook at h
  cases hf : Nat.beq f 50 with
  | false => simp [hf] at h
  | true =>
    simp only [hf, cond_true] at h
    have hf' : f = 50 := by simpa using hf
    subst hf'
    refine ⟨fun xs w => hook_call tab Try.func50 (by kernel_rfl) xs w, ?_⟩
    intro w0 ρ w vs hr hvs
    split at h
    · rename_i i
      split at h
      · rename_i T z x0 j rest hB
        split at h
        · rename_i l c hM
          split at h
          · rename_i ks hks
            cases hc : (someLen x0 && ks.all wfZ && nodupZ ks && nodupN (l.map (·.2.2)) && (l.all fun e => Nat.blt e.2.2 c) && Nat.ble ks.length 100000) with
            | false => rw [hc] at h; cases h
            | true =>
              rw [hc, cond_true] at h
              simp only [Bool.and_eq_true, Nat.ble_eq, List.all_eq_true, Nat.blt_eq] at hc
              obtain ⟨⟨⟨⟨⟨c1, c2⟩, c3⟩, c4⟩, c5⟩, c6⟩ := hc
              cases hvs with
              | cons e1 t1 =>
              cases t1
              cases e1 with
              | @ptr _ b d _ hi =>
              obtain ⟨o, hob, us, sp, fz, hv, rfl, _, _⟩ := hr.blk hi hB
              cases hv with
              | @cons _ u0 _ _ y0 s1 =>
              cases s1 with
              | @cons _ u1 _ us' y1 s2 =>
              cases y1 with
              | @mp _ mb md hj =>
              obtain ⟨om, hom, es, hes, rfl⟩ := hr.blk hj hM
              obtain ⟨a, nn, cc, rfl, hn0, hn⟩ := someLen_sound c1 y0
              obtain ⟨hk1, hk2, hk3⟩ := keysZ_sound hes hks
              have hm : MapZ w mb ks := by
                refine ⟨es.toArray, c, hom, ⟨fun q hq => ?_, ?_, ?_⟩, ?_, ?_, fun k hk => c2 k hk⟩
                · have : q.born ∈ es.map (·.born) := List.mem_map.2 ⟨q, by simpa using hq, rfl⟩
                  rw [hk2] at this
                  obtain ⟨e, he, hq⟩ := List.mem_map.1 this
                  rw [← hq]; exact c5 e he
                · simp only [hk2]; exact nodupN_spec _ c4
                · simp only [hk1]
                  exact List.Pairwise.map _ (fun x y hxy e => hxy (encZ_inj e)) (nodupZ_spec _ c3)
                · simpa using hk1
                · simp [hk3]; omega
              have h0 : w.cell? ⟨b, 0, none⟩ = some (.slice a nn cc) := by rw [cells_cell hob]; rfl
              have h1 : w.cell? ⟨b, 1, none⟩ = some (.map (some mb)) := by rw [cells_cell hob]; rfl
              refine (waits_ok b mb nn cc a ks w h0 hn0 hn h1 hm).mono ?_
              rintro e w' ⟨v, rfl, hown, hnil, hnew, hfr⟩
              rw [sortZ_eq] at hown
              cases ks with
              | nil =>
                simp only [Option.some.injEq, Prod.mk.injEq] at h
                obtain ⟨rfl, rfl, rfl⟩ := h
                obtain rfl := hnil.2 rfl
                exact ⟨ρ, _, rfl, .v _, hr.old hfr, Ext.refl _ _ _⟩
              | cons k0 kr =>
                simp only [Option.some.injEq, Prod.mk.injEq] at h
                obtain ⟨rfl, rfl, rfl⟩ := h
                rcases hown.cases with ⟨_, e0, _⟩ | ⟨g, cg, rfl⟩
                · cases e0
                · obtain ⟨q1, q2, q3⟩ := hr.newOwn hfr hown (hnew g rfl) (VRs.of_vals _)
                  exact ⟨_, _, rfl, q3, q1, q2⟩
          · cases h
        · cases h
      · cases h
    · cases h

/-- A sector of one byte: by a run of the machine itself, whatever the byte. -/
def allV (c : Int) : List Value := List.replicate 128 (.int .u8 c)
theorem mix : Try.prog.follows .mixedOrders = true := Try.checked.mixed
theorem all_run (c : Int) : runMem hk0 Try.prog 62 [.v (.int .u8 c)] 3600 = some (.sl 0 0 128 128, .mem 5 none ((allV c).map .v)) := by kernel_rfl
theorem all_ok (c : Int) (w : World) : Calls Try.prog 62 #[.int .u8 c] w (fun e w' => ∃ g fz, e = .returned (.slice (some ⟨g, 0, none⟩) 128 128) ∧ w.heap.size ≤ g ∧ w'.heap[g]? = some (.cells (allV c).toArray 5 fz) ∧ unfrozen fz 128 ∧ Fr No w w') := by
  refine (calls_of_runMem tab (hk0_ok _) mix (vs := [.int .u8 c]) (.cons (.v _) .nil) (all_run c) w).mono ?_
  rintro e w' ⟨ρ, v, rfl, hv, hfr, hb⟩
  cases hv with
  | @sl _ b cc _ _ _ hi =>
    obtain ⟨h1, o, ho, us, sp, fz, hus, rfl, hz, hsp⟩ := hb b cc hi
    have := VRs.vals_eq hus
    subst this
    have hsp' : sp = [] := hsp
    subst hsp'
    exact ⟨b, fz, rfl, h1, by simpa using ho, by simpa [allV] using hz, hfr⟩
def allHook : Hook := fun f args H n =>
  cond (Nat.beq f 62) (match args with
    | [.v (.int .u8 c)] => some (.sl n 0 128 128, tput H n (.mem 5 none ((allV c).map .v)), n + 1)
    | _ => none) none
theorem allHook_ok : HKok Try.prog allHook := by
  intro f args H n x H' n' h
  unfold allHook at h
  cases hf : Nat.beq f 62 with
  | false => simp [hf] at h
  | true =>
    simp only [hf, cond_true] at h
    have hf' : f = 62 := by simpa using hf
    subst hf'
    refine ⟨fun xs w => hook_call tab Try.func62 (by kernel_rfl) xs w, ?_⟩
    intro w0 ρ w vs hr hvs
    split at h
    · rename_i c
      simp only [Option.some.injEq, Prod.mk.injEq] at h
      obtain ⟨rfl, rfl, rfl⟩ := h
      cases hvs with
      | cons e1 t1 =>
      cases t1
      cases e1
      refine (all_ok c w).mono ?_
      rintro e w' ⟨g, fz, rfl, hg, ho, hz, hfr⟩
      obtain ⟨q1, q2⟩ := hr.newAt (c := 0) (B := .mem 5 none ((allV c).map .v)) hfr ho hg ⟨allV c, [], fz, VRs.of_vals _, by simp, by simpa [allV] using hz, rfl⟩
      exact ⟨_, _, rfl, .sl 0 128 128 (Env.set_same _ _ _), q1, q2⟩
    · cases h
def hkD : Hook := hkOr waitsHook allHook
theorem hkD_ok : HKok Try.prog hkD := hkOr_ok waitsHook_ok allHook_ok
end Ev
end Go.Proofs.Ytnkjhicokcmmpaa
