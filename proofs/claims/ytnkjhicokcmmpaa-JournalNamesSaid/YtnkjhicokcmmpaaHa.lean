/-
  Records and roots, their sectors, and the sum of bytes, as hooks of the small machine.
-/
import Derived.Test.YtnkjhicokcmmpaaDb
import Derived.Test.YtnkjhicokcmmpaaJf
import Derived.Test.YtnkjhicokcmmpaaRf
namespace Go.Proofs.Ytnkjhicokcmmpaa
open Go Go.RowKit
namespace Ev

theorem hook_if {P : Program} {F : FuncId} {fn : Func} (ht : (P.funcs.toList.all fun fn => !(fn.name == "runtime.NumGoroutine")) = true) (hF : P.funcs[F]? = some fn) (hb : fn.body.isSome = true) {K : List AV → Tr AB → Nat → Option (AV × Tr AB × Nat)}
    (h : ∀ {args H n x H' n'}, K args H n = some (x, H', n') → ∀ {w0 ρ w vs}, HR w0 ρ H n w → VRs ρ args vs → Calls P F vs.toArray w (fun e w' => ∃ ρ' v, e = .returned v ∧ VR ρ' x v ∧ HR w0 ρ' H' n' w' ∧ Ext ρ ρ' H H' n n')) :
    HKok P (fun f args H n => cond (Nat.beq f F) (K args H n) none) := by
  intro f args H n x H' n' hk
  simp only at hk
  cases hf : Nat.beq f F with
  | false => rw [hf] at hk; cases hk
  | true =>
    rw [hf, cond_true] at hk
    have hf' : f = F := by simpa using hf
    subst hf'
    exact ⟨fun xs w => hook_call ht hF hb xs w, fun hr hvs => h hk hr hvs⟩

def jencK (args : List AV) (H : Tr AB) (n : Nat) : Option (AV × Tr AB × Nat) :=
  match args with
  | [x, y, p] => match natA .u64 18446744073709551616 x, natA .u64 18446744073709551616 y, winA p H with
    | some e, some k, some bs => cond (recOk k bs.length)
        (some (.tup [.su n 0 128 0 128, .v (.int .i64 0)], tput H n (.mem 5 (some 1) (cellsB (recBytes e k bs))), n + 1))
        (some (.tup [.v (.slice none 0 0), .v (.int .i64 80)], H, n))
    | _, _, _ => none
  | _ => none
def jencHook : Hook := fun f args H n => cond (Nat.beq f 33) (jencK args H n) none
theorem jencHook_ok : HKok Try.prog jencHook := by
  refine hook_if (K := jencK) tab Try.func33 (by kernel_rfl) ?_
  intro args H n x H' n' h w0 ρ w vs hr hvs
  unfold jencK at h
  split at h
  · rename_i ax ay ap
    split at h
    · rename_i e k bs he hk hp
      cases hvs with
      | cons e1 t1 =>
      cases t1 with
      | cons e2 t2 =>
      cases t2 with
      | cons e3 t3 =>
      cases t3
      obtain ⟨rfl, he'⟩ := natA_sound he e1
      obtain ⟨rfl, hk'⟩ := natA_sound hk e2
      obtain ⟨a, m, c, rfl, rfl, hw⟩ := winA_sound hr hp e3
      cases hc : recOk k bs.length with
      | true =>
        rw [hc, cond_true] at h
        simp only [Option.some.injEq, Prod.mk.injEq] at h
        obtain ⟨rfl, rfl, rfl⟩ := h
        obtain ⟨h1, h2⟩ := recOk_of hc
        refine (jencode_ok e k he' hk' h1 a c bs h2 w hw).mono ?_
        rintro o w' ⟨g, cg, rfl, hown, hg, hfr⟩
        obtain ⟨q1, q2, q3⟩ := hr.newOwn hfr hown hg (VRs.of_vals _)
        exact ⟨_, _, rfl, .tup (.cons q3 (.cons (.v _) .nil)), q1, q2⟩
      | false =>
        rw [hc, cond_false] at h
        simp only [Option.some.injEq, Prod.mk.injEq] at h
        obtain ⟨rfl, rfl, rfl⟩ := h
        refine (jencode_bad e k a bs.length c hc w).mono ?_
        rintro o w' ⟨rfl, hfr⟩
        exact ⟨ρ, _, rfl, .tup (.cons (.v _) (.cons (.v _) .nil)), hr.old hfr, Ext.refl _ _ _⟩
    · cases h
  · cases h

def jdecK (args : List AV) (H : Tr AB) (n : Nat) : Option (AV × Tr AB × Nat) :=
  match args with
  | [p] => match winA p H with
    | some bs => cond (Nat.ble bs.length 1000)
        (match (decRecOf bs).p with
          | [] => some (.tup [.v (.int .u64 (decRecOf bs).e), .v (.int .u64 (decRecOf bs).n), .s0, .v (.int .i64 (decRecE bs))], H, n)
          | b :: r => some (.tup [.v (.int .u64 (decRecOf bs).e), .v (.int .u64 (decRecOf bs).n), .su n 0 (b :: r).length 0 (b :: r).length, .v (.int .i64 (decRecE bs))], tput H n (.mem 5 (some 1) (cellsB (b :: r))), n + 1)) none
    | none => none
  | _ => none
def jdecHook : Hook := fun f args H n => cond (Nat.beq f 35) (jdecK args H n) none
theorem jdecHook_ok : HKok Try.prog jdecHook := by
  refine hook_if (K := jdecK) tab Try.func35 (by kernel_rfl) ?_
  intro args H n x H' n' h w0 ρ w vs hr hvs
  unfold jdecK at h
  split at h
  · rename_i ap
    split at h
    · rename_i bs hp
      cases hvs with
      | cons e1 t1 =>
      cases t1
      obtain ⟨a, m, c, rfl, rfl, hw⟩ := winA_sound hr hp e1
      cases hc : Nat.ble bs.length 1000 with
      | false => rw [hc] at h; cases h
      | true =>
        rw [hc, cond_true] at h
        refine (jdecode_any a bs.length c bs w hw (Nat.le_of_ble_eq_true hc)).mono ?_
        rintro o w' ⟨v, rfl, hin, hfr⟩
        have hown := hin.own
        have hnew := hin.new
        split at h
        · rename_i hr0
          simp only [Option.some.injEq, Prod.mk.injEq] at h
          obtain ⟨rfl, rfl, rfl⟩ := h
          rw [hr0] at hown
          have hv : ∃ a' c', v = .slice a' 0 c' := by
            rcases hown.cases with ⟨e, _⟩ | ⟨g, cg, e⟩
            · exact ⟨_, _, e⟩
            · exact ⟨_, _, e⟩
          obtain ⟨a', c', rfl⟩ := hv
          exact ⟨ρ, _, rfl, .tup (.cons (.v _) (.cons (.v _) (.cons (.s0 _ _) (.cons (.v _) .nil)))), hr.old hfr, Ext.refl _ _ _⟩
        · rename_i b r hr0
          simp only [Option.some.injEq, Prod.mk.injEq] at h
          obtain ⟨rfl, rfl, rfl⟩ := h
          rw [hr0] at hown
          rcases hown.cases with ⟨_, e, _⟩ | ⟨g, cg, rfl⟩
          · cases e
          · obtain ⟨q1, q2, q3⟩ := hr.newOwn hfr hown (hnew g rfl) (VRs.of_vals _)
            exact ⟨_, _, rfl, .tup (.cons (.v _) (.cons (.v _) (.cons q3 (.cons (.v _) .nil)))), q1, q2⟩
    · cases h
  · cases h

/-- A root's fields. -/
def rootA (x : AV) : Option RootD :=
  match x with
  | .agg [a, b, c] => match natA .u64 18446744073709551616 a, b, natA .u32 4294967296 c with
    | some n, .v (.int .i64 L), some s => some ⟨n, L, s⟩
    | _, _, _ => none
  | .v (.agg ⟨[.int .u64 (.ofNat n), .int .i64 L, .int .u32 (.ofNat s)]⟩) => cond (Nat.blt n 18446744073709551616 && Nat.blt s 4294967296) (some ⟨n, L, s⟩) none
  | _ => none
theorem rootA_sound {ρ : Env} {x : AV} {u : Value} {r : RootD} (h : rootA x = some r) (hx : VR ρ x u) : u = .agg r.cells.toArray ∧ r.Fits := by
  unfold rootA at h
  split at h
  · rename_i a b c
    split at h
    · rename_i n L s hn hs
      cases h
      cases hx with
      | agg e =>
      cases e with
      | cons e1 t1 =>
      cases t1 with
      | cons e2 t2 =>
      cases t2 with
      | cons e3 t3 =>
      cases t3
      cases e2
      obtain ⟨rfl, hn'⟩ := natA_sound hn e1
      obtain ⟨rfl, hs'⟩ := natA_sound hs e3
      exact ⟨rfl, ⟨hn', hs'⟩⟩
    · cases h
  · rename_i n L s
    cases hx
    cases hc : (Nat.blt n 18446744073709551616 && Nat.blt s 4294967296) with
    | false => rw [hc] at h; cases h
    | true =>
      rw [hc] at h
      cases h
      simp only [Bool.and_eq_true, Nat.blt_eq] at hc
      exact ⟨rfl, ⟨hc.1, hc.2⟩⟩
  · cases h
def rencK (args : List AV) (H : Tr AB) (n : Nat) : Option (AV × Tr AB × Nat) :=
  match args with
  | [x] => match rootA x with
    | some r => cond r.ok
        (some (.tup [.su n 0 128 0 128, .v (.int .i64 0)], tput H n (.mem 5 (some 1) (cellsB (rootBytes r))), n + 1))
        (some (.tup [.v (.slice none 0 0), .v (.int .i64 60)], H, n))
    | _ => none
  | _ => none
def rencHook : Hook := fun f args H n => cond (Nat.beq f 18) (rencK args H n) none
theorem rencHook_ok : HKok Try.prog rencHook := by
  refine hook_if (K := rencK) tab Try.func18 (by kernel_rfl) ?_
  intro args H n x H' n' h w0 ρ w vs hr hvs
  unfold rencK at h
  split at h
  · split at h
    · rename_i r hra
      cases hvs with
      | cons e1 t1 =>
      cases t1
      obtain ⟨rfl, hfit⟩ := rootA_sound hra e1
      cases hc : r.ok with
      | true =>
        rw [hc, cond_true] at h
        simp only [Option.some.injEq, Prod.mk.injEq] at h
        obtain ⟨rfl, rfl, rfl⟩ := h
        refine (encode_ok r hfit hc w).mono ?_
        rintro o w' ⟨g, cg, rfl, hown, hg, hfr⟩
        obtain ⟨q1, q2, q3⟩ := hr.newOwn hfr hown hg (VRs.of_vals _)
        exact ⟨_, _, rfl, .tup (.cons q3 (.cons (.v _) .nil)), q1, q2⟩
      | false =>
        rw [hc, cond_false] at h
        simp only [Option.some.injEq, Prod.mk.injEq] at h
        obtain ⟨rfl, rfl, rfl⟩ := h
        refine (encode_bad r hc w).mono ?_
        rintro o w' ⟨rfl, hfr⟩
        exact ⟨ρ, _, rfl, .tup (.cons (.v _) (.cons (.v _) .nil)), hr.old hfr, Ext.refl _ _ _⟩
    · cases h
  · cases h
def rdecK (args : List AV) (H : Tr AB) (n : Nat) : Option (AV × Tr AB × Nat) :=
  match args with
  | [p] => match winA p H with
    | some bs => cond (Nat.ble bs.length 1000) (some (.tup [ofV (decV bs), .v (.int .i64 (decE bs))], H, n)) none
    | none => none
  | _ => none
def rdecHook : Hook := fun f args H n => cond (Nat.beq f 20) (rdecK args H n) none
theorem rdecHook_ok : HKok Try.prog rdecHook := by
  refine hook_if (K := rdecK) tab Try.func20 (by kernel_rfl) ?_
  intro args H n x H' n' h w0 ρ w vs hr hvs
  unfold rdecK at h
  split at h
  · split at h
    · rename_i bs hp
      cases hvs with
      | cons e1 t1 =>
      cases t1
      obtain ⟨a, m, c, rfl, rfl, hw⟩ := winA_sound hr hp e1
      cases hc : Nat.ble bs.length 1000 with
      | false => rw [hc] at h; cases h
      | true =>
        rw [hc, cond_true] at h
        simp only [Option.some.injEq, Prod.mk.injEq] at h
        obtain ⟨rfl, rfl, rfl⟩ := h
        refine (decode_any a bs.length c bs w hw (Nat.le_of_ble_eq_true hc)).mono ?_
        rintro o w' ⟨rfl, hfr⟩
        exact ⟨ρ, _, rfl, .tup (.cons (ofV_VR _) (.cons (.v _) .nil)), hr.old hfr, Ext.refl _ _ _⟩
    · cases h
  · cases h
def crcK (args : List AV) (H : Tr AB) (n : Nat) : Option (AV × Tr AB × Nat) :=
  match args with
  | [p] => match winA p H with
    | some bs => cond (Nat.ble bs.length 1000000) (some (.v (.int .u32 (sumOf bs : Nat)), H, n)) none
    | none => none
  | _ => none
def crcHook : Hook := fun f args H n => cond (Nat.beq f 67) (crcK args H n) none
theorem crcHook_ok : HKok Try.prog crcHook := by
  refine hook_if (K := crcK) tab Try.func67 (by kernel_rfl) ?_
  intro args H n x H' n' h w0 ρ w vs hr hvs
  unfold crcK at h
  split at h
  · split at h
    · rename_i bs hp
      cases hvs with
      | cons e1 t1 =>
      cases t1
      obtain ⟨a, m, c, rfl, rfl, hw⟩ := winA_sound hr hp e1
      cases hc : Nat.ble bs.length 1000000 with
      | false => rw [hc] at h; cases h
      | true =>
        rw [hc, cond_true] at h
        simp only [Option.some.injEq, Prod.mk.injEq] at h
        obtain ⟨rfl, rfl, rfl⟩ := h
        refine (crcOf_any a bs.length c bs w hw (Nat.le_of_ble_eq_true hc)).mono ?_
        rintro o w' ⟨rfl, hfr⟩
        exact ⟨ρ, _, rfl, .v _, hr.old hfr, Ext.refl _ _ _⟩
    · cases h
  · cases h
/-- All of them. -/
def hkR : Hook := hkOr waitsHook (hkOr allHook (hkOr jencHook (hkOr jdecHook (hkOr rencHook (hkOr rdecHook crcHook)))))
theorem hkR_ok : HKok Try.prog hkR := hkOr_ok waitsHook_ok (hkOr_ok allHook_ok (hkOr_ok jencHook_ok (hkOr_ok jdecHook_ok (hkOr_ok rencHook_ok (hkOr_ok rdecHook_ok crcHook_ok)))))
end Ev
end Go.Proofs.Ytnkjhicokcmmpaa
