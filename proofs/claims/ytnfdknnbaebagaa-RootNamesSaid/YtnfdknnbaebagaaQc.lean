/-
  Texts of this claim, laid together: Ha, Rn.
-/
import Derived.Test.YtnfdknnbaebagaaQb

namespace Go.Proofs.Ytnfdknnbaebagaa
open Go Go.RowKit
namespace Ev
theorem hook_if {P : Program} {F : FuncId} {fn : Func} (ht : (P.funcs.toList.all fun fn => !(fn.name == "runtime.NumGoroutine")) = true) (hF : P.funcs[F]? = some fn) (hb : fn.body.isSome = true) {K : List AV → Tr AB → Nat → Option (AV × Tr AB × Nat)}
   (h : ∀ {args H n x H' n'}, K args H n = some (x, H', n') → ∀ {w0 ρ w vs}, HR w0 ρ H n w → VRs ρ args vs → Calls P F vs.toArray w (fun e w' => ∃ ρ' v, e = .returned v ∧ VR ρ' x v ∧ HR w0 ρ' H' n' w' ∧ Ext ρ ρ' H H' n n')) :
   HKok P (fun f args H n => cond (Nat.beq f F) (K args H n) none) := by
 intro f args H n x H' n' hk
 simp only at hk
 cases hf : Nat.beq f F with
 | false => rw [hf] at hk; cases hk
 | true =>
   rw [hf, cond_true] at hk
   have hf' : f = F := by simpa using hf
   subst hf'
   exact ⟨fun xs w => hook_call ht hF hb xs w, fun hr hvs => h hk hr hvs⟩
def jencK (args : List AV) (H : Tr AB) (n : Nat) : Option (AV × Tr AB × Nat) :=
 match args with
 | [x, y, p] => match natA .u64 18446744073709551616 x, natA .u64 18446744073709551616 y, winA p H with
   | some e, some k, some bs => cond (recOk k bs.length)
       (some (.tup [.su n 0 128 0 128, .v (.int .i64 0)], tput H n (.mem 5 (some 1) (cellsB (recBytes e k bs))), n + 1))
       (some (.tup [.v (.slice none 0 0), .v (.int .i64 80)], H, n))
   | _, _, _ => none
 | _ => none
def jdecK (args : List AV) (H : Tr AB) (n : Nat) : Option (AV × Tr AB × Nat) :=
 match args with
 | [p] => match winA p H with
   | some bs => cond (Nat.ble bs.length 1000)
       (match (decRecOf bs).p with
         | [] => some (.tup [.v (.int .u64 (decRecOf bs).e), .v (.int .u64 (decRecOf bs).n), .s0, .v (.int .i64 (decRecE bs))], H, n)
         | b :: r => some (.tup [.v (.int .u64 (decRecOf bs).e), .v (.int .u64 (decRecOf bs).n), .su n 0 (b :: r).length 0 (b :: r).length, .v (.int .i64 (decRecE bs))], tput H n (.mem 5 (some 1) (cellsB (b :: r))), n + 1)) none
   | none => none
 | _ => none
def rootA (x : AV) : Option RootD :=
 match x with
 | .agg [a, b, c] => match natA .u64 18446744073709551616 a, b, natA .u32 4294967296 c with
   | some n, .v (.int .i64 L), some s => some ⟨n, L, s⟩
   | _, _, _ => none
 | .v (.agg ⟨[.int .u64 (.ofNat n), .int .i64 L, .int .u32 (.ofNat s)]⟩) => cond (Nat.blt n 18446744073709551616 && Nat.blt s 4294967296) (some ⟨n, L, s⟩) none
 | _ => none
theorem rootA_sound {ρ : Env} {x : AV} {u : Value} {r : RootD} (h : rootA x = some r) (hx : VR ρ x u) : u = .agg r.cells.toArray ∧ r.Fits := by
 unfold rootA at h
 split at h
 · rename_i a b c
   split at h
   · rename_i n L s hn hs
     cases h
     cases hx with
     | agg e =>
     cases e with
     | cons e1 t1 =>
     cases t1 with
     | cons e2 t2 =>
     cases t2 with
     | cons e3 t3 =>
     cases t3
     cases e2
     obtain ⟨rfl, hn'⟩ := natA_sound hn e1
     obtain ⟨rfl, hs'⟩ := natA_sound hs e3
     exact ⟨rfl, ⟨hn', hs'⟩⟩
   · cases h
 · rename_i n L s
   cases hx
   cases hc : (Nat.blt n 18446744073709551616 && Nat.blt s 4294967296) with
   | false => rw [hc] at h; cases h
   | true =>
     rw [hc] at h
     cases h
     simp only [Bool.and_eq_true, Nat.blt_eq] at hc
     exact ⟨rfl, ⟨hc.1, hc.2⟩⟩
 · cases h
def rencK (args : List AV) (H : Tr AB) (n : Nat) : Option (AV × Tr AB × Nat) :=
 match args with
 | [x] => match rootA x with
   | some r => cond r.ok
       (some (.tup [.su n 0 128 0 128, .v (.int .i64 0)], tput H n (.mem 5 (some 1) (cellsB (rootBytes r))), n + 1))
       (some (.tup [.v (.slice none 0 0), .v (.int .i64 60)], H, n))
   | _ => none
 | _ => none
def rencHook : Hook := fun f args H n => cond (Nat.beq f 9) (rencK args H n) none
theorem rencHook_ok : HKok Try.prog rencHook := by
 refine hook_if (K := rencK) tab Try.func9 (by kernel_rfl) ?_
 intro args H n x H' n' h w0 ρ w vs hr hvs
 unfold rencK at h
 split at h
 · split at h
   · rename_i r hra
     cases hvs with
     | cons e1 t1 =>
     cases t1
     obtain ⟨rfl, hfit⟩ := rootA_sound hra e1
     cases hc : r.ok with
     | true =>
       rw [hc, cond_true] at h
       simp only [Option.some.injEq, Prod.mk.injEq] at h
       obtain ⟨rfl, rfl, rfl⟩ := h
       refine (encode_ok r hfit hc w).mono ?_
       rintro o w' ⟨g, cg, rfl, hown, hg, hfr⟩
       obtain ⟨q1, q2, q3⟩ := hr.newOwn hfr hown hg (VRs.of_vals _)
       exact ⟨_, _, rfl, .tup (.cons q3 (.cons (.v _) .nil)), q1, q2⟩
     | false =>
       rw [hc, cond_false] at h
       simp only [Option.some.injEq, Prod.mk.injEq] at h
       obtain ⟨rfl, rfl, rfl⟩ := h
       refine (encode_bad r hc w).mono ?_
       rintro o w' ⟨rfl, hfr⟩
       exact ⟨ρ, _, rfl, .tup (.cons (.v _) (.cons (.v _) .nil)), hr.old hfr, Ext.refl _ _ _⟩
   · cases h
 · cases h
def rdecK (args : List AV) (H : Tr AB) (n : Nat) : Option (AV × Tr AB × Nat) :=
 match args with
 | [p] => match winA p H with
   | some bs => cond (Nat.ble bs.length 1000) (some (.tup [ofV (decV bs), .v (.int .i64 (decE bs))], H, n)) none
   | none => none
 | _ => none
def rdecHook : Hook := fun f args H n => cond (Nat.beq f 8) (rdecK args H n) none
theorem rdecHook_ok : HKok Try.prog rdecHook := by
 refine hook_if (K := rdecK) tab Try.func8 (by kernel_rfl) ?_
 intro args H n x H' n' h w0 ρ w vs hr hvs
 unfold rdecK at h
 split at h
 · split at h
   · rename_i bs hp
     cases hvs with
     | cons e1 t1 =>
     cases t1
     obtain ⟨a, m, c, rfl, rfl, hw⟩ := winA_sound hr hp e1
     cases hc : Nat.ble bs.length 1000 with
     | false => rw [hc] at h; cases h
     | true =>
       rw [hc, cond_true] at h
       simp only [Option.some.injEq, Prod.mk.injEq] at h
       obtain ⟨rfl, rfl, rfl⟩ := h
       refine (decode_any a bs.length c bs w hw (Nat.le_of_ble_eq_true hc)).mono ?_
       rintro o w' ⟨rfl, hfr⟩
       exact ⟨ρ, _, rfl, .tup (.cons (ofV_VR _) (.cons (.v _) .nil)), hr.old hfr, Ext.refl _ _ _⟩
   · cases h
 · cases h
def crcK (args : List AV) (H : Tr AB) (n : Nat) : Option (AV × Tr AB × Nat) :=
 match args with
 | [p] => match winA p H with
   | some bs => cond (Nat.ble bs.length 1000000) (some (.v (.int .u32 (sumOf bs : Nat)), H, n)) none
   | none => none
 | _ => none
def crcHook : Hook := fun f args H n => cond (Nat.beq f 34) (crcK args H n) none
theorem crcHook_ok : HKok Try.prog crcHook := by
 refine hook_if (K := crcK) tab Try.func34 (by kernel_rfl) ?_
 intro args H n x H' n' h w0 ρ w vs hr hvs
 unfold crcK at h
 split at h
 · split at h
   · rename_i bs hp
     cases hvs with
     | cons e1 t1 =>
     cases t1
     obtain ⟨a, m, c, rfl, rfl, hw⟩ := winA_sound hr hp e1
     cases hc : Nat.ble bs.length 1000000 with
     | false => rw [hc] at h; cases h
     | true =>
       rw [hc, cond_true] at h
       simp only [Option.some.injEq, Prod.mk.injEq] at h
       obtain ⟨rfl, rfl, rfl⟩ := h
       refine (crcOf_any a bs.length c bs w hw (Nat.le_of_ble_eq_true hc)).mono ?_
       rintro o w' ⟨rfl, hfr⟩
       exact ⟨ρ, _, rfl, .v _, hr.old hfr, Ext.refl _ _ _⟩
   · cases h
 · cases h
end Ev
end Go.Proofs.Ytnfdknnbaebagaa
namespace Go.Proofs.Ytnfdknnbaebagaa.RRootNames
open Go.ChangeShapes Go.WideShapes Go.ChangeAt Go.RowKit
theorem tab : (Try.prog.funcs.toList.all fun fn => !(fn.name == "runtime.NumGoroutine")) = true := by kernel_rfl
theorem mix : Try.prog.follows .mixedOrders = true := Try.checked.mixed
def hkS : Ev.Hook := Ev.hkOr Ev.waitsHook (Ev.hkOr Ev.rencHook (Ev.hkOr Ev.rdecHook Ev.crcHook))
theorem hkS_ok : Ev.HKok Try.prog hkS := Ev.hkOr_ok Ev.waitsHook_ok (Ev.hkOr_ok Ev.rencHook_ok (Ev.hkOr_ok Ev.rdecHook_ok Ev.crcHook_ok))
theorem run : Ev.truth2 hkS Try.prog (Ev.tabOf Try.prog) 3 9193 5400 = true := by kernel_rfl
theorem walk (w : World) : Calls Try.prog 3 #[] w (fun e w' => e = .returned (.bool true) ∧ Fr No w w') := Ev.calls_of_truth2 (Ev.tab_ok tab) hkS_ok mix run w
theorem own : ownKnob Try.prog.godebug = none := by kernel_rfl
set_option maxHeartbeats 800000 in
theorem lifted (os : Os) (started : os.Started) (H : Type) (enc : TypeId × Value → H) :
   ReturnsInHanded {} Try.checked os 3 .any (Rows.rootNamesSpec.pre6 enc Try.prog Try.f3 Rows.rootNamesRow.domain false) (Rows.rootNamesSpec.post enc Try.prog Try.f3 false true false false) := by
 refine returnsInHanded_of_change (C := Try.checked) own started (by kernel_rfl) Try.func3
   (ChangeSpec.witness6 (enc := enc) (C := Try.checked) false ⟨#[], #[], []⟩ 8 (by kernel_rfl) (by kernel_rfl) (by kernel_rfl) (by kernel_rfl)) ?_
 intro W base args ds gs before hval0 hW _ _
 have hW' := hW
 obtain ⟨p, q, hA0, hV, rfl, _, _⟩ := hW
 have hA : DataW.TrodAll enc Try.prog W 0 (fun _ => true) true Try.f3.params.toList args.toList ds p := hA0
 obtain ⟨rfl, rfl⟩ := trodVars_none hV
 rw [Try.params3] at hA
 obtain ⟨en, rfl, rfl⟩ := trodAll_nil hA
 obtain rfl : args = #[] := Array.toList_inj.1 en
 simp only [List.append_nil] at hW'
 refine (walk W).mono fun e W' ⟨he, hf⟩ => ?_
 subst he
 have hbel : Below W.heap.size W W' := hf.below
 have hA2 : DataW.TrodAll enc Try.prog W' 0 (fun _ => true) true Try.f3.params.toList (#[] : Array Value).toList [] [] := by
   rw [Try.params3]; exact hA
 refine ⟨_, rfl, _, _, _, [], _, [], hW', ?_, hA2, rfl, hbel.frame _, fun h => by cases h⟩
 exact trodAll_mk1 (shut_bool Try.underlying4 _)
theorem said : Rows.RootNamesSaid :=
 OpenClaim.holds_of_wide 3 Try.f3 rfl rfl rfl rfl rfl rfl rfl ⟨rfl, rfl, rfl, rfl, rfl⟩ rfl rfl rfl rfl rfl (by kernel_rfl) Try.func3 (by kernel_rfl)
   (of_decide_eq_true (by kernel_rfl)) (by unfold Func.isWrapper; first | (rw [if_pos (by decide +kernel)]; kernel_rfl) | (rw [if_neg (by decide +kernel)]; exact ⟨rfl, rfl⟩))
   (fun os started H enc _ => lifted os started H enc)
#print axioms said
end Go.Proofs.Ytnfdknnbaebagaa.RRootNames
