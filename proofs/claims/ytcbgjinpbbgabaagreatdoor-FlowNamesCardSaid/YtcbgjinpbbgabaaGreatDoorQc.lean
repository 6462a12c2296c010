/-
  Texts of this claim, laid together: Jd, Re, Je, Open, Jf, Rf, Ha, Ew, Ex, Ez.
-/
import Derived.Test.YtcbgjinpbbgabaaGreatDoorQb
import Derived.Deep.RegionHeld3
import Derived.Deep.DeepCutAuto
import Derived.Test.YtcbgjinpbbgabaaGreatDoorQa
import Derived.Deep.SlicePairs
import Derived.ProofKit
import Derived.OpenShut
import Derived.Carry
import Derived.Lib.SmallJoins

namespace Go.Proofs.YtcbgjinpbbgabaaGreatDoor
open Go.RowKit Go.Shelf
theorem decRec_of_some {b : List UInt8} {e n : Nat} {p : List UInt8} (h : decRec b = some ⟨e, n, p⟩) : decRecOf b = ⟨e, n, p⟩ ∧ decRecE b = 0 := by
 unfold decRecOf decRecE
 rw [h]
 exact ⟨rfl, rfl⟩
theorem decRec_of_none {b : List UInt8} (h : decRec b = none) : decRecOf b = .zero ∧ decRecE b = 80 := by
 unfold decRecOf decRecE
 rw [h]
 exact ⟨rfl, rfl⟩
theorem OIn.nil (N : Nat) (w : World) : OIn N w (.slice none 0 0) [] := ⟨World.ownsRow_nil _ _ _ _, fun k hk => by simp [Value.ownBlock] at hk⟩
set_option maxRecDepth 100000 in
set_option maxHeartbeats 1000000 in
theorem jdecode_any (a : Option Addr) (n c : Nat) (b : List UInt8) (w : World) (h : Win w a n c (b.map byt)) (hb : n ≤ 1000) :
   Calls Tryz.prog 137 #[.slice a n c] w fun o w' => ∃ v, o = .returned (.tuple #[.int .u64 (decRecOf b).e, .int .u64 (decRecOf b).n, v, .int .i64 (decRecE b)]) ∧ OIn w.heap.size w' v (decRecOf b).p ∧ Fr No w w' := by
 have hbl : b.length = n := by have := h.len; simpa using this
 have hbm : b.length ≤ 1000000 := by omega
 have HBL := Lib.hid hbl
 clear hbl
 go_enter Tryz.func137, Tryz.ntmps137
 go_wp2_with fail
 refine (readN a n c b _ h (by omega)).mono ?_
 rintro o w1 ⟨rb, v, rfl, h1, g1⟩
 go_wp2_with fail
 refine (rrawN w.heap.size rb 0 3 v b hbm _ g1.size h1).mono ?_
 rintro o w2 ⟨u2, c2, m2, p2, cs2, rfl, _, _, _, e2, h2, g2⟩
 have E2 := Lib.hid e2
 clear e2 h1
 go_wp2_with fail
 refine (rnumN w.heap.size rb p2 1 v b hbm (by omega) _ h2).mono ?_
 rintro o w3 ⟨x3, c3, p3, rfl, l3, e3, h3, g3⟩
 have E3 := Lib.hid e3
 clear e3 h2
 go_wp2_with fail
 refine (rnumN w.heap.size rb p3 8 v b hbm (by omega) _ h3).mono ?_
 rintro o w4 ⟨x4, c4, p4, rfl, l4, e4, h4, g4⟩
 have E4 := Lib.hid e4
 clear e4 h3
 go_wp2_with fail
 refine (rnumN w.heap.size rb p4 8 v b hbm (by omega) _ h4).mono ?_
 rintro o w5 ⟨x5, c5, p5, rfl, l5, e5, h5, g5⟩
 have E5 := Lib.hid e5
 clear e5 h4
 have hw3 : wrap64 (x3 : Int) = (x3 : Int) := Go.IntWalk.wrap64_in _ (by simp at l3; omega)
 have hall5 : From w.heap.size w w5 := From.t (g1.no_any) ((From.t g2 g3).t (From.t g4 g5))
 clear g1 g2 g3 g4 g5
 go_wp2_with fail
 refine (rrawN w.heap.size rb p5 x3 v b hbm _ hall5.size h5).mono ?_
 rintro o w6 ⟨u6, c6, m6, p6, p, rfl, o6, m6l, n6, e6, h6, g6⟩
 have E6 := Lib.hid e6
 clear e6 h5 h6
 obtain rfl : m6 = p.length := by have := o6.1; simpa using this.symm
 have hX : b.length = 128 → x3 = recSize b ∧ x4 = wh ((b.drop 4).take 8) ∧ x5 = wh ((b.drop 12).take 8) := by
   intro hl
   obtain ⟨-, -, hp2⟩ := E2.out (by omega)
   obtain ⟨hx3, hp3⟩ := E3.out (by omega)
   obtain ⟨hx4, hp4⟩ := E4.out (by omega)
   obtain ⟨hx5, hp5⟩ := E5.out (by omega)
   unfold recSize
   rw [hx3, hx4, hx5, hp4, hp3, hp2]
   exact ⟨rfl, rfl, rfl⟩
 have hP : b.length = 128 → 20 + x3 ≤ 128 → p = (b.drop 20).take x3 := by
   intro hl hs
   obtain ⟨-, -, hp2⟩ := E2.out (by omega)
   obtain ⟨hx3, hp3⟩ := E3.out (by omega)
   obtain ⟨hx4, hp4⟩ := E4.out (by omega)
   obtain ⟨hx5, hp5⟩ := E5.out (by omega)
   obtain ⟨hx6, _, _⟩ := E6.out (by omega)
   rw [hx6, show p5 = 20 by omega]
 have hlo6 : ∀ k, u6.ownBlock = some k → w.heap.size ≤ k := fun k hk => Nat.le_trans hall5.size (n6 k hk)
 have hall : From w.heap.size w w6 := hall5.t g6
 have hO6 : OIn w.heap.size w6 u6 p := ⟨o6, hlo6⟩
 have l4' : x4 < 2 ^ 64 := by simpa using l4
 have l5' : x5 < 2 ^ 64 := by simpa using l5
 have HX := Lib.hid hX
 have HP := Lib.hid hP
 have HO := Lib.hid hO6
 obtain ⟨au, cu, rfl, wu⟩ := Win.of_own o6
 have HWU := Lib.hid wu
 have HW := Lib.hid h
 clear l3 l4 l5 E2 E3 E4 E5 E6 o6 hlo6 n6 hX hP hO6 g6 hall5 m6l wu h
 rcases Bool.eq_false_or_eq_true (recOk x5 p.length) with hok | hok
 · have h50 : x5 ≠ 0 := by intro h0; simp [recOk, h0] at hok
   have hpl : p.length ≤ 64 := by simp [recOk] at hok; omega
   have HOK := Lib.hid hok
   have H50 := Lib.hid h50
   clear hok h50
   go_wp2_with fail
   refine (jencode_ok x4 x5 l4' l5' H50.out au cu p hpl _ HWU.out).mono ?_
   rintro o w7 ⟨g7, c7, rfl, o7, n7, f7⟩
   have hw7 : Win w7 a n c (b.map byt) := HW.out.old (S := fun k => w.heap.size ≤ k) (hall.t f7.no_any) (fun k hk => by omega)
   obtain ⟨Y, hY⟩ : ∃ Y, Y = recBytes x4 x5 p := ⟨_, rfl⟩
   rw [← hY] at o7
   have HY := Lib.hid hY
   clear hY
   have hO7 := Lib.hid (HO.out.no f7)
   have hfin : Fr No w w7 := (hall.t f7.no_any).no (Nat.le_refl _)
   by_cases heq : Y = b
   · have hd : decide (Y = b) = true := decide_eq_true heq
     have hdec := decRec_of_some (rec_some HX.out HP.out H50.out hpl (by rw [← HY.out]; exact heq))
     have HD := Lib.hid hdec
     clear hdec heq
     go_wp2_with (go_at_call 73; refine (equal_any _ _ 128 c7 n c Y b _ (Win.of_own' o7) hw7).mono ?_; rintro o w8 ⟨rfl, rfl⟩; rw [hd])
     refine bodyPost_ret (v := .tuple #[.int .u64 x4, .int .u64 x5, .slice au p.length cu, .int .i64 0]) (by simp [results, Tryz.results137, go_sem]) rfl ?_
     refine ⟨.slice au p.length cu, ?_, ?_, hfin⟩
     · rw [HD.out.1, HD.out.2]
     · rw [HD.out.1]; exact hO7.out
   · have hd : decide (Y = b) = false := decide_eq_false heq
     have hdec := decRec_of_none (rec_none HX.out HP.out (.inr (by rw [← HY.out]; exact heq)))
     have HD := Lib.hid hdec
     clear hdec heq
     go_wp2_with (go_at_call 73; refine (equal_any _ _ 128 c7 n c Y b _ (Win.of_own' o7) hw7).mono ?_; rintro o w8 ⟨rfl, rfl⟩; rw [hd])
     refine bodyPost_ret (v := .tuple #[.int .u64 0, .int .u64 0, .slice none 0 0, .int .i64 80]) (by simp [results, Tryz.results137, go_sem]) rfl ?_
     refine ⟨.slice none 0 0, ?_, ?_, hfin⟩
     · rw [HD.out.1, HD.out.2]; rfl
     · rw [HD.out.1]; exact OIn.nil _ _
 · have hdec := decRec_of_none (rec_none HX.out HP.out (.inl hok))
   have HD := Lib.hid hdec
   have HOK := Lib.hid hok
   clear hdec hok
   go_wp2_with fail
   refine (jencode_bad x4 x5 au p.length cu HOK.out _).mono ?_
   rintro o w7 ⟨rfl, f7⟩
   have hfin : Fr No w w7 := (hall.t f7.no_any).no (Nat.le_refl _)
   go_wp2
   refine bodyPost_ret (v := .tuple #[.int .u64 0, .int .u64 0, .slice none 0 0, .int .i64 80]) (by simp [results, Tryz.results137, go_sem]) rfl ?_
   refine ⟨.slice none 0 0, ?_, ?_, hfin⟩
   · rw [HD.out.1, HD.out.2]; rfl
   · rw [HD.out.1]; exact OIn.nil _ _


end Go.Proofs.YtcbgjinpbbgabaaGreatDoor
/-
 What is handed in, opened: a type's reading as a predicate; a slice, a struct taken apart. No program in sight.
-/
namespace Go.Proofs.YtcbgjinpbbgabaaGreatDoor
open Go.RowKit
section
variable {P : Program} {w : World} {t : TypeId} {cs : List Value}
end
/-! Arguments by their types. -/
section
open Go.ChangeShapes Go.WideShapes Go.ChangeAt
variable {P : Program} {w : World} {t : TypeId} {r : Reach} {b0 : Nat} {v : Value}
end
end Go.Proofs.YtcbgjinpbbgabaaGreatDoor
namespace Go.Proofs.YtcbgjinpbbgabaaGreatDoor
open Go.RowKit Go.Shelf
theorem recOk_of {n m : Nat} (h : recOk n m = true) : n ≠ 0 ∧ m ≤ 64 := by
 refine ⟨fun h0 => by simp [recOk, h0] at h, by simp [recOk] at h; omega⟩

end Go.Proofs.YtcbgjinpbbgabaaGreatDoor
namespace Go.Proofs.YtcbgjinpbbgabaaGreatDoor
open Go Go.RowKit
namespace Ev
theorem hook_if {P : Program} {F : FuncId} {fn : Func} (ht : (P.funcs.toList.all fun fn => !(fn.name == "runtime.NumGoroutine")) = true) (hF : P.funcs[F]? = some fn) (hb : fn.body.isSome = true) {K : List AV → Tr AB → Nat → Option (AV × Tr AB × Nat)}
   (h : ∀ {args H n x H' n'}, K args H n = some (x, H', n') → ∀ {w0 ρ w vs}, HR w0 ρ H n w → VRs ρ args vs → Calls P F vs.toArray w (fun e w' => ∃ ρ' v, e = .returned v ∧ VR ρ' x v ∧ HR w0 ρ' H' n' w' ∧ Ext ρ ρ' H H' n n')) :
   HKok P (fun f args H n => cond (Nat.beq f F) (K args H n) none) := by
 intro f args H n x H' n' hk
 simp only at hk
 cases hf : Nat.beq f F with
 | false => rw [hf] at hk; cases hk
 | true =>
   rw [hf, cond_true] at hk
   have hf' : f = F := by simpa using hf
   subst hf'
   exact ⟨fun xs w => hook_call ht hF hb xs w, fun hr hvs => h hk hr hvs⟩
def jencK (args : List AV) (H : Tr AB) (n : Nat) : Option (AV × Tr AB × Nat) :=
 match args with
 | [x, y, p] => match natA .u64 18446744073709551616 x, natA .u64 18446744073709551616 y, winA p H with
   | some e, some k, some bs => cond (recOk k bs.length)
       (some (.tup [.su n 0 128 0 128, .v (.int .i64 0)], tput H n (.mem 5 (some 1) (cellsB (recBytes e k bs))), n + 1))
       (some (.tup [.v (.slice none 0 0), .v (.int .i64 80)], H, n))
   | _, _, _ => none
 | _ => none
def jencHook : Hook := fun f args H n => cond (Nat.beq f 171) (jencK args H n) none
theorem jencHook_ok : HKok Tryz.prog jencHook := by
 refine hook_if (K := jencK) tab Tryz.func171 (by kernel_rfl) ?_
 intro args H n x H' n' h w0 ρ w vs hr hvs
 unfold jencK at h
 split at h
 · rename_i ax ay ap
   split at h
   · rename_i e k bs he hk hp
     cases hvs with
     | cons e1 t1 =>
     cases t1 with
     | cons e2 t2 =>
     cases t2 with
     | cons e3 t3 =>
     cases t3
     obtain ⟨rfl, he'⟩ := natA_sound he e1
     obtain ⟨rfl, hk'⟩ := natA_sound hk e2
     obtain ⟨a, m, c, rfl, rfl, hw⟩ := winA_sound hr hp e3
     cases hc : recOk k bs.length with
     | true =>
       rw [hc, cond_true] at h
       simp only [Option.some.injEq, Prod.mk.injEq] at h
       obtain ⟨rfl, rfl, rfl⟩ := h
       obtain ⟨h1, h2⟩ := recOk_of hc
       refine (jencode_ok e k he' hk' h1 a c bs h2 w hw).mono ?_
       rintro o w' ⟨g, cg, rfl, hown, hg, hfr⟩
       obtain ⟨q1, q2, q3⟩ := hr.newOwn hfr hown hg (VRs.of_vals _)
       exact ⟨_, _, rfl, .tup (.cons q3 (.cons (.v _) .nil)), q1, q2⟩
     | false =>
       rw [hc, cond_false] at h
       simp only [Option.some.injEq, Prod.mk.injEq] at h
       obtain ⟨rfl, rfl, rfl⟩ := h
       refine (jencode_bad e k a bs.length c hc w).mono ?_
       rintro o w' ⟨rfl, hfr⟩
       exact ⟨ρ, _, rfl, .tup (.cons (.v _) (.cons (.v _) .nil)), hr.old hfr, Ext.refl _ _ _⟩
   · cases h
 · cases h
def jdecK (args : List AV) (H : Tr AB) (n : Nat) : Option (AV × Tr AB × Nat) :=
 match args with
 | [p] => match winA p H with
   | some bs => cond (Nat.ble bs.length 1000)
       (match (decRecOf bs).p with
         | [] => some (.tup [.v (.int .u64 (decRecOf bs).e), .v (.int .u64 (decRecOf bs).n), .s0, .v (.int .i64 (decRecE bs))], H, n)
         | b :: r => some (.tup [.v (.int .u64 (decRecOf bs).e), .v (.int .u64 (decRecOf bs).n), .su n 0 (b :: r).length 0 (b :: r).length, .v (.int .i64 (decRecE bs))], tput H n (.mem 5 (some 1) (cellsB (b :: r))), n + 1)) none
   | none => none
 | _ => none
def jdecHook : Hook := fun f args H n => cond (Nat.beq f 137) (jdecK args H n) none
theorem jdecHook_ok : HKok Tryz.prog jdecHook := by
 refine hook_if (K := jdecK) tab Tryz.func137 (by kernel_rfl) ?_
 intro args H n x H' n' h w0 ρ w vs hr hvs
 unfold jdecK at h
 split at h
 · rename_i ap
   split at h
   · rename_i bs hp
     cases hvs with
     | cons e1 t1 =>
     cases t1
     obtain ⟨a, m, c, rfl, rfl, hw⟩ := winA_sound hr hp e1
     cases hc : Nat.ble bs.length 1000 with
     | false => rw [hc] at h; cases h
     | true =>
       rw [hc, cond_true] at h
       refine (jdecode_any a bs.length c bs w hw (Nat.le_of_ble_eq_true hc)).mono ?_
       rintro o w' ⟨v, rfl, hin, hfr⟩
       have hown := hin.own
       have hnew := hin.new
       split at h
       · rename_i hr0
         simp only [Option.some.injEq, Prod.mk.injEq] at h
         obtain ⟨rfl, rfl, rfl⟩ := h
         rw [hr0] at hown
         have hv : ∃ a' c', v = .slice a' 0 c' := by
           rcases hown.cases with ⟨e, _⟩ | ⟨g, cg, e⟩
           · exact ⟨_, _, e⟩
           · exact ⟨_, _, e⟩
         obtain ⟨a', c', rfl⟩ := hv
         exact ⟨ρ, _, rfl, .tup (.cons (.v _) (.cons (.v _) (.cons (.s0 _ _) (.cons (.v _) .nil)))), hr.old hfr, Ext.refl _ _ _⟩
       · rename_i b r hr0
         simp only [Option.some.injEq, Prod.mk.injEq] at h
         obtain ⟨rfl, rfl, rfl⟩ := h
         rw [hr0] at hown
         rcases hown.cases with ⟨_, e, _⟩ | ⟨g, cg, rfl⟩
         · cases e
         · obtain ⟨q1, q2, q3⟩ := hr.newOwn hfr hown (hnew g rfl) (VRs.of_vals _)
           exact ⟨_, _, rfl, .tup (.cons (.v _) (.cons (.v _) (.cons q3 (.cons (.v _) .nil)))), q1, q2⟩
   · cases h
 · cases h
def crcK (args : List AV) (H : Tr AB) (n : Nat) : Option (AV × Tr AB × Nat) :=
 match args with
 | [p] => match winA p H with
   | some bs => cond (Nat.ble bs.length 1000000) (some (.v (.int .u32 (sumOf bs : Nat)), H, n)) none
   | none => none
 | _ => none
def crcHook : Hook := fun f args H n => cond (Nat.beq f 76) (crcK args H n) none
theorem crcHook_ok : HKok Tryz.prog crcHook := by
 refine hook_if (K := crcK) tab Tryz.func76 (by kernel_rfl) ?_
 intro args H n x H' n' h w0 ρ w vs hr hvs
 unfold crcK at h
 split at h
 · split at h
   · rename_i bs hp
     cases hvs with
     | cons e1 t1 =>
     cases t1
     obtain ⟨a, m, c, rfl, rfl, hw⟩ := winA_sound hr hp e1
     cases hc : Nat.ble bs.length 1000000 with
     | false => rw [hc] at h; cases h
     | true =>
       rw [hc, cond_true] at h
       simp only [Option.some.injEq, Prod.mk.injEq] at h
       obtain ⟨rfl, rfl, rfl⟩ := h
       refine (crcOf_any a bs.length c bs w hw (Nat.le_of_ble_eq_true hc)).mono ?_
       rintro o w' ⟨rfl, hfr⟩
       exact ⟨ρ, _, rfl, .v _, hr.old hfr, Ext.refl _ _ _⟩
   · cases h
 · cases h
end Ev
end Go.Proofs.YtcbgjinpbbgabaaGreatDoor
namespace Go.Proofs.YtcbgjinpbbgabaaGreatDoor.Ev
open Go Go.RowKit
section
variable {P : Program} {FT : FuncId → Option Func} {HK : Hook} {w0 : Bs}
theorem calls_of_goes {f : FuncId} {s0 : ASt} (hft : FTok P FT) {w : World} (h : ∀ base, ∃ s, isTrue (finalE P FT f s) = true ∧ Goes P ⟨w, No, fun _ => none⟩ base s (Frame.enter P f #[] .normal) [] w) : Calls P f #[] w (fun e w' => e = .returned (.bool true) ∧ Fr No w w') := by
 intro cs
 obtain ⟨s, hfin, fr', cs', w', h1, ρ, hr, hf, hlo, hst⟩ := h cs
 have hfin := isTrue_eq hfin
 unfold finalE at hfin
 split at hfin
 · rename_i g1 hcs hret hds hrg hfnE
   rw [hcs] at hst
   cases hst
   cases hq : Nat.beq s.fr.fn f with
   | false => simp [hq] at hfin
   | true =>
     simp only [hq, cond_true] at hfin
     have hq' : s.fr.fn = f := by simpa using hq
     cases hres : resA P s.fr.T s.H g1.results.toList with
     | none => simp [hres] at hfin
     | some l =>
       simp only [hres, Option.some.injEq] at hfin
       obtain ⟨front, rest, g2, g3, g4⟩ := hf.todo
       rw [hrg] at g4
       obtain ⟨v, hv, hrun⟩ := results_sound hr g4.2 hres
       rw [hfin] at hv
       cases hv
       have hdsr := hf.ds
       rw [hds] at hdsr
       generalize hdf : fr'.defers = dfs at hdsr
       cases hdsr
       refine ⟨.returned _, w', fr', ⟨rfl, hr.fr⟩, h1, hf.fn.trans hq', ?_, hdf, hf.kind, g1, ?_, hrun⟩
       · rw [hf.mode, hret]; rfl
       · rw [hf.fn]; exact hft.fn hfnE
 · cases hfin
theorem start_SR (hft : FTok P FT) {f : FuncId} {s0 : ASt} (h0 : startE FT f = some s0) (w : World) : SR P ⟨w, No, fun _ => none⟩ s0 (Frame.enter P f #[] .normal) [] w := by
 unfold startE at h0
 cases hfn : FT f with
 | none => simp [hfn] at h0
 | some fn =>
   cases hb : fn.body with
   | none => simp [hfn, hb] at h0
   | some body =>
     simp only [hfn, hb, Option.some.injEq] at h0
     have hP := hft.fn hfn
     subst h0
     refine ⟨fun _ => none, ⟨fun h => (by cases h), fun h => (by cases h), fun _ => ⟨rfl, rfl⟩, fun h => (by cases h), Fr.refl _ _, Env.le_refl _⟩, ⟨rfl, rfl, rfl, .nil, .inl ⟨rfl, rfl⟩, [], _, rfl, ?_, rfl, ?_⟩, Nat.le_refl _, .nil _⟩
     · simp only [Frame.enter, hP, Option.bind_some, hb, Option.getD_some]
       exact .cons (.code _) .nil
     · have := argsT_TR (ρ := fun _ => none) VRs.nil fn.ntmps
       have hz : cond (Nat.ble fn.ntmps ([] : List AV).length) ([] : List AV).length fn.ntmps = fn.ntmps := by
         cases h : Nat.ble fn.ntmps ([] : List AV).length with
         | true => have := Nat.le_of_ble_eq_true h; simp at this ⊢; omega
         | false => rfl
       rw [hz] at this
       simpa [Frame.enter, hP, argsT] using this
theorem Goes.trans {base : List Frame} {s s' : ASt} {fr : Frame} {cs : List Frame} {w : World} (h : Goes P w0 base s fr cs w) (k : ∀ {fr' cs' w'}, SR P w0 s fr' cs' w' → Goes P w0 base s' fr' cs' w') : Goes P w0 base s' fr cs w := by
 obtain ⟨fr', cs', w', h1, h2⟩ := h
 obtain ⟨fr2, cs2, w2, h3, h4⟩ := k h2
 exact ⟨fr2, cs2, w2, Steps.trans h1 h3, h4⟩
end
section
universe u
variable {β : Type u}
def fNat (n : Nat) (k : Nat → β) : β := match n with
 | 0 => k 0
 | m + 1 => k (m + 1)
def fInt (z : Int) (k : Int → β) : β := match z with
 | .ofNat n => fNat n fun m => k (.ofNat m)
 | .negSucc n => fNat n fun m => k (.negSucc m)
def fV (x : Value) (k : Value → β) : β := match x with
 | .int a z => fInt z fun y => k (.int a y)
 | .bool b => (match b with | true => k (.bool true) | false => k (.bool false))
 | x => k x
theorem fNat_eq (n : Nat) (k : Nat → β) : fNat n k = k n := by cases n <;> rfl
theorem fInt_eq (z : Int) (k : Int → β) : fInt z k = k z := by
 cases z with
 | ofNat n => simp only [fInt, fNat_eq]
 | negSucc n => simp only [fInt, fNat_eq]
theorem fV_eq (x : Value) (k : Value → β) : fV x k = k x := by
 cases x with
 | int a z => simp only [fV, fInt_eq]
 | bool b => cases b <;> rfl
 | _ => rfl
mutual
def fA : AV → (AV → β) → β
 | .v x, k => fV x fun y => k (.v y)
 | .ptr i o, k => fNat i fun j => fNat o fun p => k (.ptr j p)
 | .sl i o n c, k => fNat i fun j => fNat o fun p => fNat n fun m => fNat c fun d => k (.sl j p m d)
 | .su i o n q r, k => fNat i fun j => fNat o fun p => fNat n fun m => fNat q fun q' => fNat r fun r' => k (.su j p m q' r')
 | .se, k => k .se
 | .s0, k => k .s0
 | .mp i, k => fNat i fun j => k (.mp j)
 | .agg l, k => fL l fun m => k (.agg m)
 | .tup l, k => fL l fun m => k (.tup m)
 | .fn f l m, k => fL l fun l' => fL m fun m' => k (.fn f l' m')
 | .yl i, k => fNat i fun j => k (.yl j)
 | .ifc t x, k => fA x fun y => k (.ifc t y)
def fL : List AV → (List AV → β) → β
 | [], k => k []
 | x :: l, k => fA x fun y => fL l fun m => k (y :: m)
end
mutual
theorem fA_eq : ∀ (x : AV) (k : AV → β), fA x k = k x
 | .v x, k => by simp only [fA, fV_eq]
 | .ptr i o, k => by simp only [fA, fNat_eq]
 | .sl i o n c, k => by simp only [fA, fNat_eq]
 | .su i o n q r, k => by simp only [fA, fNat_eq]
 | .se, _ => rfl
 | .s0, _ => rfl
 | .mp i, k => by simp only [fA, fNat_eq]
 | .agg l, k => by rw [fA, fL_eq]
 | .tup l, k => by rw [fA, fL_eq]
 | .fn f l m, k => by rw [fA, fL_eq, fL_eq]
 | .yl i, k => by simp only [fA, fNat_eq]
 | .ifc t x, k => by rw [fA, fA_eq]
theorem fL_eq : ∀ (l : List AV) (k : List AV → β), fL l k = k l
 | [], _ => rfl
 | x :: l, k => by rw [fL, fA_eq, fL_eq]
end
def fT : Tr AV → (Tr AV → β) → β
 | .e, k => k .e
 | .n l x r, k => fT l fun l' => match x with
   | none => fT r fun r' => k (.n l' none r')
   | some x => fA x fun y => fT r fun r' => k (.n l' (some y) r')
theorem fT_eq : ∀ (t : Tr AV) (k : Tr AV → β), fT t k = k t
 | .e, _ => rfl
 | .n l none r, k => by simp only [fT, fT_eq l, fT_eq r]
 | .n l (some x) r, k => by simp only [fT, fT_eq l, fT_eq r, fA_eq]
def fE : List (Value × AV × Nat) → (List (Value × AV × Nat) → β) → β
 | [], k => k []
 | (a, x, n) :: l, k => fV a fun a' => fA x fun y => fNat n fun m => fE l fun l' => k ((a', y, m) :: l')
theorem fE_eq : ∀ (l : List (Value × AV × Nat)) (k : List (Value × AV × Nat) → β), fE l k = k l
 | [], _ => rfl
 | (a, x, n) :: l, k => by simp only [fE, fV_eq, fA_eq, fNat_eq, fE_eq l]
def fB : AB → (AB → β) → β
 | .mem T z l, k => fL l fun m => k (.mem T z m)
 | .loop st pd fn nt T ps asg bd d, k => fT T fun T' => fNat fn fun fn' => fNat nt fun nt' => fNat d fun d' => k (.loop st pd fn' nt' T' ps asg bd d')
 | .dfd b, k => k (.dfd b)
 | .map l c, k => fE l fun m => fNat c fun d => k (.map m d)
 | .sit s p, k => fNat p fun q => k (.sit s q)
 | .dead, k => k .dead
theorem fB_eq : ∀ (b : AB) (k : AB → β), fB b k = k b
 | .mem T z l, k => by rw [fB, fL_eq]
 | .loop st pd fn nt T ps asg bd d, k => by simp only [fB, fT_eq, fNat_eq]
 | .dfd b, _ => rfl
 | .map l c, k => by simp only [fB, fE_eq, fNat_eq]
 | .sit s p, k => by simp only [fB, fNat_eq]
 | .dead, _ => rfl
def fH : Tr AB → (Tr AB → β) → β
 | .e, k => k .e
 | .n l x r, k => fH l fun l' => match x with
   | none => fH r fun r' => k (.n l' none r')
   | some x => fB x fun y => fH r fun r' => k (.n l' (some y) r')
theorem fH_eq : ∀ (t : Tr AB) (k : Tr AB → β), fH t k = k t
 | .e, _ => rfl
 | .n l none r, k => by simp only [fH, fH_eq l, fH_eq r]
 | .n l (some x) r, k => by simp only [fH, fH_eq l, fH_eq r, fB_eq]
end
section
universe u
variable {β : Type u}
def fF (f : AFr) (k : AFr → β) : β := match f with
 | ⟨fn, nt, T, rg, todo, ds, ret, round, lo⟩ => fNat nt fun nt' => fT T fun T' => fNat lo fun lo' => k ⟨fn, nt', T', rg, todo, ds, ret, round, lo'⟩
theorem fF_eq (f : AFr) (k : AFr → β) : fF f k = k f := by
 obtain ⟨fn, nt, T, rg, todo, ds, ret, round, lo⟩ := f
 simp only [fF, fNat_eq, fT_eq]
def fFs : List AFr → (List AFr → β) → β
 | [], k => k []
 | f :: l, k => fF f fun f' => fFs l fun l' => k (f' :: l')
theorem fFs_eq : ∀ (l : List AFr) (k : List AFr → β), fFs l k = k l
 | [], _ => rfl
 | f :: l, k => by simp only [fFs, fF_eq, fFs_eq l]
end
def nfS (s : ASt) : ASt := match s with
 | ⟨fr, cs, H, n⟩ => fF fr fun fr' => fFs cs fun cs' => fH H fun H' => fNat n fun n' => ⟨fr', cs', H', n'⟩
theorem nfS_eq (s : ASt) : nfS s = s := by
 obtain ⟨fr, cs, H, n⟩ := s
 show (fF fr fun fr' => fFs cs fun cs' => fH H fun H' => fNat n fun n' => ASt.mk fr' cs' H' n') = _
 rw [fF_eq, fFs_eq, fH_eq, fNat_eq]
/-! Words for a state's text. -/
def uN (k : IntKind) : Nat → Nat → List AV
 | 0, _ => []
 | c + 1, n => .v (.int k (.ofNat (n % 256))) :: uN k c (n / 256)
def zN (x : AV) : Nat → List AV
 | 0 => []
 | c + 1 => x :: zN x c
def iN (k : IntKind) : List Nat → List AV
 | [] => []
 | n :: l => .v (.int k (.ofNat n)) :: iN k l
def deadL : Nat → List AB
 | 0 => []
 | n + 1 => .dead :: deadL n
def catL {α : Type} : List (List α) → List α
 | [] => []
 | l :: r => l ++ catL r
def evL {α : Type} : List α → List α
 | [] => []
 | [x] => [x]
 | x :: _ :: l => x :: evL l
def odL {α : Type} : List α → List α
 | [] => []
 | _ :: l => evL l
def ofL : Nat → List AB → Tr AB
 | 0, _ => .e
 | _ + 1, [] => .e
 | f + 1, x :: l => .n (ofL f (evL l)) (some x) (ofL f (odL l))
def ofO : Nat → List (Option AV) → Tr AV
 | 0, _ => .e
 | _ + 1, [] => .e
 | f + 1, x :: l => match ofO f (evL l), x, ofO f (odL l) with
   | .e, none, .e => .e
   | a, y, b => .n a y b
def kidsC : Code → List Code
 | .seq a b => [a, b]
 | .cond _ a b => [a, b]
 | .block _ b => [b]
 | .loop b => [b]
 | .rangeFunc _ _ a b => [a, b]
 | .scope b => [b]
 | _ => []
def subC (c : Code) : List Nat → Code
 | [] => c
 | i :: p => match (kidsC c)[i]? with
   | some d => subC d p
   | none => c
def opsC (c : Code) : Array Oper := match c with
 | .region _ ops _ => ops
 | _ => #[]
def plC (c : Code) (k : Nat) : ARg := .pl (opsC c) ((opsC c).toList.drop k)
def bodyC (P : Program) (f : FuncId) : Code := match tabOf P f with
 | some fn => (match fn.body with | some b => b | none => .skip)
 | none => .skip
def gcT (bits : Nat) : Nat → Nat → Tr AB → Tr AB
 | _, _, .e => .e
 | a, b, .n l x r => .n (gcT bits (2 * a) (a + b) l) (cond (Nat.testBit bits b) x (match x with | some _ => some .dead | none => none)) (gcT bits (2 * a) (2 * a + b) r)
theorem gcT_get (bits : Nat) : ∀ (t : Tr AB) (a b k : Nat), (gcT bits a b t).get k = cond (Nat.testBit bits (a * k + b)) (t.get k) ((t.get k).map fun _ => .dead)
 | .e, a, b, k => by simp [gcT, Tr.get]
 | .n l x r, a, b, k => by
   have hb : ∀ p q : Nat, Nat.beq p q = decide (p = q) := fun p q => by
     rw [Bool.eq_iff_iff]; simp [Nat.beq_eq]
   simp only [gcT, Tr.get, hb]
   by_cases h0 : k = 0
   · subst h0
     simp only [decide_true, cond_true, Nat.mul_zero, Nat.zero_add]
     cases x <;> rfl
   · simp only [h0, decide_false, cond_false]
     by_cases h1 : k % 2 = 1
     · simp only [h1, decide_true, cond_true]
       rw [gcT_get bits l]
       have e : 2 * a * (k / 2) + (a + b) = a * k + b := by
         have : k = 2 * (k / 2) + 1 := by omega
         generalize k / 2 = j at this
         subst this
         rw [Nat.mul_add, Nat.mul_one, Nat.mul_comm 2 a, Nat.mul_assoc]; omega
       rw [e]
     · simp only [h1, decide_false, cond_false]
       rw [gcT_get bits r]
       have e : 2 * a * (k / 2 - 1) + (2 * a + b) = a * k + b := by
         have : k = 2 * (k / 2 - 1) + 2 := by omega
         generalize k / 2 - 1 = j at this
         subst this
         rw [Nat.mul_add, Nat.mul_comm 2 a, Nat.mul_assoc]; omega
       rw [e]
def gcS (bits : Nat) (s : ASt) : ASt := { s with H := gcT bits 1 0 s.H }
theorem gc_get (bits : Nat) (t : Tr AB) (k : Nat) : (gcT bits 1 0 t).get k = cond (Nat.testBit bits k) (t.get k) ((t.get k).map fun _ => .dead) := by
 rw [gcT_get, Nat.one_mul, Nat.add_zero]
section
variable {P : Program} {FT : FuncId → Option Func} {HK : Hook} {w0 : Bs}
def plainG : ARg → Bool
 | .dr .. => false
 | _ => true
theorem FRel.any {ρ : Env} {H H' : Tr AB} {hi : Nat} {live : Bool} {af : AFr} {fr : Frame} (h : FRel P ρ H hi live af fr) (hp : plainG af.rg = true) : FRel P ρ H' hi live af fr := by
 obtain ⟨front, rest, h1, h2, h3⟩ := h.todo
 refine ⟨h.fn, h.kind, h.mode, h.ds, h.ro, front, rest, h1, h2, ?_⟩
 cases hr : af.rg with
 | no => rw [hr] at h3; exact h3
 | pl ops l => rw [hr] at h3; exact h3
 | dr => rw [hr] at hp; cases hp
theorem StackR.any {ρ : Env} {H H' : Tr AB} {hi : Nat} {l : List AFr} {m : List Frame} (h : StackR P ρ H hi l m) (hp : (l.all fun f => plainG f.rg) = true) : StackR P ρ H' hi l m := by
 induction h with
 | nil => exact .nil _
 | cons h hlo t ih =>
   simp only [List.all_cons, Bool.and_eq_true] at hp
   exact .cons (FRel.any h hp.1) hlo (ih hp.2)
theorem SR_gc {s : ASt} {fr : Frame} {cs : List Frame} {w : World} (bits : Nat) (h : SR P w0 s fr cs w) (hc : ((s.fr :: s.cs).all fun f => plainG f.rg) = true) : SR P w0 (gcS bits s) fr cs w := by
 obtain ⟨ρ, hr, hf, hlo, hst⟩ := h
 simp only [List.all_cons, Bool.and_eq_true] at hc
 have old : ∀ {i : Nat} {B : AB}, (gcT bits 1 0 s.H).get i = some B → ∃ C, s.H.get i = some C ∧ (B = C ∨ B = .dead) := by
   intro i B hB
   rw [gc_get] at hB
   cases ht : Nat.testBit bits i with
   | true => rw [ht] at hB; exact ⟨B, hB, .inl rfl⟩
   | false =>
     rw [ht] at hB
     cases hg : s.H.get i with
     | none => rw [hg] at hB; cases hB
     | some C => rw [hg] at hB; cases hB; exact ⟨C, rfl, .inr rfl⟩
 have live : ∀ {i : Nat} {B : AB}, (gcT bits 1 0 s.H).get i = some B → B.live = true → s.H.get i = some B := by
   intro i B hB hl
   obtain ⟨C, h1, rfl | rfl⟩ := old hB
   · exact h1
   · cases hl
 refine ⟨ρ, ⟨fun {i b c B} h1 h2 => ?_, fun h1 h2 h3 h4 h5 h6 => hr.inj h1 h2 (live h3 h5) (live h4 h6) h5 h6, fun {i} hi => ⟨(hr.top hi).1, ?_⟩, hr.base, hr.fr, hr.le⟩, FRel.any hf hc.1, hlo, StackR.any hst hc.2⟩
 · obtain ⟨C, h3, rfl | rfl⟩ := old h2
   · exact hr.blk h1 h3
   · obtain ⟨o, ho, _⟩ := hr.blk h1 h3
     exact ⟨o, ho, trivial⟩
 · show (gcT bits 1 0 s.H).get i = none
   rw [gc_get, (hr.top hi).2]
   cases Nat.testBit bits i <;> rfl
def Reach (P : Program) (s t : ASt) : Prop := ∀ {w0 : Bs} {base : List Frame} {fr : Frame} {cs : List Frame} {w : World}, SR P w0 s fr cs w → Goes P w0 base t fr cs w
theorem Reach.trans {s t u : ASt} (h : Reach P s t) (k : Reach P t u) : Reach P s u := fun q => Goes.trans (h q) fun q' => k q'
theorem Reach.seg (hft : FTok P FT) (hk : HKok P HK) (hmix : P.follows .mixedOrders = true) {k bits : Nat} {s t : ASt} (h : nfS (gcS bits (runE HK P FT k s)) = t) (h1 : ((t.fr :: t.cs).all fun f => plainG f.rg) = true := by rfl) : Reach P s t := fun q => by
 have e : gcS bits (runE HK P FT k s) = t := (nfS_eq _).symm.trans h
 refine Goes.trans (runE_sound hft hk hmix k q) fun {fr' cs' w'} q' => ?_
 have c1 : (((runE HK P FT k s).fr :: (runE HK P FT k s).cs).all fun f => plainG f.rg) = true := by rw [← e] at h1; exact h1
 have := SR_gc bits q' c1
 rw [e] at this
 exact ⟨fr', cs', w', Steps.refl _ _, this⟩
theorem calls_of_reach (hft : FTok P FT) (hk : HKok P HK) (hmix : P.follows .mixedOrders = true) {f : FuncId} {s0 t : ASt} {k : Nat} (h0 : startE FT f = some s0) (h : Reach P s0 t) (hf : isTrue (finalE P FT f (runE HK P FT k t)) = true) (w : World) :
   Calls P f #[] w (fun e w' => e = .returned (.bool true) ∧ Fr No w w') :=
 calls_of_goes hft (s0 := s0) fun base => ⟨_, hf, Goes.trans (h (start_SR hft h0 w)) fun q => runE_sound hft hk hmix k q⟩
end
end Go.Proofs.YtcbgjinpbbgabaaGreatDoor.Ev
namespace Go.Proofs.YtcbgjinpbbgabaaGreatDoor
open Go Go.RowKit
namespace Ev
def flowHook : Hook := hkOr waitsHook (hkOr jdecHook (hkOr jencHook crcHook))
theorem flowHook_ok : HKok Tryz.prog flowHook := hkOr_ok waitsHook_ok (hkOr_ok jdecHook_ok (hkOr_ok jencHook_ok crcHook_ok))
end Ev
end Go.Proofs.YtcbgjinpbbgabaaGreatDoor
