/-
  Texts of this claim, laid together: Jd, Je, Jf, Ha, Yb, Yc, Ye.
-/
import Derived.Test.YtnkjhicokcmmpaaQe
import Derived.Test.YtnkjhicokcmmpaaQd
import Derived.Test.YtnkjhicokcmmpaaQc

/-
  A sector's record: what the program's Decode comes to.
-/
namespace Go.Proofs.Ytnkjhicokcmmpaa
open Go.RowKit Go.Shelf

theorem decRec_of_some {b : List UInt8} {e n : Nat} {p : List UInt8} (h : decRec b = some ⟨e, n, p⟩) : decRecOf b = ⟨e, n, p⟩ ∧ decRecE b = 0 := by
  unfold decRecOf decRecE
  rw [h]
  exact ⟨rfl, rfl⟩
theorem decRec_of_none {b : List UInt8} (h : decRec b = none) : decRecOf b = .zero ∧ decRecE b = 80 := by
  unfold decRecOf decRecE
  rw [h]
  exact ⟨rfl, rfl⟩
theorem OIn.nil (N : Nat) (w : World) : OIn N w (.slice none 0 0) [] := ⟨World.ownsRow_nil _ _ _ _, fun k hk => by simp [Value.ownBlock] at hk⟩

set_option maxRecDepth 100000 in
set_option maxHeartbeats 1000000 in
theorem jdecode_any (a : Option Addr) (n c : Nat) (b : List UInt8) (w : World) (h : Win w a n c (b.map byt)) (hb : n ≤ 1000) :
    Calls Try.prog 35 #[.slice a n c] w fun o w' => ∃ v, o = .returned (.tuple #[.int .u64 (decRecOf b).e, .int .u64 (decRecOf b).n, v, .int .i64 (decRecE b)]) ∧ OIn w.heap.size w' v (decRecOf b).p ∧ Fr No w w' := by
  have hbl : b.length = n := by have := h.len; simpa using this
  have hbm : b.length ≤ 1000000 := by omega
  have HBL := Lib.hid hbl
  clear hbl
  go_enter Try.func35, Try.ntmps35
  go_wp2_with fail
  refine (readN a n c b _ h (by omega)).mono ?_
  rintro o w1 ⟨rb, v, rfl, h1, g1⟩
  go_wp2_with fail
  refine (rrawN w.heap.size rb 0 3 v b hbm _ g1.size h1).mono ?_
  rintro o w2 ⟨u2, c2, m2, p2, cs2, rfl, _, _, _, e2, h2, g2⟩
  have E2 := Lib.hid e2
  clear e2 h1
  go_wp2_with fail
  refine (rnumN w.heap.size rb p2 1 v b hbm (by omega) _ h2).mono ?_
  rintro o w3 ⟨x3, c3, p3, rfl, l3, e3, h3, g3⟩
  have E3 := Lib.hid e3
  clear e3 h2
  go_wp2_with fail
  refine (rnumN w.heap.size rb p3 8 v b hbm (by omega) _ h3).mono ?_
  rintro o w4 ⟨x4, c4, p4, rfl, l4, e4, h4, g4⟩
  have E4 := Lib.hid e4
  clear e4 h3
  go_wp2_with fail
  refine (rnumN w.heap.size rb p4 8 v b hbm (by omega) _ h4).mono ?_
  rintro o w5 ⟨x5, c5, p5, rfl, l5, e5, h5, g5⟩
  have E5 := Lib.hid e5
  clear e5 h4
  have hw3 : wrap64 (x3 : Int) = (x3 : Int) := Go.IntWalk.wrap64_in _ (by simp at l3; omega)
  have hall5 : From w.heap.size w w5 := From.t (g1.no_any) ((From.t g2 g3).t (From.t g4 g5))
  clear g1 g2 g3 g4 g5
  go_wp2_with fail
  refine (rrawN w.heap.size rb p5 x3 v b hbm _ hall5.size h5).mono ?_
  rintro o w6 ⟨u6, c6, m6, p6, p, rfl, o6, m6l, n6, e6, h6, g6⟩
  have E6 := Lib.hid e6
  clear e6 h5 h6
  obtain rfl : m6 = p.length := by have := o6.1; simpa using this.symm
  have hX : b.length = 128 → x3 = recSize b ∧ x4 = wh ((b.drop 4).take 8) ∧ x5 = wh ((b.drop 12).take 8) := by
    intro hl
    obtain ⟨-, -, hp2⟩ := E2.out (by omega)
    obtain ⟨hx3, hp3⟩ := E3.out (by omega)
    obtain ⟨hx4, hp4⟩ := E4.out (by omega)
    obtain ⟨hx5, hp5⟩ := E5.out (by omega)
    unfold recSize
    rw [hx3, hx4, hx5, hp4, hp3, hp2]
    exact ⟨rfl, rfl, rfl⟩
  have hP : b.length = 128 → 20 + x3 ≤ 128 → p = (b.drop 20).take x3 := by
    intro hl hs
    obtain ⟨-, -, hp2⟩ := E2.out (by omega)
    obtain ⟨hx3, hp3⟩ := E3.out (by omega)
    obtain ⟨hx4, hp4⟩ := E4.out (by omega)
    obtain ⟨hx5, hp5⟩ := E5.out (by omega)
    obtain ⟨hx6, _, _⟩ := E6.out (by omega)
    rw [hx6, show p5 = 20 by omega]
  have hlo6 : ∀ k, u6.ownBlock = some k → w.heap.size ≤ k := fun k hk => Nat.le_trans hall5.size (n6 k hk)
  have hall : From w.heap.size w w6 := hall5.t g6
  have hO6 : OIn w.heap.size w6 u6 p := ⟨o6, hlo6⟩
  have l4' : x4 < 2 ^ 64 := by simpa using l4
  have l5' : x5 < 2 ^ 64 := by simpa using l5
  have HX := Lib.hid hX
  have HP := Lib.hid hP
  have HO := Lib.hid hO6
  obtain ⟨au, cu, rfl, wu⟩ := Win.of_own o6
  have HWU := Lib.hid wu
  have HW := Lib.hid h
  clear l3 l4 l5 E2 E3 E4 E5 E6 o6 hlo6 n6 hX hP hO6 g6 hall5 m6l wu h
  rcases Bool.eq_false_or_eq_true (recOk x5 p.length) with hok | hok
  · have h50 : x5 ≠ 0 := by intro h0; simp [recOk, h0] at hok
    have hpl : p.length ≤ 64 := by simp [recOk] at hok; omega
    have HOK := Lib.hid hok
    have H50 := Lib.hid h50
    clear hok h50
    go_wp2_with fail
    refine (jencode_ok x4 x5 l4' l5' H50.out au cu p hpl _ HWU.out).mono ?_
    rintro o w7 ⟨g7, c7, rfl, o7, n7, f7⟩
    have hw7 : Win w7 a n c (b.map byt) := HW.out.old (S := fun k => w.heap.size ≤ k) (hall.t f7.no_any) (fun k hk => by omega)
    obtain ⟨Y, hY⟩ : ∃ Y, Y = recBytes x4 x5 p := ⟨_, rfl⟩
    rw [← hY] at o7
    have HY := Lib.hid hY
    clear hY
    have hO7 := Lib.hid (HO.out.no f7)
    have hfin : Fr No w w7 := (hall.t f7.no_any).no (Nat.le_refl _)
    by_cases heq : Y = b
    · have hd : decide (Y = b) = true := decide_eq_true heq
      have hdec := decRec_of_some (rec_some HX.out HP.out H50.out hpl (by rw [← HY.out]; exact heq))
      have HD := Lib.hid hdec
      clear hdec heq
      go_wp2_with (go_at_call 74; refine (equal_any _ _ 128 c7 n c Y b _ (Win.of_own' o7) hw7).mono ?_; rintro o w8 ⟨rfl, rfl⟩; rw [hd])
      refine bodyPost_ret (v := .tuple #[.int .u64 x4, .int .u64 x5, .slice au p.length cu, .int .i64 0]) (by simp [results, Try.results35, go_sem]) rfl ?_
      refine ⟨.slice au p.length cu, ?_, ?_, hfin⟩
      · rw [HD.out.1, HD.out.2]
      · rw [HD.out.1]; exact hO7.out
    · have hd : decide (Y = b) = false := decide_eq_false heq
      have hdec := decRec_of_none (rec_none HX.out HP.out (.inr (by rw [← HY.out]; exact heq)))
      have HD := Lib.hid hdec
      clear hdec heq
      go_wp2_with (go_at_call 74; refine (equal_any _ _ 128 c7 n c Y b _ (Win.of_own' o7) hw7).mono ?_; rintro o w8 ⟨rfl, rfl⟩; rw [hd])
      refine bodyPost_ret (v := .tuple #[.int .u64 0, .int .u64 0, .slice none 0 0, .int .i64 80]) (by simp [results, Try.results35, go_sem]) rfl ?_
      refine ⟨.slice none 0 0, ?_, ?_, hfin⟩
      · rw [HD.out.1, HD.out.2]; rfl
      · rw [HD.out.1]; exact OIn.nil _ _
  · have hdec := decRec_of_none (rec_none HX.out HP.out (.inl hok))
    have HD := Lib.hid hdec
    have HOK := Lib.hid hok
    clear hdec hok
    go_wp2_with fail
    refine (jencode_bad x4 x5 au p.length cu HOK.out _).mono ?_
    rintro o w7 ⟨rfl, f7⟩
    have hfin : Fr No w w7 := (hall.t f7.no_any).no (Nat.le_refl _)
    go_wp2
    refine bodyPost_ret (v := .tuple #[.int .u64 0, .int .u64 0, .slice none 0 0, .int .i64 80]) (by simp [results, Try.results35, go_sem]) rfl ?_
    refine ⟨.slice none 0 0, ?_, ?_, hfin⟩
    · rw [HD.out.1, HD.out.2]; rfl
    · rw [HD.out.1]; exact OIn.nil _ _

end Go.Proofs.Ytnkjhicokcmmpaa

/-
  A sector's record: what the document's Decode comes to.
-/
namespace Go.Proofs.Ytnkjhicokcmmpaa
open Go.RowKit Go.Shelf

end Go.Proofs.Ytnkjhicokcmmpaa

/-
  The walk through JournalForms.
-/
namespace Go.Proofs.Ytnkjhicokcmmpaa
open Go.RowKit Go.Shelf

theorem recOk_of {n m : Nat} (h : recOk n m = true) : n ≠ 0 ∧ m ≤ 64 := by
  refine ⟨fun h0 => by simp [recOk, h0] at h, by simp [recOk] at h; omega⟩
end Go.Proofs.Ytnkjhicokcmmpaa

/-
  Records and roots, their sectors, and the sum of bytes, as hooks of the small machine.
-/
namespace Go.Proofs.Ytnkjhicokcmmpaa
open Go Go.RowKit
namespace Ev

theorem hook_if {P : Program} {F : FuncId} {fn : Func} (ht : (P.funcs.toList.all fun fn => !(fn.name == "runtime.NumGoroutine")) = true) (hF : P.funcs[F]? = some fn) (hb : fn.body.isSome = true) {K : List AV → Tr AB → Nat → Option (AV × Tr AB × Nat)}
    (h : ∀ {args H n x H' n'}, K args H n = some (x, H', n') → ∀ {w0 ρ w vs}, HR w0 ρ H n w → VRs ρ args vs → Calls P F vs.toArray w (fun e w' => ∃ ρ' v, e = .returned v ∧ VR ρ' x v ∧ HR w0 ρ' H' n' w' ∧ Ext ρ ρ' H H' n n')) :
    HKok P (fun f args H n => cond (Nat.beq f F) (K args H n) none) := by
  intro f args H n x H' n' hk
  simp only at hk
  cases hf : Nat.beq f F with
  | false => rw [hf] at hk; cases hk
  | true =>
    rw [hf, cond_true] at hk
    have hf' : f = F := by simpa using hf
    subst hf'
    exact ⟨fun xs w => hook_call ht hF hb xs w, fun hr hvs => h hk hr hvs⟩

def jencK (args : List AV) (H : Tr AB) (n : Nat) : Option (AV × Tr AB × Nat) :=
  match args with
  | [x, y, p] => match natA .u64 18446744073709551616 x, natA .u64 18446744073709551616 y, winA p H with
    | some e, some k, some bs => cond (recOk k bs.length)
        (some (.tup [.su n 0 128 0 128, .v (.int .i64 0)], tput H n (.mem 5 (some 1) (cellsB (recBytes e k bs))), n + 1))
        (some (.tup [.v (.slice none 0 0), .v (.int .i64 80)], H, n))
    | _, _, _ => none
  | _ => none
def jencHook : Hook := fun f args H n => cond (Nat.beq f 33) (jencK args H n) none
theorem jencHook_ok : HKok Try.prog jencHook := by
  refine hook_if (K := jencK) tab Try.func33 (by kernel_rfl) ?_
  intro args H n x H' n' h w0 ρ w vs hr hvs
  unfold jencK at h
  split at h
  · rename_i ax ay ap
    split at h
    · rename_i e k bs he hk hp
      cases hvs with
      | cons e1 t1 =>
      cases t1 with
      | cons e2 t2 =>
      cases t2 with
      | cons e3 t3 =>
      cases t3
      obtain ⟨rfl, he'⟩ := natA_sound he e1
      obtain ⟨rfl, hk'⟩ := natA_sound hk e2
      obtain ⟨a, m, c, rfl, rfl, hw⟩ := winA_sound hr hp e3
      cases hc : recOk k bs.length with
      | true =>
        rw [hc, cond_true] at h
        simp only [Option.some.injEq, Prod.mk.injEq] at h
        obtain ⟨rfl, rfl, rfl⟩ := h
        obtain ⟨h1, h2⟩ := recOk_of hc
        refine (jencode_ok e k he' hk' h1 a c bs h2 w hw).mono ?_
        rintro o w' ⟨g, cg, rfl, hown, hg, hfr⟩
        obtain ⟨q1, q2, q3⟩ := hr.newOwn hfr hown hg (VRs.of_vals _)
        exact ⟨_, _, rfl, .tup (.cons q3 (.cons (.v _) .nil)), q1, q2⟩
      | false =>
        rw [hc, cond_false] at h
        simp only [Option.some.injEq, Prod.mk.injEq] at h
        obtain ⟨rfl, rfl, rfl⟩ := h
        refine (jencode_bad e k a bs.length c hc w).mono ?_
        rintro o w' ⟨rfl, hfr⟩
        exact ⟨ρ, _, rfl, .tup (.cons (.v _) (.cons (.v _) .nil)), hr.old hfr, Ext.refl _ _ _⟩
    · cases h
  · cases h

def jdecK (args : List AV) (H : Tr AB) (n : Nat) : Option (AV × Tr AB × Nat) :=
  match args with
  | [p] => match winA p H with
    | some bs => cond (Nat.ble bs.length 1000)
        (match (decRecOf bs).p with
          | [] => some (.tup [.v (.int .u64 (decRecOf bs).e), .v (.int .u64 (decRecOf bs).n), .s0, .v (.int .i64 (decRecE bs))], H, n)
          | b :: r => some (.tup [.v (.int .u64 (decRecOf bs).e), .v (.int .u64 (decRecOf bs).n), .su n 0 (b :: r).length 0 (b :: r).length, .v (.int .i64 (decRecE bs))], tput H n (.mem 5 (some 1) (cellsB (b :: r))), n + 1)) none
    | none => none
  | _ => none
def jdecHook : Hook := fun f args H n => cond (Nat.beq f 35) (jdecK args H n) none
theorem jdecHook_ok : HKok Try.prog jdecHook := by
  refine hook_if (K := jdecK) tab Try.func35 (by kernel_rfl) ?_
  intro args H n x H' n' h w0 ρ w vs hr hvs
  unfold jdecK at h
  split at h
  · rename_i ap
    split at h
    · rename_i bs hp
      cases hvs with
      | cons e1 t1 =>
      cases t1
      obtain ⟨a, m, c, rfl, rfl, hw⟩ := winA_sound hr hp e1
      cases hc : Nat.ble bs.length 1000 with
      | false => rw [hc] at h; cases h
      | true =>
        rw [hc, cond_true] at h
        refine (jdecode_any a bs.length c bs w hw (Nat.le_of_ble_eq_true hc)).mono ?_
        rintro o w' ⟨v, rfl, hin, hfr⟩
        have hown := hin.own
        have hnew := hin.new
        split at h
        · rename_i hr0
          simp only [Option.some.injEq, Prod.mk.injEq] at h
          obtain ⟨rfl, rfl, rfl⟩ := h
          rw [hr0] at hown
          have hv : ∃ a' c', v = .slice a' 0 c' := by
            rcases hown.cases with ⟨e, _⟩ | ⟨g, cg, e⟩
            · exact ⟨_, _, e⟩
            · exact ⟨_, _, e⟩
          obtain ⟨a', c', rfl⟩ := hv
          exact ⟨ρ, _, rfl, .tup (.cons (.v _) (.cons (.v _) (.cons (.s0 _ _) (.cons (.v _) .nil)))), hr.old hfr, Ext.refl _ _ _⟩
        · rename_i b r hr0
          simp only [Option.some.injEq, Prod.mk.injEq] at h
          obtain ⟨rfl, rfl, rfl⟩ := h
          rw [hr0] at hown
          rcases hown.cases with ⟨_, e, _⟩ | ⟨g, cg, rfl⟩
          · cases e
          · obtain ⟨q1, q2, q3⟩ := hr.newOwn hfr hown (hnew g rfl) (VRs.of_vals _)
            exact ⟨_, _, rfl, .tup (.cons (.v _) (.cons (.v _) (.cons q3 (.cons (.v _) .nil)))), q1, q2⟩
    · cases h
  · cases h

/-- A root's fields. -/
def rootA (x : AV) : Option RootD :=
  match x with
  | .agg [a, b, c] => match natA .u64 18446744073709551616 a, b, natA .u32 4294967296 c with
    | some n, .v (.int .i64 L), some s => some ⟨n, L, s⟩
    | _, _, _ => none
  | .v (.agg ⟨[.int .u64 (.ofNat n), .int .i64 L, .int .u32 (.ofNat s)]⟩) => cond (Nat.blt n 18446744073709551616 && Nat.blt s 4294967296) (some ⟨n, L, s⟩) none
  | _ => none
theorem rootA_sound {ρ : Env} {x : AV} {u : Value} {r : RootD} (h : rootA x = some r) (hx : VR ρ x u) : u = .agg r.cells.toArray ∧ r.Fits := by
  unfold rootA at h
  split at h
  · rename_i a b c
    split at h
    · rename_i n L s hn hs
      cases h
      cases hx with
      | agg e =>
      cases e with
      | cons e1 t1 =>
      cases t1 with
      | cons e2 t2 =>
      cases t2 with
      | cons e3 t3 =>
      cases t3
      cases e2
      obtain ⟨rfl, hn'⟩ := natA_sound hn e1
      obtain ⟨rfl, hs'⟩ := natA_sound hs e3
      exact ⟨rfl, ⟨hn', hs'⟩⟩
    · cases h
  · rename_i n L s
    cases hx
    cases hc : (Nat.blt n 18446744073709551616 && Nat.blt s 4294967296) with
    | false => rw [hc] at h; cases h
    | true =>
      rw [hc] at h
      cases h
      simp only [Bool.and_eq_true, Nat.blt_eq] at hc
      exact ⟨rfl, ⟨hc.1, hc.2⟩⟩
  · cases h
def rencK (args : List AV) (H : Tr AB) (n : Nat) : Option (AV × Tr AB × Nat) :=
  match args with
  | [x] => match rootA x with
    | some r => cond r.ok
        (some (.tup [.su n 0 128 0 128, .v (.int .i64 0)], tput H n (.mem 5 (some 1) (cellsB (rootBytes r))), n + 1))
        (some (.tup [.v (.slice none 0 0), .v (.int .i64 60)], H, n))
    | _ => none
  | _ => none
def rencHook : Hook := fun f args H n => cond (Nat.beq f 18) (rencK args H n) none
theorem rencHook_ok : HKok Try.prog rencHook := by
  refine hook_if (K := rencK) tab Try.func18 (by kernel_rfl) ?_
  intro args H n x H' n' h w0 ρ w vs hr hvs
  unfold rencK at h
  split at h
  · split at h
    · rename_i r hra
      cases hvs with
      | cons e1 t1 =>
      cases t1
      obtain ⟨rfl, hfit⟩ := rootA_sound hra e1
      cases hc : r.ok with
      | true =>
        rw [hc, cond_true] at h
        simp only [Option.some.injEq, Prod.mk.injEq] at h
        obtain ⟨rfl, rfl, rfl⟩ := h
        refine (encode_ok r hfit hc w).mono ?_
        rintro o w' ⟨g, cg, rfl, hown, hg, hfr⟩
        obtain ⟨q1, q2, q3⟩ := hr.newOwn hfr hown hg (VRs.of_vals _)
        exact ⟨_, _, rfl, .tup (.cons q3 (.cons (.v _) .nil)), q1, q2⟩
      | false =>
        rw [hc, cond_false] at h
        simp only [Option.some.injEq, Prod.mk.injEq] at h
        obtain ⟨rfl, rfl, rfl⟩ := h
        refine (encode_bad r hc w).mono ?_
        rintro o w' ⟨rfl, hfr⟩
        exact ⟨ρ, _, rfl, .tup (.cons (.v _) (.cons (.v _) .nil)), hr.old hfr, Ext.refl _ _ _⟩
    · cases h
  · cases h
def rdecK (args : List AV) (H : Tr AB) (n : Nat) : Option (AV × Tr AB × Nat) :=
  match args with
  | [p] => match winA p H with
    | some bs => cond (Nat.ble bs.length 1000) (some (.tup [ofV (decV bs), .v (.int .i64 (decE bs))], H, n)) none
    | none => none
  | _ => none
def rdecHook : Hook := fun f args H n => cond (Nat.beq f 20) (rdecK args H n) none
theorem rdecHook_ok : HKok Try.prog rdecHook := by
  refine hook_if (K := rdecK) tab Try.func20 (by kernel_rfl) ?_
  intro args H n x H' n' h w0 ρ w vs hr hvs
  unfold rdecK at h
  split at h
  · split at h
    · rename_i bs hp
      cases hvs with
      | cons e1 t1 =>
      cases t1
      obtain ⟨a, m, c, rfl, rfl, hw⟩ := winA_sound hr hp e1
      cases hc : Nat.ble bs.length 1000 with
      | false => rw [hc] at h; cases h
      | true =>
        rw [hc, cond_true] at h
        simp only [Option.some.injEq, Prod.mk.injEq] at h
        obtain ⟨rfl, rfl, rfl⟩ := h
        refine (decode_any a bs.length c bs w hw (Nat.le_of_ble_eq_true hc)).mono ?_
        rintro o w' ⟨rfl, hfr⟩
        exact ⟨ρ, _, rfl, .tup (.cons (ofV_VR _) (.cons (.v _) .nil)), hr.old hfr, Ext.refl _ _ _⟩
    · cases h
  · cases h
def crcK (args : List AV) (H : Tr AB) (n : Nat) : Option (AV × Tr AB × Nat) :=
  match args with
  | [p] => match winA p H with
    | some bs => cond (Nat.ble bs.length 1000000) (some (.v (.int .u32 (sumOf bs : Nat)), H, n)) none
    | none => none
  | _ => none
def crcHook : Hook := fun f args H n => cond (Nat.beq f 67) (crcK args H n) none
theorem crcHook_ok : HKok Try.prog crcHook := by
  refine hook_if (K := crcK) tab Try.func67 (by kernel_rfl) ?_
  intro args H n x H' n' h w0 ρ w vs hr hvs
  unfold crcK at h
  split at h
  · split at h
    · rename_i bs hp
      cases hvs with
      | cons e1 t1 =>
      cases t1
      obtain ⟨a, m, c, rfl, rfl, hw⟩ := winA_sound hr hp e1
      cases hc : Nat.ble bs.length 1000000 with
      | false => rw [hc] at h; cases h
      | true =>
        rw [hc, cond_true] at h
        simp only [Option.some.injEq, Prod.mk.injEq] at h
        obtain ⟨rfl, rfl, rfl⟩ := h
        refine (crcOf_any a bs.length c bs w hw (Nat.le_of_ble_eq_true hc)).mono ?_
        rintro o w' ⟨rfl, hfr⟩
        exact ⟨ρ, _, rfl, .v _, hr.old hfr, Ext.refl _ _ _⟩
    · cases h
  · cases h
/-- All of them. -/
def hkR : Hook := hkOr waitsHook (hkOr allHook (hkOr jencHook (hkOr jdecHook (hkOr rencHook (hkOr rdecHook crcHook)))))
theorem hkR_ok : HKok Try.prog hkR := hkOr_ok waitsHook_ok (hkOr_ok allHook_ok (hkOr_ok jencHook_ok (hkOr_ok jdecHook_ok (hkOr_ok rencHook_ok (hkOr_ok rdecHook_ok crcHook_ok)))))
end Ev
end Go.Proofs.Ytnkjhicokcmmpaa

/-
  The contracts of the root's forms, for the symbolic machine; the chapter's first examples.
-/
namespace Go.Proofs.Ytnkjhicokcmmpaa.Sm
open Go Go.RowKit

/-- A root's fields. -/
def rootP (x : AV) : Option (RootD × Prop) := match aggP x with
  | some [a, b, c] => match intA a, intA b, intA c with
    | some (.u64, n), some (.i64, L), some (.u32, s) => some (⟨n.toNat, L, s.toNat⟩, (0 ≤ n ∧ n < 18446744073709551616) ∧ 0 ≤ s ∧ s < 4294967296)
    | _, _, _ => none
  | _ => none
theorem rootP_sound {ρ : Env} {x : AV} {u : Value} {r : RootD × Prop} (h : rootP x = some r) (hC : r.2) (hx : VR ρ x u) : u = .agg r.1.cells.toArray ∧ r.1.Fits := by
  unfold rootP at h
  split at h
  · rename_i a b c hl
    split at h
    · rename_i n L s ha hb hc
      cases h
      obtain ⟨⟨h1, h2⟩, h3, h4⟩ := hC
      obtain ⟨vs, rfl, k⟩ := aggP_sound hl hx
      cases k with
      | cons e1 k =>
      cases k with
      | cons e2 k =>
      cases k with
      | cons e3 k =>
      cases k
      obtain rfl := intA_sound ha e1
      obtain rfl := intA_sound hb e2
      obtain rfl := intA_sound hc e3
      refine ⟨?_, ⟨?_, ?_⟩⟩
      · simp only [RootD.cells]
        rw [Int.toNat_of_nonneg h1, Int.toNat_of_nonneg h3]
      · show n.toNat < 2 ^ 64
        omega
      · show s.toNat < 2 ^ 32
        omega
    · cases h
  · cases h
def rootAV (r : RootD) : List AV := [.sy (.int .u64 (r.n : Int)), .sy (.int .i64 r.len), .sy (.int .u32 (r.sum : Int))]
theorem rootAV_VR (ρ : Env) (r : RootD) : VR ρ (.agg (rootAV r)) (.agg r.cells.toArray) := .agg (.cons (.sy _) (.cons (.sy _) (.cons (.sy _) .nil)))
def rencB (r : RootD) : List UInt8 := if r.ok = true then rootBytes r else []
def rencE (r : RootD) : Int := if r.ok = true then 0 else 60
def rencF : CF := oneF 18 fun args H n => match args with
  | [x] => match rootP x with
    | some r => some ((.tup [.ow n (rencB r.1).length, .sy (.int .i64 (rencE r.1))], tput H n (.bb 5 (rencB r.1)), n + 1), r.2)
    | none => none
  | _ => none
theorem rencF_ok : FOk Try.prog rencF := by
  refine oneF_ok tab Try.func18 (by kernel_rfl) ?_
  intro args H n r h hc w0 ρ w vs hr hvs
  split at h
  · rename_i ax
    split at h
    · rename_i r hra
      cases h
      cases hvs with
      | cons e1 t1 =>
      cases t1
      obtain ⟨rfl, hfit⟩ := rootP_sound hra hc e1
      simp only [rencB, rencE]
      by_cases hq : r.1.ok = true
      · simp only [if_pos hq]
        have hl := rootBytes_len r.1
        rw [hl]
        refine (encode_ok r.1 hfit hq w).mono ?_
        rintro o w' ⟨g, cg, rfl, hown, hg, hfr⟩
        obtain ⟨sp, hB, h1, h2, h3, h4⟩ := hown.blk
        obtain ⟨q1, q2⟩ := hr.newB (c := cg) (B := .bb 5 (rootBytes r.1)) hfr hB hg rfl ⟨sp, rfl, by simpa using h2, h4⟩
        exact ⟨_, _, rfl, .tup (.cons (.ow 128 (Env.set_same _ _ _) h3 h4) (.cons (.sy _) .nil)), q1, q2⟩
      · simp only [if_neg hq]
        refine (encode_bad r.1 (by simpa using hq) w).mono ?_
        rintro o w' ⟨rfl, hfr⟩
        exact ⟨ρ, _, rfl, .tup (.cons (.ow0 _) (.cons (.sy _) .nil)), (hr.old hfr).put _, Ext.put (hr.old hfr) _⟩
    · cases h
  · cases h
def decR (b : List UInt8) : RootD := (decRoot b).getD .zero
def rdecF : CF := oneF 20 fun args H n => match args with
  | [p] => match bsrc p H with
    | some b => some ((.tup [.agg (rootAV (decR b.1)), .sy (.int .i64 (decE b.1))], H, n), b.2 ∧ b.1.length ≤ 1000)
    | none => none
  | _ => none
theorem rdecF_ok : FOk Try.prog rdecF := by
  refine oneF_ok tab Try.func20 (by kernel_rfl) ?_
  intro args H n r h hc w0 ρ w vs hr hvs
  split at h
  · rename_i ap
    split at h
    · rename_i b hp
      cases h
      cases hvs with
      | cons e1 t1 =>
      cases t1
      obtain ⟨a, c, rfl, hw⟩ := bsrc_sound hr hp hc.1 e1
      refine (decode_any a b.1.length c b.1 w hw hc.2).mono ?_
      rintro o w' ⟨rfl, hfr⟩
      exact ⟨ρ, _, rfl, .tup (.cons (rootAV_VR ρ _) (.cons (.sy _) .nil)), hr.old hfr, Ext.refl _ _ _⟩
    · cases h
  · cases h
/-- The chapter's first examples. -/
theorem alive6_run : @Ev.truth Ev.hkR Try.prog (Ev.tabOf Try.prog) 24 12000 = true := by kernel_rfl
theorem alive6 (w : World) : Calls Try.prog 24 #[] w (fun e w' => e = .returned (.bool true) ∧ Fr No w w') := Ev.calls_of_truth (Ev.tab_ok tab) Ev.hkR_ok mix alive6_run w
end Go.Proofs.Ytnkjhicokcmmpaa.Sm

/-
  RootBack: a root is read from its sector as it was.
-/
namespace Go.Proofs.Ytnkjhicokcmmpaa.Sm
open Go Go.RowKit
noncomputable abbrev SRB : Sy := sym Try.prog (orF (trueF 24) (orF rencF rdecF)) noG
theorem sRB_ok : SRB.Ok Try.prog := sym_ok (orF_ok (trueF_ok tab Try.func24 (by kernel_rfl) alive6) (orF_ok rencF_ok rdecF_ok)) (noG_ok _) tab mix
/-- A byte of a number. -/
def b8 (t k : Nat) : UInt8 := UInt8.ofNat (IntKind.u8.wrap ((t : Int) / 2 ^ (Nat.min k IntKind.u64.bits))).toNat
theorem b8_eq (t k : Nat) (hk : Nat.min k IntKind.u64.bits = k) : b8 t k = UInt8.ofNat (t / 2 ^ k) := by
  unfold b8
  rw [hk]
  have e : ((t : Int) / 2 ^ k) = ((t / 2 ^ k : Nat) : Int) := by simp
  rw [e]
  apply UInt8.toNat_inj.1
  rw [UInt8.toNat_ofNat', UInt8.toNat_ofNat']
  simp [IntKind.wrap, IntKind.signed, IntKind.bits]
  omega
theorem num8 (n : Nat) : num 8 n = [UInt8.ofNat (n / 2 ^ 56), UInt8.ofNat (n / 2 ^ 48), UInt8.ofNat (n / 2 ^ 40), UInt8.ofNat (n / 2 ^ 32), UInt8.ofNat (n / 2 ^ 24), UInt8.ofNat (n / 2 ^ 16), UInt8.ofNat (n / 2 ^ 8), UInt8.ofNat (n / 2 ^ 0)] := by
  simp only [num_succ]
  rfl
theorem tail_sets (r : RootD) (t : Nat) (hB : rencB r = rootBytes r) : List.take (rencB r).length ((((((((((rencB r).set 120 (b8 t 56)).set 121 (b8 t 48)).set 122 (b8 t 40)).set 123 (b8 t 32)).set 124 (b8 t 24)).set 125 (b8 t 16)).set 126 (b8 t 8)).set 127 (b8 t 0))) = rootTail r t := by
  rw [hB, rootBytes_len, b8_eq t 56 rfl, b8_eq t 48 rfl, b8_eq t 40 rfl, b8_eq t 32 rfl, b8_eq t 24 rfl, b8_eq t 16 rfl, b8_eq t 8 rfl, b8_eq t 0 rfl]
  unfold rootTail rootBytes
  have hA : (rootFront r ++ num 4 (sumOf (rootFront r))).length = 120 := by simp [rootFront_len, num_len]
  generalize rootFront r ++ num 4 (sumOf (rootFront r)) = A at hA
  rw [num8 r.n, num8 t]
  rw [List.set_append_right _ _ (by omega), List.set_append_right _ _ (by omega), List.set_append_right _ _ (by omega), List.set_append_right _ _ (by omega), List.set_append_right _ _ (by omega), List.set_append_right _ _ (by omega), List.set_append_right _ _ (by omega), List.set_append_right _ _ (by omega), hA]
  simp only [Nat.reduceSub, List.set_cons_zero, List.set_cons_succ]
  rw [List.take_of_length_le (by simp [hA])]
theorem decE_bad {b : List UInt8} (h : decE b ≠ 0) : decE b = 60 ∧ decR b = .zero := by
  unfold decE decR at *
  cases hd : decRoot b with
  | none => simp
  | some r => simp [hd] at h
theorem decE_good {b : List UInt8} (h : decE b = 0) : rencB (decR b) = b ∧ b.length = 128 ∧ (decR b).Fits ∧ rencE (decR b) = 0 := by
  unfold decE decR at *
  cases hd : decRoot b with
  | none => simp [hd] at h
  | some r =>
    obtain ⟨h1, h2, h3, h4⟩ := dec_root_inv hd
    exact ⟨by show rencB r = b; unfold rencB; rw [if_pos h2]; exact h1, h4, h3, if_pos h2⟩
set_option maxHeartbeats 4000000 in
set_option maxRecDepth 100000 in
theorem rback_to (hS : SRB.Ok Try.prog) (r : RootD) (b : List UInt8) (t : Nat) (hf : r.Fits) (ht : t < 2 ^ 64) : To SRB Try.prog 4 (startOf Try.prog 4 [.agg (rootAV r), .by8 b, .sy (.int .u64 (t : Int))] .e 0) (fun x _ _ => x = .v (.bool true)) := by
  have f1 := hf.n
  have f2 := hf.sum
  refine To.run hS 5000 (C := True ∧ True) (by kernel_rfl) (by (and_intros <;> try first | exact True.intro | with_reducible rfl | omega | with_reducible assumption | (refine fits_i64 ?_ ?_ <;> omega) | (refine fits_u64 ?_ ?_ <;> omega))) ?_
  refine To.brd hS ((500 : Int) < (↑(List.length b) : Int)) (C := True) (by kernel_rfl) (by kernel_rfl) (by (and_intros <;> try first | exact True.intro | with_reducible rfl | omega | with_reducible assumption | (refine fits_i64 ?_ ?_ <;> omega) | (refine fits_u64 ?_ ?_ <;> omega))) ?_ ?_
  · intro h1
    refine To.run hS 5000 (C := True) (by kernel_rfl) (by (and_intros <;> try first | exact True.intro | with_reducible rfl | omega | with_reducible assumption | (refine fits_i64 ?_ ?_ <;> omega) | (refine fits_u64 ?_ ?_ <;> omega))) ?_
    refine To.end (AV.v (Value.bool true)) (by kernel_rfl) ?_
    rfl
  intro h1
  refine To.run hS 5000 (C := ((0 : Int) ≤ (↑(RootD.n r) : Int) ∧ (↑(RootD.n r) : Int) < (18446744073709551616 : Int)) ∧ (0 : Int) ≤ (↑(RootD.sum r) : Int) ∧ (↑(RootD.sum r) : Int) < (4294967296 : Int)) (by kernel_rfl) (by (and_intros <;> try first | exact True.intro | with_reducible rfl | omega | with_reducible assumption | (refine fits_i64 ?_ ?_ <;> omega) | (refine fits_u64 ?_ ?_ <;> omega))) ?_
  refine To.brd hS (rencE r = (0 : Int)) (C := True) (by kernel_rfl) (by kernel_rfl) (by (and_intros <;> try first | exact True.intro | with_reducible rfl | omega | with_reducible assumption | (refine fits_i64 ?_ ?_ <;> omega) | (refine fits_u64 ?_ ?_ <;> omega))) ?_ ?_
  · intro h2
    have h2' : rencE r = 0 := h2
    have hok : r.ok = true := by
      unfold rencE at h2'
      by_cases hq : r.ok = true
      · exact hq
      · rw [if_neg hq] at h2'; cases h2'
    have hB : rencB r = rootBytes r := if_pos hok
    have hl := rootBytes_len r
    have hd := dec_of_root hf hok
    have hT : List.take (rencB r).length (rencB r) = rootBytes r := by rw [List.take_length, hB]
    have e0 : decE (rootBytes r) = 0 := by unfold decE; rw [hd]; rfl
    have r0 : decR (rootBytes r) = r := by unfold decR; rw [hd]; rfl
    refine To.run hS 5000 (C := List.length (rencB r) ≤ List.length (rencB r) ∧ List.length (List.take (List.length (rencB r)) (rencB r)) ≤ (1000 : Nat)) (by kernel_rfl) ?_ ?_; (and_intros <;> try first | exact True.intro | with_reducible rfl | omega | with_reducible assumption | (refine fits_i64 ?_ ?_ <;> omega) | (refine fits_u64 ?_ ?_ <;> omega))
    · rw [hT, hl]; omega
    refine To.non hS (decE (List.take (List.length (rencB r)) (rencB r)) = (0 : Int)) ?_ (C := True) (by kernel_rfl) (by (and_intros <;> try first | exact True.intro | with_reducible rfl | omega | with_reducible assumption | (refine fits_i64 ?_ ?_ <;> omega) | (refine fits_u64 ?_ ?_ <;> omega))) ?_
    · rw [hT]; exact e0
    refine To.run hS 5000 (C := True) (by kernel_rfl) (by (and_intros <;> try first | exact True.intro | with_reducible rfl | omega | with_reducible assumption | (refine fits_i64 ?_ ?_ <;> omega) | (refine fits_u64 ?_ ?_ <;> omega))) ?_
    refine To.non hS ([(↑(RootD.n (decR (List.take (List.length (rencB r)) (rencB r)))) : Int), RootD.len (decR (List.take (List.length (rencB r)) (rencB r))), (↑(RootD.sum (decR (List.take (List.length (rencB r)) (rencB r)))) : Int)] = [(↑(RootD.n r) : Int), RootD.len r, (↑(RootD.sum r) : Int)]) ?_ (C := True) (by kernel_rfl) (by (and_intros <;> try first | exact True.intro | with_reducible rfl | omega | with_reducible assumption | (refine fits_i64 ?_ ?_ <;> omega) | (refine fits_u64 ?_ ?_ <;> omega))) ?_
    · rw [hT, r0]
    refine To.run hS 5000 (C := True) (by kernel_rfl) (by (and_intros <;> try first | exact True.intro | with_reducible rfl | omega | with_reducible assumption | (refine fits_i64 ?_ ?_ <;> omega) | (refine fits_u64 ?_ ?_ <;> omega))) ?_
    refine To.non hS ((↑(List.length (rencB r)) : Int) = (128 : Int)) ?_ (C := True) (by kernel_rfl) (by (and_intros <;> try first | exact True.intro | with_reducible rfl | omega | with_reducible assumption | (refine fits_i64 ?_ ?_ <;> omega) | (refine fits_u64 ?_ ?_ <;> omega))) ?_
    · rw [hB, hl]; rfl
    have hlB : (rencB r).length = 128 := by rw [hB, hl]
    have hlI : ((rencB r).length : Int) = 128 := by rw [hlB]; rfl
    have hwr : ∀ z : Int, IntKind.u8.wrap z < 256 := fun z => by
      have : IntKind.u8.wrap z = z % 256 := by simp [IntKind.wrap, IntKind.signed, IntKind.bits]
      omega
    refine To.run hS 5000 (C := (0 : Int) ≤ IntKind.wrap IntKind.u64 (IntKind.wrap IntKind.i64 ((56 : Int) - IntKind.wrap IntKind.i64 ((8 : Int) * (0 : Int)))) ∧ True ∧ ((0 : Int) ≤ IntKind.wrap IntKind.i64 ((120 : Int) + (0 : Int)) ∧ IntKind.wrap IntKind.i64 ((120 : Int) + (0 : Int)) < (↑(List.length (rencB r)) : Int)) ∧ ((120 : Nat) < List.length (rencB r) ∧ (0 : Int) ≤ IntKind.wrap IntKind.u8 ((↑t : Int) / (2 : Int) ^ (56 : Nat)) ∧ IntKind.wrap IntKind.u8 ((↑t : Int) / (2 : Int) ^ (56 : Nat)) < (256 : Int)) ∧ (0 : Int) ≤ IntKind.wrap IntKind.u64 (IntKind.wrap IntKind.i64 ((56 : Int) - IntKind.wrap IntKind.i64 ((8 : Int) * IntKind.wrap IntKind.i64 ((0 : Int) + (1 : Int))))) ∧ True ∧ ((0 : Int) ≤ IntKind.wrap IntKind.i64 ((120 : Int) + IntKind.wrap IntKind.i64 ((0 : Int) + (1 : Int))) ∧ IntKind.wrap IntKind.i64 ((120 : Int) + IntKind.wrap IntKind.i64 ((0 : Int) + (1 : Int))) < (↑(List.length (rencB r)) : Int)) ∧ ((121 : Nat) < List.length (List.set (rencB r) (120 : Nat) (UInt8.ofNat (Int.toNat (IntKind.wrap IntKind.u8 ((↑t : Int) / (2 : Int) ^ (56 : Nat)))))) ∧ (0 : Int) ≤ IntKind.wrap IntKind.u8 ((↑t : Int) / (2 : Int) ^ (48 : Nat)) ∧ IntKind.wrap IntKind.u8 ((↑t : Int) / (2 : Int) ^ (48 : Nat)) < (256 : Int)) ∧ (0 : Int) ≤ IntKind.wrap IntKind.u64 (IntKind.wrap IntKind.i64 ((56 : Int) - IntKind.wrap IntKind.i64 ((8 : Int) * IntKind.wrap IntKind.i64 (IntKind.wrap IntKind.i64 ((0 : Int) + (1 : Int)) + (1 : Int))))) ∧ True ∧ ((0 : Int) ≤ IntKind.wrap IntKind.i64 ((120 : Int) + IntKind.wrap IntKind.i64 (IntKind.wrap IntKind.i64 ((0 : Int) + (1 : Int)) + (1 : Int))) ∧ IntKind.wrap IntKind.i64 ((120 : Int) + IntKind.wrap IntKind.i64 (IntKind.wrap IntKind.i64 ((0 : Int) + (1 : Int)) + (1 : Int))) < (↑(List.length (rencB r)) : Int)) ∧ ((122 : Nat) < List.length (List.set (List.set (rencB r) (120 : Nat) (UInt8.ofNat (Int.toNat (IntKind.wrap IntKind.u8 ((↑t : Int) / (2 : Int) ^ (56 : Nat)))))) (121 : Nat) (UInt8.ofNat (Int.toNat (IntKind.wrap IntKind.u8 ((↑t : Int) / (2 : Int) ^ (48 : Nat)))))) ∧ (0 : Int) ≤ IntKind.wrap IntKind.u8 ((↑t : Int) / (2 : Int) ^ (40 : Nat)) ∧ IntKind.wrap IntKind.u8 ((↑t : Int) / (2 : Int) ^ (40 : Nat)) < (256 : Int)) ∧ (0 : Int) ≤ IntKind.wrap IntKind.u64 (IntKind.wrap IntKind.i64 ((56 : Int) - IntKind.wrap IntKind.i64 ((8 : Int) * IntKind.wrap IntKind.i64 (IntKind.wrap IntKind.i64 (IntKind.wrap IntKind.i64 ((0 : Int) + (1 : Int)) + (1 : Int)) + (1 : Int))))) ∧ True ∧ ((0 : Int) ≤ IntKind.wrap IntKind.i64 ((120 : Int) + IntKind.wrap IntKind.i64 (IntKind.wrap IntKind.i64 (IntKind.wrap IntKind.i64 ((0 : Int) + (1 : Int)) + (1 : Int)) + (1 : Int))) ∧ IntKind.wrap IntKind.i64 ((120 : Int) + IntKind.wrap IntKind.i64 (IntKind.wrap IntKind.i64 (IntKind.wrap IntKind.i64 ((0 : Int) + (1 : Int)) + (1 : Int)) + (1 : Int))) < (↑(List.length (rencB r)) : Int)) ∧ ((123 : Nat) < List.length (List.set (List.set (List.set (rencB r) (120 : Nat) (UInt8.ofNat (Int.toNat (IntKind.wrap IntKind.u8 ((↑t : Int) / (2 : Int) ^ (56 : Nat)))))) (121 : Nat) (UInt8.ofNat (Int.toNat (IntKind.wrap IntKind.u8 ((↑t : Int) / (2 : Int) ^ (48 : Nat)))))) (122 : Nat) (UInt8.ofNat (Int.toNat (IntKind.wrap IntKind.u8 ((↑t : Int) / (2 : Int) ^ (40 : Nat)))))) ∧ (0 : Int) ≤ IntKind.wrap IntKind.u8 ((↑t : Int) / (2 : Int) ^ (32 : Nat)) ∧ IntKind.wrap IntKind.u8 ((↑t : Int) / (2 : Int) ^ (32 : Nat)) < (256 : Int)) ∧ (0 : Int) ≤ IntKind.wrap IntKind.u64 (IntKind.wrap IntKind.i64 ((56 : Int) - IntKind.wrap IntKind.i64 ((8 : Int) * IntKind.wrap IntKind.i64 (IntKind.wrap IntKind.i64 (IntKind.wrap IntKind.i64 (IntKind.wrap IntKind.i64 ((0 : Int) + (1 : Int)) + (1 : Int)) + (1 : Int)) + (1 : Int))))) ∧ True ∧ ((0 : Int) ≤ IntKind.wrap IntKind.i64 ((120 : Int) + IntKind.wrap IntKind.i64 (IntKind.wrap IntKind.i64 (IntKind.wrap IntKind.i64 (IntKind.wrap IntKind.i64 ((0 : Int) + (1 : Int)) + (1 : Int)) + (1 : Int)) + (1 : Int))) ∧ IntKind.wrap IntKind.i64 ((120 : Int) + IntKind.wrap IntKind.i64 (IntKind.wrap IntKind.i64 (IntKind.wrap IntKind.i64 (IntKind.wrap IntKind.i64 ((0 : Int) + (1 : Int)) + (1 : Int)) + (1 : Int)) + (1 : Int))) < (↑(List.length (rencB r)) : Int)) ∧ ((124 : Nat) < List.length (List.set (List.set (List.set (List.set (rencB r) (120 : Nat) (UInt8.ofNat (Int.toNat (IntKind.wrap IntKind.u8 ((↑t : Int) / (2 : Int) ^ (56 : Nat)))))) (121 : Nat) (UInt8.ofNat (Int.toNat (IntKind.wrap IntKind.u8 ((↑t : Int) / (2 : Int) ^ (48 : Nat)))))) (122 : Nat) (UInt8.ofNat (Int.toNat (IntKind.wrap IntKind.u8 ((↑t : Int) / (2 : Int) ^ (40 : Nat)))))) (123 : Nat) (UInt8.ofNat (Int.toNat (IntKind.wrap IntKind.u8 ((↑t : Int) / (2 : Int) ^ (32 : Nat)))))) ∧ (0 : Int) ≤ IntKind.wrap IntKind.u8 ((↑t : Int) / (2 : Int) ^ (24 : Nat)) ∧ IntKind.wrap IntKind.u8 ((↑t : Int) / (2 : Int) ^ (24 : Nat)) < (256 : Int)) ∧ (0 : Int) ≤ IntKind.wrap IntKind.u64 (IntKind.wrap IntKind.i64 ((56 : Int) - IntKind.wrap IntKind.i64 ((8 : Int) * IntKind.wrap IntKind.i64 (IntKind.wrap IntKind.i64 (IntKind.wrap IntKind.i64 (IntKind.wrap IntKind.i64 (IntKind.wrap IntKind.i64 ((0 : Int) + (1 : Int)) + (1 : Int)) + (1 : Int)) + (1 : Int)) + (1 : Int))))) ∧ True ∧ ((0 : Int) ≤ IntKind.wrap IntKind.i64 ((120 : Int) + IntKind.wrap IntKind.i64 (IntKind.wrap IntKind.i64 (IntKind.wrap IntKind.i64 (IntKind.wrap IntKind.i64 (IntKind.wrap IntKind.i64 ((0 : Int) + (1 : Int)) + (1 : Int)) + (1 : Int)) + (1 : Int)) + (1 : Int))) ∧ IntKind.wrap IntKind.i64 ((120 : Int) + IntKind.wrap IntKind.i64 (IntKind.wrap IntKind.i64 (IntKind.wrap IntKind.i64 (IntKind.wrap IntKind.i64 (IntKind.wrap IntKind.i64 ((0 : Int) + (1 : Int)) + (1 : Int)) + (1 : Int)) + (1 : Int)) + (1 : Int))) < (↑(List.length (rencB r)) : Int)) ∧ ((125 : Nat) < List.length (List.set (List.set (List.set (List.set (List.set (rencB r) (120 : Nat) (UInt8.ofNat (Int.toNat (IntKind.wrap IntKind.u8 ((↑t : Int) / (2 : Int) ^ (56 : Nat)))))) (121 : Nat) (UInt8.ofNat (Int.toNat (IntKind.wrap IntKind.u8 ((↑t : Int) / (2 : Int) ^ (48 : Nat)))))) (122 : Nat) (UInt8.ofNat (Int.toNat (IntKind.wrap IntKind.u8 ((↑t : Int) / (2 : Int) ^ (40 : Nat)))))) (123 : Nat) (UInt8.ofNat (Int.toNat (IntKind.wrap IntKind.u8 ((↑t : Int) / (2 : Int) ^ (32 : Nat)))))) (124 : Nat) (UInt8.ofNat (Int.toNat (IntKind.wrap IntKind.u8 ((↑t : Int) / (2 : Int) ^ (24 : Nat)))))) ∧ (0 : Int) ≤ IntKind.wrap IntKind.u8 ((↑t : Int) / (2 : Int) ^ (16 : Nat)) ∧ IntKind.wrap IntKind.u8 ((↑t : Int) / (2 : Int) ^ (16 : Nat)) < (256 : Int)) ∧ (0 : Int) ≤ IntKind.wrap IntKind.u64 (IntKind.wrap IntKind.i64 ((56 : Int) - IntKind.wrap IntKind.i64 ((8 : Int) * IntKind.wrap IntKind.i64 (IntKind.wrap IntKind.i64 (IntKind.wrap IntKind.i64 (IntKind.wrap IntKind.i64 (IntKind.wrap IntKind.i64 (IntKind.wrap IntKind.i64 ((0 : Int) + (1 : Int)) + (1 : Int)) + (1 : Int)) + (1 : Int)) + (1 : Int)) + (1 : Int))))) ∧ True ∧ ((0 : Int) ≤ IntKind.wrap IntKind.i64 ((120 : Int) + IntKind.wrap IntKind.i64 (IntKind.wrap IntKind.i64 (IntKind.wrap IntKind.i64 (IntKind.wrap IntKind.i64 (IntKind.wrap IntKind.i64 (IntKind.wrap IntKind.i64 ((0 : Int) + (1 : Int)) + (1 : Int)) + (1 : Int)) + (1 : Int)) + (1 : Int)) + (1 : Int))) ∧ IntKind.wrap IntKind.i64 ((120 : Int) + IntKind.wrap IntKind.i64 (IntKind.wrap IntKind.i64 (IntKind.wrap IntKind.i64 (IntKind.wrap IntKind.i64 (IntKind.wrap IntKind.i64 (IntKind.wrap IntKind.i64 ((0 : Int) + (1 : Int)) + (1 : Int)) + (1 : Int)) + (1 : Int)) + (1 : Int)) + (1 : Int))) < (↑(List.length (rencB r)) : Int)) ∧ ((126 : Nat) < List.length (List.set (List.set (List.set (List.set (List.set (List.set (rencB r) (120 : Nat) (UInt8.ofNat (Int.toNat (IntKind.wrap IntKind.u8 ((↑t : Int) / (2 : Int) ^ (56 : Nat)))))) (121 : Nat) (UInt8.ofNat (Int.toNat (IntKind.wrap IntKind.u8 ((↑t : Int) / (2 : Int) ^ (48 : Nat)))))) (122 : Nat) (UInt8.ofNat (Int.toNat (IntKind.wrap IntKind.u8 ((↑t : Int) / (2 : Int) ^ (40 : Nat)))))) (123 : Nat) (UInt8.ofNat (Int.toNat (IntKind.wrap IntKind.u8 ((↑t : Int) / (2 : Int) ^ (32 : Nat)))))) (124 : Nat) (UInt8.ofNat (Int.toNat (IntKind.wrap IntKind.u8 ((↑t : Int) / (2 : Int) ^ (24 : Nat)))))) (125 : Nat) (UInt8.ofNat (Int.toNat (IntKind.wrap IntKind.u8 ((↑t : Int) / (2 : Int) ^ (16 : Nat)))))) ∧ (0 : Int) ≤ IntKind.wrap IntKind.u8 ((↑t : Int) / (2 : Int) ^ (8 : Nat)) ∧ IntKind.wrap IntKind.u8 ((↑t : Int) / (2 : Int) ^ (8 : Nat)) < (256 : Int)) ∧ (0 : Int) ≤ IntKind.wrap IntKind.u64 (IntKind.wrap IntKind.i64 ((56 : Int) - IntKind.wrap IntKind.i64 ((8 : Int) * IntKind.wrap IntKind.i64 (IntKind.wrap IntKind.i64 (IntKind.wrap IntKind.i64 (IntKind.wrap IntKind.i64 (IntKind.wrap IntKind.i64 (IntKind.wrap IntKind.i64 (IntKind.wrap IntKind.i64 ((0 : Int) + (1 : Int)) + (1 : Int)) + (1 : Int)) + (1 : Int)) + (1 : Int)) + (1 : Int)) + (1 : Int))))) ∧ True ∧ ((0 : Int) ≤ IntKind.wrap IntKind.i64 ((120 : Int) + IntKind.wrap IntKind.i64 (IntKind.wrap IntKind.i64 (IntKind.wrap IntKind.i64 (IntKind.wrap IntKind.i64 (IntKind.wrap IntKind.i64 (IntKind.wrap IntKind.i64 (IntKind.wrap IntKind.i64 ((0 : Int) + (1 : Int)) + (1 : Int)) + (1 : Int)) + (1 : Int)) + (1 : Int)) + (1 : Int)) + (1 : Int))) ∧ IntKind.wrap IntKind.i64 ((120 : Int) + IntKind.wrap IntKind.i64 (IntKind.wrap IntKind.i64 (IntKind.wrap IntKind.i64 (IntKind.wrap IntKind.i64 (IntKind.wrap IntKind.i64 (IntKind.wrap IntKind.i64 (IntKind.wrap IntKind.i64 ((0 : Int) + (1 : Int)) + (1 : Int)) + (1 : Int)) + (1 : Int)) + (1 : Int)) + (1 : Int)) + (1 : Int))) < (↑(List.length (rencB r)) : Int)) ∧ ((127 : Nat) < List.length (List.set (List.set (List.set (List.set (List.set (List.set (List.set (rencB r) (120 : Nat) (UInt8.ofNat (Int.toNat (IntKind.wrap IntKind.u8 ((↑t : Int) / (2 : Int) ^ (56 : Nat)))))) (121 : Nat) (UInt8.ofNat (Int.toNat (IntKind.wrap IntKind.u8 ((↑t : Int) / (2 : Int) ^ (48 : Nat)))))) (122 : Nat) (UInt8.ofNat (Int.toNat (IntKind.wrap IntKind.u8 ((↑t : Int) / (2 : Int) ^ (40 : Nat)))))) (123 : Nat) (UInt8.ofNat (Int.toNat (IntKind.wrap IntKind.u8 ((↑t : Int) / (2 : Int) ^ (32 : Nat)))))) (124 : Nat) (UInt8.ofNat (Int.toNat (IntKind.wrap IntKind.u8 ((↑t : Int) / (2 : Int) ^ (24 : Nat)))))) (125 : Nat) (UInt8.ofNat (Int.toNat (IntKind.wrap IntKind.u8 ((↑t : Int) / (2 : Int) ^ (16 : Nat)))))) (126 : Nat) (UInt8.ofNat (Int.toNat (IntKind.wrap IntKind.u8 ((↑t : Int) / (2 : Int) ^ (8 : Nat)))))) ∧ (0 : Int) ≤ IntKind.wrap IntKind.u8 ((↑t : Int) / (2 : Int) ^ (0 : Nat)) ∧ IntKind.wrap IntKind.u8 ((↑t : Int) / (2 : Int) ^ (0 : Nat)) < (256 : Int)) ∧ List.length (rencB r) ≤ List.length (List.set (List.set (List.set (List.set (List.set (List.set (List.set (List.set (rencB r) (120 : Nat) (UInt8.ofNat (Int.toNat (IntKind.wrap IntKind.u8 ((↑t : Int) / (2 : Int) ^ (56 : Nat)))))) (121 : Nat) (UInt8.ofNat (Int.toNat (IntKind.wrap IntKind.u8 ((↑t : Int) / (2 : Int) ^ (48 : Nat)))))) (122 : Nat) (UInt8.ofNat (Int.toNat (IntKind.wrap IntKind.u8 ((↑t : Int) / (2 : Int) ^ (40 : Nat)))))) (123 : Nat) (UInt8.ofNat (Int.toNat (IntKind.wrap IntKind.u8 ((↑t : Int) / (2 : Int) ^ (32 : Nat)))))) (124 : Nat) (UInt8.ofNat (Int.toNat (IntKind.wrap IntKind.u8 ((↑t : Int) / (2 : Int) ^ (24 : Nat)))))) (125 : Nat) (UInt8.ofNat (Int.toNat (IntKind.wrap IntKind.u8 ((↑t : Int) / (2 : Int) ^ (16 : Nat)))))) (126 : Nat) (UInt8.ofNat (Int.toNat (IntKind.wrap IntKind.u8 ((↑t : Int) / (2 : Int) ^ (8 : Nat)))))) (127 : Nat) (UInt8.ofNat (Int.toNat (IntKind.wrap IntKind.u8 ((↑t : Int) / (2 : Int) ^ (0 : Nat)))))) ∧ List.length (List.take (List.length (rencB r)) (List.set (List.set (List.set (List.set (List.set (List.set (List.set (List.set (rencB r) (120 : Nat) (UInt8.ofNat (Int.toNat (IntKind.wrap IntKind.u8 ((↑t : Int) / (2 : Int) ^ (56 : Nat)))))) (121 : Nat) (UInt8.ofNat (Int.toNat (IntKind.wrap IntKind.u8 ((↑t : Int) / (2 : Int) ^ (48 : Nat)))))) (122 : Nat) (UInt8.ofNat (Int.toNat (IntKind.wrap IntKind.u8 ((↑t : Int) / (2 : Int) ^ (40 : Nat)))))) (123 : Nat) (UInt8.ofNat (Int.toNat (IntKind.wrap IntKind.u8 ((↑t : Int) / (2 : Int) ^ (32 : Nat)))))) (124 : Nat) (UInt8.ofNat (Int.toNat (IntKind.wrap IntKind.u8 ((↑t : Int) / (2 : Int) ^ (24 : Nat)))))) (125 : Nat) (UInt8.ofNat (Int.toNat (IntKind.wrap IntKind.u8 ((↑t : Int) / (2 : Int) ^ (16 : Nat)))))) (126 : Nat) (UInt8.ofNat (Int.toNat (IntKind.wrap IntKind.u8 ((↑t : Int) / (2 : Int) ^ (8 : Nat)))))) (127 : Nat) (UInt8.ofNat (Int.toNat (IntKind.wrap IntKind.u8 ((↑t : Int) / (2 : Int) ^ (0 : Nat))))))) ≤ (1000 : Nat)) (by kernel_rfl) ?_ ?_; (and_intros <;> try first | exact True.intro | with_reducible rfl | omega | with_reducible assumption | (refine fits_i64 ?_ ?_ <;> omega) | (refine fits_u64 ?_ ?_ <;> omega)); rotate_left 45; exact of_decide_eq_true (by kernel_rfl); rotate_right 45; rotate_left 42; exact of_decide_eq_true (by kernel_rfl); rotate_right 42; rotate_left 41; exact of_decide_eq_true (by kernel_rfl); rotate_right 41; rotate_left 39; exact of_decide_eq_true (by kernel_rfl); rotate_right 39; rotate_left 36; exact of_decide_eq_true (by kernel_rfl); rotate_right 36; rotate_left 35; exact of_decide_eq_true (by kernel_rfl); rotate_right 35; rotate_left 33; exact of_decide_eq_true (by kernel_rfl); rotate_right 33; rotate_left 30; exact of_decide_eq_true (by kernel_rfl); rotate_right 30; rotate_left 29; exact of_decide_eq_true (by kernel_rfl); rotate_right 29; rotate_left 27; exact of_decide_eq_true (by kernel_rfl); rotate_right 27; rotate_left 24; exact of_decide_eq_true (by kernel_rfl); rotate_right 24; rotate_left 23; exact of_decide_eq_true (by kernel_rfl); rotate_right 23; rotate_left 21; exact of_decide_eq_true (by kernel_rfl); rotate_right 21; rotate_left 18; exact of_decide_eq_true (by kernel_rfl); rotate_right 18; rotate_left 17; exact of_decide_eq_true (by kernel_rfl); rotate_right 17; rotate_left 15; exact of_decide_eq_true (by kernel_rfl); rotate_right 15; rotate_left 12; exact of_decide_eq_true (by kernel_rfl); rotate_right 12; rotate_left 11; exact of_decide_eq_true (by kernel_rfl); rotate_right 11; rotate_left 9; exact of_decide_eq_true (by kernel_rfl); rotate_right 9; rotate_left 6; exact of_decide_eq_true (by kernel_rfl); rotate_right 6; rotate_left 5; exact of_decide_eq_true (by kernel_rfl); rotate_right 5; rotate_left 3; exact of_decide_eq_true (by kernel_rfl); rotate_right 3; rotate_left 1; exact of_decide_eq_true (by kernel_rfl); rotate_right 1; exact of_decide_eq_true (by kernel_rfl)
    all_goals first | (show (_ : Int) < ((rencB r).length : Int); rw [hlI]; decide) | (show (_ : Nat) < _; simp only [List.length_set]; omega) | exact hwr _ | (show (_ : Nat) ≤ _; simp only [List.length_take, List.length_set]; omega) | skip
    have hL := tail_sets r t hB
    refine To.brd hS (decE (List.take (List.length (rencB r)) (List.set (List.set (List.set (List.set (List.set (List.set (List.set (List.set (rencB r) (120 : Nat) (UInt8.ofNat (Int.toNat (IntKind.wrap IntKind.u8 ((↑t : Int) / (2 : Int) ^ (56 : Nat)))))) (121 : Nat) (UInt8.ofNat (Int.toNat (IntKind.wrap IntKind.u8 ((↑t : Int) / (2 : Int) ^ (48 : Nat)))))) (122 : Nat) (UInt8.ofNat (Int.toNat (IntKind.wrap IntKind.u8 ((↑t : Int) / (2 : Int) ^ (40 : Nat)))))) (123 : Nat) (UInt8.ofNat (Int.toNat (IntKind.wrap IntKind.u8 ((↑t : Int) / (2 : Int) ^ (32 : Nat)))))) (124 : Nat) (UInt8.ofNat (Int.toNat (IntKind.wrap IntKind.u8 ((↑t : Int) / (2 : Int) ^ (24 : Nat)))))) (125 : Nat) (UInt8.ofNat (Int.toNat (IntKind.wrap IntKind.u8 ((↑t : Int) / (2 : Int) ^ (16 : Nat)))))) (126 : Nat) (UInt8.ofNat (Int.toNat (IntKind.wrap IntKind.u8 ((↑t : Int) / (2 : Int) ^ (8 : Nat)))))) (127 : Nat) (UInt8.ofNat (Int.toNat (IntKind.wrap IntKind.u8 ((↑t : Int) / (2 : Int) ^ (0 : Nat))))))) = (0 : Int)) (C := True) (by kernel_rfl) (by kernel_rfl) (by (and_intros <;> try first | exact True.intro | with_reducible rfl | omega | with_reducible assumption | (refine fits_i64 ?_ ?_ <;> omega) | (refine fits_u64 ?_ ?_ <;> omega))) ?_ ?_
    · intro h3
      have h3' : decE (rootTail r t) = 0 := (congrArg decE hL).symm.trans h3
      have ht' : t = r.n := Classical.byContradiction fun hne => by
        unfold decE at h3'
        rw [dec_of_tail hf hok ht hne] at h3'
        cases h3'
      refine To.run hS 5000 (C := True) (by kernel_rfl) (by (and_intros <;> try first | exact True.intro | with_reducible rfl | omega | with_reducible assumption | (refine fits_i64 ?_ ?_ <;> omega) | (refine fits_u64 ?_ ?_ <;> omega))) ?_
      refine To.yesd hS ((↑t : Int) = (↑(RootD.n r) : Int)) (by (and_intros <;> try first | exact True.intro | with_reducible rfl | omega | with_reducible assumption | (refine fits_i64 ?_ ?_ <;> omega) | (refine fits_u64 ?_ ?_ <;> omega))) (C := True) (by kernel_rfl) (by (and_intros <;> try first | exact True.intro | with_reducible rfl | omega | with_reducible assumption | (refine fits_i64 ?_ ?_ <;> omega) | (refine fits_u64 ?_ ?_ <;> omega))) ?_
      refine To.run hS 5000 (C := True ∧ List.length b ≤ (1000 : Nat)) (by kernel_rfl) (by (and_intros <;> try first | exact True.intro | with_reducible rfl | omega | with_reducible assumption | (refine fits_i64 ?_ ?_ <;> omega) | (refine fits_u64 ?_ ?_ <;> omega))) ?_
      refine To.brn hS (decE b = (0 : Int)) (C := True) (by kernel_rfl) (by kernel_rfl) (by (and_intros <;> try first | exact True.intro | with_reducible rfl | omega | with_reducible assumption | (refine fits_i64 ?_ ?_ <;> omega) | (refine fits_u64 ?_ ?_ <;> omega))) ?_ ?_
      · intro h4
        obtain ⟨q1, q2⟩ := decE_bad h4
        refine To.run hS 5000 (C := True) (by kernel_rfl) (by (and_intros <;> try first | exact True.intro | with_reducible rfl | omega | with_reducible assumption | (refine fits_i64 ?_ ?_ <;> omega) | (refine fits_u64 ?_ ?_ <;> omega))) ?_
        refine To.yesd hS (decE b = (60 : Int)) (by (and_intros <;> try first | exact True.intro | with_reducible rfl | omega | with_reducible assumption | (refine fits_i64 ?_ ?_ <;> omega) | (refine fits_u64 ?_ ?_ <;> omega))) (C := True) (by kernel_rfl) (by (and_intros <;> try first | exact True.intro | with_reducible rfl | omega | with_reducible assumption | (refine fits_i64 ?_ ?_ <;> omega) | (refine fits_u64 ?_ ?_ <;> omega))) ?_
        refine To.run hS 5000 (C := True) (by kernel_rfl) (by (and_intros <;> try first | exact True.intro | with_reducible rfl | omega | with_reducible assumption | (refine fits_i64 ?_ ?_ <;> omega) | (refine fits_u64 ?_ ?_ <;> omega))) ?_
        refine To.yesd hS ([(↑(RootD.n (decR b)) : Int), RootD.len (decR b), (↑(RootD.sum (decR b)) : Int)] = [(0 : Int), (0 : Int), (0 : Int)]) ?_ (C := True) (by kernel_rfl) (by (and_intros <;> try first | exact True.intro | with_reducible rfl | omega | with_reducible assumption | (refine fits_i64 ?_ ?_ <;> omega) | (refine fits_u64 ?_ ?_ <;> omega))) ?_
        · rw [q2]; rfl
        refine To.run hS 5000 (C := True) (by kernel_rfl) (by (and_intros <;> try first | exact True.intro | with_reducible rfl | omega | with_reducible assumption | (refine fits_i64 ?_ ?_ <;> omega) | (refine fits_u64 ?_ ?_ <;> omega))) ?_
        refine To.end (AV.v (Value.bool true)) (by kernel_rfl) ?_
        rfl
      · intro h4
        obtain ⟨q1, q2, q3, q4⟩ := decE_good h4
        have q5 := q3.n
        have q6 := q3.sum
        refine To.run hS 5000 (C := ((0 : Int) ≤ (↑(RootD.n (decR b)) : Int) ∧ (↑(RootD.n (decR b)) : Int) < (18446744073709551616 : Int)) ∧ (0 : Int) ≤ (↑(RootD.sum (decR b)) : Int) ∧ (↑(RootD.sum (decR b)) : Int) < (4294967296 : Int)) (by kernel_rfl) (by (and_intros <;> try first | exact True.intro | with_reducible rfl | omega | with_reducible assumption | (refine fits_i64 ?_ ?_ <;> omega) | (refine fits_u64 ?_ ?_ <;> omega))) ?_
        refine To.yesd hS (rencE (decR b) = (0 : Int)) (by (and_intros <;> try first | exact True.intro | with_reducible rfl | omega | with_reducible assumption | (refine fits_i64 ?_ ?_ <;> omega) | (refine fits_u64 ?_ ?_ <;> omega))) (C := True) (by kernel_rfl) (by (and_intros <;> try first | exact True.intro | with_reducible rfl | omega | with_reducible assumption | (refine fits_i64 ?_ ?_ <;> omega) | (refine fits_u64 ?_ ?_ <;> omega))) ?_
        refine To.run hS 5000 (C := List.length (rencB (decR b)) ≤ List.length (rencB (decR b)) ∧ True) (by kernel_rfl) (by (and_intros <;> try first | exact True.intro | with_reducible rfl | omega | with_reducible assumption | (refine fits_i64 ?_ ?_ <;> omega) | (refine fits_u64 ?_ ?_ <;> omega))) ?_
        refine To.yesd hS (Array.toList (ByteArray.data (str (List.take (List.length (rencB (decR b))) (rencB (decR b))))) = Array.toList (ByteArray.data (str b))) ?_ (C := True) (by kernel_rfl) (by (and_intros <;> try first | exact True.intro | with_reducible rfl | omega | with_reducible assumption | (refine fits_i64 ?_ ?_ <;> omega) | (refine fits_u64 ?_ ?_ <;> omega))) ?_
        · rw [q1, List.take_of_length_le (by omega)]
        refine To.run hS 5000 (C := True) (by kernel_rfl) (by (and_intros <;> try first | exact True.intro | with_reducible rfl | omega | with_reducible assumption | (refine fits_i64 ?_ ?_ <;> omega) | (refine fits_u64 ?_ ?_ <;> omega))) ?_
        refine To.end (AV.v (Value.bool true)) (by kernel_rfl) ?_
        rfl
    · intro h3
      have h3' : ¬ decE (rootTail r t) = 0 := fun e => h3 ((congrArg decE hL).trans e)
      have ht' : ¬ t = r.n := fun e => h3' (by rw [e, rootTail_self]; exact e0)
      refine To.run hS 5000 (C := True) (by kernel_rfl) (by (and_intros <;> try first | exact True.intro | with_reducible rfl | omega | with_reducible assumption | (refine fits_i64 ?_ ?_ <;> omega) | (refine fits_u64 ?_ ?_ <;> omega))) ?_
      refine To.nod hS ((↑t : Int) = (↑(RootD.n r) : Int)) (by (and_intros <;> try first | exact True.intro | with_reducible rfl | omega | with_reducible assumption | (refine fits_i64 ?_ ?_ <;> omega) | (refine fits_u64 ?_ ?_ <;> omega))) (C := True) (by kernel_rfl) (by (and_intros <;> try first | exact True.intro | with_reducible rfl | omega | with_reducible assumption | (refine fits_i64 ?_ ?_ <;> omega) | (refine fits_u64 ?_ ?_ <;> omega))) ?_
      refine To.run hS 5000 (C := True ∧ List.length b ≤ (1000 : Nat)) (by kernel_rfl) (by (and_intros <;> try first | exact True.intro | with_reducible rfl | omega | with_reducible assumption | (refine fits_i64 ?_ ?_ <;> omega) | (refine fits_u64 ?_ ?_ <;> omega))) ?_
      refine To.brn hS (decE b = (0 : Int)) (C := True) (by kernel_rfl) (by kernel_rfl) (by (and_intros <;> try first | exact True.intro | with_reducible rfl | omega | with_reducible assumption | (refine fits_i64 ?_ ?_ <;> omega) | (refine fits_u64 ?_ ?_ <;> omega))) ?_ ?_
      · intro h4
        obtain ⟨q1, q2⟩ := decE_bad h4
        refine To.run hS 5000 (C := True) (by kernel_rfl) (by (and_intros <;> try first | exact True.intro | with_reducible rfl | omega | with_reducible assumption | (refine fits_i64 ?_ ?_ <;> omega) | (refine fits_u64 ?_ ?_ <;> omega))) ?_
        refine To.yesd hS (decE b = (60 : Int)) (by (and_intros <;> try first | exact True.intro | with_reducible rfl | omega | with_reducible assumption | (refine fits_i64 ?_ ?_ <;> omega) | (refine fits_u64 ?_ ?_ <;> omega))) (C := True) (by kernel_rfl) (by (and_intros <;> try first | exact True.intro | with_reducible rfl | omega | with_reducible assumption | (refine fits_i64 ?_ ?_ <;> omega) | (refine fits_u64 ?_ ?_ <;> omega))) ?_
        refine To.run hS 5000 (C := True) (by kernel_rfl) (by (and_intros <;> try first | exact True.intro | with_reducible rfl | omega | with_reducible assumption | (refine fits_i64 ?_ ?_ <;> omega) | (refine fits_u64 ?_ ?_ <;> omega))) ?_
        refine To.yesd hS ([(↑(RootD.n (decR b)) : Int), RootD.len (decR b), (↑(RootD.sum (decR b)) : Int)] = [(0 : Int), (0 : Int), (0 : Int)]) ?_ (C := True) (by kernel_rfl) (by (and_intros <;> try first | exact True.intro | with_reducible rfl | omega | with_reducible assumption | (refine fits_i64 ?_ ?_ <;> omega) | (refine fits_u64 ?_ ?_ <;> omega))) ?_
        · rw [q2]; rfl
        refine To.run hS 5000 (C := True) (by kernel_rfl) (by (and_intros <;> try first | exact True.intro | with_reducible rfl | omega | with_reducible assumption | (refine fits_i64 ?_ ?_ <;> omega) | (refine fits_u64 ?_ ?_ <;> omega))) ?_
        refine To.end (AV.v (Value.bool true)) (by kernel_rfl) ?_
        rfl
      · intro h4
        obtain ⟨q1, q2, q3, q4⟩ := decE_good h4
        have q5 := q3.n
        have q6 := q3.sum
        refine To.run hS 5000 (C := ((0 : Int) ≤ (↑(RootD.n (decR b)) : Int) ∧ (↑(RootD.n (decR b)) : Int) < (18446744073709551616 : Int)) ∧ (0 : Int) ≤ (↑(RootD.sum (decR b)) : Int) ∧ (↑(RootD.sum (decR b)) : Int) < (4294967296 : Int)) (by kernel_rfl) (by (and_intros <;> try first | exact True.intro | with_reducible rfl | omega | with_reducible assumption | (refine fits_i64 ?_ ?_ <;> omega) | (refine fits_u64 ?_ ?_ <;> omega))) ?_
        refine To.yesd hS (rencE (decR b) = (0 : Int)) (by (and_intros <;> try first | exact True.intro | with_reducible rfl | omega | with_reducible assumption | (refine fits_i64 ?_ ?_ <;> omega) | (refine fits_u64 ?_ ?_ <;> omega))) (C := True) (by kernel_rfl) (by (and_intros <;> try first | exact True.intro | with_reducible rfl | omega | with_reducible assumption | (refine fits_i64 ?_ ?_ <;> omega) | (refine fits_u64 ?_ ?_ <;> omega))) ?_
        refine To.run hS 5000 (C := List.length (rencB (decR b)) ≤ List.length (rencB (decR b)) ∧ True) (by kernel_rfl) (by (and_intros <;> try first | exact True.intro | with_reducible rfl | omega | with_reducible assumption | (refine fits_i64 ?_ ?_ <;> omega) | (refine fits_u64 ?_ ?_ <;> omega))) ?_
        refine To.yesd hS (Array.toList (ByteArray.data (str (List.take (List.length (rencB (decR b))) (rencB (decR b))))) = Array.toList (ByteArray.data (str b))) ?_ (C := True) (by kernel_rfl) (by (and_intros <;> try first | exact True.intro | with_reducible rfl | omega | with_reducible assumption | (refine fits_i64 ?_ ?_ <;> omega) | (refine fits_u64 ?_ ?_ <;> omega))) ?_
        · rw [q1, List.take_of_length_le (by omega)]
        refine To.run hS 5000 (C := True) (by kernel_rfl) (by (and_intros <;> try first | exact True.intro | with_reducible rfl | omega | with_reducible assumption | (refine fits_i64 ?_ ?_ <;> omega) | (refine fits_u64 ?_ ?_ <;> omega))) ?_
        refine To.end (AV.v (Value.bool true)) (by kernel_rfl) ?_
        rfl
  · intro h2
    refine To.run hS 5000 (C := True ∧ List.length b ≤ (1000 : Nat)) (by kernel_rfl) (by (and_intros <;> try first | exact True.intro | with_reducible rfl | omega | with_reducible assumption | (refine fits_i64 ?_ ?_ <;> omega) | (refine fits_u64 ?_ ?_ <;> omega))) ?_
    refine To.brn hS (decE b = (0 : Int)) (C := True) (by kernel_rfl) (by kernel_rfl) (by (and_intros <;> try first | exact True.intro | with_reducible rfl | omega | with_reducible assumption | (refine fits_i64 ?_ ?_ <;> omega) | (refine fits_u64 ?_ ?_ <;> omega))) ?_ ?_
    · intro h3
      obtain ⟨q1, q2⟩ := decE_bad h3
      refine To.run hS 5000 (C := True) (by kernel_rfl) (by (and_intros <;> try first | exact True.intro | with_reducible rfl | omega | with_reducible assumption | (refine fits_i64 ?_ ?_ <;> omega) | (refine fits_u64 ?_ ?_ <;> omega))) ?_
      refine To.yesd hS (decE b = (60 : Int)) (by (and_intros <;> try first | exact True.intro | with_reducible rfl | omega | with_reducible assumption | (refine fits_i64 ?_ ?_ <;> omega) | (refine fits_u64 ?_ ?_ <;> omega))) (C := True) (by kernel_rfl) (by (and_intros <;> try first | exact True.intro | with_reducible rfl | omega | with_reducible assumption | (refine fits_i64 ?_ ?_ <;> omega) | (refine fits_u64 ?_ ?_ <;> omega))) ?_
      refine To.run hS 5000 (C := True) (by kernel_rfl) (by (and_intros <;> try first | exact True.intro | with_reducible rfl | omega | with_reducible assumption | (refine fits_i64 ?_ ?_ <;> omega) | (refine fits_u64 ?_ ?_ <;> omega))) ?_
      refine To.yesd hS ([(↑(RootD.n (decR b)) : Int), RootD.len (decR b), (↑(RootD.sum (decR b)) : Int)] = [(0 : Int), (0 : Int), (0 : Int)]) ?_ (C := True) (by kernel_rfl) (by (and_intros <;> try first | exact True.intro | with_reducible rfl | omega | with_reducible assumption | (refine fits_i64 ?_ ?_ <;> omega) | (refine fits_u64 ?_ ?_ <;> omega))) ?_
      · rw [q2]; rfl
      refine To.run hS 5000 (C := True) (by kernel_rfl) (by (and_intros <;> try first | exact True.intro | with_reducible rfl | omega | with_reducible assumption | (refine fits_i64 ?_ ?_ <;> omega) | (refine fits_u64 ?_ ?_ <;> omega))) ?_
      refine To.end (AV.v (Value.bool true)) (by kernel_rfl) ?_
      rfl
    · intro h3
      obtain ⟨q1, q2, q3, q4⟩ := decE_good h3
      have q5 := q3.n
      have q6 := q3.sum
      refine To.run hS 5000 (C := ((0 : Int) ≤ (↑(RootD.n (decR b)) : Int) ∧ (↑(RootD.n (decR b)) : Int) < (18446744073709551616 : Int)) ∧ (0 : Int) ≤ (↑(RootD.sum (decR b)) : Int) ∧ (↑(RootD.sum (decR b)) : Int) < (4294967296 : Int)) (by kernel_rfl) (by (and_intros <;> try first | exact True.intro | with_reducible rfl | omega | with_reducible assumption | (refine fits_i64 ?_ ?_ <;> omega) | (refine fits_u64 ?_ ?_ <;> omega))) ?_
      refine To.yesd hS (rencE (decR b) = (0 : Int)) (by (and_intros <;> try first | exact True.intro | with_reducible rfl | omega | with_reducible assumption | (refine fits_i64 ?_ ?_ <;> omega) | (refine fits_u64 ?_ ?_ <;> omega))) (C := True) (by kernel_rfl) (by (and_intros <;> try first | exact True.intro | with_reducible rfl | omega | with_reducible assumption | (refine fits_i64 ?_ ?_ <;> omega) | (refine fits_u64 ?_ ?_ <;> omega))) ?_
      refine To.run hS 5000 (C := List.length (rencB (decR b)) ≤ List.length (rencB (decR b)) ∧ True) (by kernel_rfl) (by (and_intros <;> try first | exact True.intro | with_reducible rfl | omega | with_reducible assumption | (refine fits_i64 ?_ ?_ <;> omega) | (refine fits_u64 ?_ ?_ <;> omega))) ?_
      refine To.yesd hS (Array.toList (ByteArray.data (str (List.take (List.length (rencB (decR b))) (rencB (decR b))))) = Array.toList (ByteArray.data (str b))) ?_ (C := True) (by kernel_rfl) (by (and_intros <;> try first | exact True.intro | with_reducible rfl | omega | with_reducible assumption | (refine fits_i64 ?_ ?_ <;> omega) | (refine fits_u64 ?_ ?_ <;> omega))) ?_
      · rw [q1, List.take_of_length_le (by omega)]
      refine To.run hS 5000 (C := True) (by kernel_rfl) (by (and_intros <;> try first | exact True.intro | with_reducible rfl | omega | with_reducible assumption | (refine fits_i64 ?_ ?_ <;> omega) | (refine fits_u64 ?_ ?_ <;> omega))) ?_
      refine To.end (AV.v (Value.bool true)) (by kernel_rfl) ?_
      rfl
theorem rback_walk (r : RootD) (hf : r.Fits) (t : Nat) (ht : t < 2 ^ 64) (a : Option Addr) (n c : Nat) (b : List UInt8) (w : World) (h : Win w a n c (b.map byt)) :
    Calls Try.prog 4 #[.agg r.cells.toArray, .slice a n c, .int .u64 (t : Int)] w (fun e w' => e = .returned (.bool true) ∧ Fr No w w') :=
  law_calls (args := [.agg (rootAV r), .by8 b, .sy (.int .u64 (t : Int))]) sRB_ok (by kernel_rfl) (rback_to sRB_ok r b t hf ht) (.cons (rootAV_VR _ r) (.cons (Win.by8 h) (.cons (.sy _) .nil)))
end Go.Proofs.Ytnkjhicokcmmpaa.Sm

/-
  RootBack returns true, whatever is handed to it, and what it read reads as it did.
-/
namespace Go.Proofs.Ytnkjhicokcmmpaa.RRootBack
open Go.ChangeShapes Go.WideShapes Go.ChangeAt Go.RowKit

theorem rootFields : fieldsOk Try.prog 25 [(0, 22), (1, 3), (2, 23)] = true := by kernel_rfl
theorem cellsRoot : Try.prog.cellsOf 25 = 3 := by kernel_rfl
theorem cellsU64 : Try.prog.cellsOf 22 = 1 := by kernel_rfl
theorem cellsU32 : Try.prog.cellsOf 23 = 1 := by kernel_rfl
theorem cellsU8 : Try.prog.cellsOf 5 = 1 := by kernel_rfl
theorem cellsInt : Try.prog.cellsOf 3 = 1 := by kernel_rfl
set_option maxRecDepth 100000 in
theorem rootRd {w : World} {cs : List Value} (h : Rd Try.prog w 25 cs) : ∃ r : RootD, cs = r.cells ∧ r.Fits := by
  obtain ⟨hl, hf⟩ := h.struct rootFields
  rw [cellsRoot] at hl
  match cs, hl with
  | [x, y, z], _ =>
    have h0 := hf 0 0 22 rfl
    have h1 := hf 1 1 3 rfl
    have h2 := hf 2 2 23 rfl
    rw [cellsU64] at h0
    rw [cellsInt] at h1
    rw [cellsU32] at h2
    obtain ⟨n, e0, w0⟩ := h0.int Try.underlying22
    obtain ⟨l, e1, w1⟩ := h1.int Try.underlying3
    obtain ⟨s, e2, w2⟩ := h2.int Try.underlying23
    have b0 := u64_bd w0
    have b2 := u32_bd w2
    simp at e0 e1 e2
    refine ⟨⟨n.toNat, l, s.toNat⟩, ?_, ⟨by show n.toNat < _; omega, by show s.toNat < _; omega⟩⟩
    rw [e0, e1, e2]
    show _ = [Value.int .u64 (n.toNat : Int), .int .i64 l, .int .u32 (s.toNat : Int)]
    rw [Int.toNat_of_nonneg b0.1, Int.toNat_of_nonneg b2.1]

theorem own : ownKnob Try.prog.godebug = none := by kernel_rfl
theorem laidOut : laidOutB Try.prog = true := by kernel_rfl
theorem readable : (Try.f4.params.toList.all fun t => Try.prog.readableRec t && decide (t < Try.prog.types.size)) = true := by kernel_rfl

set_option maxHeartbeats 800000 in
set_option maxRecDepth 100000 in
theorem lifted (os : Os) (started : os.Started) (H : Type) (enc : TypeId × Value → H) :
    ReturnsInHanded {} Try.checked os 4 .any (Rows.rootBackSpec.pre6 enc Try.prog Try.f4 Rows.rootBackRow.domain false) (Rows.rootBackSpec.post enc Try.prog Try.f4 false true false false) := by
  refine returnsInHanded_of_change (C := Try.checked) own started (by kernel_rfl) Try.func4
    (ChangeSpec.witness6 (enc := enc) (C := Try.checked) false ⟨#[], #[.agg #[.int .u64 0, .int .i64 0, .int .u32 0], .slice none 0 0, .int .u64 0], []⟩ 8 (by kernel_rfl) (by kernel_rfl) (by kernel_rfl) (by kernel_rfl)) ?_
  intro W base args ds gs before hval0 hW _ _
  have hval : ∀ (j : Nat) t v, Try.f4.params[j]? = some t → args[j]? = some v → Value.okWide Try.prog W .any base t v := hval0
  have hW' := hW
  obtain ⟨p, q, hA0, hV, rfl, _, _⟩ := hW
  have hA : DataW.TrodAll enc Try.prog W 0 (fun _ => true) true Try.f4.params.toList args.toList ds p := hA0
  have hlt : ∀ x ∈ p, x.block < W.heap.size := fun x hx => by simpa using hW'.lt x (by simpa using List.mem_append.2 (.inl hx))
  have hall := fun W' (hb : Below W.heap.size W W') => again_all laidOut hb readable hA hlt
  obtain ⟨rfl, rfl⟩ := trodVars_none hV
  rw [Try.params4] at hval
  have hA' := hA
  rw [Try.params4] at hA'
  obtain ⟨v0, vs0, d0, ds0, p0, q0, e0, rfl, rfl, h0, r0⟩ := trodAll_cons hA'
  obtain ⟨v1, vs1, d1, ds1, p1, q1, e1, rfl, rfl, h1, r1⟩ := trodAll_cons r0
  obtain ⟨v2, vs2, d2, ds2, p2, q2, e2, rfl, rfl, h2, r2⟩ := trodAll_cons r1
  obtain ⟨en, rfl, rfl⟩ := trodAll_nil r2
  obtain rfl : args = #[v0, v1, v2] := by
    apply Array.ext'
    rw [e0]
    try rw [e1]
    try rw [e2]
    rw [en]
  clear hA' e0 e1 e2 en
  obtain ⟨a0, rfl⟩ := arg_struct rootFields (hval 0 25 v0 rfl rfl)
  obtain ⟨a1, n1, c1, rfl⟩ := arg_slice Try.underlying26 (hval 1 26 v1 rfl rfl)
  obtain ⟨a2, rfl, w2⟩ := arg_int Try.underlying22 (hval 2 22 v2 rfl rfl) h2
  simp only [List.append_nil] at hW'
  obtain ⟨r, hr, hfr⟩ := rootRd (Rd.of h0)
  obtain rfl : a0 = r.cells.toArray := Array.ext' hr
  obtain ⟨b, hb⟩ := bytes_open Try.underlying26 Try.underlying5 cellsU8 (Rd.of h1)
  obtain ⟨q, rfl⟩ : ∃ q : Nat, a2 = (q : Int) := ⟨a2.toNat, by have := u64_bd w2; omega⟩
  have hwalk := Sm.rback_walk r hfr q (by have := u64_bd w2; omega) a1 n1 c1 b W hb
  refine hwalk.mono fun e W' ⟨he, hf⟩ => ?_
  subst he
  have hbel : Below W.heap.size W W' := hf.below
  refine ⟨_, rfl, _, _, _, [], _, [], hW', ?_, hall W' hbel, rfl, hbel.frame _, fun h => by cases h⟩
  exact trodAll_mk1 (shut_bool Try.underlying4 _)

theorem said : Rows.RootBackSaid :=
  OpenClaim.holds_of_wide 4 Try.f4 rfl rfl rfl rfl rfl rfl rfl ⟨rfl, rfl, rfl, rfl, rfl⟩ rfl rfl rfl rfl rfl (by kernel_rfl) Try.func4 (by kernel_rfl)
    (of_decide_eq_true (by kernel_rfl)) (by unfold Func.isWrapper; first | (rw [if_pos (by decide +kernel)]; kernel_rfl) | (rw [if_neg (by decide +kernel)]; exact ⟨rfl, rfl⟩))
    (fun os started H enc _ => lifted os started H enc)

#print axioms said
end Go.Proofs.Ytnkjhicokcmmpaa.RRootBack
