/-
  Texts of this claim, laid together: Go, Gq.
-/
import Derived.Test.YtnkjhicokcmmpaaQe
import Derived.Test.YtnkjhicokcmmpaaQd

/-
  JournalCrash: the walk.
-/
namespace Go.Proofs.Ytnkjhicokcmmpaa.Sm
open Go Go.RowKit
noncomputable abbrev S15 : Sy := sym Try.prog (orF (trueF 37) (orF (orF jrnF0 (orF armF bootF)) (orF jencF clone8F))) (orG jrnG0 (orG openG (orG appG listsG)))
theorem s15_ok : S15.Ok Try.prog := sym_ok (orF_ok alive8b_ok (orF_ok (orF_ok jrnF0_ok (orF_ok armF_ok bootF_ok)) (orF_ok jencF_ok clone8F_ok))) (orG_ok jrnG0_ok (orG_ok openG_ok (orG_ok appG_ok listsG_ok))) tab mix
theorem str_list (l : List UInt8) : (str l).data.toList = l := by simp [str]
theorem recs_push (l : List (List UInt8)) (b : List UInt8) : recsF (l.length + 1) (rwPush (bysF l) l.length [.by8 b]) = l ++ [b] := by
  have h := recs_bys (l ++ [b])
  rw [← h]
  unfold recsF
  rw [show (l ++ [b]).length = l.length + 1 by simp]
  refine List.map_congr_left fun r hr => ?_
  rw [bysF_push l b r (List.mem_range.1 hr)]
theorem more_facts {E : DiskD} {n m : Nat} (h : Flat E n) (hn : n ≤ 100) (hm : m < 30) (b : List UInt8) (hb : b.length = 2) :
    (writeD E (3 + (m : Int)) (jencB 5 (m + 1) b)).2 = 0 ∧ (flushD (writeD E (3 + (m : Int)) (jencB 5 (m + 1) b)).1).2 = 0 ∧ (writeD E (3 + (m : Int)) (jencB 5 (m + 1) b)).1.Fine ∧ jencE (m + 1) b.length = 0 := by
  have hr : recOk (m + 1) b.length = true := by unfold recOk; rw [hb]; simp
  have hj : jencB 5 (m + 1) b = recBytes 5 (m + 1) b := if_pos hr
  rw [hj]
  obtain ⟨w1, w2, w3, w4⟩ := h.push (by omega) (z := 3 + (m : Int)) (b := recBytes 5 (m + 1) b) (by omega) (by omega) (recBytes_len _ _ _ (by omega))
  exact ⟨w1, w2, (h.in_.write (by omega) _ _).fine, if_pos hr⟩
structure ScP where
  i : Nat
  d : DiskD
  n : Nat
set_option maxHeartbeats 4000000 in
set_option maxRecDepth 100000 in
theorem jcrash_to (hS : S15.Ok Try.prog) (el l : List (List UInt8)) (last : List UInt8) (keep : Bool) (at_ : Int) (hat : fits .i64 at_) : To S15 Try.prog 11 (startOf Try.prog 11 [.im 1 el.length (bysF el), .im 1 l.length (bysF l), .by8 last, .sy (.bool keep), ivA at_] .e 0) (fun x _ _ => x = .v (.bool true)) := by
  have hN := flat_new
  have hone : ∀ r, r < l.length → (bysF l r).all oneA = true := fun _ _ => rfl
  have hNf := hN.in_.fine
  refine To.run hS 5000 (C := True ∧ True) (by kernel_rfl) (by (and_intros <;> try first | exact True.intro | with_reducible rfl | omega | with_reducible assumption)) ?_
  refine To.brd hS ((20 : Int) < (↑(List.length el) : Int)) (C := True) (by kernel_rfl) (by kernel_rfl) (by (and_intros <;> try first | exact True.intro | with_reducible rfl | omega | with_reducible assumption)) ?_ ?_
  · intro h1
    refine To.run hS 5000 (C := True) (by kernel_rfl) trivial ?_
    refine To.end (AV.v (Value.bool true)) (by kernel_rfl) ?_
    rfl
  intro h1
  refine To.run hS 5000 (C := True) (by kernel_rfl) trivial ?_
  refine To.brd hS ((20 : Int) < (↑(List.length l) : Int)) (C := True) (by kernel_rfl) (by kernel_rfl) (by (and_intros <;> try first | exact True.intro | with_reducible rfl | omega | with_reducible assumption)) ?_ ?_
  · intro h2
    refine To.run hS 5000 (C := True) (by kernel_rfl) trivial ?_
    refine To.end (AV.v (Value.bool true)) (by kernel_rfl) ?_
    rfl
  intro h2
  refine To.run hS 5000 (C := True) (by kernel_rfl) trivial ?_
  refine To.yesd hS ((1 : Int) ≤ (40 : Int) ∧ (40 : Int) ≤ (4096 : Int)) (by (and_intros <;> try first | exact True.intro | with_reducible rfl | omega | with_reducible assumption)) (C := True) (by kernel_rfl) trivial ?_
  refine To.run hS 5000 (C := True) (by kernel_rfl) trivial ?_
  refine To.yesd hS (openE (newD (40 : Nat)) (3 : Int) (30 : Int) = (0 : Int)) (of_decide_eq_true (by kernel_rfl)) (C := DiskD.Fine (newD (40 : Nat)) ∧ fits IntKind.i64 (3 : Int) ∧ (0 : Int) ≤ (4 : Int)) (by kernel_rfl) (by (and_intros <;> try first | exact True.intro | with_reducible rfl | omega | with_reducible assumption | (refine fits_i64 ?_ ?_ <;> omega))) ?_
  refine To.run hS 27 (C := True) (by kernel_rfl) trivial ?_
  have hz0 : Olds (newD 40) 0 := fun k _ hk => .inl (by
    show (List.replicate 40 (List.replicate 128 (0 : UInt8))).getD (3 + k) [] = _
    rw [List.getD_eq_getElem?_getD, List.getElem?_replicate, if_pos (by omega)]; rfl)
  refine To.loopX (L := [LN.old (0 : Nat), LN.old (1 : Nat), LN.old (2 : Nat)]) (kp := [(61 : Nat), (60 : Nat), (14 : Nat), (12 : Nat), (11 : Nat), (4 : Nat), (3 : Nat), (2 : Nat), (1 : Nat), (0 : Nat)]) (ks := []) (C := (IntKind.i64 = IntKind.i64 ∧ (0 : Int) = (↑(0 : Nat) : Int)) ∧ Ob.disk (newD (40 : Nat)) = Ob.disk (ScP.d { i := (0 : Nat), d := newD (40 : Nat), n := (0 : Nat) }) ∧ ((73 : TypeId) = (73 : TypeId) ∧ (none : Option Nat) = none ∧ AV.ptr (nat_lit 0) (nat_lit 0) = AV.ptr (nat_lit 0) (nat_lit 0) ∧ (IntKind.i64 = IntKind.i64 ∧ (3 : Int) = (3 : Int)) ∧ (IntKind.i64 = IntKind.i64 ∧ (30 : Int) = (30 : Int)) ∧ (IntKind.u64 = IntKind.u64 ∧ (↑(4 : Nat) : Int) = (↑(4 : Nat) : Int)) ∧ (nat_lit 2 = nat_lit 2 ∧ nat_lit 0 = nat_lit 0) ∧ True) ∧ (26 : TypeId) = (26 : TypeId) ∧ nat_lit 1 = nat_lit 1 ∧ nat_lit 0 = nat_lit 0 ∧ ∀ (r : Nat), r < (0 : Nat) → bysF (Prod.fst (jrun (newD (40 : Nat)) (3 : Int) (4 : Nat) (30 : Nat))) r = bysF (List.take (0 : Nat) el) r) (st := fun (a : ScP) => (⟨(⟨11, 243, (slotT 243 [(0, AV.im (nat_lit 1) (List.length el) (bysF el)), (1, AV.im (nat_lit 1) (List.length l) (bysF l)), (2, AV.by8 last), (3, AV.sy (Value.bool keep)), (4, AV.sy (Value.int IntKind.i64 at_)), (11, AV.v (Value.bool true)), (12, AV.ptr (nat_lit 0) (nat_lit 0)), (14, AV.ptr (nat_lit 1) (nat_lit 0)), (60, AV.sy (Value.int IntKind.i64 (↑(List.length el) : Int))), (61, AV.sy (Value.int IntKind.i64 (↑(ScP.i a) : Int)))]), ARg.no, [(Go.Proofs.Ytnkjhicokcmmpaa.Sm.AItem.code (subC (bodyC Try.prog 11) [1, 1, 1, 1, 1, 1, 0, 1, 0, 0])), (Go.Proofs.Ytnkjhicokcmmpaa.Sm.AItem.inLoop (subC (bodyC Try.prog 11) [1, 1, 1, 1, 1, 1, 0, 1, 0, 0])), (AItem.inBlock 0), (Go.Proofs.Ytnkjhicokcmmpaa.Sm.AItem.code (subC (bodyC Try.prog 11) [1, 1, 1, 1, 1, 1, 1]))], [], false, none, (0 : Nat)⟩ : AFr), [], memF [AB.obj (Ob.disk (ScP.d a)), AB.mem (nat_lit 73) none [AV.ptr (nat_lit 0) (nat_lit 0), AV.sy (Value.int IntKind.i64 (3 : Int)), AV.sy (Value.int IntKind.i64 (30 : Int)), AV.sy (Value.int IntKind.u64 (↑(4 : Nat) : Int)), AV.ow (nat_lit 2) (List.length (List.take (ScP.i a) el))], AB.rw (nat_lit 26) (nat_lit 1) (List.length (List.take (ScP.i a) el)) (bysF (List.take (ScP.i a) el))] 0 Tr.e, 3⟩ : ASt)) (hB := by kernel_rfl) (hC := by kernel_rfl) (he := by kernel_rfl) (hI := ?_) (hc := by (and_intros <;> try first | exact True.intro | with_reducible rfl | omega | with_reducible assumption | (refine fits_u64 ?_ ?_ <;> omega))) (step := ?_) (fun (p : ScP) => [(61, ivA (p.i : Int))]) (fun p => [(0, .obj (.disk p.d)), (1, .mem 73 none [.ptr 0 0, ivA 3, ivA 30, .sy (.int .u64 ((4 : Nat) : Int)), .ow 2 (el.take p.i).length]), (2, .rw 26 1 (el.take p.i).length (bysF (el.take p.i)))]) (fun p => p.i ≤ el.length ∧ Flat p.d p.i ∧ Olds p.d 0) (fun p => el.length - p.i) (ScP.mk 0 (newD 40) 0)
  · exact ⟨Nat.zero_le _, hN, hz0⟩
  intro p ⟨hi, hf, ho⟩ ih
  have hfF := hf.in_.fine
  have hll : (el.take p.i).length = p.i := by rw [List.length_take]; omega
  refine To.run hS 5000 (C := True) (by kernel_rfl) trivial ?_
  refine To.brd hS ((↑(ScP.i p) : Int) < (↑(List.length el) : Int)) (C := True) (by kernel_rfl) (by kernel_rfl) (by (and_intros <;> try first | exact True.intro | with_reducible rfl | omega | with_reducible assumption)) ?_ ?_
  · intro h3
    have hlt : p.i < el.length := by omega
    refine To.run hS 5000 (C := ((0 : Int) ≤ (↑(ScP.i p) : Int) ∧ (↑(ScP.i p) : Int) < (↑(List.length el) : Int)) ∧ True ∧ True) (by kernel_rfl) (by (and_intros <;> try first | exact True.intro | with_reducible rfl | omega | with_reducible assumption)) ?_
    refine To.brd hS ((64 : Int) < (↑(List.length (List.getD el (ScP.i p) default)) : Int)) (C := True) (by kernel_rfl) (by kernel_rfl) (by (and_intros <;> try first | exact True.intro | with_reducible rfl | omega | with_reducible assumption)) ?_ ?_
    · intro h4
      refine To.run hS 5000 (C := ((0 : Int) ≤ (↑(ScP.i p) : Int) ∧ (↑(ScP.i p) : Int) < (↑(List.length el) : Int)) ∧ True ∧ True) (by kernel_rfl) (by (and_intros <;> try first | exact True.intro | with_reducible rfl | omega | with_reducible assumption)) ?_
      refine To.yesd hS ((64 : Int) < (↑(List.length (List.getD el (ScP.i p) default)) : Int)) (by (and_intros <;> try first | exact True.intro | with_reducible rfl | omega | with_reducible assumption)) (C := True) (by kernel_rfl) trivial ?_
      refine To.run hS 5000 (C := True) (by kernel_rfl) trivial ?_
      refine To.end (AV.v (Value.bool true)) (by kernel_rfl) ?_
      rfl
    · intro h4
      have hb : (el.getD p.i default).length ≤ 64 := by omega
      obtain ⟨a1, a2, a3⟩ := hf.append (by omega) (ep := 4) (l := el.take p.i) (p := el.getD p.i default) (by omega) hb
      obtain ⟨a4, a5⟩ := hf.self (by omega)
      rw [hll] at a3
      have hlt3 : 3 + p.i < p.d.stays.length := by rw [hf.len]; omega
      have ho' := ho.elder hb hlt3 a3
      have hi1 : p.i + 1 ≤ el.length := hlt
      have hi2 : el.length - (p.i + 1) < el.length - p.i := by omega
      refine To.run hS 5000 (C := ((0 : Int) ≤ (↑(ScP.i p) : Int) ∧ (↑(ScP.i p) : Int) < (↑(List.length el) : Int)) ∧ True) (by kernel_rfl) (by (and_intros <;> try first | exact True.intro | with_reducible rfl | omega | with_reducible assumption)) ?_
      refine To.yesd hS (Prod.snd (Prod.snd (appendD (ScP.d p) (3 : Int) (30 : Int) (4 : Nat) (recsF (List.length (List.take (ScP.i p) el)) (bysF (List.take (ScP.i p) el))) (List.getD el (ScP.i p) default))) = (0 : Int)) ?_ (C := AppOk (73 : TypeId) (26 : TypeId) (0 : Nat) (1 : Nat) (2 : Nat) (List.length (List.take (ScP.i p) el)) (List.length (List.take (ScP.i p) el)) (bysF (List.take (ScP.i p) el)) (ScP.d p) (3 : Int) (30 : Int) (↑(4 : Nat) : Int)) (by kernel_rfl) ?_ ?_; rotate_left; (and_intros <;> try first | exact True.intro | with_reducible rfl | omega | with_reducible assumption); rotate_right
      · rw [recs_bys]; exact a1
      · exact ⟨⟨rfl, rfl⟩, rfl, fun r _ => by rw [recs_bys], by decide, ⟨a4, a5⟩, fits_i64 (by omega) (by omega), ⟨by decide, by omega, by decide⟩, by decide, by decide⟩
      refine To.run hS 11 (C := fits IntKind.i64 ((↑(ScP.i p) : Int) + (1 : Int))) (by kernel_rfl) (by (and_intros <;> try first | exact True.intro | with_reducible rfl | omega | with_reducible assumption | (refine fits_i64 ?_ ?_ <;> omega))) ?_
      refine To.backX (L := [LN.old (0 : Nat), LN.old (1 : Nat), LN.old (3 : Nat)]) (kp := [(61 : Nat), (60 : Nat), (14 : Nat), (12 : Nat), (11 : Nat), (4 : Nat), (3 : Nat), (2 : Nat), (1 : Nat), (0 : Nat)]) (ks := []) (ov := [((61 : Nat), AV.sy (Value.int IntKind.i64 (↑(ScP.i { i := ScP.i p + (1 : Nat), d := Prod.fst (appendD (ScP.d p) (3 : Int) (30 : Int) (4 : Nat) (List.take (ScP.i p) el) (List.getD el (ScP.i p) default)), n := (0 : Nat) }) : Int)))]) (ob := [((0 : Nat), AB.obj (Ob.disk (ScP.d { i := ScP.i p + (1 : Nat), d := Prod.fst (appendD (ScP.d p) (3 : Int) (30 : Int) (4 : Nat) (List.take (ScP.i p) el) (List.getD el (ScP.i p) default)), n := (0 : Nat) }))), ((1 : Nat), AB.mem (nat_lit 73) none [AV.ptr (nat_lit 0) (nat_lit 0), AV.sy (Value.int IntKind.i64 (3 : Int)), AV.sy (Value.int IntKind.i64 (30 : Int)), AV.sy (Value.int IntKind.u64 (↑(4 : Nat) : Int)), AV.ow (nat_lit 2) (List.length (List.take (ScP.i { i := ScP.i p + (1 : Nat), d := Prod.fst (appendD (ScP.d p) (3 : Int) (30 : Int) (4 : Nat) (List.take (ScP.i p) el) (List.getD el (ScP.i p) default)), n := (0 : Nat) }) el))]), ((2 : Nat), AB.rw (nat_lit 26) (nat_lit 1) (List.length (List.take (ScP.i { i := ScP.i p + (1 : Nat), d := Prod.fst (appendD (ScP.d p) (3 : Int) (30 : Int) (4 : Nat) (List.take (ScP.i p) el) (List.getD el (ScP.i p) default)), n := (0 : Nat) }) el)) (bysF (List.take (ScP.i { i := ScP.i p + (1 : Nat), d := Prod.fst (appendD (ScP.d p) (3 : Int) (30 : Int) (4 : Nat) (List.take (ScP.i p) el) (List.getD el (ScP.i p) default)), n := (0 : Nat) }) el)))]) (C := (IntKind.i64 = IntKind.i64 ∧ (↑(ScP.i p) : Int) + (1 : Int) = (↑(ScP.i { i := ScP.i p + (1 : Nat), d := Prod.fst (appendD (ScP.d p) (3 : Int) (30 : Int) (4 : Nat) (List.take (ScP.i p) el) (List.getD el (ScP.i p) default)), n := (0 : Nat) }) : Int)) ∧ Ob.disk (Prod.fst (appendD (ScP.d p) (3 : Int) (30 : Int) (4 : Nat) (recsF (List.length (List.take (ScP.i p) el)) (bysF (List.take (ScP.i p) el))) (List.getD el (ScP.i p) default))) = Ob.disk (ScP.d { i := ScP.i p + (1 : Nat), d := Prod.fst (appendD (ScP.d p) (3 : Int) (30 : Int) (4 : Nat) (List.take (ScP.i p) el) (List.getD el (ScP.i p) default)), n := (0 : Nat) }) ∧ ((73 : TypeId) = nat_lit 73 ∧ (none : Option Nat) = none ∧ AV.ptr (nat_lit 0) (nat_lit 0) = AV.ptr (nat_lit 0) (nat_lit 0) ∧ (IntKind.i64 = IntKind.i64 ∧ (3 : Int) = (3 : Int)) ∧ (IntKind.i64 = IntKind.i64 ∧ (30 : Int) = (30 : Int)) ∧ (IntKind.u64 = IntKind.u64 ∧ (↑(4 : Nat) : Int) = (↑(4 : Nat) : Int)) ∧ (nat_lit 2 = nat_lit 2 ∧ List.length (List.take (ScP.i p) el) + (1 : Nat) = List.length (List.take (ScP.i { i := ScP.i p + (1 : Nat), d := Prod.fst (appendD (ScP.d p) (3 : Int) (30 : Int) (4 : Nat) (List.take (ScP.i p) el) (List.getD el (ScP.i p) default)), n := (0 : Nat) }) el)) ∧ True) ∧ (26 : TypeId) = nat_lit 26 ∧ nat_lit 1 = nat_lit 1 ∧ List.length (List.take (ScP.i p) el) + (1 : Nat) = List.length (List.take (ScP.i { i := ScP.i p + (1 : Nat), d := Prod.fst (appendD (ScP.d p) (3 : Int) (30 : Int) (4 : Nat) (List.take (ScP.i p) el) (List.getD el (ScP.i p) default)), n := (0 : Nat) }) el) ∧ ∀ (r : Nat), r < List.length (List.take (ScP.i p) el) + (1 : Nat) → bysF (recsF (List.length (List.take (ScP.i p) el)) (bysF (List.take (ScP.i p) el)) ++ [List.getD el (ScP.i p) default]) r = bysF (List.take (ScP.i { i := ScP.i p + (1 : Nat), d := Prod.fst (appendD (ScP.d p) (3 : Int) (30 : Int) (4 : Nat) (List.take (ScP.i p) el) (List.getD el (ScP.i p) default)), n := (0 : Nat) }) el) r) (hB := by kernel_rfl) (hC := by kernel_rfl) (hc := ?_) (he := by kernel_rfl) (ih (ScP.mk (p.i + 1) (appendD p.d 3 30 4 (el.take p.i) (el.getD p.i default)).1 0) ⟨hi1, a2, ho'⟩ hi2)
      have hlen : (el.take p.i).length + 1 = (el.take (p.i + 1)).length := by rw [hll, List.length_take]; omega
      have htk : el.take (p.i + 1) = el.take p.i ++ [el.getD p.i default] := by rw [List.take_succ_eq_append_getElem hlt, List.getD_eq_getElem?_getD, List.getElem?_eq_getElem hlt]; rfl
      refine ⟨⟨rfl, Int.natCast_succ _⟩, congrArg Ob.disk (by rw [recs_bys]), ⟨rfl, rfl, rfl, ⟨rfl, rfl⟩, ⟨rfl, rfl⟩, ⟨rfl, rfl⟩, ⟨rfl, hlen⟩, trivial⟩, rfl, rfl, hlen, fun r _ => by rw [recs_bys]; exact congrArg (bysF · r) htk.symm⟩
  · intro h3
    have hO := flat_open hf
    have hrn : (jrun p.d 3 5 30).1 = [] := run_nil hf (noRec_old (ho 0 (Nat.le_refl _) (by omega)) (by omega))
    obtain ⟨d, n, hdp, hn, hfd, hod⟩ : ∃ d n, d = p.d ∧ n ≤ 20 ∧ Flat d n ∧ Olds d 0 := ⟨p.d, p.i, rfl, by omega, hf, ho⟩
    refine To.run hS 5000 (C := True) (by kernel_rfl) trivial ?_
    refine To.yesd hS (openE (ScP.d p) (3 : Int) (30 : Int) = (0 : Int)) (by (and_intros <;> try first | exact True.intro | with_reducible rfl | omega | with_reducible assumption | (refine fits_i64 ?_ ?_ <;> omega))) (C := DiskD.Fine (ScP.d p) ∧ fits IntKind.i64 (3 : Int) ∧ (0 : Int) ≤ (5 : Int)) (by kernel_rfl) (by (and_intros <;> try first | exact True.intro | with_reducible rfl | omega | with_reducible assumption | (refine fits_i64 ?_ ?_ <;> omega))) ?_
    refine To.run hS 5000 (C := True) (by kernel_rfl) trivial ?_
    refine To.nod hS ((30 : Int) = (0 : Int)) (by (and_intros <;> try first | exact True.intro | with_reducible rfl | omega | with_reducible assumption)) (C := True) (by kernel_rfl) trivial ?_
    refine To.run hS 5000 (C := True) (by kernel_rfl) trivial ?_
    refine To.non hS ((↑(List.length (Prod.fst (jrun (ScP.d p) (3 : Int) (5 : Nat) (30 : Nat)))) : Int) = (0 : Int)) ?_ (C := True) (by kernel_rfl) trivial ?_
    · rw [hrn]; decide
    refine To.run hS 13 (C := True) (by kernel_rfl) trivial ?_
    have hq0 := congrArg List.length hrn
    have hr0 : Recs d 5 (l.take 0) := fun k hk => absurd hk (Nat.not_lt_zero _)
    refine To.loopX (L := [LN.old (0 : Nat), LN.old (3 : Nat), LN.old (4 : Nat)]) (kp := [(103 : Nat), (102 : Nat), (17 : Nat), (12 : Nat), (11 : Nat), (4 : Nat), (3 : Nat), (2 : Nat), (1 : Nat)]) (ks := []) (C := (IntKind.i64 = IntKind.i64 ∧ (0 : Int) = (↑(ScP.i { i := (0 : Nat), d := d, n := n }) : Int)) ∧ Ob.disk (ScP.d p) = Ob.disk (ScP.d { i := (0 : Nat), d := d, n := n }) ∧ ((73 : TypeId) = (73 : TypeId) ∧ (none : Option Nat) = none ∧ AV.ptr (nat_lit 0) (nat_lit 0) = AV.ptr (nat_lit 0) (nat_lit 0) ∧ (IntKind.i64 = IntKind.i64 ∧ (3 : Int) = (3 : Int)) ∧ (IntKind.i64 = IntKind.i64 ∧ (30 : Int) = (30 : Int)) ∧ (IntKind.u64 = IntKind.u64 ∧ (↑(5 : Nat) : Int) = (↑(5 : Nat) : Int)) ∧ (nat_lit 2 = nat_lit 2 ∧ List.length (Prod.fst (jrun (ScP.d p) (3 : Int) (5 : Nat) (30 : Nat))) = nat_lit 0) ∧ True) ∧ (26 : TypeId) = (26 : TypeId) ∧ nat_lit 1 = nat_lit 1 ∧ List.length (Prod.fst (jrun (ScP.d p) (3 : Int) (5 : Nat) (30 : Nat))) = nat_lit 0 ∧ ∀ (r : Nat), r < List.length (Prod.fst (jrun (ScP.d p) (3 : Int) (5 : Nat) (30 : Nat))) → bysF (Prod.fst (jrun (ScP.d p) (3 : Int) (5 : Nat) (30 : Nat))) r = bysF (List.take (ScP.i { i := (0 : Nat), d := d, n := n }) l) r) (st := fun (a : ScP) => (⟨(⟨11, 243, (slotT 243 [(1, AV.im (nat_lit 1) (List.length l) (bysF l)), (2, AV.by8 last), (3, AV.sy (Value.bool keep)), (4, AV.sy (Value.int IntKind.i64 at_)), (11, AV.v (Value.bool true)), (12, AV.ptr (nat_lit 0) (nat_lit 0)), (17, AV.ptr (nat_lit 1) (nat_lit 0)), (102, AV.sy (Value.int IntKind.i64 (↑(List.length l) : Int))), (103, AV.sy (Value.int IntKind.i64 (↑(ScP.i a) : Int)))]), ARg.no, [(Go.Proofs.Ytnkjhicokcmmpaa.Sm.AItem.code (subC (bodyC Try.prog 11) [1, 1, 1, 1, 1, 1, 1, 1, 1, 0, 1, 0, 0])), (Go.Proofs.Ytnkjhicokcmmpaa.Sm.AItem.inLoop (subC (bodyC Try.prog 11) [1, 1, 1, 1, 1, 1, 1, 1, 1, 0, 1, 0, 0])), (AItem.inBlock 2), (Go.Proofs.Ytnkjhicokcmmpaa.Sm.AItem.code (subC (bodyC Try.prog 11) [1, 1, 1, 1, 1, 1, 1, 1, 1, 1]))], [], false, none, (0 : Nat)⟩ : AFr), [], memF [AB.obj (Ob.disk (ScP.d a)), AB.mem (nat_lit 73) none [AV.ptr (nat_lit 0) (nat_lit 0), AV.sy (Value.int IntKind.i64 (3 : Int)), AV.sy (Value.int IntKind.i64 (30 : Int)), AV.sy (Value.int IntKind.u64 (↑(5 : Nat) : Int)), AV.ow (nat_lit 2) (List.length (List.take (ScP.i a) l))], AB.rw (nat_lit 26) (nat_lit 1) (List.length (List.take (ScP.i a) l)) (bysF (List.take (ScP.i a) l))] 0 Tr.e, 3⟩ : ASt)) (hB := by kernel_rfl) (hC := by kernel_rfl) (he := by kernel_rfl) (hI := ?_) (hc := ?_) (step := ?_) (fun (p : ScP) => [(103, ivA (p.i : Int))]) (fun p => [(0, .obj (.disk p.d)), (1, .mem 73 none [.ptr 0 0, ivA 3, ivA 30, .sy (.int .u64 ((5 : Nat) : Int)), .ow 2 (l.take p.i).length]), (2, .rw 26 1 (l.take p.i).length (bysF (l.take p.i)))]) (fun p => p.i ≤ l.length ∧ p.n ≤ 20 + p.i ∧ Flat p.d p.n ∧ Recs p.d 5 (l.take p.i) ∧ (∀ b ∈ l.take p.i, b.length ≤ 64) ∧ Olds p.d p.i) (fun p => l.length - p.i) (ScP.mk 0 d n)
    · exact ⟨Nat.zero_le _, hn, hfd, hr0, fun b hb => (by cases hb), hod⟩
    · exact ⟨⟨rfl, rfl⟩, congrArg Ob.disk hdp.symm, ⟨rfl, rfl, rfl, ⟨rfl, rfl⟩, ⟨rfl, rfl⟩, ⟨rfl, rfl⟩, ⟨rfl, hq0⟩, trivial⟩, rfl, rfl, hq0, fun r hr => absurd (hq0 ▸ hr) (Nat.not_lt_zero _)⟩
    intro q ⟨gi, gn, gf, gr, g64, go⟩ ihq
    have gfF := gf.in_.fine
    have gll : (l.take q.i).length = q.i := by rw [List.length_take]; omega
    refine To.run hS 5000 (C := True) (by kernel_rfl) trivial ?_
    refine To.brd hS ((↑(ScP.i q) : Int) < (↑(List.length l) : Int)) (C := True) (by kernel_rfl) (by kernel_rfl) (by (and_intros <;> try first | exact True.intro | with_reducible rfl | omega | with_reducible assumption)) ?_ ?_
    · intro h5
      have glt : q.i < l.length := by omega
      refine To.run hS 5000 (C := ((0 : Int) ≤ (↑(ScP.i q) : Int) ∧ (↑(ScP.i q) : Int) < (↑(List.length l) : Int)) ∧ True ∧ True) (by kernel_rfl) (by (and_intros <;> try first | exact True.intro | with_reducible rfl | omega | with_reducible assumption)) ?_
      refine To.brd hS ((64 : Int) < (↑(List.length (List.getD l (ScP.i q) default)) : Int)) (C := True) (by kernel_rfl) (by kernel_rfl) (by (and_intros <;> try first | exact True.intro | with_reducible rfl | omega | with_reducible assumption)) ?_ ?_
      · intro h6
        refine To.run hS 5000 (C := ((0 : Int) ≤ (↑(ScP.i q) : Int) ∧ (↑(ScP.i q) : Int) < (↑(List.length l) : Int)) ∧ True ∧ True) (by kernel_rfl) (by (and_intros <;> try first | exact True.intro | with_reducible rfl | omega | with_reducible assumption)) ?_
        refine To.yesd hS ((64 : Int) < (↑(List.length (List.getD l (ScP.i q) default)) : Int)) (by (and_intros <;> try first | exact True.intro | with_reducible rfl | omega | with_reducible assumption)) (C := True) (by kernel_rfl) trivial ?_
        refine To.run hS 5000 (C := True) (by kernel_rfl) trivial ?_
        refine To.end (AV.v (Value.bool true)) (by kernel_rfl) ?_
        rfl
      · intro h6
        have gb : (l.getD q.i default).length ≤ 64 := by omega
        obtain ⟨a1, a2, a3⟩ := gf.append (by omega) (ep := 5) (l := l.take q.i) (p := l.getD q.i default) (by omega) gb
        obtain ⟨a4, a5⟩ := gf.self (by omega)
        rw [gll] at a3
        have hlt3 : 3 + q.i < q.d.stays.length := by rw [gf.len]; omega
        have gr' := gr.push glt hlt3 a3
        have go' := go.push hlt3 a3
        have g64' := take_all g64 glt gb
        have gi1 : q.i + 1 ≤ l.length := glt
        have gn1 : q.n + 1 ≤ 20 + (q.i + 1) := by omega
        have gi2 : l.length - (q.i + 1) < l.length - q.i := by omega
        refine To.run hS 5000 (C := ((0 : Int) ≤ (↑(ScP.i q) : Int) ∧ (↑(ScP.i q) : Int) < (↑(List.length l) : Int)) ∧ True) (by kernel_rfl) (by (and_intros <;> try first | exact True.intro | with_reducible rfl | omega | with_reducible assumption)) ?_
        refine To.yesd hS (Prod.snd (Prod.snd (appendD (ScP.d q) (3 : Int) (30 : Int) (5 : Nat) (recsF (List.length (List.take (ScP.i q) l)) (bysF (List.take (ScP.i q) l))) (List.getD l (ScP.i q) default))) = (0 : Int)) ?_ (C := AppOk (73 : TypeId) (26 : TypeId) (0 : Nat) (1 : Nat) (2 : Nat) (List.length (List.take (ScP.i q) l)) (List.length (List.take (ScP.i q) l)) (bysF (List.take (ScP.i q) l)) (ScP.d q) (3 : Int) (30 : Int) (↑(5 : Nat) : Int)) (by kernel_rfl) ?_ ?_; rotate_left; (and_intros <;> try first | exact True.intro | with_reducible rfl | omega | with_reducible assumption); rotate_right
        · rw [recs_bys]; exact a1
        · exact ⟨⟨rfl, rfl⟩, rfl, fun r _ => by rw [recs_bys], by decide, ⟨a4, a5⟩, fits_i64 (by omega) (by omega), ⟨by decide, by omega, by decide⟩, by decide, by decide⟩
        refine To.run hS 11 (C := fits IntKind.i64 ((↑(ScP.i q) : Int) + (1 : Int))) (by kernel_rfl) (by (and_intros <;> try first | exact True.intro | with_reducible rfl | omega | with_reducible assumption | (refine fits_i64 ?_ ?_ <;> omega))) ?_
        refine To.backX (L := [LN.old (0 : Nat), LN.old (1 : Nat), LN.old (3 : Nat)]) (kp := [(103 : Nat), (102 : Nat), (17 : Nat), (12 : Nat), (11 : Nat), (4 : Nat), (3 : Nat), (2 : Nat), (1 : Nat)]) (ks := []) (ov := [((103 : Nat), AV.sy (Value.int IntKind.i64 (↑(ScP.i { i := ScP.i q + (1 : Nat), d := Prod.fst (appendD (ScP.d q) (3 : Int) (30 : Int) (5 : Nat) (List.take (ScP.i q) l) (List.getD l (ScP.i q) default)), n := ScP.n q + (1 : Nat) }) : Int)))]) (ob := [((0 : Nat), AB.obj (Ob.disk (ScP.d { i := ScP.i q + (1 : Nat), d := Prod.fst (appendD (ScP.d q) (3 : Int) (30 : Int) (5 : Nat) (List.take (ScP.i q) l) (List.getD l (ScP.i q) default)), n := ScP.n q + (1 : Nat) }))), ((1 : Nat), AB.mem (nat_lit 73) none [AV.ptr (nat_lit 0) (nat_lit 0), AV.sy (Value.int IntKind.i64 (3 : Int)), AV.sy (Value.int IntKind.i64 (30 : Int)), AV.sy (Value.int IntKind.u64 (↑(5 : Nat) : Int)), AV.ow (nat_lit 2) (List.length (List.take (ScP.i { i := ScP.i q + (1 : Nat), d := Prod.fst (appendD (ScP.d q) (3 : Int) (30 : Int) (5 : Nat) (List.take (ScP.i q) l) (List.getD l (ScP.i q) default)), n := ScP.n q + (1 : Nat) }) l))]), ((2 : Nat), AB.rw (nat_lit 26) (nat_lit 1) (List.length (List.take (ScP.i { i := ScP.i q + (1 : Nat), d := Prod.fst (appendD (ScP.d q) (3 : Int) (30 : Int) (5 : Nat) (List.take (ScP.i q) l) (List.getD l (ScP.i q) default)), n := ScP.n q + (1 : Nat) }) l)) (bysF (List.take (ScP.i { i := ScP.i q + (1 : Nat), d := Prod.fst (appendD (ScP.d q) (3 : Int) (30 : Int) (5 : Nat) (List.take (ScP.i q) l) (List.getD l (ScP.i q) default)), n := ScP.n q + (1 : Nat) }) l)))]) (C := (IntKind.i64 = IntKind.i64 ∧ (↑(ScP.i q) : Int) + (1 : Int) = (↑(ScP.i { i := ScP.i q + (1 : Nat), d := Prod.fst (appendD (ScP.d q) (3 : Int) (30 : Int) (5 : Nat) (List.take (ScP.i q) l) (List.getD l (ScP.i q) default)), n := ScP.n q + (1 : Nat) }) : Int)) ∧ Ob.disk (Prod.fst (appendD (ScP.d q) (3 : Int) (30 : Int) (5 : Nat) (recsF (List.length (List.take (ScP.i q) l)) (bysF (List.take (ScP.i q) l))) (List.getD l (ScP.i q) default))) = Ob.disk (ScP.d { i := ScP.i q + (1 : Nat), d := Prod.fst (appendD (ScP.d q) (3 : Int) (30 : Int) (5 : Nat) (List.take (ScP.i q) l) (List.getD l (ScP.i q) default)), n := ScP.n q + (1 : Nat) }) ∧ ((73 : TypeId) = nat_lit 73 ∧ (none : Option Nat) = none ∧ AV.ptr (nat_lit 0) (nat_lit 0) = AV.ptr (nat_lit 0) (nat_lit 0) ∧ (IntKind.i64 = IntKind.i64 ∧ (3 : Int) = (3 : Int)) ∧ (IntKind.i64 = IntKind.i64 ∧ (30 : Int) = (30 : Int)) ∧ (IntKind.u64 = IntKind.u64 ∧ (↑(5 : Nat) : Int) = (↑(5 : Nat) : Int)) ∧ (nat_lit 2 = nat_lit 2 ∧ List.length (List.take (ScP.i q) l) + (1 : Nat) = List.length (List.take (ScP.i { i := ScP.i q + (1 : Nat), d := Prod.fst (appendD (ScP.d q) (3 : Int) (30 : Int) (5 : Nat) (List.take (ScP.i q) l) (List.getD l (ScP.i q) default)), n := ScP.n q + (1 : Nat) }) l)) ∧ True) ∧ (26 : TypeId) = nat_lit 26 ∧ nat_lit 1 = nat_lit 1 ∧ List.length (List.take (ScP.i q) l) + (1 : Nat) = List.length (List.take (ScP.i { i := ScP.i q + (1 : Nat), d := Prod.fst (appendD (ScP.d q) (3 : Int) (30 : Int) (5 : Nat) (List.take (ScP.i q) l) (List.getD l (ScP.i q) default)), n := ScP.n q + (1 : Nat) }) l) ∧ ∀ (r : Nat), r < List.length (List.take (ScP.i q) l) + (1 : Nat) → bysF (recsF (List.length (List.take (ScP.i q) l)) (bysF (List.take (ScP.i q) l)) ++ [List.getD l (ScP.i q) default]) r = bysF (List.take (ScP.i { i := ScP.i q + (1 : Nat), d := Prod.fst (appendD (ScP.d q) (3 : Int) (30 : Int) (5 : Nat) (List.take (ScP.i q) l) (List.getD l (ScP.i q) default)), n := ScP.n q + (1 : Nat) }) l) r) (hB := by kernel_rfl) (hC := by kernel_rfl) (hc := ?_) (he := by kernel_rfl) (ihq (ScP.mk (q.i + 1) (appendD q.d 3 30 5 (l.take q.i) (l.getD q.i default)).1 (q.n + 1)) ⟨gi1, gn1, a2, gr', g64', go'⟩ gi2)
        have hlen : (l.take q.i).length + 1 = (l.take (q.i + 1)).length := by rw [gll, List.length_take]; omega
        have htk : l.take (q.i + 1) = l.take q.i ++ [l.getD q.i default] := by rw [List.take_succ_eq_append_getElem glt, List.getD_eq_getElem?_getD, List.getElem?_eq_getElem glt]; rfl
        refine ⟨⟨rfl, Int.natCast_succ _⟩, congrArg Ob.disk (by rw [recs_bys]), ⟨rfl, rfl, rfl, ⟨rfl, rfl⟩, ⟨rfl, rfl⟩, ⟨rfl, rfl⟩, ⟨rfl, hlen⟩, trivial⟩, rfl, rfl, hlen, fun r _ => by rw [recs_bys]; exact congrArg (bysF · r) htk.symm⟩
    · intro h5
      have hql : q.i = l.length := by omega
      have hlt : l.take q.i = l := List.take_of_length_le (by omega)
      rw [hlt] at gr g64
      rw [hql] at go
      obtain ⟨D, hD⟩ : ∃ D, D = q.d := ⟨_, rfl⟩
      rw [← hD] at gf gr go
      have gfF := gf.in_.fine
      have hrd := gf.read (z := 3 + (l.length : Int)) (by omega) (by omega)
      rw [show (3 + (l.length : Int)).toNat = 3 + l.length by omega] at hrd
      have hsl := gf.sec_len (k := 3 + l.length) (by omega)
      have hsm : (readD D (3 + (l.length : Int))).1.isSome = true := by rw [hrd]; rfl
      have hgl : ((readD D (3 + (l.length : Int))).1.getD []).length = 128 := by rw [hrd]; exact hsl
      refine To.run hS 5000 (C := True) (by kernel_rfl) trivial ?_
      refine To.brd hS ((64 : Int) < (↑(List.length last) : Int)) (C := True) (by kernel_rfl) (by kernel_rfl) (by (and_intros <;> try first | exact True.intro | with_reducible rfl | omega | with_reducible assumption)) ?_ ?_
      · intro h6
        refine To.run hS 5000 (C := True) (by kernel_rfl) trivial ?_
        refine To.end (AV.v (Value.bool true)) (by kernel_rfl) ?_
        rfl
      intro h6
      have hl64 : last.length ≤ 64 := by omega
      have hjb : jencB 5 (l.length + 1) last = recBytes 5 (l.length + 1) last := by
        unfold jencB recOk; rw [if_pos (by rw [decide_eq_true hl64]; simp)]
      have hje : jencE (l.length + 1) last.length = 0 := by
        unfold jencE recOk; rw [if_pos (by rw [decide_eq_true hl64]; simp)]
      have hjl : (jencB 5 (l.length + 1) last).length = 128 := by rw [hjb]; exact recBytes_len _ _ _ hl64
      refine To.loop (L := [LN.old (0 : Nat), LN.old (1 : Nat), LN.old (2 : Nat)]) (kp := [(133 : Nat), (17 : Nat), (12 : Nat), (11 : Nat), (4 : Nat), (3 : Nat), (2 : Nat), (1 : Nat)]) (ks := []) (C := Ob.disk (ScP.d q) = Ob.disk D ∧ ((73 : TypeId) = (73 : TypeId) ∧ (none : Option Nat) = none ∧ AV.ptr (nat_lit 0) (nat_lit 0) = AV.ptr (nat_lit 0) (nat_lit 0) ∧ (IntKind.i64 = IntKind.i64 ∧ (3 : Int) = (3 : Int)) ∧ (IntKind.i64 = IntKind.i64 ∧ (30 : Int) = (30 : Int)) ∧ (IntKind.u64 = IntKind.u64 ∧ (↑(5 : Nat) : Int) = (↑(5 : Nat) : Int)) ∧ (nat_lit 2 = nat_lit 2 ∧ List.length (List.take (ScP.i q) l) = List.length l) ∧ True) ∧ (26 : TypeId) = (26 : TypeId) ∧ nat_lit 1 = nat_lit 1 ∧ List.length (List.take (ScP.i q) l) = List.length l ∧ ∀ (r : Nat), r < List.length (List.take (ScP.i q) l) → bysF (List.take (ScP.i q) l) r = bysF l r) (hB := by kernel_rfl) (hC := by kernel_rfl) (hI := by (and_intros <;> try first | exact True.intro | with_reducible rfl | omega | with_reducible assumption | (refine fits_u64 ?_ ?_ <;> omega))) (hc := ?_) (step := ?_) (fun (_ : Unit) => []) (fun _ => [(0, .obj (.disk D)), (1, .mem 73 none [.ptr 0 0, ivA 3, ivA 30, .sy (.int .u64 ((5 : Nat) : Int)), .ow 2 l.length]), (2, .rw 26 1 l.length (bysF l))]) (fun _ => True) (fun _ => 0) (())
      · exact ⟨congrArg Ob.disk hD.symm, ⟨rfl, rfl, rfl, ⟨rfl, rfl⟩, ⟨rfl, rfl⟩, ⟨rfl, rfl⟩, ⟨rfl, by rw [hlt]⟩, trivial⟩, rfl, rfl, by rw [hlt], fun r _ => by rw [hlt]⟩
      intro _ _ _
      refine To.run hS 5000 (C := True ∧ fits IntKind.i64 ((3 : Int) + (↑(List.length l) : Int))) (by kernel_rfl) (by (and_intros <;> try first | exact True.intro | with_reducible rfl | omega | with_reducible assumption | (refine fits_i64 ?_ ?_ <;> omega))) ?_
      refine To.yes hS (Option.isSome (Prod.fst (readD D ((3 : Int) + (↑(List.length l) : Int))))) (by (and_intros <;> try first | exact True.intro | with_reducible rfl | omega | with_reducible assumption)) (C := DiskD.Fine D) (by kernel_rfl) (by (and_intros <;> try first | exact True.intro | with_reducible rfl | omega | with_reducible assumption)) ?_
      refine To.run hS 5000 (C := True ∧ fits IntKind.i64 ((↑(List.length l) : Int) + (1 : Int)) ∧ fits IntKind.u64 ((↑(List.length l) : Int) + (1 : Int)) ∧ (0 : Int) ≤ (5 : Int) ∧ (5 : Int) < (18446744073709551616 : Int) ∧ (0 : Int) ≤ (↑(List.length l) : Int) + (1 : Int) ∧ (↑(List.length l) : Int) + (1 : Int) < (18446744073709551616 : Int) ∧ True) (by kernel_rfl) (by (and_intros <;> try first | exact True.intro | with_reducible rfl | omega | with_reducible assumption | (refine fits_i64 ?_ ?_ <;> omega) | (refine fits_u64 ?_ ?_ <;> omega))) ?_
      refine To.non hS (jencE (List.length l + (1 : Nat)) (List.length last) = (0 : Int)) (by (and_intros <;> try first | exact True.intro | with_reducible rfl | omega | with_reducible assumption)) (C := True) (by kernel_rfl) trivial ?_
      refine To.run hS 5000 (C := True) (by kernel_rfl) trivial ?_
      refine To.non hS ((↑(List.length (Option.getD (Prod.fst (readD D ((3 : Int) + (↑(List.length l) : Int)))) [])) : Int) = (128 : Int)) (by (and_intros <;> try first | exact True.intro | with_reducible rfl | omega | with_reducible assumption)) (C := True) (by kernel_rfl) trivial ?_
      refine To.run hS 5000 (C := True) (by kernel_rfl) trivial ?_
      refine To.non hS ((↑(List.length (jencB (5 : Nat) (List.length l + (1 : Nat)) last)) : Int) = (128 : Int)) (by (and_intros <;> try first | exact True.intro | with_reducible rfl | omega | with_reducible assumption)) (C := True) (by kernel_rfl) trivial ?_
      refine To.run hS 5000 (C := True ∧ True ∧ True ∧ fits IntKind.i64 ((3 : Int) + (↑(List.length l) : Int))) (by kernel_rfl) (by (and_intros <;> try first | exact True.intro | with_reducible rfl | omega | with_reducible assumption | (refine fits_i64 ?_ ?_ <;> omega))) ?_
      have ft : fits .i64 (3 + (l.length : Int)) := fits_i64 (by omega) (by omega)
      refine To.br hS (keep) (C := True) (by kernel_rfl) (by kernel_rfl) (by (and_intros <;> try first | exact True.intro | with_reducible rfl | omega | with_reducible assumption)) ?_ ?_
      · intro h7
        obtain ⟨t1, t2, t3, t4, t5, t6⟩ := gf.appTorn (by omega) (l := l) (p := last) (c := ⟨1, [3 + (l.length : Int)], 3 + (l.length : Int), at_⟩) (by omega) hl64 (wf8 ft hat) (by show 1 ≤ 1000000; decide) rfl
        have t2F := t2.fine
        obtain ⟨t7, t8⟩ := t2.self
        have hk1 : [3 + (l.length : Int)].length ≤ 1000000 := by show 1 ≤ 1000000; decide
        have hrb := (recs_bys l).symm
        obtain ⟨R, hR⟩ : ∃ R, R = recsF l.length (bysF l) := ⟨_, rfl⟩
        have hRl : R = l := hR.trans hrb.symm
        have h31 : (appendD (armD D ⟨1, [3 + (l.length : Int)], 3 + (l.length : Int), at_⟩).1 3 30 5 (recsF l.length (bysF l)) last).2.2 = 31 := by rw [← hR, hRl]; exact t3
        have h5F : (appendD (armD D ⟨1, [3 + (l.length : Int)], 3 + (l.length : Int), at_⟩).1 3 30 5 (recsF l.length (bysF l)) last).1.Fine := by rw [← hR, hRl]; exact t5
        obtain ⟨E, hE⟩ : ∃ E, E = bootD (appendD (armD D ⟨1, [3 + (l.length : Int)], 3 + (l.length : Int), at_⟩).1 3 30 5 (recsF l.length (bysF l)) last).1 := ⟨_, rfl⟩
        have hEE : E = bootD (appendD (armD D ⟨1, [3 + (l.length : Int)], 3 + (l.length : Int), at_⟩).1 3 30 5 l last).1 := by rw [hE, ← hR, hRl]
        rw [← hEE] at t4 t6
        have hE1 := t4.in_.fine
        have hEF := t4.in_.fine
        rw [hE] at hEF
        have hO := flat_open t4
        rw [hE] at hO
        refine To.run hS 5000 (C := True ∧ fits IntKind.i64 ((3 : Int) + (↑(List.length l) : Int)) ∧ True ∧ DiskD.Fine D ∧ List.length [(3 : Int) + (↑(List.length l) : Int)] ≤ (1000000 : Nat) ∧ fits IntKind.i64 at_) (by kernel_rfl) (by (and_intros <;> try first | exact True.intro | with_reducible rfl | omega | with_reducible assumption | (refine fits_i64 ?_ ?_ <;> omega))) ?_
        refine To.nod hS (Prod.snd (Prod.snd (appendD (Prod.fst (armD D { w := (1 : Int), keep := [(3 : Int) + (↑(List.length l) : Int)], torn := (3 : Int) + (↑(List.length l) : Int), at_ := at_ })) (3 : Int) (30 : Int) (5 : Nat) (recsF (List.length l) (bysF l)) last)) = (0 : Int)) (by (and_intros <;> try first | exact True.intro | with_reducible rfl | omega | with_reducible assumption)) (C := AppOk (73 : TypeId) (26 : TypeId) (0 : Nat) (1 : Nat) (2 : Nat) (List.length l) (List.length l) (bysF l) (Prod.fst (armD D { w := (1 : Int), keep := [(3 : Int) + (↑(List.length l) : Int)], torn := (3 : Int) + (↑(List.length l) : Int), at_ := at_ })) (3 : Int) (30 : Int) (↑(5 : Nat) : Int)) (by kernel_rfl) ?_ ?_; (and_intros <;> try first | exact True.intro | with_reducible rfl | omega | with_reducible assumption)
        · exact ⟨⟨rfl, rfl⟩, rfl, fun r _ => by rw [recs_bys], by decide, ⟨t7, by omega⟩, fits_i64 (by omega) (by omega), ⟨by decide, by omega, by decide⟩, by decide, by decide⟩
        obtain ⟨W, hW⟩ : ∃ W, W = l ++ [last] := ⟨_, rfl⟩
        have hWl : W.length = l.length + 1 := by rw [hW]; simp
        have hW64 : ∀ b ∈ W, b.length ≤ 64 := fun b hb => by
          rw [hW] at hb
          rcases List.mem_append.1 hb with h | h
          · exact g64 b h
          · rw [List.mem_singleton] at h; rw [h]; exact hl64
        have hrun : (jrun E 3 5 30).1 = W := by
          rw [hW]
          refine (crash_run gf t4 gr g64 (by omega) go hl64 t6).1 ?_
          rw [show keptN ⟨1, [3 + (l.length : Int)], 3 + (l.length : Int), at_⟩ (3 + (l.length : Int)) = 128 from if_pos (by simp)]
          rw [List.take_of_length_le (by rw [recBytes_len _ _ _ hl64]; exact Nat.le_refl _), List.drop_of_length_le (by rw [hsl]; exact Nat.le_refl _), List.append_nil]
        have hrunE : (jrun (bootD (appendD (armD D ⟨1, [3 + (l.length : Int)], 3 + (l.length : Int), at_⟩).1 3 30 5 (recsF l.length (bysF l)) last).1) 3 5 30).1 = W := by rw [← hE]; exact hrun
        have hWL := congrArg List.length hrunE
        refine To.run hS 5000 (C := DiskD.Fine (Prod.fst (appendD (Prod.fst (armD D { w := (1 : Int), keep := [(3 : Int) + (↑(List.length l) : Int)], torn := (3 : Int) + (↑(List.length l) : Int), at_ := at_ })) (3 : Int) (30 : Int) (5 : Nat) (recsF (List.length l) (bysF l)) last))) (by kernel_rfl) (by (and_intros <;> try first | exact True.intro | with_reducible rfl | omega | with_reducible assumption)) ?_
        refine To.yesd hS (openE (bootD (Prod.fst (appendD (Prod.fst (armD D { w := (1 : Int), keep := [(3 : Int) + (↑(List.length l) : Int)], torn := (3 : Int) + (↑(List.length l) : Int), at_ := at_ })) (3 : Int) (30 : Int) (5 : Nat) (recsF (List.length l) (bysF l)) last))) (3 : Int) (30 : Int) = (0 : Int)) (by (and_intros <;> try first | exact True.intro | with_reducible rfl | omega | with_reducible assumption | (refine fits_i64 ?_ ?_ <;> omega))) (C := DiskD.Fine (bootD (Prod.fst (appendD (Prod.fst (armD D { w := (1 : Int), keep := [(3 : Int) + (↑(List.length l) : Int)], torn := (3 : Int) + (↑(List.length l) : Int), at_ := at_ })) (3 : Int) (30 : Int) (5 : Nat) (recsF (List.length l) (bysF l)) last))) ∧ fits IntKind.i64 (3 : Int) ∧ (0 : Int) ≤ (5 : Int)) (by kernel_rfl) (by (and_intros <;> try first | exact True.intro | with_reducible rfl | omega | with_reducible assumption | (refine fits_i64 ?_ ?_ <;> omega))) ?_
        refine To.loop (L := [LN.old (0 : Nat), LN.old (3 : Nat), LN.old (6 : Nat), LN.old (7 : Nat)]) (kp := [(192 : Nat), (26 : Nat), (24 : Nat), (22 : Nat), (20 : Nat), (11 : Nat), (3 : Nat), (2 : Nat), (1 : Nat)]) (ks := []) (C := (IntKind.i64 = IntKind.i64 ∧ Prod.snd (Prod.snd (appendD (Prod.fst (armD D { w := (1 : Int), keep := [(3 : Int) + (↑(List.length l) : Int)], torn := (3 : Int) + (↑(List.length l) : Int), at_ := at_ })) (3 : Int) (30 : Int) (5 : Nat) (recsF (List.length l) (bysF l)) last)) = (31 : Int)) ∧ Ob.disk (bootD (Prod.fst (appendD (Prod.fst (armD D { w := (1 : Int), keep := [(3 : Int) + (↑(List.length l) : Int)], torn := (3 : Int) + (↑(List.length l) : Int), at_ := at_ })) (3 : Int) (30 : Int) (5 : Nat) (recsF (List.length l) (bysF l)) last))) = Ob.disk E ∧ ((73 : TypeId) = (73 : TypeId) ∧ (none : Option Nat) = none ∧ AV.ptr (nat_lit 0) (nat_lit 0) = AV.ptr (nat_lit 0) (nat_lit 0) ∧ (IntKind.i64 = IntKind.i64 ∧ (3 : Int) = (3 : Int)) ∧ (IntKind.i64 = IntKind.i64 ∧ (30 : Int) = (30 : Int)) ∧ (IntKind.u64 = IntKind.u64 ∧ (↑(5 : Nat) : Int) = (↑(5 : Nat) : Int)) ∧ (nat_lit 3 = nat_lit 3 ∧ List.length (Prod.fst (jrun (bootD (Prod.fst (appendD (Prod.fst (armD D { w := (1 : Int), keep := [(3 : Int) + (↑(List.length l) : Int)], torn := (3 : Int) + (↑(List.length l) : Int), at_ := at_ })) (3 : Int) (30 : Int) (5 : Nat) (recsF (List.length l) (bysF l)) last))) (3 : Int) (5 : Nat) (30 : Nat))) = List.length W) ∧ True) ∧ (26 : TypeId) = (26 : TypeId) ∧ nat_lit 1 = nat_lit 1 ∧ List.length (Prod.fst (jrun (bootD (Prod.fst (appendD (Prod.fst (armD D { w := (1 : Int), keep := [(3 : Int) + (↑(List.length l) : Int)], torn := (3 : Int) + (↑(List.length l) : Int), at_ := at_ })) (3 : Int) (30 : Int) (5 : Nat) (recsF (List.length l) (bysF l)) last))) (3 : Int) (5 : Nat) (30 : Nat))) = List.length W ∧ ∀ (r : Nat), r < List.length (Prod.fst (jrun (bootD (Prod.fst (appendD (Prod.fst (armD D { w := (1 : Int), keep := [(3 : Int) + (↑(List.length l) : Int)], torn := (3 : Int) + (↑(List.length l) : Int), at_ := at_ })) (3 : Int) (30 : Int) (5 : Nat) (recsF (List.length l) (bysF l)) last))) (3 : Int) (5 : Nat) (30 : Nat))) → bysF (Prod.fst (jrun (bootD (Prod.fst (appendD (Prod.fst (armD D { w := (1 : Int), keep := [(3 : Int) + (↑(List.length l) : Int)], torn := (3 : Int) + (↑(List.length l) : Int), at_ := at_ })) (3 : Int) (30 : Int) (5 : Nat) (recsF (List.length l) (bysF l)) last))) (3 : Int) (5 : Nat) (30 : Nat))) r = bysF W r) (hB := by kernel_rfl) (hC := by kernel_rfl) (hI := by (and_intros <;> try first | exact True.intro | with_reducible rfl | omega | with_reducible assumption | (refine fits_u64 ?_ ?_ <;> omega))) (hc := ?_) (step := ?_) (fun (_ : Unit) => [(26, .sy (.int .i64 31))]) (fun _ => [(0, .obj (.disk E)), (2, .mem 73 none [.ptr 0 0, ivA 3, ivA 30, .sy (.int .u64 ((5 : Nat) : Int)), .ow 3 W.length]), (3, .rw 26 1 W.length (bysF W))]) (fun _ => True) (fun _ => 0) (())
        · exact ⟨⟨rfl, h31⟩, congrArg Ob.disk hE.symm, ⟨rfl, rfl, rfl, ⟨rfl, rfl⟩, ⟨rfl, rfl⟩, ⟨rfl, rfl⟩, ⟨rfl, hWL⟩, trivial⟩, rfl, rfl, hWL, fun r _ => congrFun (congrArg bysF hrunE) r⟩
        intro _ _ _
        refine To.run hS 5000 (C := True) (by kernel_rfl) trivial ?_
        refine To.yes hS (keep) (by (and_intros <;> try first | exact True.intro | with_reducible rfl | omega | with_reducible assumption)) (C := True) (by kernel_rfl) trivial ?_
        refine To.run hS 5000 (C := (True ∧ List.length l ≤ (1073741824 : Nat) ∧ ∀ (r : Nat), r < List.length l → List.all (bysF l r) oneA = true) ∧ List.length l = List.length l ∧ List.length l ≤ (1073741824 : Nat)) (by kernel_rfl) (by (and_intros <;> try first | exact True.intro | with_reducible rfl | omega | with_reducible assumption)) ?_
        refine To.non hS ((31 : Int) = (31 : Int)) (by (and_intros <;> try first | exact True.intro | with_reducible rfl | omega | with_reducible assumption)) (C := True) (by kernel_rfl) trivial ?_
        refine To.run hS 5000 (C := True) (by kernel_rfl) trivial ?_
        refine To.nod hS ((30 : Int) = (0 : Int)) (by (and_intros <;> try first | exact True.intro | with_reducible rfl | omega | with_reducible assumption)) (C := True) (by kernel_rfl) trivial ?_
        refine To.run hS 24 (C := True) (by kernel_rfl) trivial ?_
        refine To.loop (L := [LN.new (AB.rw (nat_lit 26) (nat_lit 1) (nat_lit 0) (bysF (List.take (0 : Nat) W)))]) (kp := [(13 : Nat), (12 : Nat), (11 : Nat), (3 : Nat)]) (ks := []) (C := (IntKind.i64 = IntKind.i64 ∧ (0 : Int) = (↑(0 : Nat) : Int)) ∧ nat_lit 0 = nat_lit 0 ∧ nat_lit 26 = (26 : TypeId) ∧ nat_lit 1 = nat_lit 1 ∧ nat_lit 0 = nat_lit 0 ∧ ∀ (r : Nat), r < nat_lit 0 → bysF (List.take (0 : Nat) W) r = bysF (List.take (0 : Nat) W) r) (hB := by kernel_rfl) (hC := by kernel_rfl) (hI := by (and_intros <;> try first | exact True.intro | with_reducible rfl | omega | with_reducible assumption)) (hc := ?_) (step := ?_) (fun (a : Nat) => [(13, ivA (a : Int)), (3, .ow 8 a)]) (fun a => [(8, .rw 26 1 a (bysF (W.take a)))]) (fun a => a ≤ W.length) (fun a => W.length - a) (0)
        · exact ⟨⟨rfl, rfl⟩, rfl, rfl, rfl, rfl, fun _ _ => rfl⟩
        intro a ha2 iha
        refine To.run hS 5000 (C := True) (by kernel_rfl) trivial ?_
        refine To.brd hS ((↑a : Int) < (↑(List.length W) : Int)) (C := True) (by kernel_rfl) (by kernel_rfl) (by (and_intros <;> try first | exact True.intro | with_reducible rfl | omega | with_reducible assumption)) ?_ ?_
        · intro g1
          have gl : a < W.length := by omega
          have g64' : (W.getD a default).length ≤ 1000000 := by
            have := hW64 (W.getD a default) (by rw [List.getD_eq_getElem?_getD, List.getElem?_eq_getElem gl]; simp)
            omega
          have gi1 : a + 1 ≤ W.length := gl
          have gi2 : W.length - (a + 1) < W.length - a := by omega
          have gtk : W.take (a + 1) = W.take a ++ [W.getD a default] := by rw [List.take_succ_eq_append_getElem gl, List.getD_eq_getElem?_getD, List.getElem?_eq_getElem gl]; rfl
          refine To.run hS 26 (C := ((0 : Int) ≤ (↑a : Int) ∧ (↑a : Int) < (↑(List.length W) : Int)) ∧ a < List.length W ∧ (True ∧ List.length (List.getD W a default) ≤ (1000000 : Nat)) ∧ (a = a ∧ a ≤ (1073741824 : Nat)) ∧ fits IntKind.i64 ((↑a : Int) + (1 : Int))) (by kernel_rfl) (by (and_intros <;> try first | exact True.intro | with_reducible rfl | omega | with_reducible assumption | (refine fits_i64 ?_ ?_ <;> omega))) ?_
          refine To.back (L' := [LN.old (10 : Nat)]) (C := (IntKind.i64 = IntKind.i64 ∧ (↑a : Int) + (1 : Int) = (↑(a + (1 : Nat)) : Int)) ∧ (nat_lit 8 = nat_lit 8 ∧ a + (1 : Nat) = a + (1 : Nat)) ∧ (26 : Nat) = (26 : TypeId) ∧ nat_lit 1 = nat_lit 1 ∧ a + (1 : Nat) = a + (1 : Nat) ∧ ∀ (r : Nat), r < a + (1 : Nat) → rwPush (bysF (List.take a W)) a [AV.by8 (List.getD W a default)] r = bysF (List.take (a + (1 : Nat)) W) r) (hB := by kernel_rfl) (hC := by kernel_rfl) (hc := ?_) (he := by kernel_rfl) (iha (a + 1) gi1 gi2)
          refine ⟨⟨rfl, Int.natCast_succ _⟩, ⟨rfl, rfl⟩, rfl, rfl, rfl, fun r hr => ?_⟩
          have gla : (W.take a).length = a := by rw [List.length_take]; omega
          have gp := bysF_push (W.take a) (W.getD a default) r
          rw [gla, ← gtk] at gp
          exact gp hr
        · intro g1
          have hal : a = W.length := by omega
          have hat2 : W.take a = W := List.take_of_length_le (by omega)
          refine To.run hS 5000 (C := True) (by kernel_rfl) trivial ?_
          refine To.yesd hS (recsF a (bysF (List.take a W)) = recsF (List.length l + (1 : Nat)) (rwPush (bysF l) (List.length l) [AV.by8 last])) ?_ (C := (a = a ∧ ∀ (r : Nat), r < a → bysF (List.take a W) r = bysF (recsF a (bysF (List.take a W))) r) ∧ (List.length l + (1 : Nat) = List.length l + (1 : Nat) ∧ ∀ (r : Nat), r < List.length l + (1 : Nat) → rwPush (bysF l) (List.length l) [AV.by8 last] r = bysF (recsF (List.length l + (1 : Nat)) (rwPush (bysF l) (List.length l) [AV.by8 last])) r) ∧ List.length (recsF a (bysF (List.take a W))) ≤ (1000000 : Nat)) (by kernel_rfl) ?_ ?_; rotate_left; (and_intros <;> try first | exact True.intro | with_reducible rfl | omega | with_reducible assumption); rotate_right
          · rw [hat2, hal, recs_bys, recs_push, hW]
          · intro r _
            rw [hat2, hal, recs_bys]
          · intro r hr
            rw [recs_push]
            exact bysF_push l last r hr
          · rw [recsF_len]; omega
          obtain ⟨m1, m2, m3, m4⟩ := more_facts t4 (by omega) (m := W.length) (by omega) [UInt8.ofNat 111, UInt8.ofNat 110] rfl
          refine To.run hS 5000 (C := True) (by kernel_rfl) trivial ?_
          refine To.nod hS ((30 : Int) = (0 : Int)) (by (and_intros <;> try first | exact True.intro | with_reducible rfl | omega | with_reducible assumption)) (C := True) (by kernel_rfl) trivial ?_
          refine To.run hS 5000 (C := True) (by kernel_rfl) trivial ?_
          refine To.nod hS ((30 : Int) = (0 : Int)) (by (and_intros <;> try first | exact True.intro | with_reducible rfl | omega | with_reducible assumption)) (C := True) (by kernel_rfl) trivial ?_
          refine To.run hS 5000 (C := True ∧ fits IntKind.i64 ((30 : Int) - (↑(List.length W) : Int))) (by kernel_rfl) (by (and_intros <;> try first | exact True.intro | with_reducible rfl | omega | with_reducible assumption | (refine fits_i64 ?_ ?_ <;> omega))) ?_
          refine To.nod hS ((30 : Int) - (↑(List.length W) : Int) = (0 : Int)) (by (and_intros <;> try first | exact True.intro | with_reducible rfl | omega | with_reducible assumption)) (C := True) (by kernel_rfl) trivial ?_
          refine To.run hS 5000 (C := True ∧ fits IntKind.i64 ((↑(List.length W) : Int) + (1 : Int)) ∧ fits IntKind.u64 ((↑(List.length W) : Int) + (1 : Int)) ∧ (0 : Int) ≤ (↑(5 : Nat) : Int) ∧ (↑(5 : Nat) : Int) < (18446744073709551616 : Int) ∧ (0 : Int) ≤ (↑(List.length W) : Int) + (1 : Int) ∧ (↑(List.length W) : Int) + (1 : Int) < (18446744073709551616 : Int) ∧ ((0 : Int) ≤ (111 : Int) ∧ (111 : Int) < (256 : Int)) ∧ ((0 : Int) ≤ (110 : Int) ∧ (110 : Int) < (256 : Int)) ∧ True) (by kernel_rfl) (by (and_intros <;> try first | exact True.intro | with_reducible rfl | omega | with_reducible assumption | (refine fits_i64 ?_ ?_ <;> omega) | (refine fits_u64 ?_ ?_ <;> omega))) ?_
          refine To.yesd hS (jencE (List.length W + (1 : Nat)) (2 : Nat) = (0 : Int)) (by (and_intros <;> try first | exact True.intro | with_reducible rfl | omega | with_reducible assumption)) (C := True) (by kernel_rfl) trivial ?_
          refine To.run hS 5000 (C := True ∧ fits IntKind.i64 ((3 : Int) + (↑(List.length W) : Int)) ∧ True ∧ DiskD.Fine E) (by kernel_rfl) (by (and_intros <;> try first | exact True.intro | with_reducible rfl | omega | with_reducible assumption | (refine fits_i64 ?_ ?_ <;> omega))) ?_
          refine To.yesd hS (Prod.snd (writeD E ((3 : Int) + (↑(List.length W) : Int)) (jencB (5 : Nat) (List.length W + (1 : Nat)) [UInt8.ofNat (111 : Nat), UInt8.ofNat (110 : Nat)])) = (0 : Int)) (by (and_intros <;> try first | exact True.intro | with_reducible rfl | omega | with_reducible assumption)) (C := True) (by kernel_rfl) trivial ?_
          refine To.run hS 5000 (C := DiskD.Fine (Prod.fst (writeD E ((3 : Int) + (↑(List.length W) : Int)) (jencB (5 : Nat) (List.length W + (1 : Nat)) [UInt8.ofNat (111 : Nat), UInt8.ofNat (110 : Nat)])))) (by kernel_rfl) (by (and_intros <;> try first | exact True.intro | with_reducible rfl | omega | with_reducible assumption)) ?_
          refine To.yesd hS ((fun d ↦ Prod.snd (flushD d)) (Prod.fst (writeD E ((3 : Int) + (↑(List.length W) : Int)) (jencB (5 : Nat) (List.length W + (1 : Nat)) [UInt8.ofNat (111 : Nat), UInt8.ofNat (110 : Nat)]))) = (0 : Int)) (by (and_intros <;> try first | exact True.intro | with_reducible rfl | omega | with_reducible assumption)) (C := True) (by kernel_rfl) trivial ?_
          refine To.run hS 5000 (C := ((((0 : Int) ≤ (111 : Int) ∧ (111 : Int) < (256 : Int)) ∧ ((0 : Int) ≤ (110 : Int) ∧ (110 : Int) < (256 : Int)) ∧ True) ∧ (2 : Nat) ≤ (1000000 : Nat)) ∧ AV.ow (nat_lit 3) (List.length W) = AV.ow (nat_lit 3) (List.length W) ∧ List.length W = List.length W ∧ List.length W ≤ (1073741824 : Nat)) (by kernel_rfl) (by (and_intros <;> try first | exact True.intro | with_reducible rfl | omega | with_reducible assumption)) ?_
          refine To.yesd hS ((fun d ↦ Prod.snd (flushD d)) (Prod.fst (writeD E ((3 : Int) + (↑(List.length W) : Int)) (jencB (5 : Nat) (List.length W + (1 : Nat)) [UInt8.ofNat (111 : Nat), UInt8.ofNat (110 : Nat)]))) = (0 : Int)) (by (and_intros <;> try first | exact True.intro | with_reducible rfl | omega | with_reducible assumption)) (C := True) (by kernel_rfl) trivial ?_
          refine To.run hS 5000 (C := True) (by kernel_rfl) trivial ?_
          refine To.nod hS ((30 : Int) = (0 : Int)) (by (and_intros <;> try first | exact True.intro | with_reducible rfl | omega | with_reducible assumption)) (C := True) (by kernel_rfl) trivial ?_
          refine To.run hS 5000 (C := True ∧ True ∧ fits IntKind.i64 ((↑(List.length l + (1 : Nat)) : Int) + (1 : Int))) (by kernel_rfl) (by (and_intros <;> try first | exact True.intro | with_reducible rfl | omega | with_reducible assumption | (refine fits_i64 ?_ ?_ <;> omega))) ?_
          refine To.yesd hS ((↑(List.length W + (1 : Nat)) : Int) = (↑(List.length l + (1 : Nat)) : Int) + (1 : Int)) (by (and_intros <;> try first | exact True.intro | with_reducible rfl | omega | with_reducible assumption)) (C := True) (by kernel_rfl) trivial ?_
          refine To.run hS 5000 (C := True) (by kernel_rfl) trivial ?_
          refine To.end (AV.v (Value.bool true)) (by kernel_rfl) ?_
          rfl
      · intro h7
        obtain ⟨t1, t2, t3, t4, t5, t6⟩ := gf.appTorn (by omega) (l := l) (p := last) (c := ⟨1, [], 3 + (l.length : Int), at_⟩) (by omega) hl64 (wf8 ft hat) (by show 0 ≤ 1000000; decide) rfl
        have t2F := t2.fine
        obtain ⟨t7, t8⟩ := t2.self
        have hk1 : ([] : List Int).length ≤ 1000000 := by show 0 ≤ 1000000; decide
        have hrb := (recs_bys l).symm
        obtain ⟨R, hR⟩ : ∃ R, R = recsF l.length (bysF l) := ⟨_, rfl⟩
        have hRl : R = l := hR.trans hrb.symm
        have h31 : (appendD (armD D ⟨1, [], 3 + (l.length : Int), at_⟩).1 3 30 5 (recsF l.length (bysF l)) last).2.2 = 31 := by rw [← hR, hRl]; exact t3
        have h5F : (appendD (armD D ⟨1, [], 3 + (l.length : Int), at_⟩).1 3 30 5 (recsF l.length (bysF l)) last).1.Fine := by rw [← hR, hRl]; exact t5
        obtain ⟨E, hE⟩ : ∃ E, E = bootD (appendD (armD D ⟨1, [], 3 + (l.length : Int), at_⟩).1 3 30 5 (recsF l.length (bysF l)) last).1 := ⟨_, rfl⟩
        have hEE : E = bootD (appendD (armD D ⟨1, [], 3 + (l.length : Int), at_⟩).1 3 30 5 l last).1 := by rw [hE, ← hR, hRl]
        rw [← hEE] at t4 t6
        have hE1 := t4.in_.fine
        have hEF := t4.in_.fine
        rw [hE] at hEF
        have hO := flat_open t4
        rw [hE] at hO
        refine To.run hS 5000 (C := True ∧ DiskD.Fine D ∧ (0 : Nat) ≤ (1000000 : Nat) ∧ fits IntKind.i64 at_) (by kernel_rfl) (by (and_intros <;> try first | exact True.intro | with_reducible rfl | omega | with_reducible assumption | (refine fits_i64 ?_ ?_ <;> omega))) ?_
        refine To.nod hS (Prod.snd (Prod.snd (appendD (Prod.fst (armD D { w := (1 : Int), keep := [], torn := (3 : Int) + (↑(List.length l) : Int), at_ := at_ })) (3 : Int) (30 : Int) (5 : Nat) (recsF (List.length l) (bysF l)) last)) = (0 : Int)) (by (and_intros <;> try first | exact True.intro | with_reducible rfl | omega | with_reducible assumption)) (C := AppOk (73 : TypeId) (26 : TypeId) (0 : Nat) (1 : Nat) (2 : Nat) (List.length l) (List.length l) (bysF l) (Prod.fst (armD D { w := (1 : Int), keep := [], torn := (3 : Int) + (↑(List.length l) : Int), at_ := at_ })) (3 : Int) (30 : Int) (↑(5 : Nat) : Int)) (by kernel_rfl) ?_ ?_; (and_intros <;> try first | exact True.intro | with_reducible rfl | omega | with_reducible assumption)
        · exact ⟨⟨rfl, rfl⟩, rfl, fun r _ => by rw [recs_bys], by decide, ⟨t7, by omega⟩, fits_i64 (by omega) (by omega), ⟨by decide, by omega, by decide⟩, by decide, by decide⟩
        obtain ⟨f, hf0⟩ : ∃ f, f = (max 0 (min at_ 128)).toNat := ⟨_, rfl⟩
        have hf1 : f ≤ 128 := by omega
        have hkf : keptN ⟨1, [], 3 + (l.length : Int), at_⟩ (3 + (l.length : Int)) = f := by
          rw [hf0]
          show (if (3 + (l.length : Int)) ∈ ([] : List Int) then 128 else if (3 + (l.length : Int)) = 3 + (l.length : Int) then _ else 0) = _
          rw [if_neg (by simp), if_pos rfl]
        rw [hkf] at t6
        have hnl : (recBytes 5 (l.length + 1) last).length = 128 := recBytes_len _ _ _ hl64
        have hgo := go l.length (Nat.le_refl _) (by omega)
        have hcmp : (str (List.take (((readD D (3 + (l.length : Int))).1.getD []).length - (max 0 (min at_ 128)).toNat) (List.drop (max 0 (min at_ 128)).toNat ((readD D (3 + (l.length : Int))).1.getD [])))).data.toList = (str (List.drop (max 0 (min at_ 128)).toNat (List.take (jencB 5 (l.length + 1) last).length (jencB 5 (l.length + 1) last)))).data.toList ↔ (sec D (3 + l.length)).drop f = (recBytes 5 (l.length + 1) last).drop f := by
          rw [str_list, str_list, ← hf0, List.take_of_length_le (by rw [List.length_drop]; exact Nat.le_refl _), List.take_of_length_le (Nat.le_refl _), hjb, hrd]
          exact Iff.rfl
        by_cases hs : (sec D (3 + l.length)).drop f = (recBytes 5 (l.length + 1) last).drop f
        · skip
          obtain ⟨W, hW⟩ : ∃ W, W = l ++ [last] := ⟨_, rfl⟩
          have hWl : W.length = l.length + 1 := by rw [hW]; simp
          have hW64 : ∀ b ∈ W, b.length ≤ 64 := fun b hb => by
            rw [hW] at hb
            rcases List.mem_append.1 hb with h | h
            · exact g64 b h
            · rw [List.mem_singleton] at h; rw [h]; exact hl64
          have hrun : (jrun E 3 5 30).1 = W := by
            rw [hW]
            refine (crash_run gf t4 gr g64 (by omega) go hl64 t6).1 ?_
            rw [hs, List.take_append_drop]
          have hrunE : (jrun (bootD (appendD (armD D ⟨1, [], 3 + (l.length : Int), at_⟩).1 3 30 5 (recsF l.length (bysF l)) last).1) 3 5 30).1 = W := by rw [← hE]; exact hrun
          have hWL := congrArg List.length hrunE
          refine To.run hS 5000 (C := DiskD.Fine (Prod.fst (appendD (Prod.fst (armD D { w := (1 : Int), keep := [], torn := (3 : Int) + (↑(List.length l) : Int), at_ := at_ })) (3 : Int) (30 : Int) (5 : Nat) (recsF (List.length l) (bysF l)) last))) (by kernel_rfl) (by (and_intros <;> try first | exact True.intro | with_reducible rfl | omega | with_reducible assumption)) ?_
          refine To.yesd hS (openE (bootD (Prod.fst (appendD (Prod.fst (armD D { w := (1 : Int), keep := [], torn := (3 : Int) + (↑(List.length l) : Int), at_ := at_ })) (3 : Int) (30 : Int) (5 : Nat) (recsF (List.length l) (bysF l)) last))) (3 : Int) (30 : Int) = (0 : Int)) (by (and_intros <;> try first | exact True.intro | with_reducible rfl | omega | with_reducible assumption | (refine fits_i64 ?_ ?_ <;> omega))) (C := DiskD.Fine (bootD (Prod.fst (appendD (Prod.fst (armD D { w := (1 : Int), keep := [], torn := (3 : Int) + (↑(List.length l) : Int), at_ := at_ })) (3 : Int) (30 : Int) (5 : Nat) (recsF (List.length l) (bysF l)) last))) ∧ fits IntKind.i64 (3 : Int) ∧ (0 : Int) ≤ (5 : Int)) (by kernel_rfl) (by (and_intros <;> try first | exact True.intro | with_reducible rfl | omega | with_reducible assumption | (refine fits_i64 ?_ ?_ <;> omega))) ?_
          refine To.loop (L := [LN.old (0 : Nat), LN.old (3 : Nat), LN.old (5 : Nat), LN.old (6 : Nat)]) (kp := [(192 : Nat), (26 : Nat), (24 : Nat), (22 : Nat), (20 : Nat), (11 : Nat), (3 : Nat), (2 : Nat), (1 : Nat)]) (ks := []) (C := (IntKind.i64 = IntKind.i64 ∧ Prod.snd (Prod.snd (appendD (Prod.fst (armD D { w := (1 : Int), keep := [], torn := (3 : Int) + (↑(List.length l) : Int), at_ := at_ })) (3 : Int) (30 : Int) (5 : Nat) (recsF (List.length l) (bysF l)) last)) = (31 : Int)) ∧ Ob.disk (bootD (Prod.fst (appendD (Prod.fst (armD D { w := (1 : Int), keep := [], torn := (3 : Int) + (↑(List.length l) : Int), at_ := at_ })) (3 : Int) (30 : Int) (5 : Nat) (recsF (List.length l) (bysF l)) last))) = Ob.disk E ∧ ((73 : TypeId) = (73 : TypeId) ∧ (none : Option Nat) = none ∧ AV.ptr (nat_lit 0) (nat_lit 0) = AV.ptr (nat_lit 0) (nat_lit 0) ∧ (IntKind.i64 = IntKind.i64 ∧ (3 : Int) = (3 : Int)) ∧ (IntKind.i64 = IntKind.i64 ∧ (30 : Int) = (30 : Int)) ∧ (IntKind.u64 = IntKind.u64 ∧ (↑(5 : Nat) : Int) = (↑(5 : Nat) : Int)) ∧ (nat_lit 3 = nat_lit 3 ∧ List.length (Prod.fst (jrun (bootD (Prod.fst (appendD (Prod.fst (armD D { w := (1 : Int), keep := [], torn := (3 : Int) + (↑(List.length l) : Int), at_ := at_ })) (3 : Int) (30 : Int) (5 : Nat) (recsF (List.length l) (bysF l)) last))) (3 : Int) (5 : Nat) (30 : Nat))) = List.length W) ∧ True) ∧ (26 : TypeId) = (26 : TypeId) ∧ nat_lit 1 = nat_lit 1 ∧ List.length (Prod.fst (jrun (bootD (Prod.fst (appendD (Prod.fst (armD D { w := (1 : Int), keep := [], torn := (3 : Int) + (↑(List.length l) : Int), at_ := at_ })) (3 : Int) (30 : Int) (5 : Nat) (recsF (List.length l) (bysF l)) last))) (3 : Int) (5 : Nat) (30 : Nat))) = List.length W ∧ ∀ (r : Nat), r < List.length (Prod.fst (jrun (bootD (Prod.fst (appendD (Prod.fst (armD D { w := (1 : Int), keep := [], torn := (3 : Int) + (↑(List.length l) : Int), at_ := at_ })) (3 : Int) (30 : Int) (5 : Nat) (recsF (List.length l) (bysF l)) last))) (3 : Int) (5 : Nat) (30 : Nat))) → bysF (Prod.fst (jrun (bootD (Prod.fst (appendD (Prod.fst (armD D { w := (1 : Int), keep := [], torn := (3 : Int) + (↑(List.length l) : Int), at_ := at_ })) (3 : Int) (30 : Int) (5 : Nat) (recsF (List.length l) (bysF l)) last))) (3 : Int) (5 : Nat) (30 : Nat))) r = bysF W r) (hB := by kernel_rfl) (hC := by kernel_rfl) (hI := by (and_intros <;> try first | exact True.intro | with_reducible rfl | omega | with_reducible assumption | (refine fits_u64 ?_ ?_ <;> omega))) (hc := ?_) (step := ?_) (fun (_ : Unit) => [(26, .sy (.int .i64 31))]) (fun _ => [(0, .obj (.disk E)), (2, .mem 73 none [.ptr 0 0, ivA 3, ivA 30, .sy (.int .u64 ((5 : Nat) : Int)), .ow 3 W.length]), (3, .rw 26 1 W.length (bysF W))]) (fun _ => True) (fun _ => 0) (())
          · exact ⟨⟨rfl, h31⟩, congrArg Ob.disk hE.symm, ⟨rfl, rfl, rfl, ⟨rfl, rfl⟩, ⟨rfl, rfl⟩, ⟨rfl, rfl⟩, ⟨rfl, hWL⟩, trivial⟩, rfl, rfl, hWL, fun r _ => congrFun (congrArg bysF hrunE) r⟩
          intro _ _ _
          refine To.run hS 5000 (C := True) (by kernel_rfl) trivial ?_
          refine To.no hS (keep) (by (and_intros <;> try first | exact True.intro | with_reducible rfl | omega | with_reducible assumption)) (C := True) (by kernel_rfl) trivial ?_
          refine To.run hS 5000 (C := ((0 : Int) ≤ max (0 : Int) (min at_ (128 : Int)) ∧ max (0 : Int) (min at_ (128 : Int)) ≤ (↑(List.length (Option.getD (Prod.fst (readD D ((3 : Int) + (↑(List.length l) : Int)))) [])) : Int) ∧ (↑(List.length (Option.getD (Prod.fst (readD D ((3 : Int) + (↑(List.length l) : Int)))) [])) : Int) ≤ (↑(List.length (Option.getD (Prod.fst (readD D ((3 : Int) + (↑(List.length l) : Int)))) [])) : Int)) ∧ Int.toNat (max (0 : Int) (min at_ (128 : Int))) + (List.length (Option.getD (Prod.fst (readD D ((3 : Int) + (↑(List.length l) : Int)))) []) - Int.toNat (max (0 : Int) (min at_ (128 : Int)))) ≤ List.length (Option.getD (Prod.fst (readD D ((3 : Int) + (↑(List.length l) : Int)))) []) ∧ ((0 : Int) ≤ max (0 : Int) (min at_ (128 : Int)) ∧ max (0 : Int) (min at_ (128 : Int)) ≤ (↑(List.length (jencB (5 : Nat) (List.length l + (1 : Nat)) last)) : Int) ∧ (↑(List.length (jencB (5 : Nat) (List.length l + (1 : Nat)) last)) : Int) ≤ (↑(List.length (jencB (5 : Nat) (List.length l + (1 : Nat)) last)) : Int)) ∧ True) (by kernel_rfl) (by (and_intros <;> try first | exact True.intro | with_reducible rfl | omega | with_reducible assumption)) ?_
          refine To.yesd hS (Array.toList (ByteArray.data (str (List.take (List.length (Option.getD (Prod.fst (readD D ((3 : Int) + (↑(List.length l) : Int)))) []) - Int.toNat (max (0 : Int) (min at_ (128 : Int)))) (List.drop (Int.toNat (max (0 : Int) (min at_ (128 : Int)))) (Option.getD (Prod.fst (readD D ((3 : Int) + (↑(List.length l) : Int)))) []))))) = Array.toList (ByteArray.data (str (List.drop (Int.toNat (max (0 : Int) (min at_ (128 : Int)))) (List.take (List.length (jencB (5 : Nat) (List.length l + (1 : Nat)) last)) (jencB (5 : Nat) (List.length l + (1 : Nat)) last)))))) ?_ (C := True) (by kernel_rfl) trivial ?_
          · exact hcmp.2 hs
          refine To.run hS 5000 (C := (True ∧ List.length l ≤ (1073741824 : Nat) ∧ ∀ (r : Nat), r < List.length l → List.all (bysF l r) oneA = true) ∧ List.length l = List.length l ∧ List.length l ≤ (1073741824 : Nat)) (by kernel_rfl) (by (and_intros <;> try first | exact True.intro | with_reducible rfl | omega | with_reducible assumption)) ?_
          refine To.non hS ((31 : Int) = (31 : Int)) (by (and_intros <;> try first | exact True.intro | with_reducible rfl | omega | with_reducible assumption)) (C := True) (by kernel_rfl) trivial ?_
          refine To.run hS 5000 (C := True) (by kernel_rfl) trivial ?_
          refine To.nod hS ((30 : Int) = (0 : Int)) (by (and_intros <;> try first | exact True.intro | with_reducible rfl | omega | with_reducible assumption)) (C := True) (by kernel_rfl) trivial ?_
          refine To.run hS 24 (C := True) (by kernel_rfl) trivial ?_
          refine To.loop (L := [LN.new (AB.rw (nat_lit 26) (nat_lit 1) (nat_lit 0) (bysF (List.take (0 : Nat) W)))]) (kp := [(13 : Nat), (12 : Nat), (11 : Nat), (3 : Nat)]) (ks := []) (C := (IntKind.i64 = IntKind.i64 ∧ (0 : Int) = (↑(0 : Nat) : Int)) ∧ nat_lit 0 = nat_lit 0 ∧ nat_lit 26 = (26 : TypeId) ∧ nat_lit 1 = nat_lit 1 ∧ nat_lit 0 = nat_lit 0 ∧ ∀ (r : Nat), r < nat_lit 0 → bysF (List.take (0 : Nat) W) r = bysF (List.take (0 : Nat) W) r) (hB := by kernel_rfl) (hC := by kernel_rfl) (hI := by (and_intros <;> try first | exact True.intro | with_reducible rfl | omega | with_reducible assumption)) (hc := ?_) (step := ?_) (fun (a : Nat) => [(13, ivA (a : Int)), (3, .ow 8 a)]) (fun a => [(8, .rw 26 1 a (bysF (W.take a)))]) (fun a => a ≤ W.length) (fun a => W.length - a) (0)
          · exact ⟨⟨rfl, rfl⟩, rfl, rfl, rfl, rfl, fun _ _ => rfl⟩
          intro a ha2 iha
          refine To.run hS 5000 (C := True) (by kernel_rfl) trivial ?_
          refine To.brd hS ((↑a : Int) < (↑(List.length W) : Int)) (C := True) (by kernel_rfl) (by kernel_rfl) (by (and_intros <;> try first | exact True.intro | with_reducible rfl | omega | with_reducible assumption)) ?_ ?_
          · intro g1
            have gl : a < W.length := by omega
            have g64' : (W.getD a default).length ≤ 1000000 := by
              have := hW64 (W.getD a default) (by rw [List.getD_eq_getElem?_getD, List.getElem?_eq_getElem gl]; simp)
              omega
            have gi1 : a + 1 ≤ W.length := gl
            have gi2 : W.length - (a + 1) < W.length - a := by omega
            have gtk : W.take (a + 1) = W.take a ++ [W.getD a default] := by rw [List.take_succ_eq_append_getElem gl, List.getD_eq_getElem?_getD, List.getElem?_eq_getElem gl]; rfl
            refine To.run hS 26 (C := ((0 : Int) ≤ (↑a : Int) ∧ (↑a : Int) < (↑(List.length W) : Int)) ∧ a < List.length W ∧ (True ∧ List.length (List.getD W a default) ≤ (1000000 : Nat)) ∧ (a = a ∧ a ≤ (1073741824 : Nat)) ∧ fits IntKind.i64 ((↑a : Int) + (1 : Int))) (by kernel_rfl) (by (and_intros <;> try first | exact True.intro | with_reducible rfl | omega | with_reducible assumption | (refine fits_i64 ?_ ?_ <;> omega))) ?_
            refine To.back (L' := [LN.old (10 : Nat)]) (C := (IntKind.i64 = IntKind.i64 ∧ (↑a : Int) + (1 : Int) = (↑(a + (1 : Nat)) : Int)) ∧ (nat_lit 8 = nat_lit 8 ∧ a + (1 : Nat) = a + (1 : Nat)) ∧ (26 : Nat) = (26 : TypeId) ∧ nat_lit 1 = nat_lit 1 ∧ a + (1 : Nat) = a + (1 : Nat) ∧ ∀ (r : Nat), r < a + (1 : Nat) → rwPush (bysF (List.take a W)) a [AV.by8 (List.getD W a default)] r = bysF (List.take (a + (1 : Nat)) W) r) (hB := by kernel_rfl) (hC := by kernel_rfl) (hc := ?_) (he := by kernel_rfl) (iha (a + 1) gi1 gi2)
            refine ⟨⟨rfl, Int.natCast_succ _⟩, ⟨rfl, rfl⟩, rfl, rfl, rfl, fun r hr => ?_⟩
            have gla : (W.take a).length = a := by rw [List.length_take]; omega
            have gp := bysF_push (W.take a) (W.getD a default) r
            rw [gla, ← gtk] at gp
            exact gp hr
          · intro g1
            have hal : a = W.length := by omega
            have hat2 : W.take a = W := List.take_of_length_le (by omega)
            refine To.run hS 5000 (C := True) (by kernel_rfl) trivial ?_
            refine To.yesd hS (recsF a (bysF (List.take a W)) = recsF (List.length l + (1 : Nat)) (rwPush (bysF l) (List.length l) [AV.by8 last])) ?_ (C := (a = a ∧ ∀ (r : Nat), r < a → bysF (List.take a W) r = bysF (recsF a (bysF (List.take a W))) r) ∧ (List.length l + (1 : Nat) = List.length l + (1 : Nat) ∧ ∀ (r : Nat), r < List.length l + (1 : Nat) → rwPush (bysF l) (List.length l) [AV.by8 last] r = bysF (recsF (List.length l + (1 : Nat)) (rwPush (bysF l) (List.length l) [AV.by8 last])) r) ∧ List.length (recsF a (bysF (List.take a W))) ≤ (1000000 : Nat)) (by kernel_rfl) ?_ ?_; rotate_left; (and_intros <;> try first | exact True.intro | with_reducible rfl | omega | with_reducible assumption); rotate_right
            · rw [hat2, hal, recs_bys, recs_push, hW]
            · intro r _
              rw [hat2, hal, recs_bys]
            · intro r hr
              rw [recs_push]
              exact bysF_push l last r hr
            · rw [recsF_len]; omega
            obtain ⟨m1, m2, m3, m4⟩ := more_facts t4 (by omega) (m := W.length) (by omega) [UInt8.ofNat 111, UInt8.ofNat 110] rfl
            refine To.run hS 5000 (C := True) (by kernel_rfl) trivial ?_
            refine To.nod hS ((30 : Int) = (0 : Int)) (by (and_intros <;> try first | exact True.intro | with_reducible rfl | omega | with_reducible assumption)) (C := True) (by kernel_rfl) trivial ?_
            refine To.run hS 5000 (C := True) (by kernel_rfl) trivial ?_
            refine To.nod hS ((30 : Int) = (0 : Int)) (by (and_intros <;> try first | exact True.intro | with_reducible rfl | omega | with_reducible assumption)) (C := True) (by kernel_rfl) trivial ?_
            refine To.run hS 5000 (C := True ∧ fits IntKind.i64 ((30 : Int) - (↑(List.length W) : Int))) (by kernel_rfl) (by (and_intros <;> try first | exact True.intro | with_reducible rfl | omega | with_reducible assumption | (refine fits_i64 ?_ ?_ <;> omega))) ?_
            refine To.nod hS ((30 : Int) - (↑(List.length W) : Int) = (0 : Int)) (by (and_intros <;> try first | exact True.intro | with_reducible rfl | omega | with_reducible assumption)) (C := True) (by kernel_rfl) trivial ?_
            refine To.run hS 5000 (C := True ∧ fits IntKind.i64 ((↑(List.length W) : Int) + (1 : Int)) ∧ fits IntKind.u64 ((↑(List.length W) : Int) + (1 : Int)) ∧ (0 : Int) ≤ (↑(5 : Nat) : Int) ∧ (↑(5 : Nat) : Int) < (18446744073709551616 : Int) ∧ (0 : Int) ≤ (↑(List.length W) : Int) + (1 : Int) ∧ (↑(List.length W) : Int) + (1 : Int) < (18446744073709551616 : Int) ∧ ((0 : Int) ≤ (111 : Int) ∧ (111 : Int) < (256 : Int)) ∧ ((0 : Int) ≤ (110 : Int) ∧ (110 : Int) < (256 : Int)) ∧ True) (by kernel_rfl) (by (and_intros <;> try first | exact True.intro | with_reducible rfl | omega | with_reducible assumption | (refine fits_i64 ?_ ?_ <;> omega) | (refine fits_u64 ?_ ?_ <;> omega))) ?_
            refine To.yesd hS (jencE (List.length W + (1 : Nat)) (2 : Nat) = (0 : Int)) (by (and_intros <;> try first | exact True.intro | with_reducible rfl | omega | with_reducible assumption)) (C := True) (by kernel_rfl) trivial ?_
            refine To.run hS 5000 (C := True ∧ fits IntKind.i64 ((3 : Int) + (↑(List.length W) : Int)) ∧ True ∧ DiskD.Fine E) (by kernel_rfl) (by (and_intros <;> try first | exact True.intro | with_reducible rfl | omega | with_reducible assumption | (refine fits_i64 ?_ ?_ <;> omega))) ?_
            refine To.yesd hS (Prod.snd (writeD E ((3 : Int) + (↑(List.length W) : Int)) (jencB (5 : Nat) (List.length W + (1 : Nat)) [UInt8.ofNat (111 : Nat), UInt8.ofNat (110 : Nat)])) = (0 : Int)) (by (and_intros <;> try first | exact True.intro | with_reducible rfl | omega | with_reducible assumption)) (C := True) (by kernel_rfl) trivial ?_
            refine To.run hS 5000 (C := DiskD.Fine (Prod.fst (writeD E ((3 : Int) + (↑(List.length W) : Int)) (jencB (5 : Nat) (List.length W + (1 : Nat)) [UInt8.ofNat (111 : Nat), UInt8.ofNat (110 : Nat)])))) (by kernel_rfl) (by (and_intros <;> try first | exact True.intro | with_reducible rfl | omega | with_reducible assumption)) ?_
            refine To.yesd hS ((fun d ↦ Prod.snd (flushD d)) (Prod.fst (writeD E ((3 : Int) + (↑(List.length W) : Int)) (jencB (5 : Nat) (List.length W + (1 : Nat)) [UInt8.ofNat (111 : Nat), UInt8.ofNat (110 : Nat)]))) = (0 : Int)) (by (and_intros <;> try first | exact True.intro | with_reducible rfl | omega | with_reducible assumption)) (C := True) (by kernel_rfl) trivial ?_
            refine To.run hS 5000 (C := ((((0 : Int) ≤ (111 : Int) ∧ (111 : Int) < (256 : Int)) ∧ ((0 : Int) ≤ (110 : Int) ∧ (110 : Int) < (256 : Int)) ∧ True) ∧ (2 : Nat) ≤ (1000000 : Nat)) ∧ AV.ow (nat_lit 3) (List.length W) = AV.ow (nat_lit 3) (List.length W) ∧ List.length W = List.length W ∧ List.length W ≤ (1073741824 : Nat)) (by kernel_rfl) (by (and_intros <;> try first | exact True.intro | with_reducible rfl | omega | with_reducible assumption)) ?_
            refine To.yesd hS ((fun d ↦ Prod.snd (flushD d)) (Prod.fst (writeD E ((3 : Int) + (↑(List.length W) : Int)) (jencB (5 : Nat) (List.length W + (1 : Nat)) [UInt8.ofNat (111 : Nat), UInt8.ofNat (110 : Nat)]))) = (0 : Int)) (by (and_intros <;> try first | exact True.intro | with_reducible rfl | omega | with_reducible assumption)) (C := True) (by kernel_rfl) trivial ?_
            refine To.run hS 5000 (C := True) (by kernel_rfl) trivial ?_
            refine To.nod hS ((30 : Int) = (0 : Int)) (by (and_intros <;> try first | exact True.intro | with_reducible rfl | omega | with_reducible assumption)) (C := True) (by kernel_rfl) trivial ?_
            refine To.run hS 5000 (C := True ∧ True ∧ fits IntKind.i64 ((↑(List.length l + (1 : Nat)) : Int) + (1 : Int))) (by kernel_rfl) (by (and_intros <;> try first | exact True.intro | with_reducible rfl | omega | with_reducible assumption | (refine fits_i64 ?_ ?_ <;> omega))) ?_
            refine To.yesd hS ((↑(List.length W + (1 : Nat)) : Int) = (↑(List.length l + (1 : Nat)) : Int) + (1 : Int)) (by (and_intros <;> try first | exact True.intro | with_reducible rfl | omega | with_reducible assumption)) (C := True) (by kernel_rfl) trivial ?_
            refine To.run hS 5000 (C := True) (by kernel_rfl) trivial ?_
            refine To.end (AV.v (Value.bool true)) (by kernel_rfl) ?_
            rfl
        · skip
          obtain ⟨W, hW⟩ : ∃ W, W = l := ⟨_, rfl⟩
          have hWl : W.length = l.length := by rw [hW]
          have hW64 : ∀ b ∈ W, b.length ≤ 64 := fun b hb => by
            rw [hW] at hb; exact g64 b hb
          have hrun : (jrun E 3 5 30).1 = W := by
            rw [hW]
            refine (crash_run gf t4 gr g64 (by omega) go hl64 t6).2 ?_
            rcases torn_rec hl64 hgo hf1 with h | h
            · refine absurd ?_ hs
              have := congrArg (List.drop f) h
              rwa [jpart_drop (Nat.le_refl _) (by omega)] at this
            · exact h
          have hrunE : (jrun (bootD (appendD (armD D ⟨1, [], 3 + (l.length : Int), at_⟩).1 3 30 5 (recsF l.length (bysF l)) last).1) 3 5 30).1 = W := by rw [← hE]; exact hrun
          have hWL := congrArg List.length hrunE
          refine To.run hS 5000 (C := DiskD.Fine (Prod.fst (appendD (Prod.fst (armD D { w := (1 : Int), keep := [], torn := (3 : Int) + (↑(List.length l) : Int), at_ := at_ })) (3 : Int) (30 : Int) (5 : Nat) (recsF (List.length l) (bysF l)) last))) (by kernel_rfl) (by (and_intros <;> try first | exact True.intro | with_reducible rfl | omega | with_reducible assumption)) ?_
          refine To.yesd hS (openE (bootD (Prod.fst (appendD (Prod.fst (armD D { w := (1 : Int), keep := [], torn := (3 : Int) + (↑(List.length l) : Int), at_ := at_ })) (3 : Int) (30 : Int) (5 : Nat) (recsF (List.length l) (bysF l)) last))) (3 : Int) (30 : Int) = (0 : Int)) (by (and_intros <;> try first | exact True.intro | with_reducible rfl | omega | with_reducible assumption | (refine fits_i64 ?_ ?_ <;> omega))) (C := DiskD.Fine (bootD (Prod.fst (appendD (Prod.fst (armD D { w := (1 : Int), keep := [], torn := (3 : Int) + (↑(List.length l) : Int), at_ := at_ })) (3 : Int) (30 : Int) (5 : Nat) (recsF (List.length l) (bysF l)) last))) ∧ fits IntKind.i64 (3 : Int) ∧ (0 : Int) ≤ (5 : Int)) (by kernel_rfl) (by (and_intros <;> try first | exact True.intro | with_reducible rfl | omega | with_reducible assumption | (refine fits_i64 ?_ ?_ <;> omega))) ?_
          refine To.loop (L := [LN.old (0 : Nat), LN.old (3 : Nat), LN.old (5 : Nat), LN.old (6 : Nat)]) (kp := [(192 : Nat), (26 : Nat), (24 : Nat), (22 : Nat), (20 : Nat), (11 : Nat), (3 : Nat), (2 : Nat), (1 : Nat)]) (ks := []) (C := (IntKind.i64 = IntKind.i64 ∧ Prod.snd (Prod.snd (appendD (Prod.fst (armD D { w := (1 : Int), keep := [], torn := (3 : Int) + (↑(List.length l) : Int), at_ := at_ })) (3 : Int) (30 : Int) (5 : Nat) (recsF (List.length l) (bysF l)) last)) = (31 : Int)) ∧ Ob.disk (bootD (Prod.fst (appendD (Prod.fst (armD D { w := (1 : Int), keep := [], torn := (3 : Int) + (↑(List.length l) : Int), at_ := at_ })) (3 : Int) (30 : Int) (5 : Nat) (recsF (List.length l) (bysF l)) last))) = Ob.disk E ∧ ((73 : TypeId) = (73 : TypeId) ∧ (none : Option Nat) = none ∧ AV.ptr (nat_lit 0) (nat_lit 0) = AV.ptr (nat_lit 0) (nat_lit 0) ∧ (IntKind.i64 = IntKind.i64 ∧ (3 : Int) = (3 : Int)) ∧ (IntKind.i64 = IntKind.i64 ∧ (30 : Int) = (30 : Int)) ∧ (IntKind.u64 = IntKind.u64 ∧ (↑(5 : Nat) : Int) = (↑(5 : Nat) : Int)) ∧ (nat_lit 3 = nat_lit 3 ∧ List.length (Prod.fst (jrun (bootD (Prod.fst (appendD (Prod.fst (armD D { w := (1 : Int), keep := [], torn := (3 : Int) + (↑(List.length l) : Int), at_ := at_ })) (3 : Int) (30 : Int) (5 : Nat) (recsF (List.length l) (bysF l)) last))) (3 : Int) (5 : Nat) (30 : Nat))) = List.length W) ∧ True) ∧ (26 : TypeId) = (26 : TypeId) ∧ nat_lit 1 = nat_lit 1 ∧ List.length (Prod.fst (jrun (bootD (Prod.fst (appendD (Prod.fst (armD D { w := (1 : Int), keep := [], torn := (3 : Int) + (↑(List.length l) : Int), at_ := at_ })) (3 : Int) (30 : Int) (5 : Nat) (recsF (List.length l) (bysF l)) last))) (3 : Int) (5 : Nat) (30 : Nat))) = List.length W ∧ ∀ (r : Nat), r < List.length (Prod.fst (jrun (bootD (Prod.fst (appendD (Prod.fst (armD D { w := (1 : Int), keep := [], torn := (3 : Int) + (↑(List.length l) : Int), at_ := at_ })) (3 : Int) (30 : Int) (5 : Nat) (recsF (List.length l) (bysF l)) last))) (3 : Int) (5 : Nat) (30 : Nat))) → bysF (Prod.fst (jrun (bootD (Prod.fst (appendD (Prod.fst (armD D { w := (1 : Int), keep := [], torn := (3 : Int) + (↑(List.length l) : Int), at_ := at_ })) (3 : Int) (30 : Int) (5 : Nat) (recsF (List.length l) (bysF l)) last))) (3 : Int) (5 : Nat) (30 : Nat))) r = bysF W r) (hB := by kernel_rfl) (hC := by kernel_rfl) (hI := by (and_intros <;> try first | exact True.intro | with_reducible rfl | omega | with_reducible assumption | (refine fits_u64 ?_ ?_ <;> omega))) (hc := ?_) (step := ?_) (fun (_ : Unit) => [(26, .sy (.int .i64 31))]) (fun _ => [(0, .obj (.disk E)), (2, .mem 73 none [.ptr 0 0, ivA 3, ivA 30, .sy (.int .u64 ((5 : Nat) : Int)), .ow 3 W.length]), (3, .rw 26 1 W.length (bysF W))]) (fun _ => True) (fun _ => 0) (())
          · exact ⟨⟨rfl, h31⟩, congrArg Ob.disk hE.symm, ⟨rfl, rfl, rfl, ⟨rfl, rfl⟩, ⟨rfl, rfl⟩, ⟨rfl, rfl⟩, ⟨rfl, hWL⟩, trivial⟩, rfl, rfl, hWL, fun r _ => congrFun (congrArg bysF hrunE) r⟩
          intro _ _ _
          refine To.run hS 5000 (C := True) (by kernel_rfl) trivial ?_
          refine To.no hS (keep) (by (and_intros <;> try first | exact True.intro | with_reducible rfl | omega | with_reducible assumption)) (C := True) (by kernel_rfl) trivial ?_
          refine To.run hS 5000 (C := ((0 : Int) ≤ max (0 : Int) (min at_ (128 : Int)) ∧ max (0 : Int) (min at_ (128 : Int)) ≤ (↑(List.length (Option.getD (Prod.fst (readD D ((3 : Int) + (↑(List.length l) : Int)))) [])) : Int) ∧ (↑(List.length (Option.getD (Prod.fst (readD D ((3 : Int) + (↑(List.length l) : Int)))) [])) : Int) ≤ (↑(List.length (Option.getD (Prod.fst (readD D ((3 : Int) + (↑(List.length l) : Int)))) [])) : Int)) ∧ Int.toNat (max (0 : Int) (min at_ (128 : Int))) + (List.length (Option.getD (Prod.fst (readD D ((3 : Int) + (↑(List.length l) : Int)))) []) - Int.toNat (max (0 : Int) (min at_ (128 : Int)))) ≤ List.length (Option.getD (Prod.fst (readD D ((3 : Int) + (↑(List.length l) : Int)))) []) ∧ ((0 : Int) ≤ max (0 : Int) (min at_ (128 : Int)) ∧ max (0 : Int) (min at_ (128 : Int)) ≤ (↑(List.length (jencB (5 : Nat) (List.length l + (1 : Nat)) last)) : Int) ∧ (↑(List.length (jencB (5 : Nat) (List.length l + (1 : Nat)) last)) : Int) ≤ (↑(List.length (jencB (5 : Nat) (List.length l + (1 : Nat)) last)) : Int)) ∧ True) (by kernel_rfl) (by (and_intros <;> try first | exact True.intro | with_reducible rfl | omega | with_reducible assumption)) ?_
          refine To.nod hS (Array.toList (ByteArray.data (str (List.take (List.length (Option.getD (Prod.fst (readD D ((3 : Int) + (↑(List.length l) : Int)))) []) - Int.toNat (max (0 : Int) (min at_ (128 : Int)))) (List.drop (Int.toNat (max (0 : Int) (min at_ (128 : Int)))) (Option.getD (Prod.fst (readD D ((3 : Int) + (↑(List.length l) : Int)))) []))))) = Array.toList (ByteArray.data (str (List.drop (Int.toNat (max (0 : Int) (min at_ (128 : Int)))) (List.take (List.length (jencB (5 : Nat) (List.length l + (1 : Nat)) last)) (jencB (5 : Nat) (List.length l + (1 : Nat)) last)))))) ?_ (C := True) (by kernel_rfl) trivial ?_
          · exact fun e => hs (hcmp.1 e)
          refine To.run hS 5000 (C := True) (by kernel_rfl) trivial ?_
          refine To.non hS ((31 : Int) = (31 : Int)) (by (and_intros <;> try first | exact True.intro | with_reducible rfl | omega | with_reducible assumption)) (C := True) (by kernel_rfl) trivial ?_
          refine To.run hS 5000 (C := True) (by kernel_rfl) trivial ?_
          refine To.nod hS ((30 : Int) = (0 : Int)) (by (and_intros <;> try first | exact True.intro | with_reducible rfl | omega | with_reducible assumption)) (C := True) (by kernel_rfl) trivial ?_
          refine To.run hS 24 (C := True) (by kernel_rfl) trivial ?_
          refine To.loop (L := [LN.new (AB.rw (nat_lit 26) (nat_lit 1) (nat_lit 0) (bysF (List.take (0 : Nat) W)))]) (kp := [(13 : Nat), (12 : Nat), (11 : Nat), (3 : Nat)]) (ks := []) (C := (IntKind.i64 = IntKind.i64 ∧ (0 : Int) = (↑(0 : Nat) : Int)) ∧ nat_lit 0 = nat_lit 0 ∧ nat_lit 26 = (26 : TypeId) ∧ nat_lit 1 = nat_lit 1 ∧ nat_lit 0 = nat_lit 0 ∧ ∀ (r : Nat), r < nat_lit 0 → bysF (List.take (0 : Nat) W) r = bysF (List.take (0 : Nat) W) r) (hB := by kernel_rfl) (hC := by kernel_rfl) (hI := by (and_intros <;> try first | exact True.intro | with_reducible rfl | omega | with_reducible assumption)) (hc := ?_) (step := ?_) (fun (a : Nat) => [(13, ivA (a : Int)), (3, .ow 4 a)]) (fun a => [(4, .rw 26 1 a (bysF (W.take a)))]) (fun a => a ≤ W.length) (fun a => W.length - a) (0)
          · exact ⟨⟨rfl, rfl⟩, rfl, rfl, rfl, rfl, fun _ _ => rfl⟩
          intro a ha2 iha
          refine To.run hS 5000 (C := True) (by kernel_rfl) trivial ?_
          refine To.brd hS ((↑a : Int) < (↑(List.length W) : Int)) (C := True) (by kernel_rfl) (by kernel_rfl) (by (and_intros <;> try first | exact True.intro | with_reducible rfl | omega | with_reducible assumption)) ?_ ?_
          · intro g1
            have gl : a < W.length := by omega
            have g64' : (W.getD a default).length ≤ 1000000 := by
              have := hW64 (W.getD a default) (by rw [List.getD_eq_getElem?_getD, List.getElem?_eq_getElem gl]; simp)
              omega
            have gi1 : a + 1 ≤ W.length := gl
            have gi2 : W.length - (a + 1) < W.length - a := by omega
            have gtk : W.take (a + 1) = W.take a ++ [W.getD a default] := by rw [List.take_succ_eq_append_getElem gl, List.getD_eq_getElem?_getD, List.getElem?_eq_getElem gl]; rfl
            refine To.run hS 26 (C := ((0 : Int) ≤ (↑a : Int) ∧ (↑a : Int) < (↑(List.length W) : Int)) ∧ a < List.length W ∧ (True ∧ List.length (List.getD W a default) ≤ (1000000 : Nat)) ∧ (a = a ∧ a ≤ (1073741824 : Nat)) ∧ fits IntKind.i64 ((↑a : Int) + (1 : Int))) (by kernel_rfl) (by (and_intros <;> try first | exact True.intro | with_reducible rfl | omega | with_reducible assumption | (refine fits_i64 ?_ ?_ <;> omega))) ?_
            refine To.back (L' := [LN.old (6 : Nat)]) (C := (IntKind.i64 = IntKind.i64 ∧ (↑a : Int) + (1 : Int) = (↑(a + (1 : Nat)) : Int)) ∧ (nat_lit 4 = nat_lit 4 ∧ a + (1 : Nat) = a + (1 : Nat)) ∧ (26 : Nat) = (26 : TypeId) ∧ nat_lit 1 = nat_lit 1 ∧ a + (1 : Nat) = a + (1 : Nat) ∧ ∀ (r : Nat), r < a + (1 : Nat) → rwPush (bysF (List.take a W)) a [AV.by8 (List.getD W a default)] r = bysF (List.take (a + (1 : Nat)) W) r) (hB := by kernel_rfl) (hC := by kernel_rfl) (hc := ?_) (he := by kernel_rfl) (iha (a + 1) gi1 gi2)
            refine ⟨⟨rfl, Int.natCast_succ _⟩, ⟨rfl, rfl⟩, rfl, rfl, rfl, fun r hr => ?_⟩
            have gla : (W.take a).length = a := by rw [List.length_take]; omega
            have gp := bysF_push (W.take a) (W.getD a default) r
            rw [gla, ← gtk] at gp
            exact gp hr
          · intro g1
            have hal : a = W.length := by omega
            have hat2 : W.take a = W := List.take_of_length_le (by omega)
            refine To.run hS 5000 (C := True) (by kernel_rfl) trivial ?_
            refine To.yesd hS (recsF a (bysF (List.take a W)) = recsF (List.length l) (bysF l)) ?_ (C := (a = a ∧ ∀ (r : Nat), r < a → bysF (List.take a W) r = bysF (recsF a (bysF (List.take a W))) r) ∧ (∀ (r : Nat), r < List.length l → bysF l r = bysF (recsF (List.length l) (bysF l)) r) ∧ List.length (recsF a (bysF (List.take a W))) ≤ (1000000 : Nat)) (by kernel_rfl) ?_ ?_; rotate_left; (and_intros <;> try first | exact True.intro | with_reducible rfl | omega | with_reducible assumption); rotate_right
            · rw [hat2, hal, recs_bys, recs_bys, hW]
            · intro r _
              rw [hat2, hal, recs_bys]
            · intro r hr
              rw [recs_bys]
            · rw [recsF_len]; omega
            obtain ⟨m1, m2, m3, m4⟩ := more_facts t4 (by omega) (m := W.length) (by omega) [UInt8.ofNat 111, UInt8.ofNat 110] rfl
            refine To.run hS 5000 (C := True) (by kernel_rfl) trivial ?_
            refine To.nod hS ((30 : Int) = (0 : Int)) (by (and_intros <;> try first | exact True.intro | with_reducible rfl | omega | with_reducible assumption)) (C := True) (by kernel_rfl) trivial ?_
            refine To.run hS 5000 (C := True) (by kernel_rfl) trivial ?_
            refine To.nod hS ((30 : Int) = (0 : Int)) (by (and_intros <;> try first | exact True.intro | with_reducible rfl | omega | with_reducible assumption)) (C := True) (by kernel_rfl) trivial ?_
            refine To.run hS 5000 (C := True ∧ fits IntKind.i64 ((30 : Int) - (↑(List.length W) : Int))) (by kernel_rfl) (by (and_intros <;> try first | exact True.intro | with_reducible rfl | omega | with_reducible assumption | (refine fits_i64 ?_ ?_ <;> omega))) ?_
            refine To.nod hS ((30 : Int) - (↑(List.length W) : Int) = (0 : Int)) (by (and_intros <;> try first | exact True.intro | with_reducible rfl | omega | with_reducible assumption)) (C := True) (by kernel_rfl) trivial ?_
            refine To.run hS 5000 (C := True ∧ fits IntKind.i64 ((↑(List.length W) : Int) + (1 : Int)) ∧ fits IntKind.u64 ((↑(List.length W) : Int) + (1 : Int)) ∧ (0 : Int) ≤ (↑(5 : Nat) : Int) ∧ (↑(5 : Nat) : Int) < (18446744073709551616 : Int) ∧ (0 : Int) ≤ (↑(List.length W) : Int) + (1 : Int) ∧ (↑(List.length W) : Int) + (1 : Int) < (18446744073709551616 : Int) ∧ ((0 : Int) ≤ (111 : Int) ∧ (111 : Int) < (256 : Int)) ∧ ((0 : Int) ≤ (110 : Int) ∧ (110 : Int) < (256 : Int)) ∧ True) (by kernel_rfl) (by (and_intros <;> try first | exact True.intro | with_reducible rfl | omega | with_reducible assumption | (refine fits_i64 ?_ ?_ <;> omega) | (refine fits_u64 ?_ ?_ <;> omega))) ?_
            refine To.yesd hS (jencE (List.length W + (1 : Nat)) (2 : Nat) = (0 : Int)) (by (and_intros <;> try first | exact True.intro | with_reducible rfl | omega | with_reducible assumption)) (C := True) (by kernel_rfl) trivial ?_
            refine To.run hS 5000 (C := True ∧ fits IntKind.i64 ((3 : Int) + (↑(List.length W) : Int)) ∧ True ∧ DiskD.Fine E) (by kernel_rfl) (by (and_intros <;> try first | exact True.intro | with_reducible rfl | omega | with_reducible assumption | (refine fits_i64 ?_ ?_ <;> omega))) ?_
            refine To.yesd hS (Prod.snd (writeD E ((3 : Int) + (↑(List.length W) : Int)) (jencB (5 : Nat) (List.length W + (1 : Nat)) [UInt8.ofNat (111 : Nat), UInt8.ofNat (110 : Nat)])) = (0 : Int)) (by (and_intros <;> try first | exact True.intro | with_reducible rfl | omega | with_reducible assumption)) (C := True) (by kernel_rfl) trivial ?_
            refine To.run hS 5000 (C := DiskD.Fine (Prod.fst (writeD E ((3 : Int) + (↑(List.length W) : Int)) (jencB (5 : Nat) (List.length W + (1 : Nat)) [UInt8.ofNat (111 : Nat), UInt8.ofNat (110 : Nat)])))) (by kernel_rfl) (by (and_intros <;> try first | exact True.intro | with_reducible rfl | omega | with_reducible assumption)) ?_
            refine To.yesd hS ((fun d ↦ Prod.snd (flushD d)) (Prod.fst (writeD E ((3 : Int) + (↑(List.length W) : Int)) (jencB (5 : Nat) (List.length W + (1 : Nat)) [UInt8.ofNat (111 : Nat), UInt8.ofNat (110 : Nat)]))) = (0 : Int)) (by (and_intros <;> try first | exact True.intro | with_reducible rfl | omega | with_reducible assumption)) (C := True) (by kernel_rfl) trivial ?_
            refine To.run hS 5000 (C := ((((0 : Int) ≤ (111 : Int) ∧ (111 : Int) < (256 : Int)) ∧ ((0 : Int) ≤ (110 : Int) ∧ (110 : Int) < (256 : Int)) ∧ True) ∧ (2 : Nat) ≤ (1000000 : Nat)) ∧ AV.ow (nat_lit 3) (List.length W) = AV.ow (nat_lit 3) (List.length W) ∧ List.length W = List.length W ∧ List.length W ≤ (1073741824 : Nat)) (by kernel_rfl) (by (and_intros <;> try first | exact True.intro | with_reducible rfl | omega | with_reducible assumption)) ?_
            refine To.yesd hS ((fun d ↦ Prod.snd (flushD d)) (Prod.fst (writeD E ((3 : Int) + (↑(List.length W) : Int)) (jencB (5 : Nat) (List.length W + (1 : Nat)) [UInt8.ofNat (111 : Nat), UInt8.ofNat (110 : Nat)]))) = (0 : Int)) (by (and_intros <;> try first | exact True.intro | with_reducible rfl | omega | with_reducible assumption)) (C := True) (by kernel_rfl) trivial ?_
            refine To.run hS 5000 (C := True) (by kernel_rfl) trivial ?_
            refine To.nod hS ((30 : Int) = (0 : Int)) (by (and_intros <;> try first | exact True.intro | with_reducible rfl | omega | with_reducible assumption)) (C := True) (by kernel_rfl) trivial ?_
            refine To.run hS 5000 (C := True ∧ True ∧ fits IntKind.i64 ((↑(List.length l) : Int) + (1 : Int))) (by kernel_rfl) (by (and_intros <;> try first | exact True.intro | with_reducible rfl | omega | with_reducible assumption | (refine fits_i64 ?_ ?_ <;> omega))) ?_
            refine To.yesd hS ((↑(List.length W + (1 : Nat)) : Int) = (↑(List.length l) : Int) + (1 : Int)) (by (and_intros <;> try first | exact True.intro | with_reducible rfl | omega | with_reducible assumption)) (C := True) (by kernel_rfl) trivial ?_
            refine To.run hS 5000 (C := True) (by kernel_rfl) trivial ?_
            refine To.end (AV.v (Value.bool true)) (by kernel_rfl) ?_
            rfl
end Go.Proofs.Ytnkjhicokcmmpaa.Sm

/-
  JournalCrash returns true, whatever is handed to it, and what it read reads as it did.
-/
namespace Go.Proofs.Ytnkjhicokcmmpaa.Sm
open Go Go.RowKit
theorem crash8_walk (el l : List (List UInt8)) (last : List UInt8) (keep : Bool) (at_ : Int) (hat : fits .i64 at_) {w : World} {u v x : Value} (hu : VR0 (imOf w) (.im 1 el.length (bysF el)) u) (hv : VR0 (imOf w) (.im 1 l.length (bysF l)) v) (hx : VR0 (imOf w) (.by8 last) x) :
    Calls Try.prog 11 #[u, v, x, .bool keep, .int .i64 at_] w (fun e w' => e = .returned (.bool true) ∧ Fr No w w') :=
  law_calls (args := [.im 1 el.length (bysF el), .im 1 l.length (bysF l), .by8 last, .sy (.bool keep), ivA at_]) s15_ok (by kernel_rfl) (jcrash_to s15_ok el l last keep at_ hat) (.cons (bare_VR (ρ := envOf w) hu) (.cons (bare_VR (ρ := envOf w) hv) (.cons (bare_VR (ρ := envOf w) hx) (.cons (.sy _) (.cons (.sy _) .nil)))))
end Go.Proofs.Ytnkjhicokcmmpaa.Sm
namespace Go.Proofs.Ytnkjhicokcmmpaa.RJournalCrash
open Go.ChangeShapes Go.WideShapes Go.ChangeAt Go.RowKit
theorem b8_open {w : World} {cs : List Value} (h : Rd Try.prog w 26 cs) : ∃ o : List UInt8, Sm.VRs0 (Sm.imOf w) [Sm.AV.by8 o] cs ∧ True := by
  obtain ⟨bs, a, n, c, rfl, hv⟩ := Sm.by8_open h
  exact ⟨bs, .cons hv .nil, trivial⟩
theorem own : ownKnob Try.prog.godebug = none := by kernel_rfl
theorem laidOut : laidOutB Try.prog = true := by kernel_rfl
theorem readable : (Try.f11.params.toList.all fun t => Try.prog.readableRec t && decide (t < Try.prog.types.size)) = true := by kernel_rfl
set_option maxHeartbeats 800000 in
set_option maxRecDepth 100000 in
theorem lifted (os : Os) (started : os.Started) (H : Type) (enc : TypeId × Value → H) :
    ReturnsInHanded {} Try.checked os 11 .any (Rows.journalCrashSpec.pre6 enc Try.prog Try.f11 Rows.journalCrashRow.domain false) (Rows.journalCrashSpec.post enc Try.prog Try.f11 false true false false) := by
  refine returnsInHanded_of_change (C := Try.checked) own started (by kernel_rfl) Try.func11
    (ChangeSpec.witness6 (enc := enc) (C := Try.checked) false ⟨#[], #[.slice none 0 0, .slice none 0 0, .slice none 0 0, .bool false, .int .i64 0], []⟩ 8 (by kernel_rfl) (by kernel_rfl) (by kernel_rfl) (by kernel_rfl)) ?_
  intro W base args ds gs before hval0 hW _ _
  have hval : ∀ (j : Nat) t v, Try.f11.params[j]? = some t → args[j]? = some v → Value.okWide Try.prog W .any base t v := hval0
  have hW' := hW
  obtain ⟨p, q, hA0, hV, rfl, _, _⟩ := hW
  have hA : DataW.TrodAll enc Try.prog W 0 (fun _ => true) true Try.f11.params.toList args.toList ds p := hA0
  have hlt : ∀ x ∈ p, x.block < W.heap.size := fun x hx => by simpa using hW'.lt x (by simpa using List.mem_append.2 (.inl hx))
  have hall := fun W' (hb : Below W.heap.size W W') => again_all laidOut hb readable hA hlt
  obtain ⟨rfl, rfl⟩ := trodVars_none hV
  rw [Try.params11] at hval
  have hA' := hA
  rw [Try.params11] at hA'
  obtain ⟨v0, vs0, d0, ds0, p0, q0, e0, rfl, rfl, h0, r0⟩ := trodAll_cons hA'
  obtain ⟨v1, vs1, d1, ds1, p1, q1, e1, rfl, rfl, h1, r1⟩ := trodAll_cons r0
  obtain ⟨v2, vs2, d2, ds2, p2, q2, e2, rfl, rfl, h2, r2⟩ := trodAll_cons r1
  obtain ⟨v3, vs3, d3, ds3, p3, q3, e3, rfl, rfl, h3, r3⟩ := trodAll_cons r2
  obtain ⟨v4, vs4, d4, ds4, p4, q4, e4, rfl, rfl, h4, r4⟩ := trodAll_cons r3
  obtain ⟨en, rfl, rfl⟩ := trodAll_nil r4
  obtain rfl : args = #[v0, v1, v2, v3, v4] := by
    apply Array.ext'
    rw [e0]
    try rw [e1]
    try rw [e2]
    try rw [e3]
    try rw [e4]
    rw [en]
  clear hA' e0 e1 e2 e3 e4 en
  obtain ⟨a0, n0, c0, rfl⟩ := arg_slice Try.underlying71 (hval 0 71 v0 rfl rfl)
  obtain ⟨a1, n1, c1, rfl⟩ := arg_slice Try.underlying71 (hval 1 71 v1 rfl rfl)
  obtain ⟨a2, n2, c2, rfl⟩ := arg_slice Try.underlying26 (hval 2 26 v2 rfl rfl)
  obtain ⟨a3, rfl⟩ := arg_bool Try.underlying4 (hval 3 4 v3 rfl rfl) h3
  obtain ⟨a4, rfl, w4⟩ := arg_int Try.underlying3 (hval 4 3 v4 rfl rfl) h4
  simp only [List.append_nil] at hW'
  obtain ⟨el, hn0, hl0, _⟩ := Sm.rows_open (k := 1) (by decide) (fun b : List UInt8 => [Sm.AV.by8 b]) (fun _ => True) Try.underlying71 (by kernel_rfl) (fun {cs} h => b8_open h) (Rd.of h0)
  obtain ⟨l, hn1, hl1, _⟩ := Sm.rows_open (k := 1) (by decide) (fun b : List UInt8 => [Sm.AV.by8 b]) (fun _ => True) Try.underlying71 (by kernel_rfl) (fun {cs} h => b8_open h) (Rd.of h1)
  obtain ⟨bs, ba, bn, bc, e2, hv2⟩ := Sm.by8_open (Rd.of h2)
  have hv2' : Sm.VR0 (Sm.imOf W) (.by8 bs) (.slice a2 n2 c2) := by
    have e2' : [Value.slice a2 n2 c2] = [Value.slice ba bn bc] := e2
    injection e2' with e2' _
    rw [e2']; exact hv2
  have hwalk := Sm.crash8_walk el l bs a3 a4 (Sm.i64_bd w4) hl0 hl1 hv2'
  refine hwalk.mono fun e W' ⟨he, hf⟩ => ?_
  subst he
  have hbel : Below W.heap.size W W' := hf.below
  refine ⟨_, rfl, _, _, _, [], _, [], hW', ?_, hall W' hbel, rfl, hbel.frame _, fun h => by cases h⟩
  exact trodAll_mk1 (shut_bool Try.underlying4 _)
theorem said : Rows.JournalCrashSaid :=
  OpenClaim.holds_of_wide 11 Try.f11 rfl rfl rfl rfl rfl rfl rfl ⟨rfl, rfl, rfl, rfl, rfl⟩ rfl rfl rfl rfl rfl (by kernel_rfl) Try.func11 (by kernel_rfl)
    (of_decide_eq_true (by kernel_rfl)) (by unfold Func.isWrapper; first | (rw [if_pos (by decide +kernel)]; kernel_rfl) | (rw [if_neg (by decide +kernel)]; exact ⟨rfl, rfl⟩))
    (fun os started H enc _ => lifted os started H enc)
#print axioms said
end Go.Proofs.Ytnkjhicokcmmpaa.RJournalCrash
