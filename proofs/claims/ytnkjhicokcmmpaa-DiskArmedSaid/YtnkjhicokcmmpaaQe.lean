/-
  Texts of this claim, laid together: Us, Tt, Uo, Va, Vb.
-/
import Derived.Test.YtnkjhicokcmmpaaQd

/-
  The chapter's first examples hold.
-/
namespace Go.Proofs.Ytnkjhicokcmmpaa.Sm
open Go Go.RowKit
def diskF0 : CF := orF writeF (orF flushF (orF downF (orF armF (orF bootF (orF spoilF (orF writesF (orF sizeF (orF waitsDF allF))))))))
def diskG0 : CG := orG readG (orG newG (orG upG (orG intsG greatG)))
theorem diskF0_ok : FOk Try.prog diskF0 := orF_ok writeF_ok (orF_ok flushF_ok (orF_ok downF_ok (orF_ok armF_ok (orF_ok bootF_ok (orF_ok spoilF_ok (orF_ok writesF_ok (orF_ok sizeF_ok (orF_ok waitsDF_ok allF_ok))))))))
theorem diskG0_ok : GOk Try.prog diskG0 := orG_ok readG_ok (orG_ok newG_ok (orG_ok upG_ok (orG_ok intsG_ok greatG_ok)))
noncomputable abbrev SA : Sy := sym Try.prog diskF0 diskG0
theorem sA_ok : SA.Ok Try.prog := sym_ok diskF0_ok diskG0_ok tab mix
def a0 : DiskD := newD 3
def a1 : DiskD := (writeD a0 0 (List.replicate 128 1)).1
def a2 : DiskD := (writeD a1 2 (List.replicate 128 1)).1
def a3 : DiskD := (writeD a2 0 (List.replicate 128 2)).1
theorem a0_in : a0.In 0 := newD_in (by decide) (by decide)
theorem a1_in : a1.In 1 := a0_in.write (by decide) _ _
theorem a2_in : a2.In 2 := a1_in.write (by decide) _ _
theorem a3_in : a3.In 3 := a2_in.write (by decide) _ _
def a4 : DiskD := (downD a3 ⟨0, [2], 0, 10⟩).1
theorem a4_in : a4.In 3 := a3_in.down _
theorem a3_waits : a3.waits = [(0, List.replicate 128 2), (2, List.replicate 128 1)] := by kernel_rfl
theorem a3_keys : keysD a3.waits = [0, 2] := by
  rw [a3_waits]
  exact List.mergeSort_of_pairwise (by simp [leI])
def a5 : DiskD := ⟨[List.replicate 10 2 ++ List.replicate 118 0, List.replicate 128 0, List.replicate 128 1], [], CrashD.none, 3, false⟩
theorem a5_eq : bootD a4 = a5 := by
  have h : bootD a4 = ⟨fallL a3.waits ⟨0, [2], 0, 10⟩ (keysD a3.waits) a3.stays, [], CrashD.none, 3, false⟩ := by kernel_rfl
  rw [h, a3_keys]
  show (⟨fallL a3.waits ⟨0, [2], 0, 10⟩ [0, 2] a3.stays, [], CrashD.none, 3, false⟩ : DiskD) = a5
  kernel_rfl
theorem a5_in : a5.In 3 := a5_eq ▸ a4_in.boot
set_option maxHeartbeats 4000000 in
set_option maxRecDepth 100000 in
theorem alive3_to (hok : SA.Ok Try.prog) : To SA Try.prog 46 (startOf Try.prog 46 [] .e 0) (fun x _ _ => x = .v (.bool true)) := by
  refine To.run hok 5000 (C := True) (by kernel_rfl) (by (and_intros <;> try first | exact True.intro | with_reducible rfl | omega | with_reducible assumption | (refine fits_i64 ?_ ?_ <;> omega) | (refine fits_u64 ?_ ?_ <;> omega) | exact of_decide_eq_true (by kernel_rfl))) ?_
  refine To.yesd hok ((1 : Int) ≤ (3 : Int) ∧ (3 : Int) ≤ (4096 : Int)) (by (and_intros <;> try first | exact True.intro | with_reducible rfl | omega | with_reducible assumption | (refine fits_i64 ?_ ?_ <;> omega) | (refine fits_u64 ?_ ?_ <;> omega) | exact of_decide_eq_true (by kernel_rfl))) (C := True) (by kernel_rfl) (by (and_intros <;> try first | exact True.intro | with_reducible rfl | omega | with_reducible assumption | (refine fits_i64 ?_ ?_ <;> omega) | (refine fits_u64 ?_ ?_ <;> omega) | exact of_decide_eq_true (by kernel_rfl))) ?_
  refine To.run hok 5000 (C := ((0 : Int) ≤ (1 : Int) ∧ (1 : Int) < (256 : Int)) ∧ (True ∧ DiskD.Fine (newD (3 : Nat))) ∧ ((0 : Int) ≤ (1 : Int) ∧ (1 : Int) < (256 : Int)) ∧ (True ∧ DiskD.Fine (Prod.fst (writeD (newD (3 : Nat)) (0 : Int) (Prod.fst (List.replicate (128 : Nat) (UInt8.ofNat (1 : Nat)), True))))) ∧ ((0 : Int) ≤ (2 : Int) ∧ (2 : Int) < (256 : Int)) ∧ (True ∧ DiskD.Fine (Prod.fst (writeD (Prod.fst (writeD (newD (3 : Nat)) (0 : Int) (Prod.fst (List.replicate (128 : Nat) (UInt8.ofNat (1 : Nat)), True)))) (2 : Int) (Prod.fst (List.replicate (128 : Nat) (UInt8.ofNat (1 : Nat)), True))))) ∧ DiskD.Fine (Prod.fst (writeD (Prod.fst (writeD (Prod.fst (writeD (newD (3 : Nat)) (0 : Int) (Prod.fst (List.replicate (128 : Nat) (UInt8.ofNat (1 : Nat)), True)))) (2 : Int) (Prod.fst (List.replicate (128 : Nat) (UInt8.ofNat (1 : Nat)), True)))) (0 : Int) (Prod.fst (List.replicate (128 : Nat) (UInt8.ofNat (2 : Nat)), True))))) (by kernel_rfl) ?_ ?_; (and_intros <;> try first | exact True.intro | with_reducible rfl | omega | with_reducible assumption | (refine fits_i64 ?_ ?_ <;> omega) | (refine fits_u64 ?_ ?_ <;> omega) | exact of_decide_eq_true (by kernel_rfl))
  · exact a0_in.fine
  · exact a1_in.fine
  · exact a2_in.fine
  · exact a3_in.fine
  refine To.yesd hok (Prod.fst (numsF (2 : Nat) (intsF (keysD (DiskD.waits (Prod.fst (writeD (Prod.fst (writeD (Prod.fst (writeD (newD (3 : Nat)) (0 : Int) (Prod.fst (List.replicate (128 : Nat) (UInt8.ofNat (1 : Nat)), True)))) (2 : Int) (Prod.fst (List.replicate (128 : Nat) (UInt8.ofNat (1 : Nat)), True)))) (0 : Int) (Prod.fst (List.replicate (128 : Nat) (UInt8.ofNat (2 : Nat)), True))))))), ∀ (r : Nat), r < (2 : Nat) → intsF (keysD (DiskD.waits (Prod.fst (writeD (Prod.fst (writeD (Prod.fst (writeD (newD (3 : Nat)) (0 : Int) (Prod.fst (List.replicate (128 : Nat) (UInt8.ofNat (1 : Nat)), True)))) (2 : Int) (Prod.fst (List.replicate (128 : Nat) (UInt8.ofNat (1 : Nat)), True)))) (0 : Int) (Prod.fst (List.replicate (128 : Nat) (UInt8.ofNat (2 : Nat)), True)))))) r = intsF (numsF (2 : Nat) (intsF (keysD (DiskD.waits (Prod.fst (writeD (Prod.fst (writeD (Prod.fst (writeD (newD (3 : Nat)) (0 : Int) (Prod.fst (List.replicate (128 : Nat) (UInt8.ofNat (1 : Nat)), True)))) (2 : Int) (Prod.fst (List.replicate (128 : Nat) (UInt8.ofNat (1 : Nat)), True)))) (0 : Int) (Prod.fst (List.replicate (128 : Nat) (UInt8.ofNat (2 : Nat)), True)))))))) r) = Prod.fst ([(0 : Int), (2 : Int)], True)) ?_ (C := (∀ (r : Nat), r < (2 : Nat) → intsF (keysD (DiskD.waits (Prod.fst (writeD (Prod.fst (writeD (Prod.fst (writeD (newD (3 : Nat)) (0 : Int) (Prod.fst (List.replicate (128 : Nat) (UInt8.ofNat (1 : Nat)), True)))) (2 : Int) (Prod.fst (List.replicate (128 : Nat) (UInt8.ofNat (1 : Nat)), True)))) (0 : Int) (Prod.fst (List.replicate (128 : Nat) (UInt8.ofNat (2 : Nat)), True)))))) r = intsF (numsF (2 : Nat) (intsF (keysD (DiskD.waits (Prod.fst (writeD (Prod.fst (writeD (Prod.fst (writeD (newD (3 : Nat)) (0 : Int) (Prod.fst (List.replicate (128 : Nat) (UInt8.ofNat (1 : Nat)), True)))) (2 : Int) (Prod.fst (List.replicate (128 : Nat) (UInt8.ofNat (1 : Nat)), True)))) (0 : Int) (Prod.fst (List.replicate (128 : Nat) (UInt8.ofNat (2 : Nat)), True)))))))) r) ∧ True ∧ (2 : Nat) ≤ (1000000 : Nat)) (by kernel_rfl) ?_ ?_; rotate_left; (and_intros <;> try first | exact True.intro | with_reducible rfl | omega | with_reducible assumption | (refine fits_i64 ?_ ?_ <;> omega) | (refine fits_u64 ?_ ?_ <;> omega) | exact of_decide_eq_true (by kernel_rfl)); rotate_right
  · show numsF 2 (intsF (keysD a3.waits)) = [0, 2]
    rw [a3_keys]; rfl
  · intro r h
    show intsF (keysD a3.waits) r = intsF (numsF 2 (intsF (keysD a3.waits))) r
    rw [a3_keys]; rfl
  refine To.run hok 5000 (C := ((0 : Int) ≤ (2 : Int) ∧ (2 : Int) < (256 : Int)) ∧ True) (by kernel_rfl) (by (and_intros <;> try first | exact True.intro | with_reducible rfl | omega | with_reducible assumption | (refine fits_i64 ?_ ?_ <;> omega) | (refine fits_u64 ?_ ?_ <;> omega) | exact of_decide_eq_true (by kernel_rfl))) ?_
  refine To.yes hok (Option.isSome (Prod.fst (readD (Prod.fst (writeD (Prod.fst (writeD (Prod.fst (writeD (newD (3 : Nat)) (0 : Int) (Prod.fst (List.replicate (128 : Nat) (UInt8.ofNat (1 : Nat)), True)))) (2 : Int) (Prod.fst (List.replicate (128 : Nat) (UInt8.ofNat (1 : Nat)), True)))) (0 : Int) (Prod.fst (List.replicate (128 : Nat) (UInt8.ofNat (2 : Nat)), True)))) (0 : Int)))) (by kernel_rfl) (C := DiskD.Fine (Prod.fst (writeD (Prod.fst (writeD (Prod.fst (writeD (newD (3 : Nat)) (0 : Int) (Prod.fst (List.replicate (128 : Nat) (UInt8.ofNat (1 : Nat)), True)))) (2 : Int) (Prod.fst (List.replicate (128 : Nat) (UInt8.ofNat (1 : Nat)), True)))) (0 : Int) (Prod.fst (List.replicate (128 : Nat) (UInt8.ofNat (2 : Nat)), True))))) (by kernel_rfl) ?_ ?_; (and_intros <;> try first | exact True.intro | with_reducible rfl | omega | with_reducible assumption | (refine fits_i64 ?_ ?_ <;> omega) | (refine fits_u64 ?_ ?_ <;> omega) | exact of_decide_eq_true (by kernel_rfl))
  · exact a3_in.fine
  refine To.run hok 5000 (C := (128 : Nat) ≤ (128 : Nat)) (by kernel_rfl) (by (and_intros <;> try first | exact True.intro | with_reducible rfl | omega | with_reducible assumption | (refine fits_i64 ?_ ?_ <;> omega) | (refine fits_u64 ?_ ?_ <;> omega) | exact of_decide_eq_true (by kernel_rfl))) ?_
  refine To.yes hok (decide (Array.toList (ByteArray.data (str (List.take (128 : Nat) (Option.getD (Prod.fst (readD (Prod.fst (writeD (Prod.fst (writeD (Prod.fst (writeD (newD (3 : Nat)) (0 : Int) (Prod.fst (List.replicate (128 : Nat) (UInt8.ofNat (1 : Nat)), True)))) (2 : Int) (Prod.fst (List.replicate (128 : Nat) (UInt8.ofNat (1 : Nat)), True)))) (0 : Int) (Prod.fst (List.replicate (128 : Nat) (UInt8.ofNat (2 : Nat)), True)))) (0 : Int))) [])))) = Array.toList (ByteArray.data (str (List.replicate (128 : Nat) (UInt8.ofNat (2 : Nat))))))) (by kernel_rfl) (C := True) (by kernel_rfl) (by (and_intros <;> try first | exact True.intro | with_reducible rfl | omega | with_reducible assumption | (refine fits_i64 ?_ ?_ <;> omega) | (refine fits_u64 ?_ ?_ <;> omega) | exact of_decide_eq_true (by kernel_rfl))) ?_
  refine To.run hok 5000 (C := True ∧ DiskD.Fine (Prod.fst (writeD (Prod.fst (writeD (Prod.fst (writeD (newD (3 : Nat)) (0 : Int) (Prod.fst (List.replicate (128 : Nat) (UInt8.ofNat (1 : Nat)), True)))) (2 : Int) (Prod.fst (List.replicate (128 : Nat) (UInt8.ofNat (1 : Nat)), True)))) (0 : Int) (Prod.fst (List.replicate (128 : Nat) (UInt8.ofNat (2 : Nat)), True)))) ∧ (1 : Nat) ≤ (1000000 : Nat) ∧ fits IntKind.i64 (10 : Int)) (by kernel_rfl) ?_ ?_; (and_intros <;> try first | exact True.intro | with_reducible rfl | omega | with_reducible assumption | (refine fits_i64 ?_ ?_ <;> omega) | (refine fits_u64 ?_ ?_ <;> omega) | exact of_decide_eq_true (by kernel_rfl))
  · exact a3_in.fine
  refine To.no hok (Option.isSome (Prod.fst (readD (Prod.fst (downD (Prod.fst (writeD (Prod.fst (writeD (Prod.fst (writeD (newD (3 : Nat)) (0 : Int) (Prod.fst (List.replicate (128 : Nat) (UInt8.ofNat (1 : Nat)), True)))) (2 : Int) (Prod.fst (List.replicate (128 : Nat) (UInt8.ofNat (1 : Nat)), True)))) (0 : Int) (Prod.fst (List.replicate (128 : Nat) (UInt8.ofNat (2 : Nat)), True)))) { w := (0 : Int), keep := Prod.fst ([(2 : Int)], True), torn := (0 : Int), at_ := (10 : Int) })) (0 : Int)))) (by kernel_rfl) (C := DiskD.Fine (Prod.fst (downD (Prod.fst (writeD (Prod.fst (writeD (Prod.fst (writeD (newD (3 : Nat)) (0 : Int) (Prod.fst (List.replicate (128 : Nat) (UInt8.ofNat (1 : Nat)), True)))) (2 : Int) (Prod.fst (List.replicate (128 : Nat) (UInt8.ofNat (1 : Nat)), True)))) (0 : Int) (Prod.fst (List.replicate (128 : Nat) (UInt8.ofNat (2 : Nat)), True)))) { w := (0 : Int), keep := Prod.fst ([(2 : Int)], True), torn := (0 : Int), at_ := (10 : Int) }))) (by kernel_rfl) ?_ ?_; (and_intros <;> try first | exact True.intro | with_reducible rfl | omega | with_reducible assumption | (refine fits_i64 ?_ ?_ <;> omega) | (refine fits_u64 ?_ ?_ <;> omega) | exact of_decide_eq_true (by kernel_rfl))
  · exact a4_in.fine
  refine To.run hok 6 (C := True) (by kernel_rfl) (by (and_intros <;> try first | exact True.intro | with_reducible rfl | omega | with_reducible assumption | (refine fits_i64 ?_ ?_ <;> omega) | (refine fits_u64 ?_ ?_ <;> omega) | exact of_decide_eq_true (by kernel_rfl))) ?_
  refine To.run hok 1 (C := True) (by kernel_rfl) (by (and_intros <;> try first | exact True.intro | with_reducible rfl | omega | with_reducible assumption | (refine fits_i64 ?_ ?_ <;> omega) | (refine fits_u64 ?_ ?_ <;> omega) | exact of_decide_eq_true (by kernel_rfl))) ?_
  refine To.run hok 4 (C := DiskD.Fine (Prod.fst (downD (Prod.fst (writeD (Prod.fst (writeD (Prod.fst (writeD (newD (3 : Nat)) (0 : Int) (Prod.fst (List.replicate (128 : Nat) (UInt8.ofNat (1 : Nat)), True)))) (2 : Int) (Prod.fst (List.replicate (128 : Nat) (UInt8.ofNat (1 : Nat)), True)))) (0 : Int) (Prod.fst (List.replicate (128 : Nat) (UInt8.ofNat (2 : Nat)), True)))) { w := (0 : Int), keep := Prod.fst ([(2 : Int)], True), torn := (0 : Int), at_ := (10 : Int) }))) (by kernel_rfl) ?_ ?_; (and_intros <;> try first | exact True.intro | with_reducible rfl | omega | with_reducible assumption | (refine fits_i64 ?_ ?_ <;> omega) | (refine fits_u64 ?_ ?_ <;> omega) | exact of_decide_eq_true (by kernel_rfl))
  · exact a4_in.fine
  refine To.loop (L := [LN.old (0 : Nat)]) (kp := [(9 : Nat), (7 : Nat), (6 : Nat), (5 : Nat), (4 : Nat), (3 : Nat), (2 : Nat), (1 : Nat)]) (ks := []) (C := Ob.disk (bootD (Prod.fst (downD (Prod.fst (writeD (Prod.fst (writeD (Prod.fst (writeD (newD (3 : Nat)) (0 : Int) (Prod.fst (List.replicate (128 : Nat) (UInt8.ofNat (1 : Nat)), True)))) (2 : Int) (Prod.fst (List.replicate (128 : Nat) (UInt8.ofNat (1 : Nat)), True)))) (0 : Int) (Prod.fst (List.replicate (128 : Nat) (UInt8.ofNat (2 : Nat)), True)))) { w := (0 : Int), keep := Prod.fst ([(2 : Int)], True), torn := (0 : Int), at_ := (10 : Int) }))) = Ob.disk a5) (hB := by kernel_rfl) (hC := by kernel_rfl) (hI := by (and_intros <;> try first | exact True.intro | with_reducible rfl | omega | with_reducible assumption | (refine fits_i64 ?_ ?_ <;> omega) | (refine fits_u64 ?_ ?_ <;> omega) | exact of_decide_eq_true (by kernel_rfl))) (hc := ?_) (step := ?_) (fun (_ : Unit) => []) (fun _ => [(0, .obj (.disk a5))]) (fun _ => True) (fun _ => 0) (())
  · exact congrArg Ob.disk a5_eq
  intro _ _ _
  refine To.run hok 5000 (C := True) (by kernel_rfl) (by (and_intros <;> try first | exact True.intro | with_reducible rfl | omega | with_reducible assumption | (refine fits_i64 ?_ ?_ <;> omega) | (refine fits_u64 ?_ ?_ <;> omega) | exact of_decide_eq_true (by kernel_rfl))) ?_
  refine To.yes hok (decide (Prod.snd (writeD (newD (3 : Nat)) (0 : Int) (Prod.fst (List.replicate (128 : Nat) (UInt8.ofNat (1 : Nat)), True))) = (0 : Int))) (by kernel_rfl) (C := True) (by kernel_rfl) (by (and_intros <;> try first | exact True.intro | with_reducible rfl | omega | with_reducible assumption | (refine fits_i64 ?_ ?_ <;> omega) | (refine fits_u64 ?_ ?_ <;> omega) | exact of_decide_eq_true (by kernel_rfl))) ?_
  refine To.run hok 5000 (C := True) (by kernel_rfl) (by (and_intros <;> try first | exact True.intro | with_reducible rfl | omega | with_reducible assumption | (refine fits_i64 ?_ ?_ <;> omega) | (refine fits_u64 ?_ ?_ <;> omega) | exact of_decide_eq_true (by kernel_rfl))) ?_
  refine To.yes hok (decide (Prod.snd (writeD (Prod.fst (writeD (newD (3 : Nat)) (0 : Int) (Prod.fst (List.replicate (128 : Nat) (UInt8.ofNat (1 : Nat)), True)))) (2 : Int) (Prod.fst (List.replicate (128 : Nat) (UInt8.ofNat (1 : Nat)), True))) = (0 : Int))) (by kernel_rfl) (C := True) (by kernel_rfl) (by (and_intros <;> try first | exact True.intro | with_reducible rfl | omega | with_reducible assumption | (refine fits_i64 ?_ ?_ <;> omega) | (refine fits_u64 ?_ ?_ <;> omega) | exact of_decide_eq_true (by kernel_rfl))) ?_
  refine To.run hok 5000 (C := True) (by kernel_rfl) (by (and_intros <;> try first | exact True.intro | with_reducible rfl | omega | with_reducible assumption | (refine fits_i64 ?_ ?_ <;> omega) | (refine fits_u64 ?_ ?_ <;> omega) | exact of_decide_eq_true (by kernel_rfl))) ?_
  refine To.yes hok (decide (Prod.snd (writeD (Prod.fst (writeD (Prod.fst (writeD (newD (3 : Nat)) (0 : Int) (Prod.fst (List.replicate (128 : Nat) (UInt8.ofNat (1 : Nat)), True)))) (2 : Int) (Prod.fst (List.replicate (128 : Nat) (UInt8.ofNat (1 : Nat)), True)))) (0 : Int) (Prod.fst (List.replicate (128 : Nat) (UInt8.ofNat (2 : Nat)), True))) = (0 : Int))) (by kernel_rfl) (C := True) (by kernel_rfl) (by (and_intros <;> try first | exact True.intro | with_reducible rfl | omega | with_reducible assumption | (refine fits_i64 ?_ ?_ <;> omega) | (refine fits_u64 ?_ ?_ <;> omega) | exact of_decide_eq_true (by kernel_rfl))) ?_
  refine To.run hok 5000 (C := True) (by kernel_rfl) (by (and_intros <;> try first | exact True.intro | with_reducible rfl | omega | with_reducible assumption | (refine fits_i64 ?_ ?_ <;> omega) | (refine fits_u64 ?_ ?_ <;> omega) | exact of_decide_eq_true (by kernel_rfl))) ?_
  refine To.yes hok (decide (Prod.snd (downD (Prod.fst (writeD (Prod.fst (writeD (Prod.fst (writeD (newD (3 : Nat)) (0 : Int) (Prod.fst (List.replicate (128 : Nat) (UInt8.ofNat (1 : Nat)), True)))) (2 : Int) (Prod.fst (List.replicate (128 : Nat) (UInt8.ofNat (1 : Nat)), True)))) (0 : Int) (Prod.fst (List.replicate (128 : Nat) (UInt8.ofNat (2 : Nat)), True)))) { w := (0 : Int), keep := Prod.fst ([(2 : Int)], True), torn := (0 : Int), at_ := (10 : Int) }) = (0 : Int))) (by kernel_rfl) (C := True) (by kernel_rfl) (by (and_intros <;> try first | exact True.intro | with_reducible rfl | omega | with_reducible assumption | (refine fits_i64 ?_ ?_ <;> omega) | (refine fits_u64 ?_ ?_ <;> omega) | exact of_decide_eq_true (by kernel_rfl))) ?_
  refine To.run hok 5000 (C := True) (by kernel_rfl) (by (and_intros <;> try first | exact True.intro | with_reducible rfl | omega | with_reducible assumption | (refine fits_i64 ?_ ?_ <;> omega) | (refine fits_u64 ?_ ?_ <;> omega) | exact of_decide_eq_true (by kernel_rfl))) ?_
  refine To.yes hok (decide (Prod.snd (readD (Prod.fst (downD (Prod.fst (writeD (Prod.fst (writeD (Prod.fst (writeD (newD (3 : Nat)) (0 : Int) (Prod.fst (List.replicate (128 : Nat) (UInt8.ofNat (1 : Nat)), True)))) (2 : Int) (Prod.fst (List.replicate (128 : Nat) (UInt8.ofNat (1 : Nat)), True)))) (0 : Int) (Prod.fst (List.replicate (128 : Nat) (UInt8.ofNat (2 : Nat)), True)))) { w := (0 : Int), keep := Prod.fst ([(2 : Int)], True), torn := (0 : Int), at_ := (10 : Int) })) (0 : Int)) = (31 : Int))) (by kernel_rfl) (C := True) (by kernel_rfl) (by (and_intros <;> try first | exact True.intro | with_reducible rfl | omega | with_reducible assumption | (refine fits_i64 ?_ ?_ <;> omega) | (refine fits_u64 ?_ ?_ <;> omega) | exact of_decide_eq_true (by kernel_rfl))) ?_
  refine To.run hok 5000 (C := ((0 : Int) ≤ (2 : Int) ∧ (2 : Int) < (256 : Int)) ∧ AV.v (Value.string (strOf [(0 : Int), (0 : Int), (0 : Int), (0 : Int), (0 : Int), (0 : Int), (0 : Int), (0 : Int), (0 : Int), (0 : Int), (0 : Int), (0 : Int), (0 : Int), (0 : Int), (0 : Int), (0 : Int), (0 : Int), (0 : Int), (0 : Int), (0 : Int), (0 : Int), (0 : Int), (0 : Int), (0 : Int), (0 : Int), (0 : Int), (0 : Int), (0 : Int), (0 : Int), (0 : Int), (0 : Int), (0 : Int), (0 : Int), (0 : Int), (0 : Int), (0 : Int), (0 : Int), (0 : Int), (0 : Int), (0 : Int), (0 : Int), (0 : Int), (0 : Int), (0 : Int), (0 : Int), (0 : Int), (0 : Int), (0 : Int), (0 : Int), (0 : Int), (0 : Int), (0 : Int), (0 : Int), (0 : Int), (0 : Int), (0 : Int), (0 : Int), (0 : Int), (0 : Int), (0 : Int), (0 : Int), (0 : Int), (0 : Int), (0 : Int), (0 : Int), (0 : Int), (0 : Int), (0 : Int), (0 : Int), (0 : Int), (0 : Int), (0 : Int), (0 : Int), (0 : Int), (0 : Int), (0 : Int), (0 : Int), (0 : Int), (0 : Int), (0 : Int), (0 : Int), (0 : Int), (0 : Int), (0 : Int), (0 : Int), (0 : Int), (0 : Int), (0 : Int), (0 : Int), (0 : Int), (0 : Int), (0 : Int), (0 : Int), (0 : Int), (0 : Int), (0 : Int), (0 : Int), (0 : Int), (0 : Int), (0 : Int), (0 : Int), (0 : Int), (0 : Int), (0 : Int), (0 : Int), (0 : Int), (0 : Int), (0 : Int), (0 : Int), (0 : Int), (0 : Int), (0 : Int), (0 : Int), (0 : Int), (0 : Int), (0 : Int), (0 : Int), (0 : Int)])) = AV.v (Value.string (strOf [(0 : Int), (0 : Int), (0 : Int), (0 : Int), (0 : Int), (0 : Int), (0 : Int), (0 : Int), (0 : Int), (0 : Int), (0 : Int), (0 : Int), (0 : Int), (0 : Int), (0 : Int), (0 : Int), (0 : Int), (0 : Int), (0 : Int), (0 : Int), (0 : Int), (0 : Int), (0 : Int), (0 : Int), (0 : Int), (0 : Int), (0 : Int), (0 : Int), (0 : Int), (0 : Int), (0 : Int), (0 : Int), (0 : Int), (0 : Int), (0 : Int), (0 : Int), (0 : Int), (0 : Int), (0 : Int), (0 : Int), (0 : Int), (0 : Int), (0 : Int), (0 : Int), (0 : Int), (0 : Int), (0 : Int), (0 : Int), (0 : Int), (0 : Int), (0 : Int), (0 : Int), (0 : Int), (0 : Int), (0 : Int), (0 : Int), (0 : Int), (0 : Int), (0 : Int), (0 : Int), (0 : Int), (0 : Int), (0 : Int), (0 : Int), (0 : Int), (0 : Int), (0 : Int), (0 : Int), (0 : Int), (0 : Int), (0 : Int), (0 : Int), (0 : Int), (0 : Int), (0 : Int), (0 : Int), (0 : Int), (0 : Int), (0 : Int), (0 : Int), (0 : Int), (0 : Int), (0 : Int), (0 : Int), (0 : Int), (0 : Int), (0 : Int), (0 : Int), (0 : Int), (0 : Int), (0 : Int), (0 : Int), (0 : Int), (0 : Int), (0 : Int), (0 : Int), (0 : Int), (0 : Int), (0 : Int), (0 : Int), (0 : Int), (0 : Int), (0 : Int), (0 : Int), (0 : Int), (0 : Int), (0 : Int), (0 : Int), (0 : Int), (0 : Int), (0 : Int), (0 : Int), (0 : Int), (0 : Int), (0 : Int), (0 : Int), (0 : Int), (0 : Int)])) ∧ ((0 : Int) ≤ (↑(0 : Nat) : Int) ∧ (↑(0 : Nat) : Int) ≤ (10 : Int) ∧ (10 : Int) ≤ (↑(128 : Nat) : Int)) ∧ True ∧ (128 : Nat) ≤ (1000000000 : Nat)) (by kernel_rfl) (by (and_intros <;> try first | exact True.intro | with_reducible rfl | omega | with_reducible assumption | (refine fits_i64 ?_ ?_ <;> omega) | (refine fits_u64 ?_ ?_ <;> omega) | exact of_decide_eq_true (by kernel_rfl))) ?_
  refine To.yes hok (Option.isSome (Prod.fst (readD a5 (0 : Int)))) (by kernel_rfl) (C := DiskD.Fine a5) (by kernel_rfl) ?_ ?_; (and_intros <;> try first | exact True.intro | with_reducible rfl | omega | with_reducible assumption | (refine fits_i64 ?_ ?_ <;> omega) | (refine fits_u64 ?_ ?_ <;> omega) | exact of_decide_eq_true (by kernel_rfl))
  · exact a5_in.fine
  refine To.run hok 5000 (C := (128 : Nat) ≤ (128 : Nat)) (by kernel_rfl) (by (and_intros <;> try first | exact True.intro | with_reducible rfl | omega | with_reducible assumption | (refine fits_i64 ?_ ?_ <;> omega) | (refine fits_u64 ?_ ?_ <;> omega) | exact of_decide_eq_true (by kernel_rfl))) ?_
  refine To.yes hok (decide (Array.toList (ByteArray.data (str (List.take (128 : Nat) (Option.getD (Prod.fst (readD a5 (0 : Int))) [])))) = Array.toList (ByteArray.data (str (Array.toList (ByteArray.data (str (List.drop (0 : Nat) (List.take (10 : Nat) (List.replicate (128 : Nat) (UInt8.ofNat (2 : Nat))))))) ++ Array.toList (ByteArray.data (strOf [(0 : Int), (0 : Int), (0 : Int), (0 : Int), (0 : Int), (0 : Int), (0 : Int), (0 : Int), (0 : Int), (0 : Int), (0 : Int), (0 : Int), (0 : Int), (0 : Int), (0 : Int), (0 : Int), (0 : Int), (0 : Int), (0 : Int), (0 : Int), (0 : Int), (0 : Int), (0 : Int), (0 : Int), (0 : Int), (0 : Int), (0 : Int), (0 : Int), (0 : Int), (0 : Int), (0 : Int), (0 : Int), (0 : Int), (0 : Int), (0 : Int), (0 : Int), (0 : Int), (0 : Int), (0 : Int), (0 : Int), (0 : Int), (0 : Int), (0 : Int), (0 : Int), (0 : Int), (0 : Int), (0 : Int), (0 : Int), (0 : Int), (0 : Int), (0 : Int), (0 : Int), (0 : Int), (0 : Int), (0 : Int), (0 : Int), (0 : Int), (0 : Int), (0 : Int), (0 : Int), (0 : Int), (0 : Int), (0 : Int), (0 : Int), (0 : Int), (0 : Int), (0 : Int), (0 : Int), (0 : Int), (0 : Int), (0 : Int), (0 : Int), (0 : Int), (0 : Int), (0 : Int), (0 : Int), (0 : Int), (0 : Int), (0 : Int), (0 : Int), (0 : Int), (0 : Int), (0 : Int), (0 : Int), (0 : Int), (0 : Int), (0 : Int), (0 : Int), (0 : Int), (0 : Int), (0 : Int), (0 : Int), (0 : Int), (0 : Int), (0 : Int), (0 : Int), (0 : Int), (0 : Int), (0 : Int), (0 : Int), (0 : Int), (0 : Int), (0 : Int), (0 : Int), (0 : Int), (0 : Int), (0 : Int), (0 : Int), (0 : Int), (0 : Int), (0 : Int), (0 : Int), (0 : Int), (0 : Int), (0 : Int), (0 : Int), (0 : Int), (0 : Int)]))))))) (by kernel_rfl) (C := True) (by kernel_rfl) (by (and_intros <;> try first | exact True.intro | with_reducible rfl | omega | with_reducible assumption | (refine fits_i64 ?_ ?_ <;> omega) | (refine fits_u64 ?_ ?_ <;> omega) | exact of_decide_eq_true (by kernel_rfl))) ?_
  refine To.run hok 5000 (C := ((0 : Int) ≤ (1 : Int) ∧ (1 : Int) < (256 : Int)) ∧ True) (by kernel_rfl) (by (and_intros <;> try first | exact True.intro | with_reducible rfl | omega | with_reducible assumption | (refine fits_i64 ?_ ?_ <;> omega) | (refine fits_u64 ?_ ?_ <;> omega) | exact of_decide_eq_true (by kernel_rfl))) ?_
  refine To.yes hok (Option.isSome (Prod.fst (readD a5 (2 : Int)))) (by kernel_rfl) (C := DiskD.Fine a5) (by kernel_rfl) ?_ ?_; (and_intros <;> try first | exact True.intro | with_reducible rfl | omega | with_reducible assumption | (refine fits_i64 ?_ ?_ <;> omega) | (refine fits_u64 ?_ ?_ <;> omega) | exact of_decide_eq_true (by kernel_rfl))
  · exact a5_in.fine
  refine To.run hok 5000 (C := (128 : Nat) ≤ (128 : Nat)) (by kernel_rfl) (by (and_intros <;> try first | exact True.intro | with_reducible rfl | omega | with_reducible assumption | (refine fits_i64 ?_ ?_ <;> omega) | (refine fits_u64 ?_ ?_ <;> omega) | exact of_decide_eq_true (by kernel_rfl))) ?_
  refine To.yes hok (decide (Array.toList (ByteArray.data (str (List.take (128 : Nat) (Option.getD (Prod.fst (readD a5 (2 : Int))) [])))) = Array.toList (ByteArray.data (str (List.replicate (128 : Nat) (UInt8.ofNat (1 : Nat))))))) (by kernel_rfl) (C := True) (by kernel_rfl) (by (and_intros <;> try first | exact True.intro | with_reducible rfl | omega | with_reducible assumption | (refine fits_i64 ?_ ?_ <;> omega) | (refine fits_u64 ?_ ?_ <;> omega) | exact of_decide_eq_true (by kernel_rfl))) ?_
  refine To.run hok 5000 (C := True) (by kernel_rfl) (by (and_intros <;> try first | exact True.intro | with_reducible rfl | omega | with_reducible assumption | (refine fits_i64 ?_ ?_ <;> omega) | (refine fits_u64 ?_ ?_ <;> omega) | exact of_decide_eq_true (by kernel_rfl))) ?_
  refine To.end (AV.v (Value.bool true)) (by kernel_rfl) ?_
  rfl
def aliveF : CF := trueF 46
theorem aliveF_ok : FOk Try.prog aliveF := trueF_ok tab Try.func46 (by kernel_rfl) fun w => (law_calls sA_ok (by kernel_rfl) (alive3_to sA_ok) (w := w) .nil)
end Go.Proofs.Ytnkjhicokcmmpaa.Sm

/-
  States that are written out.
-/
namespace Go.Proofs.Ytnkjhicokcmmpaa.Sm
open Go Go.RowKit

/-- Slots, all but some forgotten. -/
def slotL (l : List (Nat × AV)) : Nat → Nat → List AV
  | 0, _ => []
  | n + 1, k => (match getS k l with | some x => x | none => .any) :: slotL l n (k + 1)
def slotT (n : Nat) (l : List (Nat × AV)) : Tr AV := argsT (slotL l n 0) 0 .e
def kidsC : Code → List Code
  | .seq a b => [a, b]
  | .cond _ a b => [a, b]
  | .block _ b => [b]
  | .loop b => [b]
  | .rangeFunc _ _ a b => [a, b]
  | .scope b => [b]
  | _ => []
def subC (c : Code) : List Nat → Code
  | [] => c
  | i :: p => match (kidsC c)[i]? with
    | some d => subC d p
    | none => c
def bodyC (P : Program) (f : FuncId) : Code := match tabOf P f with
  | some fn => (match fn.body with | some b => b | none => .skip)
  | none => .skip
theorem To.eq {S : Sy} {P : Program} {f : FuncId} {s s' : ASt} {Q : AV → Tr AB → Nat → Prop} (he : s = s') (h : To S P f s' Q) : To S P f s Q := he ▸ h
section
variable {S : Sy} {P : Program} {f : FuncId} {s : ASt} {Q : AV → Tr AB → Nat → Prop}
/-- Into a loop: the state at its head is written out. -/
theorem To.loopX {α : Type} {L : List LN} {kp : List Nat} {ks : List (List Nat)} {st : α → ASt} (ov : α → List (Nat × AV)) (ob : α → List (Nat × AB)) (I : α → Prop) (m : α → Nat) (a : α) (hI : I a) (hB : cutB L ks (ob a) s = true) {C : Prop} (hC : cutC L kp ks (ov a) (ob a) s = C) (hc : C) (he : cutS L kp ks (ov a) (ob a) s = st a)
    (step : ∀ a, I a → (∀ b, I b → m b < m a → To S P f (st b) Q) → To S P f (st a) Q) : To S P f s Q := by
  refine To.cut hB (hC ▸ hc) (he ▸ ?_)
  have key : ∀ (k : Nat) (a : α), m a < k → I a → To S P f (st a) Q := by
    intro k
    induction k with
    | zero => intro a h; omega
    | succ k ih => intro a h hI; exact step a hI fun b hIb hlt => ih b (by omega) hIb
  exact key _ a (Nat.lt_succ_self _) hI
/-- Back at a loop's head. -/
theorem To.backX {s2 : ASt} {L : List LN} {kp : List Nat} {ks : List (List Nat)} {ov : List (Nat × AV)} {ob : List (Nat × AB)} (h : To S P f s2 Q) (hB : cutB L ks ob s = true) {C : Prop} (hC : cutC L kp ks ov ob s = C) (hc : C) (he : cutS L kp ks ov ob s = s2) : To S P f s Q :=
  To.cut hB (hC ▸ hc) (he ▸ h)
end
end Go.Proofs.Ytnkjhicokcmmpaa.Sm

/-
  DiskOrder: the walk.
-/
namespace Go.Proofs.Ytnkjhicokcmmpaa.Sm
open Go Go.RowKit
noncomputable abbrev S3 : Sy := sym Try.prog (orF diskF0 aliveF) diskG0
theorem s3_ok : S3.Ok Try.prog := sym_ok (orF_ok diskF0_ok aliveF_ok) diskG0_ok tab mix
/-- The writes, and each sector's last one. -/
def stepO (s : DiskD × (Nat → List UInt8)) (o : OpD) : DiskD × (Nat → List UInt8) :=
  if 0 ≤ o.at_ ∧ o.at_ < s.1.stays.length ∧ o.b.length = 128 then (s.1.put o.at_ o.b, fun k => if (k : Int) = o.at_ then o.b else s.2 k) else s
def runO (l : List OpD) : DiskD × (Nat → List UInt8) := l.foldl stepO (newD 6, fun _ => [])
theorem runO_succ {l : List OpD} {a : Nat} (h : a < l.length) : runO (l.take (a + 1)) = stepO (runO (l.take a)) (l.getD a default) := by
  rw [List.take_succ_eq_append_getElem h, List.getD_eq_getElem?_getD, List.getElem?_eq_getElem h]
  unfold runO
  rw [List.foldl_append]
  rfl
theorem write0 {d : DiskD} (hu : d.down = false) (hw : d.crash.w = 0) (z : Int) (b : List UInt8) : writeD d z b = if 0 ≤ z ∧ z < d.stays.length ∧ b.length = 128 then (d.put z b, 0) else (d, 30) := by
  unfold writeD
  rw [if_neg (by simp [hu])]
  by_cases h1 : 0 ≤ z
  · rw [if_neg (by omega)]
    by_cases h2 : z < d.stays.length
    · rw [if_neg (by omega)]
      by_cases h3 : b.length = 128
      · rw [if_neg (by omega), if_pos hw, if_pos ⟨h1, h2, h3⟩]
      · rw [if_pos h3, if_neg (fun h => h3 h.2.2)]
    · rw [if_pos h2, if_neg (fun h => h2 h.2.1)]
  · rw [if_pos h1, if_neg (fun h => h1 h.1)]
/-- A disk of six sectors that is up and not armed, with few writes behind it. -/
structure Calm (d : DiskD) (n : Nat) : Prop where
  in_ : d.In n
  six : d.stays.length = 6
  up : d.down = false
  cr : d.crash = CrashD.none
theorem Calm.fine {d : DiskD} {n : Nat} (h : Calm d n) : d.Fine := h.in_.fine
theorem calm_new : Calm (newD 6) 0 := ⟨newD_in (by decide) (by decide), rfl, rfl, rfl⟩
theorem Calm.put {d : DiskD} {n : Nat} (h : Calm d n) (hn : n < 1000000) {z : Int} {b : List UInt8} (h0 : 0 ≤ z) (h1 : z < d.stays.length) (hb : b.length = 128) : Calm (d.put z b) (n + 1) :=
  ⟨h.in_.put (by omega) h0 h1 hb, h.six, h.up, h.cr⟩
theorem Calm.more {d : DiskD} {n m : Nat} (h : Calm d n) (hm : n ≤ m) (hM : m ≤ 1000000) : Calm d m := ⟨h.in_.more hm (by omega), h.six, h.up, h.cr⟩
theorem calm_runO (l : List OpD) (hl : l.length ≤ 1000) : ∀ a, a ≤ l.length → Calm (runO (l.take a)).1 a := by
  intro a
  induction a with
  | zero => intro _; exact calm_new
  | succ a ih =>
    intro ha
    rw [runO_succ ha]
    have h1 := ih (by omega)
    unfold stepO
    split
    · rename_i h
      exact h1.put (by omega) h.1 h.2.1 h.2.2
    · exact h1.more (by omega) (by omega)
/-- What waits, by each sector's last write. -/
def lastW (last : Nat → List UInt8) (lo : Nat) (z : Int) : Option (List UInt8) := if (lo : Int) ≤ z ∧ z < 6 ∧ last z.toNat ≠ [] then some (last z.toNat) else none
structure InvO (d : DiskD) (last : Nat → List UInt8) (lo : Nat) : Prop where
  stays : d.stays = (newD 6).stays
  waits : ∀ z, getM d.waits z = lastW last lo z
theorem InvO.put {d : DiskD} {last last' : Nat → List UInt8} {lo lo' : Nat} (h : InvO d last lo) {z : Int} {b : List UInt8} (hb : b.length = 128) (h1 : ∀ y, lastW last' lo' y = if y = z then some b else lastW last lo y) : InvO (d.put z b) last' lo' :=
  ⟨h.stays, fun y => by
    show getM (putM d.waits z (b.take 128)) y = _
    rw [getM_putM, h1, h.waits, List.take_of_length_le (by omega)]⟩
theorem runO_inv (l : List OpD) : InvO (runO l).1 (runO l).2 0 ∧ ∀ k, (runO l).2 k = [] ∨ ((runO l).2 k).length = 128 := by
  unfold runO
  suffices H : ∀ (l : List OpD) (s : DiskD × (Nat → List UInt8)), InvO s.1 s.2 0 → (∀ k, s.2 k = [] ∨ (s.2 k).length = 128) → InvO (l.foldl stepO s).1 (l.foldl stepO s).2 0 ∧ ∀ k, (l.foldl stepO s).2 k = [] ∨ ((l.foldl stepO s).2 k).length = 128 from
    H l _ ⟨rfl, fun z => by simp [lastW, newD, getM]⟩ (fun k => .inl rfl)
  intro l
  induction l with
  | nil => intro s h1 h2; exact ⟨h1, h2⟩
  | cons o l ih =>
    intro s h1 h2
    rw [List.foldl_cons]
    have h6 : s.1.stays.length = 6 := by rw [h1.stays]; rfl
    refine ih _ ?_ ?_
    · unfold stepO
      split
      · rename_i h
        obtain ⟨g1, g2, g3⟩ := h
        rw [h6] at g2
        have hne : o.b ≠ [] := fun e => by rw [e] at g3; cases g3
        refine h1.put g3 fun y => ?_
        unfold lastW
        by_cases e : y = o.at_
        · rw [if_pos e, e]
          have e2 : ((o.at_.toNat : Nat) : Int) = o.at_ := by omega
          simp only [e2, if_true]
          rw [if_pos ⟨by omega, by omega, hne⟩]
        · rw [if_neg e]
          by_cases hy : 0 ≤ y
          · have e2 : ¬ ((y.toNat : Nat) : Int) = o.at_ := by omega
            simp only [e2, if_false]
          · rw [if_neg (by omega), if_neg (by omega)]
      · exact h1
    · intro k
      unfold stepO
      split
      · rename_i h
        by_cases e : (k : Int) = o.at_
        · simp only [e, if_true]; exact .inr h.2.2
        · simp only [e, if_false]; exact h2 k
      · exact h2 k
/-- The other disk, behind so many rounds. -/
def backB (last : Nat → List UInt8) : Nat → DiskD
  | 0 => newD 6
  | j + 1 => if last (5 - j) = [] then backB last j else (backB last j).put ((5 - j : Nat) : Int) (last (5 - j))
theorem backB_inv {last : Nat → List UInt8} (hl : ∀ k, last k = [] ∨ (last k).length = 128) : ∀ j, j ≤ 6 → InvO (backB last j) last (6 - j) ∧ Calm (backB last j) j := by
  intro j
  induction j with
  | zero => intro _; exact ⟨⟨rfl, fun z => by simp [lastW, backB, newD, getM]; intro h1 h2; omega⟩, calm_new⟩
  | succ j ih =>
    intro hj
    obtain ⟨h1, h2⟩ := ih (by omega)
    unfold backB
    by_cases e : last (5 - j) = []
    · rw [if_pos e]
      refine ⟨⟨h1.stays, fun z => ?_⟩, h2.more (by omega) (by omega)⟩
      rw [h1.waits]
      unfold lastW
      by_cases hz : z = ((5 - j : Nat) : Int)
      · have hz' : z.toNat = 5 - j := by omega
        rw [hz', if_neg (fun h => h.2.2 e), if_neg (fun h => h.2.2 e)]
      · have : (((6 - j : Nat) : Int) ≤ z ∧ z < 6 ∧ last z.toNat ≠ []) ↔ (((6 - (j + 1) : Nat) : Int) ≤ z ∧ z < 6 ∧ last z.toNat ≠ []) := ⟨fun h => ⟨by omega, h.2⟩, fun h => ⟨by omega, h.2⟩⟩
        simp only [this]
    · rw [if_neg e]
      have hb : (last (5 - j)).length = 128 := (hl _).resolve_left e
      refine ⟨h1.put hb fun z => ?_, h2.put (by omega) (by omega) (by rw [h2.six]; omega) hb⟩
      unfold lastW
      by_cases hz : z = ((5 - j : Nat) : Int)
      · have hz' : z.toNat = 5 - j := by omega
        rw [if_pos hz, hz', if_pos ⟨by omega, by omega, e⟩]
      · rw [if_neg hz]
        have : (((6 - j : Nat) : Int) ≤ z ∧ z < 6 ∧ last z.toNat ≠ []) ↔ (((6 - (j + 1) : Nat) : Int) ≤ z ∧ z < 6 ∧ last z.toNat ≠ []) := ⟨fun h => ⟨by omega, h.2⟩, fun h => ⟨by omega, h.2⟩⟩
        simp only [this]
theorem order_alike (l : List OpD) : Alike (runO l).1 (backB (runO l).2 6) := by
  obtain ⟨h1, h2⟩ := runO_inv l
  obtain ⟨h3, _⟩ := backB_inv h2 6 (Nat.le_refl _)
  exact ⟨h1.stays.trans h3.stays.symm, fun z => by rw [h1.waits, h3.waits]⟩
theorem nums_keys (m : List (Int × List UInt8)) : numsF m.length (intsF (keysD m)) = keysD m := by
  have := numsF_ints (keysD m)
  rwa [keysD_len] at this
set_option maxHeartbeats 4000000 in
set_option maxRecDepth 100000 in
theorem order_to (hok : S3.Ok Try.prog) (l : List OpD) (c : CrashD) (hl : ∀ o ∈ l, o.Wf) (hc : c.Wf) :
    To S3 Try.prog 12 (startOf Try.prog 12 [.im 7 l.length (opsF l), .agg (crashF c)] .e 0) (fun x _ _ => x = .v (.bool true)) := by
  have e1 := opsOf_ops l
  refine To.run hok 5000 (C := True) (by kernel_rfl) (by (and_intros <;> try first | exact True.intro | with_reducible rfl | omega | with_reducible assumption | (refine fits_i64 ?_ ?_ <;> omega) | (refine fits_u64 ?_ ?_ <;> omega))) ?_
  refine To.br hok (greatL (opsOf (List.length l) (opsF l))) (C := ∀ (r : Nat), r < List.length l → opsF l r = opsF (opsOf (List.length l) (opsF l)) r) (by kernel_rfl) (by kernel_rfl) ?_ ?_ ?_; (and_intros <;> try first | exact True.intro | with_reducible rfl | omega | with_reducible assumption | (refine fits_i64 ?_ ?_ <;> omega) | (refine fits_u64 ?_ ?_ <;> omega))
  · rw [e1]; exact fun r hr => rfl
  · intro h1
    refine To.run hok 5000 (C := True) (by kernel_rfl) (by (and_intros <;> try first | exact True.intro | with_reducible rfl | omega | with_reducible assumption | (refine fits_i64 ?_ ?_ <;> omega) | (refine fits_u64 ?_ ?_ <;> omega))) ?_
    refine To.end (AV.v (Value.bool true)) (by kernel_rfl) ?_
    rfl
  · intro h1
    refine To.run hok 5000 (C := True) (by kernel_rfl) (by (and_intros <;> try first | exact True.intro | with_reducible rfl | omega | with_reducible assumption | (refine fits_i64 ?_ ?_ <;> omega) | (refine fits_u64 ?_ ?_ <;> omega))) ?_
    refine To.brd hok ((50 : Int) < (↑(List.length l) : Int)) (C := True) (by kernel_rfl) (by kernel_rfl) (by (and_intros <;> try first | exact True.intro | with_reducible rfl | omega | with_reducible assumption | (refine fits_i64 ?_ ?_ <;> omega) | (refine fits_u64 ?_ ?_ <;> omega))) ?_ ?_
    · intro h2
      refine To.run hok 5000 (C := True) (by kernel_rfl) (by (and_intros <;> try first | exact True.intro | with_reducible rfl | omega | with_reducible assumption | (refine fits_i64 ?_ ?_ <;> omega) | (refine fits_u64 ?_ ?_ <;> omega))) ?_
      refine To.end (AV.v (Value.bool true)) (by kernel_rfl) ?_
      rfl
    · intro h2
      refine To.run hok 5000 (C := True) (by kernel_rfl) (by (and_intros <;> try first | exact True.intro | with_reducible rfl | omega | with_reducible assumption | (refine fits_i64 ?_ ?_ <;> omega) | (refine fits_u64 ?_ ?_ <;> omega))) ?_
      refine To.brd hok ((100 : Int) < (↑(List.length (CrashD.keep c)) : Int)) (C := True) (by kernel_rfl) (by kernel_rfl) (by (and_intros <;> try first | exact True.intro | with_reducible rfl | omega | with_reducible assumption | (refine fits_i64 ?_ ?_ <;> omega) | (refine fits_u64 ?_ ?_ <;> omega))) ?_ ?_
      · intro h3
        refine To.run hok 5000 (C := True) (by kernel_rfl) (by (and_intros <;> try first | exact True.intro | with_reducible rfl | omega | with_reducible assumption | (refine fits_i64 ?_ ?_ <;> omega) | (refine fits_u64 ?_ ?_ <;> omega))) ?_
        refine To.end (AV.v (Value.bool true)) (by kernel_rfl) ?_
        rfl
      · intro h3
        refine To.run hok 5000 (C := True) (by kernel_rfl) (by (and_intros <;> try first | exact True.intro | with_reducible rfl | omega | with_reducible assumption | (refine fits_i64 ?_ ?_ <;> omega) | (refine fits_u64 ?_ ?_ <;> omega))) ?_
        refine To.yesd hok ((1 : Int) ≤ (6 : Int) ∧ (6 : Int) ≤ (4096 : Int)) (by (and_intros <;> try first | exact True.intro | with_reducible rfl | omega | with_reducible assumption | (refine fits_i64 ?_ ?_ <;> omega) | (refine fits_u64 ?_ ?_ <;> omega))) (C := True) (by kernel_rfl) (by (and_intros <;> try first | exact True.intro | with_reducible rfl | omega | with_reducible assumption | (refine fits_i64 ?_ ?_ <;> omega) | (refine fits_u64 ?_ ?_ <;> omega))) ?_
        refine To.run hok 5000 (C := True) (by kernel_rfl) (by (and_intros <;> try first | exact True.intro | with_reducible rfl | omega | with_reducible assumption | (refine fits_i64 ?_ ?_ <;> omega) | (refine fits_u64 ?_ ?_ <;> omega))) ?_
        refine To.yesd hok ((1 : Int) ≤ (6 : Int) ∧ (6 : Int) ≤ (4096 : Int)) (by (and_intros <;> try first | exact True.intro | with_reducible rfl | omega | with_reducible assumption | (refine fits_i64 ?_ ?_ <;> omega) | (refine fits_u64 ?_ ?_ <;> omega))) (C := True) (by kernel_rfl) (by (and_intros <;> try first | exact True.intro | with_reducible rfl | omega | with_reducible assumption | (refine fits_i64 ?_ ?_ <;> omega) | (refine fits_u64 ?_ ?_ <;> omega))) ?_
        refine To.run hok 31 (C := True) (by kernel_rfl) (by (and_intros <;> try first | exact True.intro | with_reducible rfl | omega | with_reducible assumption | (refine fits_i64 ?_ ?_ <;> omega) | (refine fits_u64 ?_ ?_ <;> omega))) ?_
        refine To.loopX (L := [LN.old (0 : Nat), LN.old (1 : Nat), LN.old (2 : Nat), LN.old (3 : Nat)]) (kp := [(55 : Nat), (54 : Nat), (53 : Nat), (10 : Nat), (8 : Nat), (6 : Nat), (5 : Nat), (3 : Nat)]) (ks := []) (C := (IntKind.i64 = IntKind.i64 ∧ (0 : Int) = (↑(0 : Nat) : Int)) ∧ Ob.disk (newD (6 : Nat)) = Ob.disk (Prod.fst (runO (List.take (0 : Nat) l))) ∧ (81 : Nat) = (81 : TypeId) ∧ (none : Option Nat) = none ∧ Prod.snd (runO (List.take (0 : Nat) l)) (0 : Nat) = [] ∧ Prod.snd (runO (List.take (0 : Nat) l)) (1 : Nat) = [] ∧ Prod.snd (runO (List.take (0 : Nat) l)) (2 : Nat) = [] ∧ Prod.snd (runO (List.take (0 : Nat) l)) (3 : Nat) = [] ∧ Prod.snd (runO (List.take (0 : Nat) l)) (4 : Nat) = [] ∧ Prod.snd (runO (List.take (0 : Nat) l)) (5 : Nat) = [] ∧ True) (st := fun (a : Nat) => (⟨⟨12, 133, slotT 133 [(3, AV.ptr (nat_lit 0) (nat_lit 0)), (5, AV.v (Value.bool true)), (6, AV.ptr (nat_lit 1) (nat_lit 0)), (8, AV.ptr (nat_lit 2) (nat_lit 0)), (10, AV.ptr (nat_lit 3) (nat_lit 0)), (53, AV.im (nat_lit 7) (List.length l) (opsF l)), (54, AV.sy (Value.int IntKind.i64 (↑(List.length l) : Int))), (55, AV.sy (Value.int IntKind.i64 (↑a : Int)))], ARg.no, [Go.Proofs.Ytnkjhicokcmmpaa.Sm.AItem.code (subC (bodyC Try.prog 12) [1, 1, 1, 1, 1, 1, 1, 0, 1, 0, 0]), Go.Proofs.Ytnkjhicokcmmpaa.Sm.AItem.inLoop (subC (bodyC Try.prog 12) [1, 1, 1, 1, 1, 1, 1, 0, 1, 0, 0]), (AItem.inBlock 0), Go.Proofs.Ytnkjhicokcmmpaa.Sm.AItem.code (subC (bodyC Try.prog 12) [1, 1, 1, 1, 1, 1, 1, 1])], [], false, none, (0 : Nat)⟩, [], memF [AB.mem (nat_lit 54) none [AV.sy (Value.int IntKind.i64 (CrashD.w c)), AV.im (nat_lit 1) (List.length (CrashD.keep c)) (intsF (CrashD.keep c)), AV.sy (Value.int IntKind.i64 (CrashD.torn c)), AV.sy (Value.int IntKind.i64 (CrashD.at_ c))], AB.obj (Ob.disk (Prod.fst (runO (List.take a l)))), AB.obj (Ob.disk (newD (6 : Nat))), AB.mem (nat_lit 81) none [AV.by8 (Prod.snd (runO (List.take a l)) (0 : Nat)), AV.by8 (Prod.snd (runO (List.take a l)) (1 : Nat)), AV.by8 (Prod.snd (runO (List.take a l)) (2 : Nat)), AV.by8 (Prod.snd (runO (List.take a l)) (3 : Nat)), AV.by8 (Prod.snd (runO (List.take a l)) (4 : Nat)), AV.by8 (Prod.snd (runO (List.take a l)) (5 : Nat))]] 0 Tr.e, 4⟩ : ASt)) (hB := by kernel_rfl) (hC := by kernel_rfl) (he := by kernel_rfl) (hI := by (and_intros <;> try first | exact True.intro | with_reducible rfl | omega | with_reducible assumption | (refine fits_i64 ?_ ?_ <;> omega) | (refine fits_u64 ?_ ?_ <;> omega))) (hc := ?_) (step := ?_) (fun (a : Nat) => [(55, ivA (a : Int))]) (fun a => [(1, .obj (.disk (runO (l.take a)).1)), (3, .mem 81 none [.by8 ((runO (l.take a)).2 0), .by8 ((runO (l.take a)).2 1), .by8 ((runO (l.take a)).2 2), .by8 ((runO (l.take a)).2 3), .by8 ((runO (l.take a)).2 4), .by8 ((runO (l.take a)).2 5)])]) (fun a => a ≤ l.length) (fun a => l.length - a) (0)
        · exact ⟨⟨rfl, rfl⟩, rfl, rfl, rfl, rfl, rfl, rfl, rfl, rfl, rfl, trivial⟩
        intro a ha ih
        have hcalm := calm_runO l (by omega) a ha
        have hfine := hcalm.fine
        refine To.run hok 5000 (C := True) (by kernel_rfl) (by (and_intros <;> try first | exact True.intro | with_reducible rfl | omega | with_reducible assumption | (refine fits_i64 ?_ ?_ <;> omega) | (refine fits_u64 ?_ ?_ <;> omega))) ?_
        refine To.brd hok ((↑a : Int) < (↑(List.length l) : Int)) (C := True) (by kernel_rfl) (by kernel_rfl) (by (and_intros <;> try first | exact True.intro | with_reducible rfl | omega | with_reducible assumption | (refine fits_i64 ?_ ?_ <;> omega) | (refine fits_u64 ?_ ?_ <;> omega))) ?_ ?_
        · intro h4
          have hlt : a < l.length := by omega
          have hi1 : a + 1 ≤ l.length := hlt
          have hi2 : l.length - (a + 1) < l.length - a := by omega
          have hsucc := runO_succ hlt
          rw [show l.getD a default = l.getD (Int.toNat (a : Int)) default by rw [Int.toNat_natCast]] at hsucc
          have hw0 := write0 hcalm.up (by rw [hcalm.cr]; rfl) (l.getD (Int.toNat (a : Int)) default).at_ (l.getD (Int.toNat (a : Int)) default).b
          unfold stepO at hsucc
          refine To.run hok 5000 (C := ((0 : Int) ≤ (↑a : Int) ∧ (↑a : Int) < (↑(List.length l) : Int)) ∧ True ∧ True ∧ DiskD.Fine (Prod.fst (runO (List.take a l)))) (by kernel_rfl) (by (and_intros <;> try first | exact True.intro | with_reducible rfl | omega | with_reducible assumption | (refine fits_i64 ?_ ?_ <;> omega) | (refine fits_u64 ?_ ?_ <;> omega))) ?_
          refine To.brd hok (Prod.snd (writeD (Prod.fst (runO (List.take a l))) (OpD.at_ (List.getD l (Int.toNat (↑a : Int)) default)) (Prod.fst (OpD.b (List.getD l (Int.toNat (↑a : Int)) default), True))) = (0 : Int)) (C := True) (by kernel_rfl) (by kernel_rfl) (by (and_intros <;> try first | exact True.intro | with_reducible rfl | omega | with_reducible assumption | (refine fits_i64 ?_ ?_ <;> omega) | (refine fits_u64 ?_ ?_ <;> omega))) ?_ ?_
          · intro h5
            have hin : 0 ≤ (l.getD (Int.toNat (a : Int)) default).at_ ∧ (l.getD (Int.toNat (a : Int)) default).at_ < (runO (l.take a)).1.stays.length ∧ (l.getD (Int.toNat (a : Int)) default).b.length = 128 := by
              refine Classical.byContradiction fun hn => ?_
              rw [if_neg hn] at hw0
              have : (30 : Int) = 0 := (congrArg Prod.snd hw0).symm.trans h5
              omega
            rw [if_pos hin] at hw0 hsucc
            have hd := (congrArg Prod.fst hw0).trans (congrArg Prod.fst hsucc).symm
            have hk : ∀ k : Nat, (runO (l.take (a + 1))).2 k = if (k : Int) = (l.getD (Int.toNat (a : Int)) default).at_ then (l.getD (Int.toNat (a : Int)) default).b else (runO (l.take a)).2 k := fun k => by rw [hsucc]
            rw [hcalm.six] at hin
            obtain ⟨z, hz⟩ : ∃ z, z = (l.getD (Int.toNat (a : Int)) default).at_ := ⟨_, rfl⟩
            have hzr : z = 0 ∨ z = 1 ∨ z = 2 ∨ z = 3 ∨ z = 4 ∨ z = 5 := by omega
            rw [← hz] at hk
            refine To.run hok 1 (C := True) (by kernel_rfl) (by (and_intros <;> try first | exact True.intro | with_reducible rfl | omega | with_reducible assumption | (refine fits_i64 ?_ ?_ <;> omega) | (refine fits_u64 ?_ ?_ <;> omega))) ?_
            refine To.less (L := [LN.old (0 : Nat), LN.old (1 : Nat), LN.old (2 : Nat), LN.old (3 : Nat), LN.old (4 : Nat)]) (kp := [(65 : Nat), (55 : Nat), (54 : Nat), (53 : Nat), (12 : Nat), (10 : Nat), (8 : Nat), (6 : Nat), (5 : Nat), (3 : Nat)]) (ks := []) ([]) ([((4 : Nat), AB.mem (nat_lit 83) none [AV.sy (Value.int IntKind.i64 (OpD.kind (List.getD l (Int.toNat (↑a : Int)) default))), AV.v (Value.int IntKind.i64 z), AV.by8 (OpD.b (List.getD l (Int.toNat (↑a : Int)) default)), AV.sy (Value.int IntKind.i64 (CrashD.w (OpD.c (List.getD l (Int.toNat (↑a : Int)) default)))), AV.im (nat_lit 1) (List.length (CrashD.keep (OpD.c (List.getD l (Int.toNat (↑a : Int)) default)))) (intsF (CrashD.keep (OpD.c (List.getD l (Int.toNat (↑a : Int)) default)))), AV.sy (Value.int IntKind.i64 (CrashD.torn (OpD.c (List.getD l (Int.toNat (↑a : Int)) default)))), AV.sy (Value.int IntKind.i64 (CrashD.at_ (OpD.c (List.getD l (Int.toNat (↑a : Int)) default))))])]) (by kernel_rfl) (C := (83 : Nat) = nat_lit 83 ∧ (none : Option Nat) = none ∧ (IntKind.i64 = IntKind.i64 ∧ OpD.kind (List.getD l (Int.toNat (↑a : Int)) default) = OpD.kind (List.getD l (Int.toNat (↑a : Int)) default)) ∧ Value.int IntKind.i64 (OpD.at_ (List.getD l (Int.toNat (↑a : Int)) default)) = Value.int IntKind.i64 z ∧ OpD.b (List.getD l (Int.toNat (↑a : Int)) default) = OpD.b (List.getD l (Int.toNat (↑a : Int)) default) ∧ (IntKind.i64 = IntKind.i64 ∧ CrashD.w (OpD.c (List.getD l (Int.toNat (↑a : Int)) default)) = CrashD.w (OpD.c (List.getD l (Int.toNat (↑a : Int)) default))) ∧ (nat_lit 1 = nat_lit 1 ∧ List.length (CrashD.keep (OpD.c (List.getD l (Int.toNat (↑a : Int)) default))) = List.length (CrashD.keep (OpD.c (List.getD l (Int.toNat (↑a : Int)) default))) ∧ ∀ (r : Nat), r < List.length (CrashD.keep (OpD.c (List.getD l (Int.toNat (↑a : Int)) default))) → intsF (CrashD.keep (OpD.c (List.getD l (Int.toNat (↑a : Int)) default))) r = intsF (CrashD.keep (OpD.c (List.getD l (Int.toNat (↑a : Int)) default))) r) ∧ (IntKind.i64 = IntKind.i64 ∧ CrashD.torn (OpD.c (List.getD l (Int.toNat (↑a : Int)) default)) = CrashD.torn (OpD.c (List.getD l (Int.toNat (↑a : Int)) default))) ∧ (IntKind.i64 = IntKind.i64 ∧ CrashD.at_ (OpD.c (List.getD l (Int.toNat (↑a : Int)) default)) = CrashD.at_ (OpD.c (List.getD l (Int.toNat (↑a : Int)) default))) ∧ True) (by kernel_rfl) (by (and_intros <;> first | exact True.intro | with_reducible rfl | with_reducible exact (hz).symm | with_reducible exact congrArg (Value.int _) (hz).symm | with_reducible exact fun _ _ => rfl | kernel_rfl)) ?_
            rcases hzr with rfl | rfl | rfl | rfl | rfl | rfl
            · refine To.run hok 15 (C := fits IntKind.i64 ((↑a : Int) + (1 : Int))) (by kernel_rfl) (by (and_intros <;> try first | exact True.intro | with_reducible rfl | omega | with_reducible assumption | (refine fits_i64 ?_ ?_ <;> omega) | (refine fits_u64 ?_ ?_ <;> omega))) ?_
              refine To.backX (L := [LN.old (0 : Nat), LN.old (1 : Nat), LN.old (2 : Nat), LN.old (3 : Nat)]) (kp := [(55 : Nat), (54 : Nat), (53 : Nat), (10 : Nat), (8 : Nat), (6 : Nat), (5 : Nat), (3 : Nat)]) (ks := []) (ov := [((55 : Nat), AV.sy (Value.int IntKind.i64 (↑(a + (1 : Nat)) : Int)))]) (ob := [((1 : Nat), AB.obj (Ob.disk (Prod.fst (runO (List.take (a + (1 : Nat)) l))))), ((3 : Nat), AB.mem (nat_lit 81) none [AV.by8 (Prod.snd (runO (List.take (a + (1 : Nat)) l)) (0 : Nat)), AV.by8 (Prod.snd (runO (List.take (a + (1 : Nat)) l)) (1 : Nat)), AV.by8 (Prod.snd (runO (List.take (a + (1 : Nat)) l)) (2 : Nat)), AV.by8 (Prod.snd (runO (List.take (a + (1 : Nat)) l)) (3 : Nat)), AV.by8 (Prod.snd (runO (List.take (a + (1 : Nat)) l)) (4 : Nat)), AV.by8 (Prod.snd (runO (List.take (a + (1 : Nat)) l)) (5 : Nat))])]) (C := (IntKind.i64 = IntKind.i64 ∧ (↑a : Int) + (1 : Int) = (↑(a + (1 : Nat)) : Int)) ∧ Ob.disk (Prod.fst (writeD (Prod.fst (runO (List.take a l))) (OpD.at_ (List.getD l (Int.toNat (↑a : Int)) default)) (Prod.fst (OpD.b (List.getD l (Int.toNat (↑a : Int)) default), True)))) = Ob.disk (Prod.fst (runO (List.take (a + (1 : Nat)) l))) ∧ (81 : TypeId) = nat_lit 81 ∧ (none : Option Nat) = none ∧ OpD.b (List.getD l (Int.toNat (↑a : Int)) default) = Prod.snd (runO (List.take (a + (1 : Nat)) l)) (0 : Nat) ∧ Prod.snd (runO (List.take a l)) (1 : Nat) = Prod.snd (runO (List.take (a + (1 : Nat)) l)) (1 : Nat) ∧ Prod.snd (runO (List.take a l)) (2 : Nat) = Prod.snd (runO (List.take (a + (1 : Nat)) l)) (2 : Nat) ∧ Prod.snd (runO (List.take a l)) (3 : Nat) = Prod.snd (runO (List.take (a + (1 : Nat)) l)) (3 : Nat) ∧ Prod.snd (runO (List.take a l)) (4 : Nat) = Prod.snd (runO (List.take (a + (1 : Nat)) l)) (4 : Nat) ∧ Prod.snd (runO (List.take a l)) (5 : Nat) = Prod.snd (runO (List.take (a + (1 : Nat)) l)) (5 : Nat) ∧ True) (hB := by kernel_rfl) (hC := by kernel_rfl) (hc := ?_) (he := by kernel_rfl) (ih (a + 1) hi1 hi2)
              refine ⟨⟨rfl, by omega⟩, congrArg Ob.disk hd, rfl, rfl, ?_⟩
              simp [hk]
            · refine To.run hok 15 (C := fits IntKind.i64 ((↑a : Int) + (1 : Int))) (by kernel_rfl) (by (and_intros <;> try first | exact True.intro | with_reducible rfl | omega | with_reducible assumption | (refine fits_i64 ?_ ?_ <;> omega) | (refine fits_u64 ?_ ?_ <;> omega))) ?_
              refine To.backX (L := [LN.old (0 : Nat), LN.old (1 : Nat), LN.old (2 : Nat), LN.old (3 : Nat)]) (kp := [(55 : Nat), (54 : Nat), (53 : Nat), (10 : Nat), (8 : Nat), (6 : Nat), (5 : Nat), (3 : Nat)]) (ks := []) (ov := [((55 : Nat), AV.sy (Value.int IntKind.i64 (↑(a + (1 : Nat)) : Int)))]) (ob := [((1 : Nat), AB.obj (Ob.disk (Prod.fst (runO (List.take (a + (1 : Nat)) l))))), ((3 : Nat), AB.mem (nat_lit 81) none [AV.by8 (Prod.snd (runO (List.take (a + (1 : Nat)) l)) (0 : Nat)), AV.by8 (Prod.snd (runO (List.take (a + (1 : Nat)) l)) (1 : Nat)), AV.by8 (Prod.snd (runO (List.take (a + (1 : Nat)) l)) (2 : Nat)), AV.by8 (Prod.snd (runO (List.take (a + (1 : Nat)) l)) (3 : Nat)), AV.by8 (Prod.snd (runO (List.take (a + (1 : Nat)) l)) (4 : Nat)), AV.by8 (Prod.snd (runO (List.take (a + (1 : Nat)) l)) (5 : Nat))])]) (C := (IntKind.i64 = IntKind.i64 ∧ (↑a : Int) + (1 : Int) = (↑(a + (1 : Nat)) : Int)) ∧ Ob.disk (Prod.fst (writeD (Prod.fst (runO (List.take a l))) (OpD.at_ (List.getD l (Int.toNat (↑a : Int)) default)) (Prod.fst (OpD.b (List.getD l (Int.toNat (↑a : Int)) default), True)))) = Ob.disk (Prod.fst (runO (List.take (a + (1 : Nat)) l))) ∧ (81 : TypeId) = nat_lit 81 ∧ (none : Option Nat) = none ∧ Prod.snd (runO (List.take a l)) (0 : Nat) = Prod.snd (runO (List.take (a + (1 : Nat)) l)) (0 : Nat) ∧ OpD.b (List.getD l (Int.toNat (↑a : Int)) default) = Prod.snd (runO (List.take (a + (1 : Nat)) l)) (1 : Nat) ∧ Prod.snd (runO (List.take a l)) (2 : Nat) = Prod.snd (runO (List.take (a + (1 : Nat)) l)) (2 : Nat) ∧ Prod.snd (runO (List.take a l)) (3 : Nat) = Prod.snd (runO (List.take (a + (1 : Nat)) l)) (3 : Nat) ∧ Prod.snd (runO (List.take a l)) (4 : Nat) = Prod.snd (runO (List.take (a + (1 : Nat)) l)) (4 : Nat) ∧ Prod.snd (runO (List.take a l)) (5 : Nat) = Prod.snd (runO (List.take (a + (1 : Nat)) l)) (5 : Nat) ∧ True) (hB := by kernel_rfl) (hC := by kernel_rfl) (hc := ?_) (he := by kernel_rfl) (ih (a + 1) hi1 hi2)
              refine ⟨⟨rfl, by omega⟩, congrArg Ob.disk hd, rfl, rfl, ?_⟩
              simp [hk]
            · refine To.run hok 15 (C := fits IntKind.i64 ((↑a : Int) + (1 : Int))) (by kernel_rfl) (by (and_intros <;> try first | exact True.intro | with_reducible rfl | omega | with_reducible assumption | (refine fits_i64 ?_ ?_ <;> omega) | (refine fits_u64 ?_ ?_ <;> omega))) ?_
              refine To.backX (L := [LN.old (0 : Nat), LN.old (1 : Nat), LN.old (2 : Nat), LN.old (3 : Nat)]) (kp := [(55 : Nat), (54 : Nat), (53 : Nat), (10 : Nat), (8 : Nat), (6 : Nat), (5 : Nat), (3 : Nat)]) (ks := []) (ov := [((55 : Nat), AV.sy (Value.int IntKind.i64 (↑(a + (1 : Nat)) : Int)))]) (ob := [((1 : Nat), AB.obj (Ob.disk (Prod.fst (runO (List.take (a + (1 : Nat)) l))))), ((3 : Nat), AB.mem (nat_lit 81) none [AV.by8 (Prod.snd (runO (List.take (a + (1 : Nat)) l)) (0 : Nat)), AV.by8 (Prod.snd (runO (List.take (a + (1 : Nat)) l)) (1 : Nat)), AV.by8 (Prod.snd (runO (List.take (a + (1 : Nat)) l)) (2 : Nat)), AV.by8 (Prod.snd (runO (List.take (a + (1 : Nat)) l)) (3 : Nat)), AV.by8 (Prod.snd (runO (List.take (a + (1 : Nat)) l)) (4 : Nat)), AV.by8 (Prod.snd (runO (List.take (a + (1 : Nat)) l)) (5 : Nat))])]) (C := (IntKind.i64 = IntKind.i64 ∧ (↑a : Int) + (1 : Int) = (↑(a + (1 : Nat)) : Int)) ∧ Ob.disk (Prod.fst (writeD (Prod.fst (runO (List.take a l))) (OpD.at_ (List.getD l (Int.toNat (↑a : Int)) default)) (Prod.fst (OpD.b (List.getD l (Int.toNat (↑a : Int)) default), True)))) = Ob.disk (Prod.fst (runO (List.take (a + (1 : Nat)) l))) ∧ (81 : TypeId) = nat_lit 81 ∧ (none : Option Nat) = none ∧ Prod.snd (runO (List.take a l)) (0 : Nat) = Prod.snd (runO (List.take (a + (1 : Nat)) l)) (0 : Nat) ∧ Prod.snd (runO (List.take a l)) (1 : Nat) = Prod.snd (runO (List.take (a + (1 : Nat)) l)) (1 : Nat) ∧ OpD.b (List.getD l (Int.toNat (↑a : Int)) default) = Prod.snd (runO (List.take (a + (1 : Nat)) l)) (2 : Nat) ∧ Prod.snd (runO (List.take a l)) (3 : Nat) = Prod.snd (runO (List.take (a + (1 : Nat)) l)) (3 : Nat) ∧ Prod.snd (runO (List.take a l)) (4 : Nat) = Prod.snd (runO (List.take (a + (1 : Nat)) l)) (4 : Nat) ∧ Prod.snd (runO (List.take a l)) (5 : Nat) = Prod.snd (runO (List.take (a + (1 : Nat)) l)) (5 : Nat) ∧ True) (hB := by kernel_rfl) (hC := by kernel_rfl) (hc := ?_) (he := by kernel_rfl) (ih (a + 1) hi1 hi2)
              refine ⟨⟨rfl, by omega⟩, congrArg Ob.disk hd, rfl, rfl, ?_⟩
              simp [hk]
            · refine To.run hok 15 (C := fits IntKind.i64 ((↑a : Int) + (1 : Int))) (by kernel_rfl) (by (and_intros <;> try first | exact True.intro | with_reducible rfl | omega | with_reducible assumption | (refine fits_i64 ?_ ?_ <;> omega) | (refine fits_u64 ?_ ?_ <;> omega))) ?_
              refine To.backX (L := [LN.old (0 : Nat), LN.old (1 : Nat), LN.old (2 : Nat), LN.old (3 : Nat)]) (kp := [(55 : Nat), (54 : Nat), (53 : Nat), (10 : Nat), (8 : Nat), (6 : Nat), (5 : Nat), (3 : Nat)]) (ks := []) (ov := [((55 : Nat), AV.sy (Value.int IntKind.i64 (↑(a + (1 : Nat)) : Int)))]) (ob := [((1 : Nat), AB.obj (Ob.disk (Prod.fst (runO (List.take (a + (1 : Nat)) l))))), ((3 : Nat), AB.mem (nat_lit 81) none [AV.by8 (Prod.snd (runO (List.take (a + (1 : Nat)) l)) (0 : Nat)), AV.by8 (Prod.snd (runO (List.take (a + (1 : Nat)) l)) (1 : Nat)), AV.by8 (Prod.snd (runO (List.take (a + (1 : Nat)) l)) (2 : Nat)), AV.by8 (Prod.snd (runO (List.take (a + (1 : Nat)) l)) (3 : Nat)), AV.by8 (Prod.snd (runO (List.take (a + (1 : Nat)) l)) (4 : Nat)), AV.by8 (Prod.snd (runO (List.take (a + (1 : Nat)) l)) (5 : Nat))])]) (C := (IntKind.i64 = IntKind.i64 ∧ (↑a : Int) + (1 : Int) = (↑(a + (1 : Nat)) : Int)) ∧ Ob.disk (Prod.fst (writeD (Prod.fst (runO (List.take a l))) (OpD.at_ (List.getD l (Int.toNat (↑a : Int)) default)) (Prod.fst (OpD.b (List.getD l (Int.toNat (↑a : Int)) default), True)))) = Ob.disk (Prod.fst (runO (List.take (a + (1 : Nat)) l))) ∧ (81 : TypeId) = nat_lit 81 ∧ (none : Option Nat) = none ∧ Prod.snd (runO (List.take a l)) (0 : Nat) = Prod.snd (runO (List.take (a + (1 : Nat)) l)) (0 : Nat) ∧ Prod.snd (runO (List.take a l)) (1 : Nat) = Prod.snd (runO (List.take (a + (1 : Nat)) l)) (1 : Nat) ∧ Prod.snd (runO (List.take a l)) (2 : Nat) = Prod.snd (runO (List.take (a + (1 : Nat)) l)) (2 : Nat) ∧ OpD.b (List.getD l (Int.toNat (↑a : Int)) default) = Prod.snd (runO (List.take (a + (1 : Nat)) l)) (3 : Nat) ∧ Prod.snd (runO (List.take a l)) (4 : Nat) = Prod.snd (runO (List.take (a + (1 : Nat)) l)) (4 : Nat) ∧ Prod.snd (runO (List.take a l)) (5 : Nat) = Prod.snd (runO (List.take (a + (1 : Nat)) l)) (5 : Nat) ∧ True) (hB := by kernel_rfl) (hC := by kernel_rfl) (hc := ?_) (he := by kernel_rfl) (ih (a + 1) hi1 hi2)
              refine ⟨⟨rfl, by omega⟩, congrArg Ob.disk hd, rfl, rfl, ?_⟩
              simp [hk]
            · refine To.run hok 15 (C := fits IntKind.i64 ((↑a : Int) + (1 : Int))) (by kernel_rfl) (by (and_intros <;> try first | exact True.intro | with_reducible rfl | omega | with_reducible assumption | (refine fits_i64 ?_ ?_ <;> omega) | (refine fits_u64 ?_ ?_ <;> omega))) ?_
              refine To.backX (L := [LN.old (0 : Nat), LN.old (1 : Nat), LN.old (2 : Nat), LN.old (3 : Nat)]) (kp := [(55 : Nat), (54 : Nat), (53 : Nat), (10 : Nat), (8 : Nat), (6 : Nat), (5 : Nat), (3 : Nat)]) (ks := []) (ov := [((55 : Nat), AV.sy (Value.int IntKind.i64 (↑(a + (1 : Nat)) : Int)))]) (ob := [((1 : Nat), AB.obj (Ob.disk (Prod.fst (runO (List.take (a + (1 : Nat)) l))))), ((3 : Nat), AB.mem (nat_lit 81) none [AV.by8 (Prod.snd (runO (List.take (a + (1 : Nat)) l)) (0 : Nat)), AV.by8 (Prod.snd (runO (List.take (a + (1 : Nat)) l)) (1 : Nat)), AV.by8 (Prod.snd (runO (List.take (a + (1 : Nat)) l)) (2 : Nat)), AV.by8 (Prod.snd (runO (List.take (a + (1 : Nat)) l)) (3 : Nat)), AV.by8 (Prod.snd (runO (List.take (a + (1 : Nat)) l)) (4 : Nat)), AV.by8 (Prod.snd (runO (List.take (a + (1 : Nat)) l)) (5 : Nat))])]) (C := (IntKind.i64 = IntKind.i64 ∧ (↑a : Int) + (1 : Int) = (↑(a + (1 : Nat)) : Int)) ∧ Ob.disk (Prod.fst (writeD (Prod.fst (runO (List.take a l))) (OpD.at_ (List.getD l (Int.toNat (↑a : Int)) default)) (Prod.fst (OpD.b (List.getD l (Int.toNat (↑a : Int)) default), True)))) = Ob.disk (Prod.fst (runO (List.take (a + (1 : Nat)) l))) ∧ (81 : TypeId) = nat_lit 81 ∧ (none : Option Nat) = none ∧ Prod.snd (runO (List.take a l)) (0 : Nat) = Prod.snd (runO (List.take (a + (1 : Nat)) l)) (0 : Nat) ∧ Prod.snd (runO (List.take a l)) (1 : Nat) = Prod.snd (runO (List.take (a + (1 : Nat)) l)) (1 : Nat) ∧ Prod.snd (runO (List.take a l)) (2 : Nat) = Prod.snd (runO (List.take (a + (1 : Nat)) l)) (2 : Nat) ∧ Prod.snd (runO (List.take a l)) (3 : Nat) = Prod.snd (runO (List.take (a + (1 : Nat)) l)) (3 : Nat) ∧ OpD.b (List.getD l (Int.toNat (↑a : Int)) default) = Prod.snd (runO (List.take (a + (1 : Nat)) l)) (4 : Nat) ∧ Prod.snd (runO (List.take a l)) (5 : Nat) = Prod.snd (runO (List.take (a + (1 : Nat)) l)) (5 : Nat) ∧ True) (hB := by kernel_rfl) (hC := by kernel_rfl) (hc := ?_) (he := by kernel_rfl) (ih (a + 1) hi1 hi2)
              refine ⟨⟨rfl, by omega⟩, congrArg Ob.disk hd, rfl, rfl, ?_⟩
              simp [hk]
            · refine To.run hok 15 (C := fits IntKind.i64 ((↑a : Int) + (1 : Int))) (by kernel_rfl) (by (and_intros <;> try first | exact True.intro | with_reducible rfl | omega | with_reducible assumption | (refine fits_i64 ?_ ?_ <;> omega) | (refine fits_u64 ?_ ?_ <;> omega))) ?_
              refine To.backX (L := [LN.old (0 : Nat), LN.old (1 : Nat), LN.old (2 : Nat), LN.old (3 : Nat)]) (kp := [(55 : Nat), (54 : Nat), (53 : Nat), (10 : Nat), (8 : Nat), (6 : Nat), (5 : Nat), (3 : Nat)]) (ks := []) (ov := [((55 : Nat), AV.sy (Value.int IntKind.i64 (↑(a + (1 : Nat)) : Int)))]) (ob := [((1 : Nat), AB.obj (Ob.disk (Prod.fst (runO (List.take (a + (1 : Nat)) l))))), ((3 : Nat), AB.mem (nat_lit 81) none [AV.by8 (Prod.snd (runO (List.take (a + (1 : Nat)) l)) (0 : Nat)), AV.by8 (Prod.snd (runO (List.take (a + (1 : Nat)) l)) (1 : Nat)), AV.by8 (Prod.snd (runO (List.take (a + (1 : Nat)) l)) (2 : Nat)), AV.by8 (Prod.snd (runO (List.take (a + (1 : Nat)) l)) (3 : Nat)), AV.by8 (Prod.snd (runO (List.take (a + (1 : Nat)) l)) (4 : Nat)), AV.by8 (Prod.snd (runO (List.take (a + (1 : Nat)) l)) (5 : Nat))])]) (C := (IntKind.i64 = IntKind.i64 ∧ (↑a : Int) + (1 : Int) = (↑(a + (1 : Nat)) : Int)) ∧ Ob.disk (Prod.fst (writeD (Prod.fst (runO (List.take a l))) (OpD.at_ (List.getD l (Int.toNat (↑a : Int)) default)) (Prod.fst (OpD.b (List.getD l (Int.toNat (↑a : Int)) default), True)))) = Ob.disk (Prod.fst (runO (List.take (a + (1 : Nat)) l))) ∧ (81 : TypeId) = nat_lit 81 ∧ (none : Option Nat) = none ∧ Prod.snd (runO (List.take a l)) (0 : Nat) = Prod.snd (runO (List.take (a + (1 : Nat)) l)) (0 : Nat) ∧ Prod.snd (runO (List.take a l)) (1 : Nat) = Prod.snd (runO (List.take (a + (1 : Nat)) l)) (1 : Nat) ∧ Prod.snd (runO (List.take a l)) (2 : Nat) = Prod.snd (runO (List.take (a + (1 : Nat)) l)) (2 : Nat) ∧ Prod.snd (runO (List.take a l)) (3 : Nat) = Prod.snd (runO (List.take (a + (1 : Nat)) l)) (3 : Nat) ∧ Prod.snd (runO (List.take a l)) (4 : Nat) = Prod.snd (runO (List.take (a + (1 : Nat)) l)) (4 : Nat) ∧ OpD.b (List.getD l (Int.toNat (↑a : Int)) default) = Prod.snd (runO (List.take (a + (1 : Nat)) l)) (5 : Nat) ∧ True) (hB := by kernel_rfl) (hC := by kernel_rfl) (hc := ?_) (he := by kernel_rfl) (ih (a + 1) hi1 hi2)
              refine ⟨⟨rfl, by omega⟩, congrArg Ob.disk hd, rfl, rfl, ?_⟩
              simp [hk]
          · intro h5
            have hin : ¬ (0 ≤ (l.getD (Int.toNat (a : Int)) default).at_ ∧ (l.getD (Int.toNat (a : Int)) default).at_ < (runO (l.take a)).1.stays.length ∧ (l.getD (Int.toNat (a : Int)) default).b.length = 128) := by
              intro hn
              rw [if_pos hn] at hw0
              exact h5 (congrArg Prod.snd hw0)
            rw [if_neg hin] at hw0 hsucc
            have hd := (congrArg Prod.fst hw0).trans (congrArg Prod.fst hsucc).symm
            have hk : (runO (l.take (a + 1))).2 = (runO (l.take a)).2 := congrArg Prod.snd hsucc
            refine To.run hok 9 (C := fits IntKind.i64 ((↑a : Int) + (1 : Int))) (by kernel_rfl) (by (and_intros <;> try first | exact True.intro | with_reducible rfl | omega | with_reducible assumption | (refine fits_i64 ?_ ?_ <;> omega) | (refine fits_u64 ?_ ?_ <;> omega))) ?_
            refine To.backX (L := [LN.old (0 : Nat), LN.old (1 : Nat), LN.old (2 : Nat), LN.old (3 : Nat)]) (kp := [(55 : Nat), (54 : Nat), (53 : Nat), (10 : Nat), (8 : Nat), (6 : Nat), (5 : Nat), (3 : Nat)]) (ks := []) (ov := [((55 : Nat), AV.sy (Value.int IntKind.i64 (↑(a + (1 : Nat)) : Int)))]) (ob := [((1 : Nat), AB.obj (Ob.disk (Prod.fst (runO (List.take (a + (1 : Nat)) l))))), ((3 : Nat), AB.mem (nat_lit 81) none [AV.by8 (Prod.snd (runO (List.take (a + (1 : Nat)) l)) (0 : Nat)), AV.by8 (Prod.snd (runO (List.take (a + (1 : Nat)) l)) (1 : Nat)), AV.by8 (Prod.snd (runO (List.take (a + (1 : Nat)) l)) (2 : Nat)), AV.by8 (Prod.snd (runO (List.take (a + (1 : Nat)) l)) (3 : Nat)), AV.by8 (Prod.snd (runO (List.take (a + (1 : Nat)) l)) (4 : Nat)), AV.by8 (Prod.snd (runO (List.take (a + (1 : Nat)) l)) (5 : Nat))])]) (C := (IntKind.i64 = IntKind.i64 ∧ (↑a : Int) + (1 : Int) = (↑(a + (1 : Nat)) : Int)) ∧ Ob.disk (Prod.fst (writeD (Prod.fst (runO (List.take a l))) (OpD.at_ (List.getD l (Int.toNat (↑a : Int)) default)) (Prod.fst (OpD.b (List.getD l (Int.toNat (↑a : Int)) default), True)))) = Ob.disk (Prod.fst (runO (List.take (a + (1 : Nat)) l))) ∧ (81 : TypeId) = nat_lit 81 ∧ (none : Option Nat) = none ∧ Prod.snd (runO (List.take a l)) (0 : Nat) = Prod.snd (runO (List.take (a + (1 : Nat)) l)) (0 : Nat) ∧ Prod.snd (runO (List.take a l)) (1 : Nat) = Prod.snd (runO (List.take (a + (1 : Nat)) l)) (1 : Nat) ∧ Prod.snd (runO (List.take a l)) (2 : Nat) = Prod.snd (runO (List.take (a + (1 : Nat)) l)) (2 : Nat) ∧ Prod.snd (runO (List.take a l)) (3 : Nat) = Prod.snd (runO (List.take (a + (1 : Nat)) l)) (3 : Nat) ∧ Prod.snd (runO (List.take a l)) (4 : Nat) = Prod.snd (runO (List.take (a + (1 : Nat)) l)) (4 : Nat) ∧ Prod.snd (runO (List.take a l)) (5 : Nat) = Prod.snd (runO (List.take (a + (1 : Nat)) l)) (5 : Nat) ∧ True) (hB := by kernel_rfl) (hC := by kernel_rfl) (hc := ?_) (he := by kernel_rfl) (ih (a + 1) hi1 hi2)
            refine ⟨⟨rfl, by omega⟩, congrArg Ob.disk hd, rfl, rfl, ?_⟩
            simp [hk]
        · intro h4
          have hfin : l.take a = l := List.take_of_length_le (by omega)
          rw [hfin] at hcalm hfine
          obtain ⟨_, hlen⟩ := runO_inv l
          have hback := fun j hj => (backB_inv hlen j hj).2
          have halike := order_alike l
          have hb1 : ∀ j, (runO l).2 (5 - j) = [] → backB (runO l).2 (j + 1) = backB (runO l).2 j := fun j h => if_pos h
          have hb2 : ∀ j, (runO l).2 (5 - j) ≠ [] → backB (runO l).2 (j + 1) = (backB (runO l).2 j).put ((5 - j : Nat) : Int) ((runO l).2 (5 - j)) := fun j h => if_neg h
          have hb0 : newD 6 = backB (runO l).2 0 := rfl
          obtain ⟨bk, hbk⟩ : ∃ bk, bk = backB (runO l).2 := ⟨_, rfl⟩
          obtain ⟨ro, hro⟩ : ∃ ro, ro = runO l := ⟨_, rfl⟩
          rw [← hbk] at hback halike hb1 hb2 hb0
          rw [← hro] at hlen halike hb1 hb2 hcalm hfine
          refine To.run hok 11 (C := True) (by kernel_rfl) (by (and_intros <;> try first | exact True.intro | with_reducible rfl | omega | with_reducible assumption | (refine fits_i64 ?_ ?_ <;> omega) | (refine fits_u64 ?_ ?_ <;> omega))) ?_
          refine To.loopX (L := [LN.old (0 : Nat), LN.old (1 : Nat), LN.old (2 : Nat), LN.old (3 : Nat)]) (kp := [(13 : Nat), (10 : Nat), (8 : Nat), (6 : Nat), (5 : Nat), (3 : Nat)]) (ks := []) (C := AV.v (Value.int IntKind.i64 (5 : Int)) = AV.v (Value.int IntKind.i64 ((5 : Int) - (↑(0 : Nat) : Int))) ∧ Ob.disk (Prod.fst (runO (List.take a l))) = Ob.disk (Prod.fst ro) ∧ Ob.disk (newD (6 : Nat)) = Ob.disk (bk (0 : Nat)) ∧ (81 : TypeId) = (81 : TypeId) ∧ (none : Option Nat) = none ∧ Prod.snd (runO (List.take a l)) (0 : Nat) = Prod.snd ro (0 : Nat) ∧ Prod.snd (runO (List.take a l)) (1 : Nat) = Prod.snd ro (1 : Nat) ∧ Prod.snd (runO (List.take a l)) (2 : Nat) = Prod.snd ro (2 : Nat) ∧ Prod.snd (runO (List.take a l)) (3 : Nat) = Prod.snd ro (3 : Nat) ∧ Prod.snd (runO (List.take a l)) (4 : Nat) = Prod.snd ro (4 : Nat) ∧ Prod.snd (runO (List.take a l)) (5 : Nat) = Prod.snd ro (5 : Nat) ∧ True) (st := fun (a : Nat) => (⟨⟨12, 133, slotT 133 [(3, AV.ptr (nat_lit 0) (nat_lit 0)), (5, AV.v (Value.bool true)), (6, AV.ptr (nat_lit 1) (nat_lit 0)), (8, AV.ptr (nat_lit 2) (nat_lit 0)), (10, AV.ptr (nat_lit 3) (nat_lit 0)), (13, AV.v (Value.int IntKind.i64 ((5 : Int) - (↑a : Int))))], ARg.no, [Go.Proofs.Ytnkjhicokcmmpaa.Sm.AItem.code (subC (bodyC Try.prog 12) [1, 1, 1, 1, 1, 1, 1, 1, 0, 1, 0, 0]), Go.Proofs.Ytnkjhicokcmmpaa.Sm.AItem.inLoop (subC (bodyC Try.prog 12) [1, 1, 1, 1, 1, 1, 1, 1, 0, 1, 0, 0]), (AItem.inBlock 2), Go.Proofs.Ytnkjhicokcmmpaa.Sm.AItem.code (subC (bodyC Try.prog 12) [1, 1, 1, 1, 1, 1, 1, 1, 1])], [], false, none, (0 : Nat)⟩, [], memF [AB.mem (nat_lit 54) none [AV.sy (Value.int IntKind.i64 (CrashD.w c)), AV.im (nat_lit 1) (List.length (CrashD.keep c)) (intsF (CrashD.keep c)), AV.sy (Value.int IntKind.i64 (CrashD.torn c)), AV.sy (Value.int IntKind.i64 (CrashD.at_ c))], AB.obj (Ob.disk (Prod.fst ro)), AB.obj (Ob.disk (bk a)), AB.mem (nat_lit 81) none [AV.by8 (Prod.snd ro (0 : Nat)), AV.by8 (Prod.snd ro (1 : Nat)), AV.by8 (Prod.snd ro (2 : Nat)), AV.by8 (Prod.snd ro (3 : Nat)), AV.by8 (Prod.snd ro (4 : Nat)), AV.by8 (Prod.snd ro (5 : Nat))]] 0 Tr.e, 4⟩ : ASt)) (hB := by kernel_rfl) (hC := by kernel_rfl) (he := by kernel_rfl) (hI := by (and_intros <;> try first | exact True.intro | with_reducible rfl | omega | with_reducible assumption | (refine fits_i64 ?_ ?_ <;> omega) | (refine fits_u64 ?_ ?_ <;> omega))) (hc := ?_) (step := ?_) (fun (j : Nat) => [(13, .v (.int .i64 (5 - (j : Int))))]) (fun j => [(1, .obj (.disk ro.1)), (2, .obj (.disk (bk j))), (3, .mem 81 none [.by8 (ro.2 0), .by8 (ro.2 1), .by8 (ro.2 2), .by8 (ro.2 3), .by8 (ro.2 4), .by8 (ro.2 5)])]) (fun j => j ≤ 6) (fun j => 6 - j) (0)
          · rw [hfin, ← hro, hb0]
            exact ⟨rfl, rfl, rfl, rfl, rfl, rfl, rfl, rfl, rfl, rfl, rfl, trivial⟩
          intro j hj ihj
          have hj6 : j = 0 ∨ j = 1 ∨ j = 2 ∨ j = 3 ∨ j = 4 ∨ j = 5 ∨ j = 6 := by omega
          have hcb := hback j hj
          rcases hj6 with rfl | rfl | rfl | rfl | rfl | rfl | rfl
          · have hfb := hcb.fine
            have hw0 : writeD (bk 0) (5 - ((0 : Nat) : Int)) (ro.2 5) = _ := write0 hcb.up (by rw [hcb.cr]; rfl) (5 - ((0 : Nat) : Int)) (ro.2 5)
            have hi1 : 1 ≤ 6 := by decide
            have hi2 : 6 - 1 < 6 - 0 := by decide
            refine To.run hok 5000 (C := True) (by kernel_rfl) (by (and_intros <;> try first | exact True.intro | with_reducible rfl | omega | with_reducible assumption | (refine fits_i64 ?_ ?_ <;> omega) | (refine fits_u64 ?_ ?_ <;> omega))) ?_
            refine To.brd hok ((0 : Int) < (↑(List.length (Prod.snd ro (5 : Nat))) : Int)) (C := True) (by kernel_rfl) (by kernel_rfl) (by (and_intros <;> try first | exact True.intro | with_reducible rfl | omega | with_reducible assumption | (refine fits_i64 ?_ ?_ <;> omega) | (refine fits_u64 ?_ ?_ <;> omega))) ?_ ?_
            · intro h5
              have hne : ¬ ro.2 5 = [] := fun e => by
                have : (ro.2 5).length = 0 := by rw [e]; rfl
                omega
              have hb : (ro.2 5).length = 128 := (hlen _).resolve_left hne
              rw [if_pos ⟨by decide, by rw [hcb.six]; decide, hb⟩] at hw0
              have hbk : bk 1 = (bk 0).put (5 - ((0 : Nat) : Int)) (ro.2 5) := hb2 0 hne
              have hd := (congrArg Prod.fst hw0).trans hbk.symm
              have hs := congrArg Prod.snd hw0
              refine To.run hok 5000 (C := True ∧ DiskD.Fine (bk (0 : Nat))) (by kernel_rfl) (by (and_intros <;> try first | exact True.intro | with_reducible rfl | omega | with_reducible assumption | (refine fits_i64 ?_ ?_ <;> omega) | (refine fits_u64 ?_ ?_ <;> omega))) ?_
              refine To.non hok (Prod.snd (writeD (bk (0 : Nat)) ((5 : Int) - (↑(0 : Nat) : Int)) (Prod.fst (Prod.snd ro (5 : Nat), True))) = (0 : Int)) (by (and_intros <;> try first | exact True.intro | with_reducible rfl | omega | with_reducible assumption | (refine fits_i64 ?_ ?_ <;> omega) | (refine fits_u64 ?_ ?_ <;> omega))) (C := True) (by kernel_rfl) (by (and_intros <;> try first | exact True.intro | with_reducible rfl | omega | with_reducible assumption | (refine fits_i64 ?_ ?_ <;> omega) | (refine fits_u64 ?_ ?_ <;> omega))) ?_
              refine To.run hok 11 (C := True) (by kernel_rfl) (by (and_intros <;> try first | exact True.intro | with_reducible rfl | omega | with_reducible assumption | (refine fits_i64 ?_ ?_ <;> omega) | (refine fits_u64 ?_ ?_ <;> omega))) ?_
              refine To.backX (L := [LN.old (0 : Nat), LN.old (1 : Nat), LN.old (2 : Nat), LN.old (3 : Nat)]) (kp := [(13 : Nat), (10 : Nat), (8 : Nat), (6 : Nat), (5 : Nat), (3 : Nat)]) (ks := []) (ov := [((13 : Nat), AV.v (Value.int IntKind.i64 ((5 : Int) - (↑(1 : Nat) : Int))))]) (ob := [((2 : Nat), AB.obj (Ob.disk (bk (1 : Nat))))]) (C := AV.v (Value.int IntKind.i64 (IntKind.wrap IntKind.i64 ((5 : Int) - (↑(0 : Nat) : Int) - (1 : Int)))) = AV.v (Value.int IntKind.i64 ((5 : Int) - (↑(1 : Nat) : Int))) ∧ Ob.disk (Prod.fst (writeD (bk (0 : Nat)) ((5 : Int) - (↑(0 : Nat) : Int)) (Prod.fst (Prod.snd ro (5 : Nat), True)))) = Ob.disk (bk (1 : Nat))) (hB := by kernel_rfl) (hC := by kernel_rfl) (hc := ?_) (he := by kernel_rfl) (ihj 1 hi1 hi2)
              exact ⟨by kernel_rfl, congrArg Ob.disk hd⟩
            · intro h5
              have hne : ro.2 5 = [] := List.eq_nil_of_length_eq_zero (by omega)
              have hbk : bk 1 = bk 0 := hb1 0 hne
              refine To.run hok 19 (C := True) (by kernel_rfl) (by (and_intros <;> try first | exact True.intro | with_reducible rfl | omega | with_reducible assumption | (refine fits_i64 ?_ ?_ <;> omega) | (refine fits_u64 ?_ ?_ <;> omega))) ?_
              refine To.backX (L := [LN.old (0 : Nat), LN.old (1 : Nat), LN.old (2 : Nat), LN.old (3 : Nat)]) (kp := [(13 : Nat), (10 : Nat), (8 : Nat), (6 : Nat), (5 : Nat), (3 : Nat)]) (ks := []) (ov := [((13 : Nat), AV.v (Value.int IntKind.i64 ((5 : Int) - (↑(1 : Nat) : Int))))]) (ob := [((2 : Nat), AB.obj (Ob.disk (bk (1 : Nat))))]) (C := AV.v (Value.int IntKind.i64 (IntKind.wrap IntKind.i64 ((5 : Int) - (↑(0 : Nat) : Int) - (1 : Int)))) = AV.v (Value.int IntKind.i64 ((5 : Int) - (↑(1 : Nat) : Int))) ∧ Ob.disk (bk (0 : Nat)) = Ob.disk (bk (1 : Nat))) (hB := by kernel_rfl) (hC := by kernel_rfl) (hc := ?_) (he := by kernel_rfl) (ihj 1 hi1 hi2)
              exact ⟨by kernel_rfl, congrArg Ob.disk hbk.symm⟩
          · have hfb := hcb.fine
            have hw0 : writeD (bk 1) (5 - ((1 : Nat) : Int)) (ro.2 4) = _ := write0 hcb.up (by rw [hcb.cr]; rfl) (5 - ((1 : Nat) : Int)) (ro.2 4)
            have hi1 : 2 ≤ 6 := by decide
            have hi2 : 6 - 2 < 6 - 1 := by decide
            refine To.run hok 5000 (C := True) (by kernel_rfl) (by (and_intros <;> try first | exact True.intro | with_reducible rfl | omega | with_reducible assumption | (refine fits_i64 ?_ ?_ <;> omega) | (refine fits_u64 ?_ ?_ <;> omega))) ?_
            refine To.brd hok ((0 : Int) < (↑(List.length (Prod.snd ro (4 : Nat))) : Int)) (C := True) (by kernel_rfl) (by kernel_rfl) (by (and_intros <;> try first | exact True.intro | with_reducible rfl | omega | with_reducible assumption | (refine fits_i64 ?_ ?_ <;> omega) | (refine fits_u64 ?_ ?_ <;> omega))) ?_ ?_
            · intro h5
              have hne : ¬ ro.2 4 = [] := fun e => by
                have : (ro.2 4).length = 0 := by rw [e]; rfl
                omega
              have hb : (ro.2 4).length = 128 := (hlen _).resolve_left hne
              rw [if_pos ⟨by decide, by rw [hcb.six]; decide, hb⟩] at hw0
              have hbk : bk 2 = (bk 1).put (5 - ((1 : Nat) : Int)) (ro.2 4) := hb2 1 hne
              have hd := (congrArg Prod.fst hw0).trans hbk.symm
              have hs := congrArg Prod.snd hw0
              refine To.run hok 5000 (C := True ∧ DiskD.Fine (bk (1 : Nat))) (by kernel_rfl) (by (and_intros <;> try first | exact True.intro | with_reducible rfl | omega | with_reducible assumption | (refine fits_i64 ?_ ?_ <;> omega) | (refine fits_u64 ?_ ?_ <;> omega))) ?_
              refine To.non hok (Prod.snd (writeD (bk (1 : Nat)) ((5 : Int) - (↑(1 : Nat) : Int)) (Prod.fst (Prod.snd ro (4 : Nat), True))) = (0 : Int)) (by (and_intros <;> try first | exact True.intro | with_reducible rfl | omega | with_reducible assumption | (refine fits_i64 ?_ ?_ <;> omega) | (refine fits_u64 ?_ ?_ <;> omega))) (C := True) (by kernel_rfl) (by (and_intros <;> try first | exact True.intro | with_reducible rfl | omega | with_reducible assumption | (refine fits_i64 ?_ ?_ <;> omega) | (refine fits_u64 ?_ ?_ <;> omega))) ?_
              refine To.run hok 11 (C := True) (by kernel_rfl) (by (and_intros <;> try first | exact True.intro | with_reducible rfl | omega | with_reducible assumption | (refine fits_i64 ?_ ?_ <;> omega) | (refine fits_u64 ?_ ?_ <;> omega))) ?_
              refine To.backX (L := [LN.old (0 : Nat), LN.old (1 : Nat), LN.old (2 : Nat), LN.old (3 : Nat)]) (kp := [(13 : Nat), (10 : Nat), (8 : Nat), (6 : Nat), (5 : Nat), (3 : Nat)]) (ks := []) (ov := [((13 : Nat), AV.v (Value.int IntKind.i64 ((5 : Int) - (↑(2 : Nat) : Int))))]) (ob := [((2 : Nat), AB.obj (Ob.disk (bk (2 : Nat))))]) (C := AV.v (Value.int IntKind.i64 (IntKind.wrap IntKind.i64 ((5 : Int) - (↑(1 : Nat) : Int) - (1 : Int)))) = AV.v (Value.int IntKind.i64 ((5 : Int) - (↑(2 : Nat) : Int))) ∧ Ob.disk (Prod.fst (writeD (bk (1 : Nat)) ((5 : Int) - (↑(1 : Nat) : Int)) (Prod.fst (Prod.snd ro (4 : Nat), True)))) = Ob.disk (bk (2 : Nat))) (hB := by kernel_rfl) (hC := by kernel_rfl) (hc := ?_) (he := by kernel_rfl) (ihj 2 hi1 hi2)
              exact ⟨by kernel_rfl, congrArg Ob.disk hd⟩
            · intro h5
              have hne : ro.2 4 = [] := List.eq_nil_of_length_eq_zero (by omega)
              have hbk : bk 2 = bk 1 := hb1 1 hne
              refine To.run hok 19 (C := True) (by kernel_rfl) (by (and_intros <;> try first | exact True.intro | with_reducible rfl | omega | with_reducible assumption | (refine fits_i64 ?_ ?_ <;> omega) | (refine fits_u64 ?_ ?_ <;> omega))) ?_
              refine To.backX (L := [LN.old (0 : Nat), LN.old (1 : Nat), LN.old (2 : Nat), LN.old (3 : Nat)]) (kp := [(13 : Nat), (10 : Nat), (8 : Nat), (6 : Nat), (5 : Nat), (3 : Nat)]) (ks := []) (ov := [((13 : Nat), AV.v (Value.int IntKind.i64 ((5 : Int) - (↑(2 : Nat) : Int))))]) (ob := [((2 : Nat), AB.obj (Ob.disk (bk (2 : Nat))))]) (C := AV.v (Value.int IntKind.i64 (IntKind.wrap IntKind.i64 ((5 : Int) - (↑(1 : Nat) : Int) - (1 : Int)))) = AV.v (Value.int IntKind.i64 ((5 : Int) - (↑(2 : Nat) : Int))) ∧ Ob.disk (bk (1 : Nat)) = Ob.disk (bk (2 : Nat))) (hB := by kernel_rfl) (hC := by kernel_rfl) (hc := ?_) (he := by kernel_rfl) (ihj 2 hi1 hi2)
              exact ⟨by kernel_rfl, congrArg Ob.disk hbk.symm⟩
          · have hfb := hcb.fine
            have hw0 : writeD (bk 2) (5 - ((2 : Nat) : Int)) (ro.2 3) = _ := write0 hcb.up (by rw [hcb.cr]; rfl) (5 - ((2 : Nat) : Int)) (ro.2 3)
            have hi1 : 3 ≤ 6 := by decide
            have hi2 : 6 - 3 < 6 - 2 := by decide
            refine To.run hok 5000 (C := True) (by kernel_rfl) (by (and_intros <;> try first | exact True.intro | with_reducible rfl | omega | with_reducible assumption | (refine fits_i64 ?_ ?_ <;> omega) | (refine fits_u64 ?_ ?_ <;> omega))) ?_
            refine To.brd hok ((0 : Int) < (↑(List.length (Prod.snd ro (3 : Nat))) : Int)) (C := True) (by kernel_rfl) (by kernel_rfl) (by (and_intros <;> try first | exact True.intro | with_reducible rfl | omega | with_reducible assumption | (refine fits_i64 ?_ ?_ <;> omega) | (refine fits_u64 ?_ ?_ <;> omega))) ?_ ?_
            · intro h5
              have hne : ¬ ro.2 3 = [] := fun e => by
                have : (ro.2 3).length = 0 := by rw [e]; rfl
                omega
              have hb : (ro.2 3).length = 128 := (hlen _).resolve_left hne
              rw [if_pos ⟨by decide, by rw [hcb.six]; decide, hb⟩] at hw0
              have hbk : bk 3 = (bk 2).put (5 - ((2 : Nat) : Int)) (ro.2 3) := hb2 2 hne
              have hd := (congrArg Prod.fst hw0).trans hbk.symm
              have hs := congrArg Prod.snd hw0
              refine To.run hok 5000 (C := True ∧ DiskD.Fine (bk (2 : Nat))) (by kernel_rfl) (by (and_intros <;> try first | exact True.intro | with_reducible rfl | omega | with_reducible assumption | (refine fits_i64 ?_ ?_ <;> omega) | (refine fits_u64 ?_ ?_ <;> omega))) ?_
              refine To.non hok (Prod.snd (writeD (bk (2 : Nat)) ((5 : Int) - (↑(2 : Nat) : Int)) (Prod.fst (Prod.snd ro (3 : Nat), True))) = (0 : Int)) (by (and_intros <;> try first | exact True.intro | with_reducible rfl | omega | with_reducible assumption | (refine fits_i64 ?_ ?_ <;> omega) | (refine fits_u64 ?_ ?_ <;> omega))) (C := True) (by kernel_rfl) (by (and_intros <;> try first | exact True.intro | with_reducible rfl | omega | with_reducible assumption | (refine fits_i64 ?_ ?_ <;> omega) | (refine fits_u64 ?_ ?_ <;> omega))) ?_
              refine To.run hok 11 (C := True) (by kernel_rfl) (by (and_intros <;> try first | exact True.intro | with_reducible rfl | omega | with_reducible assumption | (refine fits_i64 ?_ ?_ <;> omega) | (refine fits_u64 ?_ ?_ <;> omega))) ?_
              refine To.backX (L := [LN.old (0 : Nat), LN.old (1 : Nat), LN.old (2 : Nat), LN.old (3 : Nat)]) (kp := [(13 : Nat), (10 : Nat), (8 : Nat), (6 : Nat), (5 : Nat), (3 : Nat)]) (ks := []) (ov := [((13 : Nat), AV.v (Value.int IntKind.i64 ((5 : Int) - (↑(3 : Nat) : Int))))]) (ob := [((2 : Nat), AB.obj (Ob.disk (bk (3 : Nat))))]) (C := AV.v (Value.int IntKind.i64 (IntKind.wrap IntKind.i64 ((5 : Int) - (↑(2 : Nat) : Int) - (1 : Int)))) = AV.v (Value.int IntKind.i64 ((5 : Int) - (↑(3 : Nat) : Int))) ∧ Ob.disk (Prod.fst (writeD (bk (2 : Nat)) ((5 : Int) - (↑(2 : Nat) : Int)) (Prod.fst (Prod.snd ro (3 : Nat), True)))) = Ob.disk (bk (3 : Nat))) (hB := by kernel_rfl) (hC := by kernel_rfl) (hc := ?_) (he := by kernel_rfl) (ihj 3 hi1 hi2)
              exact ⟨by kernel_rfl, congrArg Ob.disk hd⟩
            · intro h5
              have hne : ro.2 3 = [] := List.eq_nil_of_length_eq_zero (by omega)
              have hbk : bk 3 = bk 2 := hb1 2 hne
              refine To.run hok 19 (C := True) (by kernel_rfl) (by (and_intros <;> try first | exact True.intro | with_reducible rfl | omega | with_reducible assumption | (refine fits_i64 ?_ ?_ <;> omega) | (refine fits_u64 ?_ ?_ <;> omega))) ?_
              refine To.backX (L := [LN.old (0 : Nat), LN.old (1 : Nat), LN.old (2 : Nat), LN.old (3 : Nat)]) (kp := [(13 : Nat), (10 : Nat), (8 : Nat), (6 : Nat), (5 : Nat), (3 : Nat)]) (ks := []) (ov := [((13 : Nat), AV.v (Value.int IntKind.i64 ((5 : Int) - (↑(3 : Nat) : Int))))]) (ob := [((2 : Nat), AB.obj (Ob.disk (bk (3 : Nat))))]) (C := AV.v (Value.int IntKind.i64 (IntKind.wrap IntKind.i64 ((5 : Int) - (↑(2 : Nat) : Int) - (1 : Int)))) = AV.v (Value.int IntKind.i64 ((5 : Int) - (↑(3 : Nat) : Int))) ∧ Ob.disk (bk (2 : Nat)) = Ob.disk (bk (3 : Nat))) (hB := by kernel_rfl) (hC := by kernel_rfl) (hc := ?_) (he := by kernel_rfl) (ihj 3 hi1 hi2)
              exact ⟨by kernel_rfl, congrArg Ob.disk hbk.symm⟩
          · have hfb := hcb.fine
            have hw0 : writeD (bk 3) (5 - ((3 : Nat) : Int)) (ro.2 2) = _ := write0 hcb.up (by rw [hcb.cr]; rfl) (5 - ((3 : Nat) : Int)) (ro.2 2)
            have hi1 : 4 ≤ 6 := by decide
            have hi2 : 6 - 4 < 6 - 3 := by decide
            refine To.run hok 5000 (C := True) (by kernel_rfl) (by (and_intros <;> try first | exact True.intro | with_reducible rfl | omega | with_reducible assumption | (refine fits_i64 ?_ ?_ <;> omega) | (refine fits_u64 ?_ ?_ <;> omega))) ?_
            refine To.brd hok ((0 : Int) < (↑(List.length (Prod.snd ro (2 : Nat))) : Int)) (C := True) (by kernel_rfl) (by kernel_rfl) (by (and_intros <;> try first | exact True.intro | with_reducible rfl | omega | with_reducible assumption | (refine fits_i64 ?_ ?_ <;> omega) | (refine fits_u64 ?_ ?_ <;> omega))) ?_ ?_
            · intro h5
              have hne : ¬ ro.2 2 = [] := fun e => by
                have : (ro.2 2).length = 0 := by rw [e]; rfl
                omega
              have hb : (ro.2 2).length = 128 := (hlen _).resolve_left hne
              rw [if_pos ⟨by decide, by rw [hcb.six]; decide, hb⟩] at hw0
              have hbk : bk 4 = (bk 3).put (5 - ((3 : Nat) : Int)) (ro.2 2) := hb2 3 hne
              have hd := (congrArg Prod.fst hw0).trans hbk.symm
              have hs := congrArg Prod.snd hw0
              refine To.run hok 5000 (C := True ∧ DiskD.Fine (bk (3 : Nat))) (by kernel_rfl) (by (and_intros <;> try first | exact True.intro | with_reducible rfl | omega | with_reducible assumption | (refine fits_i64 ?_ ?_ <;> omega) | (refine fits_u64 ?_ ?_ <;> omega))) ?_
              refine To.non hok (Prod.snd (writeD (bk (3 : Nat)) ((5 : Int) - (↑(3 : Nat) : Int)) (Prod.fst (Prod.snd ro (2 : Nat), True))) = (0 : Int)) (by (and_intros <;> try first | exact True.intro | with_reducible rfl | omega | with_reducible assumption | (refine fits_i64 ?_ ?_ <;> omega) | (refine fits_u64 ?_ ?_ <;> omega))) (C := True) (by kernel_rfl) (by (and_intros <;> try first | exact True.intro | with_reducible rfl | omega | with_reducible assumption | (refine fits_i64 ?_ ?_ <;> omega) | (refine fits_u64 ?_ ?_ <;> omega))) ?_
              refine To.run hok 11 (C := True) (by kernel_rfl) (by (and_intros <;> try first | exact True.intro | with_reducible rfl | omega | with_reducible assumption | (refine fits_i64 ?_ ?_ <;> omega) | (refine fits_u64 ?_ ?_ <;> omega))) ?_
              refine To.backX (L := [LN.old (0 : Nat), LN.old (1 : Nat), LN.old (2 : Nat), LN.old (3 : Nat)]) (kp := [(13 : Nat), (10 : Nat), (8 : Nat), (6 : Nat), (5 : Nat), (3 : Nat)]) (ks := []) (ov := [((13 : Nat), AV.v (Value.int IntKind.i64 ((5 : Int) - (↑(4 : Nat) : Int))))]) (ob := [((2 : Nat), AB.obj (Ob.disk (bk (4 : Nat))))]) (C := AV.v (Value.int IntKind.i64 (IntKind.wrap IntKind.i64 ((5 : Int) - (↑(3 : Nat) : Int) - (1 : Int)))) = AV.v (Value.int IntKind.i64 ((5 : Int) - (↑(4 : Nat) : Int))) ∧ Ob.disk (Prod.fst (writeD (bk (3 : Nat)) ((5 : Int) - (↑(3 : Nat) : Int)) (Prod.fst (Prod.snd ro (2 : Nat), True)))) = Ob.disk (bk (4 : Nat))) (hB := by kernel_rfl) (hC := by kernel_rfl) (hc := ?_) (he := by kernel_rfl) (ihj 4 hi1 hi2)
              exact ⟨by kernel_rfl, congrArg Ob.disk hd⟩
            · intro h5
              have hne : ro.2 2 = [] := List.eq_nil_of_length_eq_zero (by omega)
              have hbk : bk 4 = bk 3 := hb1 3 hne
              refine To.run hok 19 (C := True) (by kernel_rfl) (by (and_intros <;> try first | exact True.intro | with_reducible rfl | omega | with_reducible assumption | (refine fits_i64 ?_ ?_ <;> omega) | (refine fits_u64 ?_ ?_ <;> omega))) ?_
              refine To.backX (L := [LN.old (0 : Nat), LN.old (1 : Nat), LN.old (2 : Nat), LN.old (3 : Nat)]) (kp := [(13 : Nat), (10 : Nat), (8 : Nat), (6 : Nat), (5 : Nat), (3 : Nat)]) (ks := []) (ov := [((13 : Nat), AV.v (Value.int IntKind.i64 ((5 : Int) - (↑(4 : Nat) : Int))))]) (ob := [((2 : Nat), AB.obj (Ob.disk (bk (4 : Nat))))]) (C := AV.v (Value.int IntKind.i64 (IntKind.wrap IntKind.i64 ((5 : Int) - (↑(3 : Nat) : Int) - (1 : Int)))) = AV.v (Value.int IntKind.i64 ((5 : Int) - (↑(4 : Nat) : Int))) ∧ Ob.disk (bk (3 : Nat)) = Ob.disk (bk (4 : Nat))) (hB := by kernel_rfl) (hC := by kernel_rfl) (hc := ?_) (he := by kernel_rfl) (ihj 4 hi1 hi2)
              exact ⟨by kernel_rfl, congrArg Ob.disk hbk.symm⟩
          · have hfb := hcb.fine
            have hw0 : writeD (bk 4) (5 - ((4 : Nat) : Int)) (ro.2 1) = _ := write0 hcb.up (by rw [hcb.cr]; rfl) (5 - ((4 : Nat) : Int)) (ro.2 1)
            have hi1 : 5 ≤ 6 := by decide
            have hi2 : 6 - 5 < 6 - 4 := by decide
            refine To.run hok 5000 (C := True) (by kernel_rfl) (by (and_intros <;> try first | exact True.intro | with_reducible rfl | omega | with_reducible assumption | (refine fits_i64 ?_ ?_ <;> omega) | (refine fits_u64 ?_ ?_ <;> omega))) ?_
            refine To.brd hok ((0 : Int) < (↑(List.length (Prod.snd ro (1 : Nat))) : Int)) (C := True) (by kernel_rfl) (by kernel_rfl) (by (and_intros <;> try first | exact True.intro | with_reducible rfl | omega | with_reducible assumption | (refine fits_i64 ?_ ?_ <;> omega) | (refine fits_u64 ?_ ?_ <;> omega))) ?_ ?_
            · intro h5
              have hne : ¬ ro.2 1 = [] := fun e => by
                have : (ro.2 1).length = 0 := by rw [e]; rfl
                omega
              have hb : (ro.2 1).length = 128 := (hlen _).resolve_left hne
              rw [if_pos ⟨by decide, by rw [hcb.six]; decide, hb⟩] at hw0
              have hbk : bk 5 = (bk 4).put (5 - ((4 : Nat) : Int)) (ro.2 1) := hb2 4 hne
              have hd := (congrArg Prod.fst hw0).trans hbk.symm
              have hs := congrArg Prod.snd hw0
              refine To.run hok 5000 (C := True ∧ DiskD.Fine (bk (4 : Nat))) (by kernel_rfl) (by (and_intros <;> try first | exact True.intro | with_reducible rfl | omega | with_reducible assumption | (refine fits_i64 ?_ ?_ <;> omega) | (refine fits_u64 ?_ ?_ <;> omega))) ?_
              refine To.non hok (Prod.snd (writeD (bk (4 : Nat)) ((5 : Int) - (↑(4 : Nat) : Int)) (Prod.fst (Prod.snd ro (1 : Nat), True))) = (0 : Int)) (by (and_intros <;> try first | exact True.intro | with_reducible rfl | omega | with_reducible assumption | (refine fits_i64 ?_ ?_ <;> omega) | (refine fits_u64 ?_ ?_ <;> omega))) (C := True) (by kernel_rfl) (by (and_intros <;> try first | exact True.intro | with_reducible rfl | omega | with_reducible assumption | (refine fits_i64 ?_ ?_ <;> omega) | (refine fits_u64 ?_ ?_ <;> omega))) ?_
              refine To.run hok 11 (C := True) (by kernel_rfl) (by (and_intros <;> try first | exact True.intro | with_reducible rfl | omega | with_reducible assumption | (refine fits_i64 ?_ ?_ <;> omega) | (refine fits_u64 ?_ ?_ <;> omega))) ?_
              refine To.backX (L := [LN.old (0 : Nat), LN.old (1 : Nat), LN.old (2 : Nat), LN.old (3 : Nat)]) (kp := [(13 : Nat), (10 : Nat), (8 : Nat), (6 : Nat), (5 : Nat), (3 : Nat)]) (ks := []) (ov := [((13 : Nat), AV.v (Value.int IntKind.i64 ((5 : Int) - (↑(5 : Nat) : Int))))]) (ob := [((2 : Nat), AB.obj (Ob.disk (bk (5 : Nat))))]) (C := AV.v (Value.int IntKind.i64 (IntKind.wrap IntKind.i64 ((5 : Int) - (↑(4 : Nat) : Int) - (1 : Int)))) = AV.v (Value.int IntKind.i64 ((5 : Int) - (↑(5 : Nat) : Int))) ∧ Ob.disk (Prod.fst (writeD (bk (4 : Nat)) ((5 : Int) - (↑(4 : Nat) : Int)) (Prod.fst (Prod.snd ro (1 : Nat), True)))) = Ob.disk (bk (5 : Nat))) (hB := by kernel_rfl) (hC := by kernel_rfl) (hc := ?_) (he := by kernel_rfl) (ihj 5 hi1 hi2)
              exact ⟨by kernel_rfl, congrArg Ob.disk hd⟩
            · intro h5
              have hne : ro.2 1 = [] := List.eq_nil_of_length_eq_zero (by omega)
              have hbk : bk 5 = bk 4 := hb1 4 hne
              refine To.run hok 19 (C := True) (by kernel_rfl) (by (and_intros <;> try first | exact True.intro | with_reducible rfl | omega | with_reducible assumption | (refine fits_i64 ?_ ?_ <;> omega) | (refine fits_u64 ?_ ?_ <;> omega))) ?_
              refine To.backX (L := [LN.old (0 : Nat), LN.old (1 : Nat), LN.old (2 : Nat), LN.old (3 : Nat)]) (kp := [(13 : Nat), (10 : Nat), (8 : Nat), (6 : Nat), (5 : Nat), (3 : Nat)]) (ks := []) (ov := [((13 : Nat), AV.v (Value.int IntKind.i64 ((5 : Int) - (↑(5 : Nat) : Int))))]) (ob := [((2 : Nat), AB.obj (Ob.disk (bk (5 : Nat))))]) (C := AV.v (Value.int IntKind.i64 (IntKind.wrap IntKind.i64 ((5 : Int) - (↑(4 : Nat) : Int) - (1 : Int)))) = AV.v (Value.int IntKind.i64 ((5 : Int) - (↑(5 : Nat) : Int))) ∧ Ob.disk (bk (4 : Nat)) = Ob.disk (bk (5 : Nat))) (hB := by kernel_rfl) (hC := by kernel_rfl) (hc := ?_) (he := by kernel_rfl) (ihj 5 hi1 hi2)
              exact ⟨by kernel_rfl, congrArg Ob.disk hbk.symm⟩
          · have hfb := hcb.fine
            have hw0 : writeD (bk 5) (5 - ((5 : Nat) : Int)) (ro.2 0) = _ := write0 hcb.up (by rw [hcb.cr]; rfl) (5 - ((5 : Nat) : Int)) (ro.2 0)
            have hi1 : 6 ≤ 6 := by decide
            have hi2 : 6 - 6 < 6 - 5 := by decide
            refine To.run hok 5000 (C := True) (by kernel_rfl) (by (and_intros <;> try first | exact True.intro | with_reducible rfl | omega | with_reducible assumption | (refine fits_i64 ?_ ?_ <;> omega) | (refine fits_u64 ?_ ?_ <;> omega))) ?_
            refine To.brd hok ((0 : Int) < (↑(List.length (Prod.snd ro (0 : Nat))) : Int)) (C := True) (by kernel_rfl) (by kernel_rfl) (by (and_intros <;> try first | exact True.intro | with_reducible rfl | omega | with_reducible assumption | (refine fits_i64 ?_ ?_ <;> omega) | (refine fits_u64 ?_ ?_ <;> omega))) ?_ ?_
            · intro h5
              have hne : ¬ ro.2 0 = [] := fun e => by
                have : (ro.2 0).length = 0 := by rw [e]; rfl
                omega
              have hb : (ro.2 0).length = 128 := (hlen _).resolve_left hne
              rw [if_pos ⟨by decide, by rw [hcb.six]; decide, hb⟩] at hw0
              have hbk : bk 6 = (bk 5).put (5 - ((5 : Nat) : Int)) (ro.2 0) := hb2 5 hne
              have hd := (congrArg Prod.fst hw0).trans hbk.symm
              have hs := congrArg Prod.snd hw0
              refine To.run hok 5000 (C := True ∧ DiskD.Fine (bk (5 : Nat))) (by kernel_rfl) (by (and_intros <;> try first | exact True.intro | with_reducible rfl | omega | with_reducible assumption | (refine fits_i64 ?_ ?_ <;> omega) | (refine fits_u64 ?_ ?_ <;> omega))) ?_
              refine To.non hok (Prod.snd (writeD (bk (5 : Nat)) ((5 : Int) - (↑(5 : Nat) : Int)) (Prod.fst (Prod.snd ro (0 : Nat), True))) = (0 : Int)) (by (and_intros <;> try first | exact True.intro | with_reducible rfl | omega | with_reducible assumption | (refine fits_i64 ?_ ?_ <;> omega) | (refine fits_u64 ?_ ?_ <;> omega))) (C := True) (by kernel_rfl) (by (and_intros <;> try first | exact True.intro | with_reducible rfl | omega | with_reducible assumption | (refine fits_i64 ?_ ?_ <;> omega) | (refine fits_u64 ?_ ?_ <;> omega))) ?_
              refine To.run hok 11 (C := True) (by kernel_rfl) (by (and_intros <;> try first | exact True.intro | with_reducible rfl | omega | with_reducible assumption | (refine fits_i64 ?_ ?_ <;> omega) | (refine fits_u64 ?_ ?_ <;> omega))) ?_
              refine To.backX (L := [LN.old (0 : Nat), LN.old (1 : Nat), LN.old (2 : Nat), LN.old (3 : Nat)]) (kp := [(13 : Nat), (10 : Nat), (8 : Nat), (6 : Nat), (5 : Nat), (3 : Nat)]) (ks := []) (ov := [((13 : Nat), AV.v (Value.int IntKind.i64 ((5 : Int) - (↑(6 : Nat) : Int))))]) (ob := [((2 : Nat), AB.obj (Ob.disk (bk (6 : Nat))))]) (C := AV.v (Value.int IntKind.i64 (IntKind.wrap IntKind.i64 ((5 : Int) - (↑(5 : Nat) : Int) - (1 : Int)))) = AV.v (Value.int IntKind.i64 ((5 : Int) - (↑(6 : Nat) : Int))) ∧ Ob.disk (Prod.fst (writeD (bk (5 : Nat)) ((5 : Int) - (↑(5 : Nat) : Int)) (Prod.fst (Prod.snd ro (0 : Nat), True)))) = Ob.disk (bk (6 : Nat))) (hB := by kernel_rfl) (hC := by kernel_rfl) (hc := ?_) (he := by kernel_rfl) (ihj 6 hi1 hi2)
              exact ⟨by kernel_rfl, congrArg Ob.disk hd⟩
            · intro h5
              have hne : ro.2 0 = [] := List.eq_nil_of_length_eq_zero (by omega)
              have hbk : bk 6 = bk 5 := hb1 5 hne
              refine To.run hok 19 (C := True) (by kernel_rfl) (by (and_intros <;> try first | exact True.intro | with_reducible rfl | omega | with_reducible assumption | (refine fits_i64 ?_ ?_ <;> omega) | (refine fits_u64 ?_ ?_ <;> omega))) ?_
              refine To.backX (L := [LN.old (0 : Nat), LN.old (1 : Nat), LN.old (2 : Nat), LN.old (3 : Nat)]) (kp := [(13 : Nat), (10 : Nat), (8 : Nat), (6 : Nat), (5 : Nat), (3 : Nat)]) (ks := []) (ov := [((13 : Nat), AV.v (Value.int IntKind.i64 ((5 : Int) - (↑(6 : Nat) : Int))))]) (ob := [((2 : Nat), AB.obj (Ob.disk (bk (6 : Nat))))]) (C := AV.v (Value.int IntKind.i64 (IntKind.wrap IntKind.i64 ((5 : Int) - (↑(5 : Nat) : Int) - (1 : Int)))) = AV.v (Value.int IntKind.i64 ((5 : Int) - (↑(6 : Nat) : Int))) ∧ Ob.disk (bk (5 : Nat)) = Ob.disk (bk (6 : Nat))) (hB := by kernel_rfl) (hC := by kernel_rfl) (hc := ?_) (he := by kernel_rfl) (ihj 6 hi1 hi2)
              exact ⟨by kernel_rfl, congrArg Ob.disk hbk.symm⟩
          · have hA := hcalm.fine
            have hB := hcb.fine
            have hkeys := halike.keys hA.ok hB.ok
            refine To.run hok 5000 (C := DiskD.Fine (Prod.fst ro) ∧ DiskD.Fine (bk (6 : Nat))) (by kernel_rfl) (by (and_intros <;> try first | exact True.intro | with_reducible rfl | omega | with_reducible assumption | (refine fits_i64 ?_ ?_ <;> omega) | (refine fits_u64 ?_ ?_ <;> omega))) ?_
            refine To.yesd hok (Prod.fst (numsF (List.length (DiskD.waits (Prod.fst ro))) (intsF (keysD (DiskD.waits (Prod.fst ro)))), ∀ (r : Nat), r < List.length (DiskD.waits (Prod.fst ro)) → intsF (keysD (DiskD.waits (Prod.fst ro))) r = intsF (numsF (List.length (DiskD.waits (Prod.fst ro))) (intsF (keysD (DiskD.waits (Prod.fst ro))))) r) = Prod.fst (numsF (List.length (DiskD.waits (bk (6 : Nat)))) (intsF (keysD (DiskD.waits (bk (6 : Nat))))), ∀ (r : Nat), r < List.length (DiskD.waits (bk (6 : Nat))) → intsF (keysD (DiskD.waits (bk (6 : Nat)))) r = intsF (numsF (List.length (DiskD.waits (bk (6 : Nat)))) (intsF (keysD (DiskD.waits (bk (6 : Nat)))))) r)) ?_ (C := (∀ (r : Nat), r < List.length (DiskD.waits (Prod.fst ro)) → intsF (keysD (DiskD.waits (Prod.fst ro))) r = intsF (numsF (List.length (DiskD.waits (Prod.fst ro))) (intsF (keysD (DiskD.waits (Prod.fst ro))))) r) ∧ (∀ (r : Nat), r < List.length (DiskD.waits (bk (6 : Nat))) → intsF (keysD (DiskD.waits (bk (6 : Nat)))) r = intsF (numsF (List.length (DiskD.waits (bk (6 : Nat)))) (intsF (keysD (DiskD.waits (bk (6 : Nat)))))) r) ∧ List.length (Prod.fst (numsF (List.length (DiskD.waits (Prod.fst ro))) (intsF (keysD (DiskD.waits (Prod.fst ro)))), ∀ (r : Nat), r < List.length (DiskD.waits (Prod.fst ro)) → intsF (keysD (DiskD.waits (Prod.fst ro))) r = intsF (numsF (List.length (DiskD.waits (Prod.fst ro))) (intsF (keysD (DiskD.waits (Prod.fst ro))))) r)) ≤ (1000000 : Nat)) (by kernel_rfl) ?_ ?_; rotate_left; (and_intros <;> try first | exact True.intro | with_reducible rfl | omega | with_reducible assumption | (refine fits_i64 ?_ ?_ <;> omega) | (refine fits_u64 ?_ ?_ <;> omega)); rotate_right
            · show numsF ro.1.waits.length (intsF (keysD ro.1.waits)) = numsF (bk 6).waits.length (intsF (keysD (bk 6).waits))
              rw [nums_keys, nums_keys, hkeys]
            · intro r _; rw [nums_keys]
            · intro r _; rw [nums_keys]
            · show (numsF _ _).length ≤ 1000000
              rw [numsF_len]; have := hA.ok.len; omega
            have hck := numsF_ints c.keep
            refine To.run hok 30 (C := ((∀ (r : Nat), r < List.length (CrashD.keep c) → intsF (CrashD.keep c) r = intsF (numsF (List.length (CrashD.keep c)) (intsF (CrashD.keep c))) r) ∧ DiskD.Fine (Prod.fst ro) ∧ List.length (Prod.fst (numsF (List.length (CrashD.keep c)) (intsF (CrashD.keep c)), ∀ (r : Nat), r < List.length (CrashD.keep c) → intsF (CrashD.keep c) r = intsF (numsF (List.length (CrashD.keep c)) (intsF (CrashD.keep c))) r)) ≤ (1000000 : Nat) ∧ fits IntKind.i64 (CrashD.at_ c)) ∧ AV.agg [AV.sy (Value.int IntKind.i64 (CrashD.w c)), AV.im (nat_lit 1) (List.length (CrashD.keep c)) (intsF (CrashD.keep c)), AV.sy (Value.int IntKind.i64 (CrashD.torn c)), AV.sy (Value.int IntKind.i64 (CrashD.at_ c))] = AV.agg [AV.sy (Value.int IntKind.i64 (CrashD.w c)), AV.im (nat_lit 1) (List.length (CrashD.keep c)) (intsF (CrashD.keep c)), AV.sy (Value.int IntKind.i64 (CrashD.torn c)), AV.sy (Value.int IntKind.i64 (CrashD.at_ c))] ∧ ((∀ (r : Nat), r < List.length (CrashD.keep c) → intsF (CrashD.keep c) r = intsF (numsF (List.length (CrashD.keep c)) (intsF (CrashD.keep c))) r) ∧ DiskD.Fine (bk (6 : Nat)) ∧ List.length (Prod.fst (numsF (List.length (CrashD.keep c)) (intsF (CrashD.keep c)), ∀ (r : Nat), r < List.length (CrashD.keep c) → intsF (CrashD.keep c) r = intsF (numsF (List.length (CrashD.keep c)) (intsF (CrashD.keep c))) r)) ≤ (1000000 : Nat) ∧ fits IntKind.i64 (CrashD.at_ c)) ∧ DiskD.Fine (Prod.fst (downD (Prod.fst ro) { w := CrashD.w c, keep := Prod.fst (numsF (List.length (CrashD.keep c)) (intsF (CrashD.keep c)), ∀ (r : Nat), r < List.length (CrashD.keep c) → intsF (CrashD.keep c) r = intsF (numsF (List.length (CrashD.keep c)) (intsF (CrashD.keep c))) r), torn := CrashD.torn c, at_ := CrashD.at_ c })) ∧ DiskD.Fine (Prod.fst (downD (bk (6 : Nat)) { w := CrashD.w c, keep := Prod.fst (numsF (List.length (CrashD.keep c)) (intsF (CrashD.keep c)), ∀ (r : Nat), r < List.length (CrashD.keep c) → intsF (CrashD.keep c) r = intsF (numsF (List.length (CrashD.keep c)) (intsF (CrashD.keep c))) r), torn := CrashD.torn c, at_ := CrashD.at_ c }))) (by kernel_rfl) ?_ ?_; (and_intros <;> try first | exact True.intro | with_reducible rfl | omega | with_reducible assumption | (refine fits_i64 ?_ ?_ <;> omega) | (refine fits_u64 ?_ ?_ <;> omega))
            · intro r _; rw [hck]
            · show (numsF _ _).length ≤ 1000000
              rw [numsF_len]; omega
            · exact hc.at_
            · intro r _; rw [hck]
            · show (numsF _ _).length ≤ 1000000
              rw [numsF_len]; omega
            · exact hc.at_
            · exact (hcalm.in_.down _).fine
            · exact (hcb.in_.down _).fine
            have hdA : downD ro.1 ⟨c.w, numsF c.keep.length (intsF c.keep), c.torn, c.at_⟩ = (fallD ro.1 c, 0) := by unfold downD; rw [if_neg (by simp [hcalm.up]), hck]
            have hdB : downD (bk 6) ⟨c.w, numsF c.keep.length (intsF c.keep), c.torn, c.at_⟩ = (fallD (bk 6) c, 0) := by unfold downD; rw [if_neg (by simp [hcb.up]), hck]
            have hfA := (hcalm.in_.fall c).boot.fine
            have hfB := (hcb.in_.fall c).boot.fine
            have hst : (bootD (fallD ro.1 c)).stays = (bootD (fallD (bk 6) c)).stays := halike.fall hA.ok hB.ok (fun _ => rfl)
            have hrd : ∀ z, readD (bootD (fallD ro.1 c)) z = readD (bootD (fallD (bk 6) c)) z := fun z => Alike.read ⟨hst, fun _ => rfl⟩ rfl z
            have h6 : (bootD (fallD (bk 6) c)).stays.length = 6 := (fallL_len _ _ _ _).trans hcb.six
            have hup : (bootD (fallD (bk 6) c)).down = false := rfl
            obtain ⟨dA, hA'⟩ : ∃ d, d = bootD (fallD ro.1 c) := ⟨_, rfl⟩
            obtain ⟨dB, hB'⟩ : ∃ d, d = bootD (fallD (bk 6) c) := ⟨_, rfl⟩
            rw [← hA'] at hfA hrd
            rw [← hB'] at hfB hrd h6 hup
            refine To.loopX (L := [LN.old (1 : Nat), LN.old (2 : Nat)]) (kp := [(17 : Nat), (16 : Nat), (15 : Nat), (14 : Nat), (8 : Nat), (6 : Nat), (5 : Nat)]) (ks := []) (C := (IntKind.i64 = IntKind.i64 ∧ (0 : Int) = (↑(0 : Nat) : Int)) ∧ Value.int IntKind.i64 (Prod.snd (downD (Prod.fst ro) { w := CrashD.w c, keep := Prod.fst (numsF (List.length (CrashD.keep c)) (intsF (CrashD.keep c)), ∀ (r : Nat), r < List.length (CrashD.keep c) → intsF (CrashD.keep c) r = intsF (numsF (List.length (CrashD.keep c)) (intsF (CrashD.keep c))) r), torn := CrashD.torn c, at_ := CrashD.at_ c })) = Value.int IntKind.i64 (0 : Int) ∧ Value.int IntKind.i64 (Prod.snd (downD (bk (6 : Nat)) { w := CrashD.w c, keep := Prod.fst (numsF (List.length (CrashD.keep c)) (intsF (CrashD.keep c)), ∀ (r : Nat), r < List.length (CrashD.keep c) → intsF (CrashD.keep c) r = intsF (numsF (List.length (CrashD.keep c)) (intsF (CrashD.keep c))) r), torn := CrashD.torn c, at_ := CrashD.at_ c })) = Value.int IntKind.i64 (0 : Int) ∧ Ob.disk (bootD (Prod.fst (downD (Prod.fst ro) { w := CrashD.w c, keep := Prod.fst (numsF (List.length (CrashD.keep c)) (intsF (CrashD.keep c)), ∀ (r : Nat), r < List.length (CrashD.keep c) → intsF (CrashD.keep c) r = intsF (numsF (List.length (CrashD.keep c)) (intsF (CrashD.keep c))) r), torn := CrashD.torn c, at_ := CrashD.at_ c }))) = Ob.disk dA ∧ Ob.disk (bootD (Prod.fst (downD (bk (6 : Nat)) { w := CrashD.w c, keep := Prod.fst (numsF (List.length (CrashD.keep c)) (intsF (CrashD.keep c)), ∀ (r : Nat), r < List.length (CrashD.keep c) → intsF (CrashD.keep c) r = intsF (numsF (List.length (CrashD.keep c)) (intsF (CrashD.keep c))) r), torn := CrashD.torn c, at_ := CrashD.at_ c }))) = Ob.disk dB) (st := fun (a : Nat) => (⟨⟨12, 133, slotT 133 [(5, AV.v (Value.bool true)), (6, AV.ptr (nat_lit 0) (nat_lit 0)), (8, AV.ptr (nat_lit 1) (nat_lit 0)), (14, AV.v (Value.bool true)), (15, AV.v (Value.int IntKind.i64 (0 : Int))), (16, AV.v (Value.int IntKind.i64 (0 : Int))), (17, AV.sy (Value.int IntKind.i64 (↑a : Int)))], ARg.no, [Go.Proofs.Ytnkjhicokcmmpaa.Sm.AItem.code (subC (bodyC Try.prog 12) [1, 1, 1, 1, 1, 1, 1, 1, 1, 1, 1, 1, 1, 0, 1, 0, 0]), Go.Proofs.Ytnkjhicokcmmpaa.Sm.AItem.inLoop (subC (bodyC Try.prog 12) [1, 1, 1, 1, 1, 1, 1, 1, 1, 1, 1, 1, 1, 0, 1, 0, 0]), (AItem.inBlock 4), Go.Proofs.Ytnkjhicokcmmpaa.Sm.AItem.code (subC (bodyC Try.prog 12) [1, 1, 1, 1, 1, 1, 1, 1, 1, 1, 1, 1, 1, 1])], [], false, none, (0 : Nat)⟩, [], memF [AB.obj (Ob.disk dA), AB.obj (Ob.disk dB)] 0 Tr.e, 2⟩ : ASt)) (hB := by kernel_rfl) (hC := by kernel_rfl) (he := by kernel_rfl) (hI := by (and_intros <;> try first | exact True.intro | with_reducible rfl | omega | with_reducible assumption | (refine fits_i64 ?_ ?_ <;> omega) | (refine fits_u64 ?_ ?_ <;> omega))) (hc := ?_) (step := ?_) (fun (k : Nat) => [(17, ivA (k : Int)), (15, .v (iv 0)), (16, .v (iv 0))]) (fun _ => [(0, .obj (.disk dA)), (1, .obj (.disk dB))]) (fun k => k ≤ 6) (fun k => 6 - k) (0)
            · exact ⟨⟨rfl, rfl⟩, congrArg (Value.int _) (congrArg Prod.snd hdA), congrArg (Value.int _) (congrArg Prod.snd hdB), congrArg Ob.disk ((congrArg (fun p => bootD p.1) hdA).trans hA'.symm), congrArg Ob.disk ((congrArg (fun p => bootD p.1) hdB).trans hB'.symm)⟩
            intro k hk ihk
            refine To.run hok 5000 (C := True) (by kernel_rfl) (by (and_intros <;> try first | exact True.intro | with_reducible rfl | omega | with_reducible assumption | (refine fits_i64 ?_ ?_ <;> omega) | (refine fits_u64 ?_ ?_ <;> omega))) ?_
            refine To.brd hok ((↑k : Int) < (6 : Int)) (C := True) (by kernel_rfl) (by kernel_rfl) (by (and_intros <;> try first | exact True.intro | with_reducible rfl | omega | with_reducible assumption | (refine fits_i64 ?_ ?_ <;> omega) | (refine fits_u64 ?_ ?_ <;> omega))) ?_ ?_
            · intro h7
              have hk1 : k + 1 ≤ 6 := by omega
              have hk2 : 6 - (k + 1) < 6 - k := by omega
              have hr1 : readD dB (k : Int) = (some ((getM dB.waits (k : Int)).getD (dB.stays.getD (k : Int).toNat [])), 0) := by
                unfold readD
                rw [if_neg (by simp [hup]), if_neg (by omega), if_neg (by omega)]
              have hr2 := (hrd (k : Int)).trans hr1
              refine To.run hok 5000 (C := True) (by kernel_rfl) (by (and_intros <;> try first | exact True.intro | with_reducible rfl | omega | with_reducible assumption | (refine fits_i64 ?_ ?_ <;> omega) | (refine fits_u64 ?_ ?_ <;> omega))) ?_
              refine To.yes hok (Option.isSome (Prod.fst (readD dB (↑k : Int)))) ?_ (C := DiskD.Fine dB) (by kernel_rfl) (by (and_intros <;> try first | exact True.intro | with_reducible rfl | omega | with_reducible assumption | (refine fits_i64 ?_ ?_ <;> omega) | (refine fits_u64 ?_ ?_ <;> omega))) ?_
              · show (readD dB (k : Int)).1.isSome = true
                rw [hr1]; rfl
              refine To.run hok 5000 (C := List.length (Option.getD (Prod.fst (readD dB (↑k : Int))) []) ≤ List.length (Option.getD (Prod.fst (readD dB (↑k : Int))) [])) (by kernel_rfl) (by (and_intros <;> try first | exact True.intro | with_reducible rfl | omega | with_reducible assumption | (refine fits_i64 ?_ ?_ <;> omega) | (refine fits_u64 ?_ ?_ <;> omega))) ?_
              refine To.yes hok (Option.isSome (Prod.fst (readD dA (↑k : Int)))) ?_ (C := DiskD.Fine dA) (by kernel_rfl) (by (and_intros <;> try first | exact True.intro | with_reducible rfl | omega | with_reducible assumption | (refine fits_i64 ?_ ?_ <;> omega) | (refine fits_u64 ?_ ?_ <;> omega))) ?_
              · show (readD dA (k : Int)).1.isSome = true
                rw [hr2]; rfl
              refine To.run hok 5000 (C := List.length (Option.getD (Prod.fst (readD dA (↑k : Int))) []) ≤ List.length (Option.getD (Prod.fst (readD dA (↑k : Int))) [])) (by kernel_rfl) (by (and_intros <;> try first | exact True.intro | with_reducible rfl | omega | with_reducible assumption | (refine fits_i64 ?_ ?_ <;> omega) | (refine fits_u64 ?_ ?_ <;> omega))) ?_
              refine To.yesd hok (Array.toList (ByteArray.data (str (List.take (List.length (Option.getD (Prod.fst (readD dA (↑k : Int))) [])) (Option.getD (Prod.fst (readD dA (↑k : Int))) [])))) = Array.toList (ByteArray.data (str (List.take (List.length (Option.getD (Prod.fst (readD dB (↑k : Int))) [])) (Option.getD (Prod.fst (readD dB (↑k : Int))) []))))) ?_ (C := True) (by kernel_rfl) (by (and_intros <;> try first | exact True.intro | with_reducible rfl | omega | with_reducible assumption | (refine fits_i64 ?_ ?_ <;> omega) | (refine fits_u64 ?_ ?_ <;> omega))) ?_
              · show (str (List.take ((readD dA (k : Int)).1.getD []).length ((readD dA (k : Int)).1.getD []))).data.toList = (str (List.take ((readD dB (k : Int)).1.getD []).length ((readD dB (k : Int)).1.getD []))).data.toList
                rw [hrd]
              refine To.run hok 16 (C := fits IntKind.i64 ((↑k : Int) + (1 : Int))) (by kernel_rfl) (by (and_intros <;> try first | exact True.intro | with_reducible rfl | omega | with_reducible assumption | (refine fits_i64 ?_ ?_ <;> omega) | (refine fits_u64 ?_ ?_ <;> omega))) ?_
              refine To.backX (L := [LN.old (0 : Nat), LN.old (1 : Nat)]) (kp := [(17 : Nat), (16 : Nat), (15 : Nat), (14 : Nat), (8 : Nat), (6 : Nat), (5 : Nat)]) (ks := []) (ov := [((17 : Nat), AV.sy (Value.int IntKind.i64 (↑(k + (1 : Nat)) : Int)))]) (ob := []) (C := IntKind.i64 = IntKind.i64 ∧ (↑k : Int) + (1 : Int) = (↑(k + (1 : Nat)) : Int)) (hB := by kernel_rfl) (hC := by kernel_rfl) (hc := by (and_intros <;> try first | exact True.intro | with_reducible rfl | omega | with_reducible assumption | (refine fits_i64 ?_ ?_ <;> omega) | (refine fits_u64 ?_ ?_ <;> omega))) (he := by kernel_rfl) (ihk (k + 1) hk1 hk2)
            · intro h7
              refine To.run hok 5000 (C := True) (by kernel_rfl) (by (and_intros <;> try first | exact True.intro | with_reducible rfl | omega | with_reducible assumption | (refine fits_i64 ?_ ?_ <;> omega) | (refine fits_u64 ?_ ?_ <;> omega))) ?_
              refine To.end (AV.v (Value.bool ((0 : Int) == (0 : Int)))) (by kernel_rfl) ?_
              rfl
theorem order_walk (l : List OpD) (c : CrashD) (hl : ∀ o ∈ l, o.Wf) (hc : c.Wf) {w : World} {u v : Value} (hu : VR0 (imOf w) (.im 7 l.length (opsF l)) u) (hv : VR0 (imOf w) (.agg (crashF c)) v) :
    Calls Try.prog 12 #[u, v] w (fun e w' => e = .returned (.bool true) ∧ Fr No w w') :=
  law_calls (args := [.im 7 l.length (opsF l), .agg (crashF c)]) s3_ok (by kernel_rfl) (order_to s3_ok l c hl hc) (.cons (bare_VR (ρ := envOf w) hu) (.cons (bare_VR (ρ := envOf w) hv) .nil))
end Go.Proofs.Ytnkjhicokcmmpaa.Sm

/-
  DiskArmed: the walk.
-/
namespace Go.Proofs.Ytnkjhicokcmmpaa.Sm
open Go Go.RowKit
/-- A disk, armed. -/
def DiskD.armed (d : DiskD) (n : Int) (c : CrashD) : DiskD := { d with crash := ⟨n, c.keep, c.torn, c.at_⟩ }
theorem flush_armed (d : DiskD) (n : Int) (c : CrashD) : (flushD (d.armed n c)).1 = (flushD d).1.armed n c ∧ (flushD (d.armed n c)).2 = (flushD d).2 := by
  cases h : d.down <;> simp [flushD, DiskD.armed, h]
theorem Calm.flush {d : DiskD} {k : Nat} (h : Calm d k) : Calm (flushD d).1 k := by
  have e : flushD d = ({ d with stays := flushL d.waits (keysD d.waits) d.stays, waits := [] }, 0) := by unfold flushD; rw [if_neg (by simp [h.up])]
  have hi := h.in_.flush
  rw [e] at hi ⊢
  exact ⟨hi, (flushL_len _ _ _).trans h.six, h.up, h.cr⟩
theorem keptN_w (c : CrashD) (n : Int) (z : Int) : keptN ⟨n, c.keep, c.torn, c.at_⟩ z = keptN c z := rfl
theorem fallL_w (m : List (Int × List UInt8)) (c : CrashD) (n : Int) : ∀ (ks : List Int) (ll : List (List UInt8)), fallL m ⟨n, c.keep, c.torn, c.at_⟩ ks ll = fallL m c ks ll
  | [], _ => rfl
  | z :: ks, ll => fallL_w m c n ks (fallRow m c ll z)
theorem fall_w (d : DiskD) (c : CrashD) (n : Int) : fallD d ⟨n, c.keep, c.torn, c.at_⟩ = fallD d c := by
  unfold fallD; rw [fallL_w]
/-- A write to both. -/
theorem write_armed {d : DiskD} {k : Nat} (hd : Calm d k) {n : Int} (hn : 1 ≤ n) (c : CrashD) (z : Int) (b : List UInt8) :
    (writeD d z b = (d, 30) ∧ writeD (d.armed n c) z b = (d.armed n c, 30)) ∨
    (0 ≤ z ∧ z < 6 ∧ b.length = 128 ∧ writeD d z b = (d.put z b, 0) ∧
      ((2 ≤ n ∧ writeD (d.armed n c) z b = ((d.put z b).armed (n - 1) c, 0)) ∨ (n = 1 ∧ writeD (d.armed n c) z b = (fallD (d.put z b) c, 31)))) := by
  have h0 := write0 hd.up (by rw [hd.cr]; rfl) z b
  rw [hd.six, show ((6 : Nat) : Int) = 6 from rfl] at h0
  have hu : (d.armed n c).down = false := hd.up
  have hs : (d.armed n c).stays.length = 6 := hd.six
  have hw : (d.armed n c).crash.w = n := rfl
  by_cases h : 0 ≤ z ∧ z < 6 ∧ b.length = 128
  · rw [if_pos h] at h0
    refine .inr ⟨h.1, h.2.1, h.2.2, h0, ?_⟩
    have e : writeD (d.armed n c) z b = if 0 < n - 1 then (((d.armed n c).put z b).tick, 0) else (fallD ((d.armed n c).put z b).tick ((d.armed n c).put z b).tick.crash, 31) := by
      unfold writeD
      rw [if_neg (by simp [hu]), if_neg (by omega), if_neg (by omega), if_neg (by omega), if_neg (by omega)]
      rfl
    by_cases h1 : 0 < n - 1
    · rw [if_pos h1] at e
      exact .inl ⟨by omega, e⟩
    · rw [if_neg h1] at e
      refine .inr ⟨by omega, e.trans ?_⟩
      have : fallD ((d.armed n c).put z b).tick ((d.armed n c).put z b).tick.crash = fallD (d.put z b) ⟨n - 1, c.keep, c.torn, c.at_⟩ := rfl
      rw [this, fall_w]
  · rw [if_neg h] at h0
    refine .inl ⟨h0, ?_⟩
    unfold writeD
    rw [if_neg (by simp [hu]), hs]
    by_cases h1 : 0 ≤ z
    · rw [if_neg (by omega)]
      by_cases h2 : z < 6
      · rw [if_neg (by omega), if_pos (by omega)]
      · rw [if_pos (by omega)]
    · rw [if_pos (by omega)]
/-- Disks that differ by their crash alone. -/
structure Post (d e : DiskD) : Prop where
  fd : d.Fine
  fe : e.Fine
  stays : d.stays = e.stays
  waits : d.waits = e.waits
  writes : d.writes = e.writes
  down : d.down = e.down
  six : e.stays.length = 6
set_option maxHeartbeats 4000000 in
set_option maxRecDepth 100000 in
theorem armed_to (hok : S3.Ok Try.prog) (l : List OpD) (wr : Int) (c : CrashD) (hl : ∀ o ∈ l, o.Wf) (hc : c.Wf) (hwr : 0 ≤ wr ∧ wr < 256) :
    To S3 Try.prog 13 (startOf Try.prog 13 [.im 7 l.length (opsF l), .sy (.int .u8 wr), .agg (crashF c)] .e 0) (fun x _ _ => x = .v (.bool true)) := by
  have e1 := opsOf_ops l
  have hck := numsF_ints c.keep
  refine To.run hok 5000 (C := True) (by kernel_rfl) (by (and_intros <;> try first | exact True.intro | with_reducible rfl | omega | with_reducible assumption | (refine fits_i64 ?_ ?_ <;> omega) | (refine fits_u64 ?_ ?_ <;> omega))) ?_
  refine To.br hok (greatL (opsOf (List.length l) (opsF l))) (C := ∀ (r : Nat), r < List.length l → opsF l r = opsF (opsOf (List.length l) (opsF l)) r) (by kernel_rfl) (by kernel_rfl) ?_ ?_ ?_; (and_intros <;> try first | exact True.intro | with_reducible rfl | omega | with_reducible assumption | (refine fits_i64 ?_ ?_ <;> omega) | (refine fits_u64 ?_ ?_ <;> omega))
  · rw [e1]; exact fun r hr => rfl
  · intro h1
    refine To.run hok 5000 (C := True) (by kernel_rfl) (by (and_intros <;> try first | exact True.intro | with_reducible rfl | omega | with_reducible assumption | (refine fits_i64 ?_ ?_ <;> omega) | (refine fits_u64 ?_ ?_ <;> omega))) ?_
    refine To.end (AV.v (Value.bool true)) (by kernel_rfl) ?_
    rfl
  intro h1
  have hl2 : l.length ≤ 200 := by
    rw [e1] at h1
    unfold greatL at h1
    simp at h1
    omega
  refine To.run hok 5000 (C := True) (by kernel_rfl) (by (and_intros <;> try first | exact True.intro | with_reducible rfl | omega | with_reducible assumption | (refine fits_i64 ?_ ?_ <;> omega) | (refine fits_u64 ?_ ?_ <;> omega))) ?_
  refine To.brd hok ((100 : Int) < (↑(List.length (CrashD.keep c)) : Int)) (C := True) (by kernel_rfl) (by kernel_rfl) (by (and_intros <;> try first | exact True.intro | with_reducible rfl | omega | with_reducible assumption | (refine fits_i64 ?_ ?_ <;> omega) | (refine fits_u64 ?_ ?_ <;> omega))) ?_ ?_
  · intro h2
    refine To.run hok 5000 (C := True) (by kernel_rfl) (by (and_intros <;> try first | exact True.intro | with_reducible rfl | omega | with_reducible assumption | (refine fits_i64 ?_ ?_ <;> omega) | (refine fits_u64 ?_ ?_ <;> omega))) ?_
    refine To.end (AV.v (Value.bool true)) (by kernel_rfl) ?_
    rfl
  intro h2
  refine To.run hok 5000 (C := fits IntKind.i64 wr ∧ ((0 : Int) ≤ wr ∧ (0 : Int) < (40 : Int)) ∧ fits IntKind.i64 ((1 : Int) + wr % (40 : Int))) (by kernel_rfl) (by (and_intros <;> try first | exact True.intro | with_reducible rfl | omega | with_reducible assumption | (refine fits_i64 ?_ ?_ <;> omega) | (refine fits_u64 ?_ ?_ <;> omega))) ?_
  refine To.yesd hok ((1 : Int) ≤ (6 : Int) ∧ (6 : Int) ≤ (4096 : Int)) (by (and_intros <;> try first | exact True.intro | with_reducible rfl | omega | with_reducible assumption | (refine fits_i64 ?_ ?_ <;> omega) | (refine fits_u64 ?_ ?_ <;> omega))) (C := True) (by kernel_rfl) (by (and_intros <;> try first | exact True.intro | with_reducible rfl | omega | with_reducible assumption | (refine fits_i64 ?_ ?_ <;> omega) | (refine fits_u64 ?_ ?_ <;> omega))) ?_
  refine To.run hok 5000 (C := True) (by kernel_rfl) (by (and_intros <;> try first | exact True.intro | with_reducible rfl | omega | with_reducible assumption | (refine fits_i64 ?_ ?_ <;> omega) | (refine fits_u64 ?_ ?_ <;> omega))) ?_
  refine To.yesd hok ((1 : Int) ≤ (6 : Int) ∧ (6 : Int) ≤ (4096 : Int)) (by (and_intros <;> try first | exact True.intro | with_reducible rfl | omega | with_reducible assumption | (refine fits_i64 ?_ ?_ <;> omega) | (refine fits_u64 ?_ ?_ <;> omega))) (C := True) (by kernel_rfl) (by (and_intros <;> try first | exact True.intro | with_reducible rfl | omega | with_reducible assumption | (refine fits_i64 ?_ ?_ <;> omega) | (refine fits_u64 ?_ ?_ <;> omega))) ?_
  refine To.run hok 5000 (C := (∀ (r : Nat), r < List.length (CrashD.keep c) → intsF (CrashD.keep c) r = intsF (numsF (List.length (CrashD.keep c)) (intsF (CrashD.keep c))) r) ∧ DiskD.Fine (newD (6 : Nat)) ∧ List.length (Prod.fst (numsF (List.length (CrashD.keep c)) (intsF (CrashD.keep c)), ∀ (r : Nat), r < List.length (CrashD.keep c) → intsF (CrashD.keep c) r = intsF (numsF (List.length (CrashD.keep c)) (intsF (CrashD.keep c))) r)) ≤ (1000000 : Nat) ∧ fits IntKind.i64 (CrashD.at_ c)) (by kernel_rfl) ?_ ?_; (and_intros <;> try first | exact True.intro | with_reducible rfl | omega | with_reducible assumption | (refine fits_i64 ?_ ?_ <;> omega) | (refine fits_u64 ?_ ?_ <;> omega))
  · intro r _; rw [hck]
  · exact calm_new.fine
  · show (numsF _ _).length ≤ 1000000
    rw [numsF_len]; omega
  · exact hc.at_
  have hn0 : 1 ≤ 1 + wr % 40 ∧ 1 + wr % 40 ≤ 40 := by omega
  have harm : armD (newD 6) ⟨1 + wr % 40, numsF c.keep.length (intsF c.keep), c.torn, c.at_⟩ = ((newD 6).armed (1 + wr % 40) c, 0) := by
    unfold armD; rw [if_neg (by show ¬ 1 + wr % 40 < 1; omega), hck]; rfl
  refine To.non hok (Prod.snd (armD (newD (6 : Nat)) { w := (1 : Int) + wr % (40 : Int), keep := Prod.fst (numsF (List.length (CrashD.keep c)) (intsF (CrashD.keep c)), ∀ (r : Nat), r < List.length (CrashD.keep c) → intsF (CrashD.keep c) r = intsF (numsF (List.length (CrashD.keep c)) (intsF (CrashD.keep c))) r), torn := CrashD.torn c, at_ := CrashD.at_ c }) = (0 : Int)) ?_ (C := True) (by kernel_rfl) (by (and_intros <;> try first | exact True.intro | with_reducible rfl | omega | with_reducible assumption | (refine fits_i64 ?_ ?_ <;> omega) | (refine fits_u64 ?_ ?_ <;> omega))) ?_
  · exact congrArg Prod.snd harm
  refine To.run hok 13 (C := True) (by kernel_rfl) (by (and_intros <;> try first | exact True.intro | with_reducible rfl | omega | with_reducible assumption | (refine fits_i64 ?_ ?_ <;> omega) | (refine fits_u64 ?_ ?_ <;> omega))) ?_
  refine To.loopX (L := [LN.old (0 : Nat), LN.old (1 : Nat), LN.old (2 : Nat)]) (kp := [(63 : Nat), (62 : Nat), (61 : Nat), (11 : Nat), (9 : Nat), (8 : Nat), (7 : Nat), (5 : Nat)]) (ks := []) (C := (IntKind.i64 = IntKind.i64 ∧ (0 : Int) = (↑(Prod.fst ((0 : Nat), newD (6 : Nat), (1 : Int) + wr % (40 : Int))) : Int)) ∧ (IntKind.i64 = IntKind.i64 ∧ (1 : Int) + wr % (40 : Int) = Prod.snd (Prod.snd ((0 : Nat), newD (6 : Nat), (1 : Int) + wr % (40 : Int)))) ∧ Ob.disk (Prod.fst (armD (newD (6 : Nat)) { w := (1 : Int) + wr % (40 : Int), keep := Prod.fst (numsF (List.length (CrashD.keep c)) (intsF (CrashD.keep c)), ∀ (r : Nat), r < List.length (CrashD.keep c) → intsF (CrashD.keep c) r = intsF (numsF (List.length (CrashD.keep c)) (intsF (CrashD.keep c))) r), torn := CrashD.torn c, at_ := CrashD.at_ c })) = Ob.disk (DiskD.armed (Prod.fst (Prod.snd ((0 : Nat), newD (6 : Nat), (1 : Int) + wr % (40 : Int)))) (Prod.snd (Prod.snd ((0 : Nat), newD (6 : Nat), (1 : Int) + wr % (40 : Int)))) c) ∧ Ob.disk (newD (6 : Nat)) = Ob.disk (Prod.fst (Prod.snd ((0 : Nat), newD (6 : Nat), (1 : Int) + wr % (40 : Int))))) (st := fun (a : Nat × DiskD × Int) => (⟨⟨13, 150, slotT 150 [(5, AV.ptr (nat_lit 0) (nat_lit 0)), (7, AV.v (Value.bool true)), (8, AV.sy (Value.int IntKind.i64 (Prod.snd (Prod.snd a)))), (9, AV.ptr (nat_lit 1) (nat_lit 0)), (11, AV.ptr (nat_lit 2) (nat_lit 0)), (61, AV.im (nat_lit 7) (List.length l) (opsF l)), (62, AV.sy (Value.int IntKind.i64 (↑(List.length l) : Int))), (63, AV.sy (Value.int IntKind.i64 (↑(Prod.fst a) : Int)))], ARg.no, [Go.Proofs.Ytnkjhicokcmmpaa.Sm.AItem.code (subC (bodyC Try.prog 13) [1, 1, 1, 1, 1, 1, 1, 1, 0, 1, 0, 0]), Go.Proofs.Ytnkjhicokcmmpaa.Sm.AItem.inLoop (subC (bodyC Try.prog 13) [1, 1, 1, 1, 1, 1, 1, 1, 0, 1, 0, 0]), (AItem.inBlock 0), Go.Proofs.Ytnkjhicokcmmpaa.Sm.AItem.code (subC (bodyC Try.prog 13) [1, 1, 1, 1, 1, 1, 1, 1, 1])], [], false, none, (0 : Nat)⟩, [], memF [AB.mem (nat_lit 54) none [AV.sy (Value.int IntKind.i64 ((1 : Int) + wr % (40 : Int))), AV.im (nat_lit 1) (List.length (CrashD.keep c)) (intsF (CrashD.keep c)), AV.sy (Value.int IntKind.i64 (CrashD.torn c)), AV.sy (Value.int IntKind.i64 (CrashD.at_ c))], AB.obj (Ob.disk (DiskD.armed (Prod.fst (Prod.snd a)) (Prod.snd (Prod.snd a)) c)), AB.obj (Ob.disk (Prod.fst (Prod.snd a)))] 0 Tr.e, 3⟩ : ASt)) (hB := by kernel_rfl) (hC := by kernel_rfl) (he := by kernel_rfl) (hI := ?_) (hc := ?_) (step := ?_) (fun (p : Nat × DiskD × Int) => [(63, ivA (p.1 : Int)), (8, ivA p.2.2)]) (fun p => [(1, .obj (.disk (p.2.1.armed p.2.2 c))), (2, .obj (.disk p.2.1))]) (fun p => p.1 ≤ l.length ∧ Calm p.2.1 p.1 ∧ 1 ≤ p.2.2 ∧ p.2.2 ≤ 40) (fun p => l.length - p.1) ((0, newD 6, 1 + wr % 40))
  · exact ⟨Nat.zero_le _, calm_new, hn0⟩
  · exact ⟨⟨rfl, rfl⟩, ⟨rfl, rfl⟩, congrArg Ob.disk (congrArg Prod.fst harm), rfl⟩
  intro p ⟨ha, hcalm, hn1, hn2⟩ ih
  have hfine := hcalm.fine
  have hin : (p.2.1.armed p.2.2 c).In p.1 := ⟨⟨hfine.ok.of rfl rfl, ⟨by show 0 ≤ p.2.2; omega, fits_i64 (by show (-9223372036854775808 : Int) ≤ p.2.2; omega) (by show p.2.2 ≤ (9223372036854775807 : Int); omega)⟩, by show c.keep.length ≤ 1000000; omega, hc.at_, hfine.wr⟩, hcalm.in_.wr, hcalm.in_.size⟩
  have hfineA := hin.fine
  refine To.run hok 5000 (C := True) (by kernel_rfl) (by (and_intros <;> try first | exact True.intro | with_reducible rfl | omega | with_reducible assumption | (refine fits_i64 ?_ ?_ <;> omega) | (refine fits_u64 ?_ ?_ <;> omega))) ?_
  refine To.brd hok ((↑(Prod.fst p) : Int) < (↑(List.length l) : Int)) (C := True) (by kernel_rfl) (by kernel_rfl) (by (and_intros <;> try first | exact True.intro | with_reducible rfl | omega | with_reducible assumption | (refine fits_i64 ?_ ?_ <;> omega) | (refine fits_u64 ?_ ?_ <;> omega))) ?_ ?_
  · intro h4
    have hlt : p.1 < l.length := by omega
    have hi1 : p.1 + 1 ≤ l.length := by omega
    have hi2 : l.length - (p.1 + 1) < l.length - p.1 := by omega
    refine To.run hok 5000 (C := ((0 : Int) ≤ (↑(Prod.fst p) : Int) ∧ (↑(Prod.fst p) : Int) < (↑(List.length l) : Int)) ∧ True) (by kernel_rfl) (by (and_intros <;> try first | exact True.intro | with_reducible rfl | omega | with_reducible assumption | (refine fits_i64 ?_ ?_ <;> omega) | (refine fits_u64 ?_ ?_ <;> omega))) ?_
    refine To.brd hok (OpD.kind (List.getD l (Int.toNat (↑(Prod.fst p) : Int)) default) = (1 : Int)) (C := True) (by kernel_rfl) (by kernel_rfl) (by (and_intros <;> try first | exact True.intro | with_reducible rfl | omega | with_reducible assumption | (refine fits_i64 ?_ ?_ <;> omega) | (refine fits_u64 ?_ ?_ <;> omega))) ?_ ?_
    · intro h5
      have hfl := flush_armed p.2.1 p.2.2 c
      refine To.run hok 5000 (C := DiskD.Fine (DiskD.armed (Prod.fst (Prod.snd p)) (Prod.snd (Prod.snd p)) c) ∧ DiskD.Fine (Prod.fst (Prod.snd p))) (by kernel_rfl) (by (and_intros <;> try first | exact True.intro | with_reducible rfl | omega | with_reducible assumption | (refine fits_i64 ?_ ?_ <;> omega) | (refine fits_u64 ?_ ?_ <;> omega))) ?_
      refine To.non hok ((fun d ↦ Prod.snd (flushD d)) (DiskD.armed (Prod.fst (Prod.snd p)) (Prod.snd (Prod.snd p)) c) = (fun d ↦ Prod.snd (flushD d)) (Prod.fst (Prod.snd p))) ?_ (C := True) (by kernel_rfl) (by (and_intros <;> try first | exact True.intro | with_reducible rfl | omega | with_reducible assumption | (refine fits_i64 ?_ ?_ <;> omega) | (refine fits_u64 ?_ ?_ <;> omega))) ?_
      · exact hfl.2
      refine To.run hok 9 (C := fits IntKind.i64 ((↑(Prod.fst p) : Int) + (1 : Int))) (by kernel_rfl) (by (and_intros <;> try first | exact True.intro | with_reducible rfl | omega | with_reducible assumption | (refine fits_i64 ?_ ?_ <;> omega) | (refine fits_u64 ?_ ?_ <;> omega))) ?_
      refine To.backX (L := [LN.old (0 : Nat), LN.old (1 : Nat), LN.old (2 : Nat)]) (kp := [(63 : Nat), (62 : Nat), (61 : Nat), (11 : Nat), (9 : Nat), (8 : Nat), (7 : Nat), (5 : Nat)]) (ks := []) (ov := [((63 : Nat), AV.sy (Value.int IntKind.i64 (↑(Prod.fst (Prod.fst p + (1 : Nat), Prod.fst (flushD (Prod.fst (Prod.snd p))), Prod.snd (Prod.snd p))) : Int)))]) (ob := [((1 : Nat), AB.obj (Ob.disk (DiskD.armed (Prod.fst (Prod.snd (Prod.fst p + (1 : Nat), Prod.fst (flushD (Prod.fst (Prod.snd p))), Prod.snd (Prod.snd p)))) (Prod.snd (Prod.snd (Prod.fst p + (1 : Nat), Prod.fst (flushD (Prod.fst (Prod.snd p))), Prod.snd (Prod.snd p)))) c)))]) (C := (IntKind.i64 = IntKind.i64 ∧ (↑(Prod.fst p) : Int) + (1 : Int) = (↑(Prod.fst (Prod.fst p + (1 : Nat), Prod.fst (flushD (Prod.fst (Prod.snd p))), Prod.snd (Prod.snd p))) : Int)) ∧ Ob.disk ((fun d ↦ Prod.fst (flushD d)) (DiskD.armed (Prod.fst (Prod.snd p)) (Prod.snd (Prod.snd p)) c)) = Ob.disk (DiskD.armed (Prod.fst (Prod.snd (Prod.fst p + (1 : Nat), Prod.fst (flushD (Prod.fst (Prod.snd p))), Prod.snd (Prod.snd p)))) (Prod.snd (Prod.snd (Prod.fst p + (1 : Nat), Prod.fst (flushD (Prod.fst (Prod.snd p))), Prod.snd (Prod.snd p)))) c)) (hB := by kernel_rfl) (hC := by kernel_rfl) (hc := ?_) (he := by kernel_rfl) (ih (p.1 + 1, (flushD p.2.1).1, p.2.2) ⟨hi1, hcalm.flush.more (Nat.le_succ _) (by omega), hn1, hn2⟩ hi2)
      exact ⟨⟨rfl, Int.natCast_succ _⟩, congrArg Ob.disk hfl.1⟩
    · intro h5
      refine To.run hok 5000 (C := True) (by kernel_rfl) (by (and_intros <;> try first | exact True.intro | with_reducible rfl | omega | with_reducible assumption | (refine fits_i64 ?_ ?_ <;> omega) | (refine fits_u64 ?_ ?_ <;> omega))) ?_
      refine To.brn hok (OpD.kind (List.getD l (Int.toNat (↑(Prod.fst p) : Int)) default) = (0 : Int)) (C := True) (by kernel_rfl) (by kernel_rfl) (by (and_intros <;> try first | exact True.intro | with_reducible rfl | omega | with_reducible assumption | (refine fits_i64 ?_ ?_ <;> omega) | (refine fits_u64 ?_ ?_ <;> omega))) ?_ ?_
      · intro h6
        refine To.run hok 8 (C := fits IntKind.i64 ((↑(Prod.fst p) : Int) + (1 : Int))) (by kernel_rfl) (by (and_intros <;> try first | exact True.intro | with_reducible rfl | omega | with_reducible assumption | (refine fits_i64 ?_ ?_ <;> omega) | (refine fits_u64 ?_ ?_ <;> omega))) ?_
        refine To.backX (L := [LN.old (0 : Nat), LN.old (1 : Nat), LN.old (2 : Nat)]) (kp := [(63 : Nat), (62 : Nat), (61 : Nat), (11 : Nat), (9 : Nat), (8 : Nat), (7 : Nat), (5 : Nat)]) (ks := []) (ov := [((63 : Nat), AV.sy (Value.int IntKind.i64 (↑(Prod.fst (Prod.fst p + (1 : Nat), Prod.fst (Prod.snd p), Prod.snd (Prod.snd p))) : Int)))]) (ob := []) (C := IntKind.i64 = IntKind.i64 ∧ (↑(Prod.fst p) : Int) + (1 : Int) = (↑(Prod.fst (Prod.fst p + (1 : Nat), Prod.fst (Prod.snd p), Prod.snd (Prod.snd p))) : Int)) (hB := by kernel_rfl) (hC := by kernel_rfl) (hc := by (and_intros <;> try first | exact True.intro | with_reducible rfl | omega | with_reducible assumption | (refine fits_i64 ?_ ?_ <;> omega) | (refine fits_u64 ?_ ?_ <;> omega))) (he := by kernel_rfl) (ih (p.1 + 1, p.2.1, p.2.2) ⟨hi1, hcalm.more (Nat.le_succ _) (by omega), hn1, hn2⟩ hi2)
      · intro h6
        rcases write_armed hcalm hn1 c (l.getD (Int.toNat (p.1 : Int)) default).at_ (l.getD (Int.toNat (p.1 : Int)) default).b with ⟨hw1, hw2⟩ | ⟨z0, z6, hb, hw1, hw2⟩
        · have hs1 := congrArg Prod.snd hw1
          have hs2 := congrArg Prod.snd hw2
          have hf1 := congrArg Prod.fst hw1
          have hf2 := congrArg Prod.fst hw2
          refine To.run hok 5000 (C := (True ∧ DiskD.Fine (DiskD.armed (Prod.fst (Prod.snd p)) (Prod.snd (Prod.snd p)) c)) ∧ AV.by8 (OpD.b (List.getD l (Int.toNat (↑(Prod.fst p) : Int)) default)) = AV.by8 (OpD.b (List.getD l (Int.toNat (↑(Prod.fst p) : Int)) default)) ∧ AV.sy (Value.int IntKind.i64 (OpD.at_ (List.getD l (Int.toNat (↑(Prod.fst p) : Int)) default))) = AV.sy (Value.int IntKind.i64 (OpD.at_ (List.getD l (Int.toNat (↑(Prod.fst p) : Int)) default))) ∧ True ∧ DiskD.Fine (Prod.fst (Prod.snd p))) (by kernel_rfl) (by (and_intros <;> try first | exact True.intro | with_reducible rfl | omega | with_reducible assumption | (refine fits_i64 ?_ ?_ <;> omega) | (refine fits_u64 ?_ ?_ <;> omega))) ?_
          refine To.nod hok (Prod.snd (writeD (Prod.fst (Prod.snd p)) (OpD.at_ (List.getD l (Int.toNat (↑(Prod.fst p) : Int)) default)) (Prod.fst (OpD.b (List.getD l (Int.toNat (↑(Prod.fst p) : Int)) default), True))) = (0 : Int)) ?_ (C := True) (by kernel_rfl) (by (and_intros <;> try first | exact True.intro | with_reducible rfl | omega | with_reducible assumption | (refine fits_i64 ?_ ?_ <;> omega) | (refine fits_u64 ?_ ?_ <;> omega))) ?_
          · show ¬ (writeD _ _ _).2 = 0
            rw [hw1]; exact (by decide : ¬ (30 : Int) = 0)
          refine To.run hok 5000 (C := True) (by kernel_rfl) (by (and_intros <;> try first | exact True.intro | with_reducible rfl | omega | with_reducible assumption | (refine fits_i64 ?_ ?_ <;> omega) | (refine fits_u64 ?_ ?_ <;> omega))) ?_
          refine To.nod hok (Prod.snd (Prod.snd p) = (0 : Int)) (by (and_intros <;> try first | exact True.intro | with_reducible rfl | omega | with_reducible assumption | (refine fits_i64 ?_ ?_ <;> omega) | (refine fits_u64 ?_ ?_ <;> omega))) (C := True) (by kernel_rfl) (by (and_intros <;> try first | exact True.intro | with_reducible rfl | omega | with_reducible assumption | (refine fits_i64 ?_ ?_ <;> omega) | (refine fits_u64 ?_ ?_ <;> omega))) ?_
          refine To.run hok 5000 (C := True) (by kernel_rfl) (by (and_intros <;> try first | exact True.intro | with_reducible rfl | omega | with_reducible assumption | (refine fits_i64 ?_ ?_ <;> omega) | (refine fits_u64 ?_ ?_ <;> omega))) ?_
          refine To.non hok (Prod.snd (writeD (DiskD.armed (Prod.fst (Prod.snd p)) (Prod.snd (Prod.snd p)) c) (OpD.at_ (List.getD l (Int.toNat (↑(Prod.fst p) : Int)) default)) (Prod.fst (OpD.b (List.getD l (Int.toNat (↑(Prod.fst p) : Int)) default), True))) = Prod.snd (writeD (Prod.fst (Prod.snd p)) (OpD.at_ (List.getD l (Int.toNat (↑(Prod.fst p) : Int)) default)) (Prod.fst (OpD.b (List.getD l (Int.toNat (↑(Prod.fst p) : Int)) default), True)))) ?_ (C := True) (by kernel_rfl) (by (and_intros <;> try first | exact True.intro | with_reducible rfl | omega | with_reducible assumption | (refine fits_i64 ?_ ?_ <;> omega) | (refine fits_u64 ?_ ?_ <;> omega))) ?_
          · exact hs2.trans hs1.symm
          refine To.run hok 9 (C := fits IntKind.i64 ((↑(Prod.fst p) : Int) + (1 : Int))) (by kernel_rfl) (by (and_intros <;> try first | exact True.intro | with_reducible rfl | omega | with_reducible assumption | (refine fits_i64 ?_ ?_ <;> omega) | (refine fits_u64 ?_ ?_ <;> omega))) ?_
          refine To.backX (L := [LN.old (0 : Nat), LN.old (1 : Nat), LN.old (2 : Nat)]) (kp := [(63 : Nat), (62 : Nat), (61 : Nat), (11 : Nat), (9 : Nat), (8 : Nat), (7 : Nat), (5 : Nat)]) (ks := []) (ov := [((63 : Nat), AV.sy (Value.int IntKind.i64 (↑(Prod.fst (Prod.fst p + (1 : Nat), Prod.fst (Prod.snd p), Prod.snd (Prod.snd p))) : Int)))]) (ob := [((1 : Nat), AB.obj (Ob.disk (DiskD.armed (Prod.fst (Prod.snd (Prod.fst p + (1 : Nat), Prod.fst (Prod.snd p), Prod.snd (Prod.snd p)))) (Prod.snd (Prod.snd (Prod.fst p + (1 : Nat), Prod.fst (Prod.snd p), Prod.snd (Prod.snd p)))) c))), ((2 : Nat), AB.obj (Ob.disk (Prod.fst (Prod.snd (Prod.fst p + (1 : Nat), Prod.fst (Prod.snd p), Prod.snd (Prod.snd p))))))]) (C := (IntKind.i64 = IntKind.i64 ∧ (↑(Prod.fst p) : Int) + (1 : Int) = (↑(Prod.fst (Prod.fst p + (1 : Nat), Prod.fst (Prod.snd p), Prod.snd (Prod.snd p))) : Int)) ∧ Ob.disk (Prod.fst (writeD (DiskD.armed (Prod.fst (Prod.snd p)) (Prod.snd (Prod.snd p)) c) (OpD.at_ (List.getD l (Int.toNat (↑(Prod.fst p) : Int)) default)) (Prod.fst (OpD.b (List.getD l (Int.toNat (↑(Prod.fst p) : Int)) default), True)))) = Ob.disk (DiskD.armed (Prod.fst (Prod.snd (Prod.fst p + (1 : Nat), Prod.fst (Prod.snd p), Prod.snd (Prod.snd p)))) (Prod.snd (Prod.snd (Prod.fst p + (1 : Nat), Prod.fst (Prod.snd p), Prod.snd (Prod.snd p)))) c) ∧ Ob.disk (Prod.fst (writeD (Prod.fst (Prod.snd p)) (OpD.at_ (List.getD l (Int.toNat (↑(Prod.fst p) : Int)) default)) (Prod.fst (OpD.b (List.getD l (Int.toNat (↑(Prod.fst p) : Int)) default), True)))) = Ob.disk (Prod.fst (Prod.snd (Prod.fst p + (1 : Nat), Prod.fst (Prod.snd p), Prod.snd (Prod.snd p))))) (hB := by kernel_rfl) (hC := by kernel_rfl) (hc := ?_) (he := by kernel_rfl) (ih (p.1 + 1, p.2.1, p.2.2) ⟨hi1, hcalm.more (Nat.le_succ _) (by omega), hn1, hn2⟩ hi2)
          exact ⟨⟨rfl, Int.natCast_succ _⟩, congrArg Ob.disk hf2, congrArg Ob.disk hf1⟩
        · have hs1 := congrArg Prod.snd hw1
          have hput := hcalm.put (by omega) z0 (by rw [hcalm.six]; omega) hb
          rcases hw2 with ⟨hn, hw2⟩ | ⟨hn, hw2⟩
          · have hs2 := congrArg Prod.snd hw2
            have hf1 := congrArg Prod.fst hw1
            have hf2 := congrArg Prod.fst hw2
            refine To.run hok 5000 (C := (True ∧ DiskD.Fine (DiskD.armed (Prod.fst (Prod.snd p)) (Prod.snd (Prod.snd p)) c)) ∧ AV.by8 (OpD.b (List.getD l (Int.toNat (↑(Prod.fst p) : Int)) default)) = AV.by8 (OpD.b (List.getD l (Int.toNat (↑(Prod.fst p) : Int)) default)) ∧ AV.sy (Value.int IntKind.i64 (OpD.at_ (List.getD l (Int.toNat (↑(Prod.fst p) : Int)) default))) = AV.sy (Value.int IntKind.i64 (OpD.at_ (List.getD l (Int.toNat (↑(Prod.fst p) : Int)) default))) ∧ True ∧ DiskD.Fine (Prod.fst (Prod.snd p))) (by kernel_rfl) (by (and_intros <;> try first | exact True.intro | with_reducible rfl | omega | with_reducible assumption | (refine fits_i64 ?_ ?_ <;> omega) | (refine fits_u64 ?_ ?_ <;> omega))) ?_
            refine To.yesd hok (Prod.snd (writeD (Prod.fst (Prod.snd p)) (OpD.at_ (List.getD l (Int.toNat (↑(Prod.fst p) : Int)) default)) (Prod.fst (OpD.b (List.getD l (Int.toNat (↑(Prod.fst p) : Int)) default), True))) = (0 : Int)) (by (and_intros <;> try first | exact True.intro | with_reducible rfl | omega | with_reducible assumption | (refine fits_i64 ?_ ?_ <;> omega) | (refine fits_u64 ?_ ?_ <;> omega))) (C := True) (by kernel_rfl) (by (and_intros <;> try first | exact True.intro | with_reducible rfl | omega | with_reducible assumption | (refine fits_i64 ?_ ?_ <;> omega) | (refine fits_u64 ?_ ?_ <;> omega))) ?_
            refine To.run hok 5000 (C := fits IntKind.i64 (Prod.snd (Prod.snd p) - (1 : Int))) (by kernel_rfl) (by (and_intros <;> try first | exact True.intro | with_reducible rfl | omega | with_reducible assumption | (refine fits_i64 ?_ ?_ <;> omega) | (refine fits_u64 ?_ ?_ <;> omega))) ?_
            refine To.nod hok (Prod.snd (Prod.snd p) - (1 : Int) = (0 : Int)) (by (and_intros <;> try first | exact True.intro | with_reducible rfl | omega | with_reducible assumption | (refine fits_i64 ?_ ?_ <;> omega) | (refine fits_u64 ?_ ?_ <;> omega))) (C := True) (by kernel_rfl) (by (and_intros <;> try first | exact True.intro | with_reducible rfl | omega | with_reducible assumption | (refine fits_i64 ?_ ?_ <;> omega) | (refine fits_u64 ?_ ?_ <;> omega))) ?_
            refine To.run hok 5000 (C := True) (by kernel_rfl) (by (and_intros <;> try first | exact True.intro | with_reducible rfl | omega | with_reducible assumption | (refine fits_i64 ?_ ?_ <;> omega) | (refine fits_u64 ?_ ?_ <;> omega))) ?_
            refine To.non hok (Prod.snd (writeD (DiskD.armed (Prod.fst (Prod.snd p)) (Prod.snd (Prod.snd p)) c) (OpD.at_ (List.getD l (Int.toNat (↑(Prod.fst p) : Int)) default)) (Prod.fst (OpD.b (List.getD l (Int.toNat (↑(Prod.fst p) : Int)) default), True))) = Prod.snd (writeD (Prod.fst (Prod.snd p)) (OpD.at_ (List.getD l (Int.toNat (↑(Prod.fst p) : Int)) default)) (Prod.fst (OpD.b (List.getD l (Int.toNat (↑(Prod.fst p) : Int)) default), True)))) ?_ (C := True) (by kernel_rfl) (by (and_intros <;> try first | exact True.intro | with_reducible rfl | omega | with_reducible assumption | (refine fits_i64 ?_ ?_ <;> omega) | (refine fits_u64 ?_ ?_ <;> omega))) ?_
            · exact hs2.trans hs1.symm
            refine To.run hok 9 (C := fits IntKind.i64 ((↑(Prod.fst p) : Int) + (1 : Int))) (by kernel_rfl) (by (and_intros <;> try first | exact True.intro | with_reducible rfl | omega | with_reducible assumption | (refine fits_i64 ?_ ?_ <;> omega) | (refine fits_u64 ?_ ?_ <;> omega))) ?_
            refine To.backX (L := [LN.old (0 : Nat), LN.old (1 : Nat), LN.old (2 : Nat)]) (kp := [(63 : Nat), (62 : Nat), (61 : Nat), (11 : Nat), (9 : Nat), (8 : Nat), (7 : Nat), (5 : Nat)]) (ks := []) (ov := [((63 : Nat), AV.sy (Value.int IntKind.i64 (↑(Prod.fst (Prod.fst p + (1 : Nat), DiskD.put (Prod.fst (Prod.snd p)) (OpD.at_ (List.getD l (Int.toNat (↑(Prod.fst p) : Int)) default)) (OpD.b (List.getD l (Int.toNat (↑(Prod.fst p) : Int)) default)), Prod.snd (Prod.snd p) - (1 : Int))) : Int)))]) (ob := [((1 : Nat), AB.obj (Ob.disk (DiskD.armed (Prod.fst (Prod.snd (Prod.fst p + (1 : Nat), DiskD.put (Prod.fst (Prod.snd p)) (OpD.at_ (List.getD l (Int.toNat (↑(Prod.fst p) : Int)) default)) (OpD.b (List.getD l (Int.toNat (↑(Prod.fst p) : Int)) default)), Prod.snd (Prod.snd p) - (1 : Int)))) (Prod.snd (Prod.snd (Prod.fst p + (1 : Nat), DiskD.put (Prod.fst (Prod.snd p)) (OpD.at_ (List.getD l (Int.toNat (↑(Prod.fst p) : Int)) default)) (OpD.b (List.getD l (Int.toNat (↑(Prod.fst p) : Int)) default)), Prod.snd (Prod.snd p) - (1 : Int)))) c))), ((2 : Nat), AB.obj (Ob.disk (Prod.fst (Prod.snd (Prod.fst p + (1 : Nat), DiskD.put (Prod.fst (Prod.snd p)) (OpD.at_ (List.getD l (Int.toNat (↑(Prod.fst p) : Int)) default)) (OpD.b (List.getD l (Int.toNat (↑(Prod.fst p) : Int)) default)), Prod.snd (Prod.snd p) - (1 : Int))))))]) (C := (IntKind.i64 = IntKind.i64 ∧ (↑(Prod.fst p) : Int) + (1 : Int) = (↑(Prod.fst (Prod.fst p + (1 : Nat), DiskD.put (Prod.fst (Prod.snd p)) (OpD.at_ (List.getD l (Int.toNat (↑(Prod.fst p) : Int)) default)) (OpD.b (List.getD l (Int.toNat (↑(Prod.fst p) : Int)) default)), Prod.snd (Prod.snd p) - (1 : Int))) : Int)) ∧ Ob.disk (Prod.fst (writeD (DiskD.armed (Prod.fst (Prod.snd p)) (Prod.snd (Prod.snd p)) c) (OpD.at_ (List.getD l (Int.toNat (↑(Prod.fst p) : Int)) default)) (Prod.fst (OpD.b (List.getD l (Int.toNat (↑(Prod.fst p) : Int)) default), True)))) = Ob.disk (DiskD.armed (Prod.fst (Prod.snd (Prod.fst p + (1 : Nat), DiskD.put (Prod.fst (Prod.snd p)) (OpD.at_ (List.getD l (Int.toNat (↑(Prod.fst p) : Int)) default)) (OpD.b (List.getD l (Int.toNat (↑(Prod.fst p) : Int)) default)), Prod.snd (Prod.snd p) - (1 : Int)))) (Prod.snd (Prod.snd (Prod.fst p + (1 : Nat), DiskD.put (Prod.fst (Prod.snd p)) (OpD.at_ (List.getD l (Int.toNat (↑(Prod.fst p) : Int)) default)) (OpD.b (List.getD l (Int.toNat (↑(Prod.fst p) : Int)) default)), Prod.snd (Prod.snd p) - (1 : Int)))) c) ∧ Ob.disk (Prod.fst (writeD (Prod.fst (Prod.snd p)) (OpD.at_ (List.getD l (Int.toNat (↑(Prod.fst p) : Int)) default)) (Prod.fst (OpD.b (List.getD l (Int.toNat (↑(Prod.fst p) : Int)) default), True)))) = Ob.disk (Prod.fst (Prod.snd (Prod.fst p + (1 : Nat), DiskD.put (Prod.fst (Prod.snd p)) (OpD.at_ (List.getD l (Int.toNat (↑(Prod.fst p) : Int)) default)) (OpD.b (List.getD l (Int.toNat (↑(Prod.fst p) : Int)) default)), Prod.snd (Prod.snd p) - (1 : Int))))) (hB := by kernel_rfl) (hC := by kernel_rfl) (hc := ?_) (he := by kernel_rfl) (ih (p.1 + 1, p.2.1.put (l.getD (Int.toNat (p.1 : Int)) default).at_ (l.getD (Int.toNat (p.1 : Int)) default).b, p.2.2 - 1) ⟨hi1, hput, by show 1 ≤ p.2.2 - 1; omega, by show p.2.2 - 1 ≤ 40; omega⟩ hi2)
            exact ⟨⟨rfl, Int.natCast_succ _⟩, congrArg Ob.disk hf2, congrArg Ob.disk hf1⟩
          · have hs2 := congrArg Prod.snd hw2
            have hf1 := congrArg Prod.fst hw1
            have hf2 := congrArg Prod.fst hw2
            have hfp : (writeD p.2.1 (l.getD (Int.toNat (p.1 : Int)) default).at_ (l.getD (Int.toNat (p.1 : Int)) default).b).1.Fine := by rw [hw1]; exact hput.fine
            refine To.run hok 5000 (C := (True ∧ DiskD.Fine (DiskD.armed (Prod.fst (Prod.snd p)) (Prod.snd (Prod.snd p)) c)) ∧ AV.by8 (OpD.b (List.getD l (Int.toNat (↑(Prod.fst p) : Int)) default)) = AV.by8 (OpD.b (List.getD l (Int.toNat (↑(Prod.fst p) : Int)) default)) ∧ AV.sy (Value.int IntKind.i64 (OpD.at_ (List.getD l (Int.toNat (↑(Prod.fst p) : Int)) default))) = AV.sy (Value.int IntKind.i64 (OpD.at_ (List.getD l (Int.toNat (↑(Prod.fst p) : Int)) default))) ∧ True ∧ DiskD.Fine (Prod.fst (Prod.snd p))) (by kernel_rfl) (by (and_intros <;> try first | exact True.intro | with_reducible rfl | omega | with_reducible assumption | (refine fits_i64 ?_ ?_ <;> omega) | (refine fits_u64 ?_ ?_ <;> omega))) ?_
            refine To.yesd hok (Prod.snd (writeD (Prod.fst (Prod.snd p)) (OpD.at_ (List.getD l (Int.toNat (↑(Prod.fst p) : Int)) default)) (Prod.fst (OpD.b (List.getD l (Int.toNat (↑(Prod.fst p) : Int)) default), True))) = (0 : Int)) (by (and_intros <;> try first | exact True.intro | with_reducible rfl | omega | with_reducible assumption | (refine fits_i64 ?_ ?_ <;> omega) | (refine fits_u64 ?_ ?_ <;> omega))) (C := True) (by kernel_rfl) (by (and_intros <;> try first | exact True.intro | with_reducible rfl | omega | with_reducible assumption | (refine fits_i64 ?_ ?_ <;> omega) | (refine fits_u64 ?_ ?_ <;> omega))) ?_
            refine To.run hok 5000 (C := fits IntKind.i64 (Prod.snd (Prod.snd p) - (1 : Int))) (by kernel_rfl) (by (and_intros <;> try first | exact True.intro | with_reducible rfl | omega | with_reducible assumption | (refine fits_i64 ?_ ?_ <;> omega) | (refine fits_u64 ?_ ?_ <;> omega))) ?_
            refine To.yesd hok (Prod.snd (Prod.snd p) - (1 : Int) = (0 : Int)) (by (and_intros <;> try first | exact True.intro | with_reducible rfl | omega | with_reducible assumption | (refine fits_i64 ?_ ?_ <;> omega) | (refine fits_u64 ?_ ?_ <;> omega))) (C := True) (by kernel_rfl) (by (and_intros <;> try first | exact True.intro | with_reducible rfl | omega | with_reducible assumption | (refine fits_i64 ?_ ?_ <;> omega) | (refine fits_u64 ?_ ?_ <;> omega))) ?_
            refine To.run hok 5000 (C := (∀ (r : Nat), r < List.length (CrashD.keep c) → intsF (CrashD.keep c) r = intsF (numsF (List.length (CrashD.keep c)) (intsF (CrashD.keep c))) r) ∧ DiskD.Fine (Prod.fst (writeD (Prod.fst (Prod.snd p)) (OpD.at_ (List.getD l (Int.toNat (↑(Prod.fst p) : Int)) default)) (Prod.fst (OpD.b (List.getD l (Int.toNat (↑(Prod.fst p) : Int)) default), True)))) ∧ List.length (Prod.fst (numsF (List.length (CrashD.keep c)) (intsF (CrashD.keep c)), ∀ (r : Nat), r < List.length (CrashD.keep c) → intsF (CrashD.keep c) r = intsF (numsF (List.length (CrashD.keep c)) (intsF (CrashD.keep c))) r)) ≤ (1000000 : Nat) ∧ fits IntKind.i64 (CrashD.at_ c)) (by kernel_rfl) ?_ ?_; (and_intros <;> try first | exact True.intro | with_reducible rfl | omega | with_reducible assumption | (refine fits_i64 ?_ ?_ <;> omega) | (refine fits_u64 ?_ ?_ <;> omega))
            · intro r _; rw [hck]
            · show (numsF _ _).length ≤ 1000000
              rw [numsF_len]; omega
            · exact hc.at_
            refine To.non hok (Prod.snd (writeD (DiskD.armed (Prod.fst (Prod.snd p)) (Prod.snd (Prod.snd p)) c) (OpD.at_ (List.getD l (Int.toNat (↑(Prod.fst p) : Int)) default)) (Prod.fst (OpD.b (List.getD l (Int.toNat (↑(Prod.fst p) : Int)) default), True))) = (31 : Int)) (by (and_intros <;> try first | exact True.intro | with_reducible rfl | omega | with_reducible assumption | (refine fits_i64 ?_ ?_ <;> omega) | (refine fits_u64 ?_ ?_ <;> omega))) (C := True) (by kernel_rfl) (by (and_intros <;> try first | exact True.intro | with_reducible rfl | omega | with_reducible assumption | (refine fits_i64 ?_ ?_ <;> omega) | (refine fits_u64 ?_ ?_ <;> omega))) ?_
            refine To.run hok 5000 (C := True) (by kernel_rfl) (by (and_intros <;> try first | exact True.intro | with_reducible rfl | omega | with_reducible assumption | (refine fits_i64 ?_ ?_ <;> omega) | (refine fits_u64 ?_ ?_ <;> omega))) ?_
            refine To.non hok (Prod.snd (downD (Prod.fst (writeD (Prod.fst (Prod.snd p)) (OpD.at_ (List.getD l (Int.toNat (↑(Prod.fst p) : Int)) default)) (Prod.fst (OpD.b (List.getD l (Int.toNat (↑(Prod.fst p) : Int)) default), True)))) { w := (1 : Int) + wr % (40 : Int), keep := Prod.fst (numsF (List.length (CrashD.keep c)) (intsF (CrashD.keep c)), ∀ (r : Nat), r < List.length (CrashD.keep c) → intsF (CrashD.keep c) r = intsF (numsF (List.length (CrashD.keep c)) (intsF (CrashD.keep c))) r), torn := CrashD.torn c, at_ := CrashD.at_ c }) = (0 : Int)) ?_ (C := True) (by kernel_rfl) (by (and_intros <;> try first | exact True.intro | with_reducible rfl | omega | with_reducible assumption | (refine fits_i64 ?_ ?_ <;> omega) | (refine fits_u64 ?_ ?_ <;> omega))) ?_
            · show (downD (writeD p.2.1 (l.getD (Int.toNat (p.1 : Int)) default).at_ (l.getD (Int.toNat (p.1 : Int)) default).b).1 _).2 = 0
              unfold downD
              rw [hw1, if_neg (by show ¬ p.2.1.down = true; simp [hcalm.up])]
            refine To.run hok 2 (C := True) (by kernel_rfl) (by (and_intros <;> try first | exact True.intro | with_reducible rfl | omega | with_reducible assumption | (refine fits_i64 ?_ ?_ <;> omega) | (refine fits_u64 ?_ ?_ <;> omega))) ?_
            refine To.run hok 1 (C := True) (by kernel_rfl) (by (and_intros <;> try first | exact True.intro | with_reducible rfl | omega | with_reducible assumption | (refine fits_i64 ?_ ?_ <;> omega) | (refine fits_u64 ?_ ?_ <;> omega))) ?_
            obtain ⟨dX, hdX⟩ : ∃ d, d = fallD (p.2.1.put (l.getD (Int.toNat (p.1 : Int)) default).at_ (l.getD (Int.toNat (p.1 : Int)) default).b) c := ⟨_, rfl⟩
            obtain ⟨dY, hdY⟩ : ∃ d, d = dX := ⟨_, rfl⟩
            have hX := hf2.trans hdX.symm
            have hY : (downD (writeD p.2.1 (l.getD (Int.toNat (p.1 : Int)) default).at_ (l.getD (Int.toNat (p.1 : Int)) default).b).1 ⟨1 + wr % 40, numsF c.keep.length (intsF c.keep), c.torn, c.at_⟩).1 = dY := by
              rw [hf1, hck, hdY, hdX, ← fall_w _ c (1 + wr % 40)]
              unfold downD
              rw [if_neg (by show ¬ p.2.1.down = true; simp [hcalm.up])]
            have hXf : dX.Fine := by rw [hdX]; exact (hput.in_.fall c).fine
            have hXY : Post dX dY := by
              rw [hdY]
              exact ⟨hXf, hXf, rfl, rfl, rfl, rfl, by rw [hdX]; exact (fallL_len _ _ _ _).trans hput.six⟩
            refine To.loopX (L := [LN.old (1 : Nat), LN.old (2 : Nat)]) (kp := [(11 : Nat), (9 : Nat), (7 : Nat)]) (ks := []) (C := Ob.disk (Prod.fst (writeD (DiskD.armed (Prod.fst (Prod.snd p)) (Prod.snd (Prod.snd p)) c) (OpD.at_ (List.getD l (Int.toNat (↑(Prod.fst p) : Int)) default)) (Prod.fst (OpD.b (List.getD l (Int.toNat (↑(Prod.fst p) : Int)) default), True)))) = Ob.disk (Prod.fst (dX, dY)) ∧ Ob.disk (Prod.fst (downD (Prod.fst (writeD (Prod.fst (Prod.snd p)) (OpD.at_ (List.getD l (Int.toNat (↑(Prod.fst p) : Int)) default)) (Prod.fst (OpD.b (List.getD l (Int.toNat (↑(Prod.fst p) : Int)) default), True)))) { w := (1 : Int) + wr % (40 : Int), keep := Prod.fst (numsF (List.length (CrashD.keep c)) (intsF (CrashD.keep c)), ∀ (r : Nat), r < List.length (CrashD.keep c) → intsF (CrashD.keep c) r = intsF (numsF (List.length (CrashD.keep c)) (intsF (CrashD.keep c))) r), torn := CrashD.torn c, at_ := CrashD.at_ c })) = Ob.disk (Prod.snd (dX, dY))) (st := fun (a : DiskD × DiskD) => (⟨⟨13, 150, slotT 150 [(7, AV.v (Value.bool true)), (9, AV.ptr (nat_lit 0) (nat_lit 0)), (11, AV.ptr (nat_lit 1) (nat_lit 0))], ARg.no, [Go.Proofs.Ytnkjhicokcmmpaa.Sm.AItem.code (subC (bodyC Try.prog 13) [1, 1, 0, 1, 1]), Go.Proofs.Ytnkjhicokcmmpaa.Sm.AItem.code (subC (bodyC Try.prog 13) [1, 1, 1, 1, 1, 1, 1, 1, 0, 1, 0, 0, 1, 0, 1]), Go.Proofs.Ytnkjhicokcmmpaa.Sm.AItem.code (subC (bodyC Try.prog 13) [1, 1, 1, 1, 1, 1, 1, 1, 0, 1, 0, 0, 1, 1, 0, 0, 1, 1, 1, 1, 1, 1]), (AItem.inBlock 1), Go.Proofs.Ytnkjhicokcmmpaa.Sm.AItem.code (subC (bodyC Try.prog 13) [1, 1, 1, 1, 1, 1, 1, 1, 0, 1, 0, 0, 1, 1, 1]), Go.Proofs.Ytnkjhicokcmmpaa.Sm.AItem.inLoop (subC (bodyC Try.prog 13) [1, 1, 1, 1, 1, 1, 1, 1, 0, 1, 0, 0]), (AItem.inBlock 0), Go.Proofs.Ytnkjhicokcmmpaa.Sm.AItem.code (subC (bodyC Try.prog 13) [1, 1, 1, 1, 1, 1, 1, 1, 1])], [], false, none, (0 : Nat)⟩, [], memF [AB.obj (Ob.disk (Prod.fst a)), AB.obj (Ob.disk (Prod.snd a))] 0 Tr.e, 2⟩ : ASt)) (hB := by kernel_rfl) (hC := by kernel_rfl) (he := by kernel_rfl) (hI := by (and_intros <;> try first | exact True.intro | with_reducible rfl | omega | with_reducible assumption | (refine fits_i64 ?_ ?_ <;> omega) | (refine fits_u64 ?_ ?_ <;> omega))) (hc := ?_) (step := ?_) (fun (q : DiskD × DiskD) => []) (fun q => [(0, .obj (.disk q.1)), (1, .obj (.disk q.2))]) (fun q => Post q.1 q.2) (fun _ => 0) ((dX, dY))
            · exact ⟨congrArg Ob.disk hX, congrArg Ob.disk hY⟩
            intro q hq _
            have q1 := hq.fd
            have q2 := hq.fe
            have q3 := hq.down
            have q4 := hq.writes
            have q5 := hq.waits
            have q6 : (bootD q.1).Fine := ⟨q1.ok.of rfl rfl, q1.cw, q1.keep, q1.at_, q1.wr⟩
            have q7 : (bootD q.2).Fine := ⟨q2.ok.of rfl rfl, q2.cw, q2.keep, q2.at_, q2.wr⟩
            have hrd : ∀ z, readD (bootD q.1) z = readD (bootD q.2) z := fun z => Alike.read (d := bootD q.1) (e := bootD q.2) ⟨hq.stays, fun z => congrArg (fun m => getM m z) q5⟩ rfl z
            have h6 := hq.six
            have hr0 : ∀ z : Int, 0 ≤ z → z < 6 → readD (bootD q.2) z = (some ((getM q.2.waits z).getD (q.2.stays.getD z.toNat [])), 0) := fun z hz0 hz6 => by
              unfold readD
              rw [if_neg (by simp [bootD]), if_neg (by omega), if_neg (by show ¬ ¬ z < (q.2.stays.length : Int); omega)]
              rfl
            refine To.run hok 5000 (C := True) (by kernel_rfl) (by (and_intros <;> try first | exact True.intro | with_reducible rfl | omega | with_reducible assumption | (refine fits_i64 ?_ ?_ <;> omega) | (refine fits_u64 ?_ ?_ <;> omega))) ?_
            refine To.br hok (!DiskD.down (Prod.fst q)) (C := DiskD.Fine (Prod.fst q)) (by kernel_rfl) (by kernel_rfl) (by (and_intros <;> try first | exact True.intro | with_reducible rfl | omega | with_reducible assumption | (refine fits_i64 ?_ ?_ <;> omega) | (refine fits_u64 ?_ ?_ <;> omega))) ?_ ?_
            · intro h7
              refine To.run hok 5000 (C := True) (by kernel_rfl) (by (and_intros <;> try first | exact True.intro | with_reducible rfl | omega | with_reducible assumption | (refine fits_i64 ?_ ?_ <;> omega) | (refine fits_u64 ?_ ?_ <;> omega))) ?_
              refine To.yes hok (!DiskD.down (Prod.snd q)) ?_ (C := DiskD.Fine (Prod.snd q)) (by kernel_rfl) (by (and_intros <;> try first | exact True.intro | with_reducible rfl | omega | with_reducible assumption | (refine fits_i64 ?_ ?_ <;> omega) | (refine fits_u64 ?_ ?_ <;> omega))) ?_
              · rw [← q3]; exact h7
              refine To.run hok 5000 (C := DiskD.Fine (Prod.fst q) ∧ DiskD.Fine (Prod.snd q)) (by kernel_rfl) (by (and_intros <;> try first | exact True.intro | with_reducible rfl | omega | with_reducible assumption | (refine fits_i64 ?_ ?_ <;> omega) | (refine fits_u64 ?_ ?_ <;> omega))) ?_
              refine To.non hok ((fun x ↦ DiskD.writes x) (Prod.fst q) = (fun x ↦ DiskD.writes x) (Prod.snd q)) (by (and_intros <;> try first | exact True.intro | with_reducible rfl | omega | with_reducible assumption | (refine fits_i64 ?_ ?_ <;> omega) | (refine fits_u64 ?_ ?_ <;> omega))) (C := True) (by kernel_rfl) (by (and_intros <;> try first | exact True.intro | with_reducible rfl | omega | with_reducible assumption | (refine fits_i64 ?_ ?_ <;> omega) | (refine fits_u64 ?_ ?_ <;> omega))) ?_
              refine To.run hok 5000 (C := DiskD.Fine (id (Prod.fst q)) ∧ DiskD.Fine (id (Prod.snd q))) (by kernel_rfl) ?_ ?_; (and_intros <;> try first | exact True.intro | with_reducible rfl | omega | with_reducible assumption | (refine fits_i64 ?_ ?_ <;> omega) | (refine fits_u64 ?_ ?_ <;> omega))
              · exact q1
              · exact q2
              refine To.yesd hok (Prod.fst (numsF (List.length (DiskD.waits (id (Prod.fst q)))) (intsF (keysD (DiskD.waits (id (Prod.fst q))))), ∀ (r : Nat), r < List.length (DiskD.waits (id (Prod.fst q))) → intsF (keysD (DiskD.waits (id (Prod.fst q)))) r = intsF (numsF (List.length (DiskD.waits (id (Prod.fst q)))) (intsF (keysD (DiskD.waits (id (Prod.fst q)))))) r) = Prod.fst (numsF (List.length (DiskD.waits (id (Prod.snd q)))) (intsF (keysD (DiskD.waits (id (Prod.snd q))))), ∀ (r : Nat), r < List.length (DiskD.waits (id (Prod.snd q))) → intsF (keysD (DiskD.waits (id (Prod.snd q)))) r = intsF (numsF (List.length (DiskD.waits (id (Prod.snd q)))) (intsF (keysD (DiskD.waits (id (Prod.snd q)))))) r)) ?_ (C := (∀ (r : Nat), r < List.length (DiskD.waits (id (Prod.fst q))) → intsF (keysD (DiskD.waits (id (Prod.fst q)))) r = intsF (numsF (List.length (DiskD.waits (id (Prod.fst q)))) (intsF (keysD (DiskD.waits (id (Prod.fst q)))))) r) ∧ (∀ (r : Nat), r < List.length (DiskD.waits (id (Prod.snd q))) → intsF (keysD (DiskD.waits (id (Prod.snd q)))) r = intsF (numsF (List.length (DiskD.waits (id (Prod.snd q)))) (intsF (keysD (DiskD.waits (id (Prod.snd q)))))) r) ∧ List.length (Prod.fst (numsF (List.length (DiskD.waits (id (Prod.fst q)))) (intsF (keysD (DiskD.waits (id (Prod.fst q))))), ∀ (r : Nat), r < List.length (DiskD.waits (id (Prod.fst q))) → intsF (keysD (DiskD.waits (id (Prod.fst q)))) r = intsF (numsF (List.length (DiskD.waits (id (Prod.fst q)))) (intsF (keysD (DiskD.waits (id (Prod.fst q)))))) r)) ≤ (1000000 : Nat)) (by kernel_rfl) ?_ ?_; rotate_left; (and_intros <;> try first | exact True.intro | with_reducible rfl | omega | with_reducible assumption | (refine fits_i64 ?_ ?_ <;> omega) | (refine fits_u64 ?_ ?_ <;> omega)); rotate_right
              · show numsF q.1.waits.length (intsF (keysD q.1.waits)) = numsF q.2.waits.length (intsF (keysD q.2.waits))
                rw [q5]
              · intro r _; rw [nums_keys]
              · intro r _; rw [nums_keys]
              · show (numsF _ _).length ≤ 1000000
                rw [numsF_len]; have := q1.ok.len; show q.1.waits.length ≤ 1000000; omega
              refine To.run hok 22 (C := DiskD.Fine (id (Prod.fst q)) ∧ DiskD.Fine (id (Prod.snd q))) (by kernel_rfl) ?_ ?_; (and_intros <;> try first | exact True.intro | with_reducible rfl | omega | with_reducible assumption | (refine fits_i64 ?_ ?_ <;> omega) | (refine fits_u64 ?_ ?_ <;> omega))
              · exact q1
              · exact q2
              refine To.loopX (L := [LN.old (0 : Nat), LN.old (1 : Nat)]) (kp := [(18 : Nat), (11 : Nat), (9 : Nat), (7 : Nat)]) (ks := []) (C := (IntKind.i64 = IntKind.i64 ∧ (0 : Int) = (↑(0 : Nat) : Int)) ∧ Ob.disk (bootD (id (Prod.fst q))) = Ob.disk (bootD (Prod.fst q)) ∧ Ob.disk (bootD (id (Prod.snd q))) = Ob.disk (bootD (Prod.snd q))) (st := fun (a : Nat) => (⟨⟨13, 150, slotT 150 [(7, AV.v (Value.bool true)), (9, AV.ptr (nat_lit 0) (nat_lit 0)), (11, AV.ptr (nat_lit 1) (nat_lit 0)), (18, AV.sy (Value.int IntKind.i64 (↑a : Int)))], ARg.no, [Go.Proofs.Ytnkjhicokcmmpaa.Sm.AItem.code (subC (bodyC Try.prog 13) [1, 1, 1, 1, 1, 1, 1, 1, 1, 1, 1, 1, 0, 1, 0, 0]), Go.Proofs.Ytnkjhicokcmmpaa.Sm.AItem.inLoop (subC (bodyC Try.prog 13) [1, 1, 1, 1, 1, 1, 1, 1, 1, 1, 1, 1, 0, 1, 0, 0]), (AItem.inBlock 2), Go.Proofs.Ytnkjhicokcmmpaa.Sm.AItem.code (subC (bodyC Try.prog 13) [1, 1, 1, 1, 1, 1, 1, 1, 1, 1, 1, 1, 1])], [], false, none, (0 : Nat)⟩, [], memF [AB.obj (Ob.disk (bootD (Prod.fst q))), AB.obj (Ob.disk (bootD (Prod.snd q)))] 0 Tr.e, 2⟩ : ASt)) (hB := by kernel_rfl) (hC := by kernel_rfl) (he := by kernel_rfl) (hI := by (and_intros <;> try first | exact True.intro | with_reducible rfl | omega | with_reducible assumption | (refine fits_i64 ?_ ?_ <;> omega) | (refine fits_u64 ?_ ?_ <;> omega))) (hc := ?_) (step := ?_) (fun (k : Nat) => [(18, ivA (k : Int))]) (fun _ => [(0, .obj (.disk (bootD q.1))), (1, .obj (.disk (bootD q.2)))]) (fun k => k ≤ 6) (fun k => 6 - k) (0)
              · exact ⟨⟨rfl, rfl⟩, rfl, rfl⟩
              intro k hk ihk
              refine To.run hok 5000 (C := True) (by kernel_rfl) (by (and_intros <;> try first | exact True.intro | with_reducible rfl | omega | with_reducible assumption | (refine fits_i64 ?_ ?_ <;> omega) | (refine fits_u64 ?_ ?_ <;> omega))) ?_
              refine To.brd hok ((↑k : Int) < (6 : Int)) (C := True) (by kernel_rfl) (by kernel_rfl) (by (and_intros <;> try first | exact True.intro | with_reducible rfl | omega | with_reducible assumption | (refine fits_i64 ?_ ?_ <;> omega) | (refine fits_u64 ?_ ?_ <;> omega))) ?_ ?_
              · intro h8
                have hk1 : k + 1 ≤ 6 := by omega
                have hk2 : 6 - (k + 1) < 6 - k := by omega
                have hr1 := hr0 (k : Int) (by omega) (by omega)
                have hr2 := (hrd (k : Int)).trans hr1
                refine To.run hok 5000 (C := True) (by kernel_rfl) (by (and_intros <;> try first | exact True.intro | with_reducible rfl | omega | with_reducible assumption | (refine fits_i64 ?_ ?_ <;> omega) | (refine fits_u64 ?_ ?_ <;> omega))) ?_
                refine To.yes hok (Option.isSome (Prod.fst (readD (bootD (Prod.snd q)) (↑k : Int)))) ?_ (C := DiskD.Fine (bootD (Prod.snd q))) (by kernel_rfl) (by (and_intros <;> try first | exact True.intro | with_reducible rfl | omega | with_reducible assumption | (refine fits_i64 ?_ ?_ <;> omega) | (refine fits_u64 ?_ ?_ <;> omega))) ?_
                · show (readD (bootD q.2) (k : Int)).1.isSome = true
                  rw [hr1]; rfl
                refine To.run hok 5000 (C := List.length (Option.getD (Prod.fst (readD (bootD (Prod.snd q)) (↑k : Int))) []) ≤ List.length (Option.getD (Prod.fst (readD (bootD (Prod.snd q)) (↑k : Int))) [])) (by kernel_rfl) (by (and_intros <;> try first | exact True.intro | with_reducible rfl | omega | with_reducible assumption | (refine fits_i64 ?_ ?_ <;> omega) | (refine fits_u64 ?_ ?_ <;> omega))) ?_
                refine To.yes hok (Option.isSome (Prod.fst (readD (bootD (Prod.fst q)) (↑k : Int)))) ?_ (C := DiskD.Fine (bootD (Prod.fst q))) (by kernel_rfl) (by (and_intros <;> try first | exact True.intro | with_reducible rfl | omega | with_reducible assumption | (refine fits_i64 ?_ ?_ <;> omega) | (refine fits_u64 ?_ ?_ <;> omega))) ?_
                · show (readD (bootD q.1) (k : Int)).1.isSome = true
                  rw [hr2]; rfl
                refine To.run hok 5000 (C := List.length (Option.getD (Prod.fst (readD (bootD (Prod.fst q)) (↑k : Int))) []) ≤ List.length (Option.getD (Prod.fst (readD (bootD (Prod.fst q)) (↑k : Int))) [])) (by kernel_rfl) (by (and_intros <;> try first | exact True.intro | with_reducible rfl | omega | with_reducible assumption | (refine fits_i64 ?_ ?_ <;> omega) | (refine fits_u64 ?_ ?_ <;> omega))) ?_
                refine To.yesd hok (Array.toList (ByteArray.data (str (List.take (List.length (Option.getD (Prod.fst (readD (bootD (Prod.fst q)) (↑k : Int))) [])) (Option.getD (Prod.fst (readD (bootD (Prod.fst q)) (↑k : Int))) [])))) = Array.toList (ByteArray.data (str (List.take (List.length (Option.getD (Prod.fst (readD (bootD (Prod.snd q)) (↑k : Int))) [])) (Option.getD (Prod.fst (readD (bootD (Prod.snd q)) (↑k : Int))) []))))) ?_ (C := True) (by kernel_rfl) (by (and_intros <;> try first | exact True.intro | with_reducible rfl | omega | with_reducible assumption | (refine fits_i64 ?_ ?_ <;> omega) | (refine fits_u64 ?_ ?_ <;> omega))) ?_
                · show (str (List.take ((readD (bootD q.1) (k : Int)).1.getD []).length ((readD (bootD q.1) (k : Int)).1.getD []))).data.toList = (str (List.take ((readD (bootD q.2) (k : Int)).1.getD []).length ((readD (bootD q.2) (k : Int)).1.getD []))).data.toList
                  rw [hrd]
                refine To.run hok 16 (C := fits IntKind.i64 ((↑k : Int) + (1 : Int))) (by kernel_rfl) (by (and_intros <;> try first | exact True.intro | with_reducible rfl | omega | with_reducible assumption | (refine fits_i64 ?_ ?_ <;> omega) | (refine fits_u64 ?_ ?_ <;> omega))) ?_
                refine To.backX (L := [LN.old (0 : Nat), LN.old (1 : Nat)]) (kp := [(18 : Nat), (11 : Nat), (9 : Nat), (7 : Nat)]) (ks := []) (ov := [((18 : Nat), AV.sy (Value.int IntKind.i64 (↑(k + (1 : Nat)) : Int)))]) (ob := []) (C := IntKind.i64 = IntKind.i64 ∧ (↑k : Int) + (1 : Int) = (↑(k + (1 : Nat)) : Int)) (hB := by kernel_rfl) (hC := by kernel_rfl) (hc := by (and_intros <;> try first | exact True.intro | with_reducible rfl | omega | with_reducible assumption | (refine fits_i64 ?_ ?_ <;> omega) | (refine fits_u64 ?_ ?_ <;> omega))) (he := by kernel_rfl) (ihk (k + 1) hk1 hk2)
              · intro h8
                refine To.run hok 5000 (C := True) (by kernel_rfl) (by (and_intros <;> try first | exact True.intro | with_reducible rfl | omega | with_reducible assumption | (refine fits_i64 ?_ ?_ <;> omega) | (refine fits_u64 ?_ ?_ <;> omega))) ?_
                refine To.end (AV.v (Value.bool true)) (by kernel_rfl) ?_
                rfl
            · intro h7
              refine To.run hok 5000 (C := True) (by kernel_rfl) (by (and_intros <;> try first | exact True.intro | with_reducible rfl | omega | with_reducible assumption | (refine fits_i64 ?_ ?_ <;> omega) | (refine fits_u64 ?_ ?_ <;> omega))) ?_
              refine To.no hok (!DiskD.down (Prod.snd q)) ?_ (C := DiskD.Fine (Prod.snd q)) (by kernel_rfl) (by (and_intros <;> try first | exact True.intro | with_reducible rfl | omega | with_reducible assumption | (refine fits_i64 ?_ ?_ <;> omega) | (refine fits_u64 ?_ ?_ <;> omega))) ?_
              · rw [← q3]; exact h7
              refine To.run hok 5000 (C := DiskD.Fine (Prod.fst q) ∧ DiskD.Fine (Prod.snd q)) (by kernel_rfl) (by (and_intros <;> try first | exact True.intro | with_reducible rfl | omega | with_reducible assumption | (refine fits_i64 ?_ ?_ <;> omega) | (refine fits_u64 ?_ ?_ <;> omega))) ?_
              refine To.non hok ((fun x ↦ DiskD.writes x) (Prod.fst q) = (fun x ↦ DiskD.writes x) (Prod.snd q)) (by (and_intros <;> try first | exact True.intro | with_reducible rfl | omega | with_reducible assumption | (refine fits_i64 ?_ ?_ <;> omega) | (refine fits_u64 ?_ ?_ <;> omega))) (C := True) (by kernel_rfl) (by (and_intros <;> try first | exact True.intro | with_reducible rfl | omega | with_reducible assumption | (refine fits_i64 ?_ ?_ <;> omega) | (refine fits_u64 ?_ ?_ <;> omega))) ?_
              refine To.run hok 5000 (C := DiskD.Fine (id (Prod.fst q)) ∧ DiskD.Fine (id (Prod.snd q))) (by kernel_rfl) ?_ ?_; (and_intros <;> try first | exact True.intro | with_reducible rfl | omega | with_reducible assumption | (refine fits_i64 ?_ ?_ <;> omega) | (refine fits_u64 ?_ ?_ <;> omega))
              · exact q1
              · exact q2
              refine To.yesd hok (Prod.fst (numsF (List.length (DiskD.waits (id (Prod.fst q)))) (intsF (keysD (DiskD.waits (id (Prod.fst q))))), ∀ (r : Nat), r < List.length (DiskD.waits (id (Prod.fst q))) → intsF (keysD (DiskD.waits (id (Prod.fst q)))) r = intsF (numsF (List.length (DiskD.waits (id (Prod.fst q)))) (intsF (keysD (DiskD.waits (id (Prod.fst q)))))) r) = Prod.fst (numsF (List.length (DiskD.waits (id (Prod.snd q)))) (intsF (keysD (DiskD.waits (id (Prod.snd q))))), ∀ (r : Nat), r < List.length (DiskD.waits (id (Prod.snd q))) → intsF (keysD (DiskD.waits (id (Prod.snd q)))) r = intsF (numsF (List.length (DiskD.waits (id (Prod.snd q)))) (intsF (keysD (DiskD.waits (id (Prod.snd q)))))) r)) ?_ (C := (∀ (r : Nat), r < List.length (DiskD.waits (id (Prod.fst q))) → intsF (keysD (DiskD.waits (id (Prod.fst q)))) r = intsF (numsF (List.length (DiskD.waits (id (Prod.fst q)))) (intsF (keysD (DiskD.waits (id (Prod.fst q)))))) r) ∧ (∀ (r : Nat), r < List.length (DiskD.waits (id (Prod.snd q))) → intsF (keysD (DiskD.waits (id (Prod.snd q)))) r = intsF (numsF (List.length (DiskD.waits (id (Prod.snd q)))) (intsF (keysD (DiskD.waits (id (Prod.snd q)))))) r) ∧ List.length (Prod.fst (numsF (List.length (DiskD.waits (id (Prod.fst q)))) (intsF (keysD (DiskD.waits (id (Prod.fst q))))), ∀ (r : Nat), r < List.length (DiskD.waits (id (Prod.fst q))) → intsF (keysD (DiskD.waits (id (Prod.fst q)))) r = intsF (numsF (List.length (DiskD.waits (id (Prod.fst q)))) (intsF (keysD (DiskD.waits (id (Prod.fst q)))))) r)) ≤ (1000000 : Nat)) (by kernel_rfl) ?_ ?_; rotate_left; (and_intros <;> try first | exact True.intro | with_reducible rfl | omega | with_reducible assumption | (refine fits_i64 ?_ ?_ <;> omega) | (refine fits_u64 ?_ ?_ <;> omega)); rotate_right
              · show numsF q.1.waits.length (intsF (keysD q.1.waits)) = numsF q.2.waits.length (intsF (keysD q.2.waits))
                rw [q5]
              · intro r _; rw [nums_keys]
              · intro r _; rw [nums_keys]
              · show (numsF _ _).length ≤ 1000000
                rw [numsF_len]; have := q1.ok.len; show q.1.waits.length ≤ 1000000; omega
              refine To.run hok 22 (C := DiskD.Fine (id (Prod.fst q)) ∧ DiskD.Fine (id (Prod.snd q))) (by kernel_rfl) ?_ ?_; (and_intros <;> try first | exact True.intro | with_reducible rfl | omega | with_reducible assumption | (refine fits_i64 ?_ ?_ <;> omega) | (refine fits_u64 ?_ ?_ <;> omega))
              · exact q1
              · exact q2
              refine To.loopX (L := [LN.old (0 : Nat), LN.old (1 : Nat)]) (kp := [(18 : Nat), (11 : Nat), (9 : Nat), (7 : Nat)]) (ks := []) (C := (IntKind.i64 = IntKind.i64 ∧ (0 : Int) = (↑(0 : Nat) : Int)) ∧ Ob.disk (bootD (id (Prod.fst q))) = Ob.disk (bootD (Prod.fst q)) ∧ Ob.disk (bootD (id (Prod.snd q))) = Ob.disk (bootD (Prod.snd q))) (st := fun (a : Nat) => (⟨⟨13, 150, slotT 150 [(7, AV.v (Value.bool true)), (9, AV.ptr (nat_lit 0) (nat_lit 0)), (11, AV.ptr (nat_lit 1) (nat_lit 0)), (18, AV.sy (Value.int IntKind.i64 (↑a : Int)))], ARg.no, [Go.Proofs.Ytnkjhicokcmmpaa.Sm.AItem.code (subC (bodyC Try.prog 13) [1, 1, 1, 1, 1, 1, 1, 1, 1, 1, 1, 1, 0, 1, 0, 0]), Go.Proofs.Ytnkjhicokcmmpaa.Sm.AItem.inLoop (subC (bodyC Try.prog 13) [1, 1, 1, 1, 1, 1, 1, 1, 1, 1, 1, 1, 0, 1, 0, 0]), (AItem.inBlock 2), Go.Proofs.Ytnkjhicokcmmpaa.Sm.AItem.code (subC (bodyC Try.prog 13) [1, 1, 1, 1, 1, 1, 1, 1, 1, 1, 1, 1, 1])], [], false, none, (0 : Nat)⟩, [], memF [AB.obj (Ob.disk (bootD (Prod.fst q))), AB.obj (Ob.disk (bootD (Prod.snd q)))] 0 Tr.e, 2⟩ : ASt)) (hB := by kernel_rfl) (hC := by kernel_rfl) (he := by kernel_rfl) (hI := by (and_intros <;> try first | exact True.intro | with_reducible rfl | omega | with_reducible assumption | (refine fits_i64 ?_ ?_ <;> omega) | (refine fits_u64 ?_ ?_ <;> omega))) (hc := ?_) (step := ?_) (fun (k : Nat) => [(18, ivA (k : Int))]) (fun _ => [(0, .obj (.disk (bootD q.1))), (1, .obj (.disk (bootD q.2)))]) (fun k => k ≤ 6) (fun k => 6 - k) (0)
              · exact ⟨⟨rfl, rfl⟩, rfl, rfl⟩
              intro k hk ihk
              refine To.run hok 5000 (C := True) (by kernel_rfl) (by (and_intros <;> try first | exact True.intro | with_reducible rfl | omega | with_reducible assumption | (refine fits_i64 ?_ ?_ <;> omega) | (refine fits_u64 ?_ ?_ <;> omega))) ?_
              refine To.brd hok ((↑k : Int) < (6 : Int)) (C := True) (by kernel_rfl) (by kernel_rfl) (by (and_intros <;> try first | exact True.intro | with_reducible rfl | omega | with_reducible assumption | (refine fits_i64 ?_ ?_ <;> omega) | (refine fits_u64 ?_ ?_ <;> omega))) ?_ ?_
              · intro h8
                have hk1 : k + 1 ≤ 6 := by omega
                have hk2 : 6 - (k + 1) < 6 - k := by omega
                have hr1 := hr0 (k : Int) (by omega) (by omega)
                have hr2 := (hrd (k : Int)).trans hr1
                refine To.run hok 5000 (C := True) (by kernel_rfl) (by (and_intros <;> try first | exact True.intro | with_reducible rfl | omega | with_reducible assumption | (refine fits_i64 ?_ ?_ <;> omega) | (refine fits_u64 ?_ ?_ <;> omega))) ?_
                refine To.yes hok (Option.isSome (Prod.fst (readD (bootD (Prod.snd q)) (↑k : Int)))) ?_ (C := DiskD.Fine (bootD (Prod.snd q))) (by kernel_rfl) (by (and_intros <;> try first | exact True.intro | with_reducible rfl | omega | with_reducible assumption | (refine fits_i64 ?_ ?_ <;> omega) | (refine fits_u64 ?_ ?_ <;> omega))) ?_
                · show (readD (bootD q.2) (k : Int)).1.isSome = true
                  rw [hr1]; rfl
                refine To.run hok 5000 (C := List.length (Option.getD (Prod.fst (readD (bootD (Prod.snd q)) (↑k : Int))) []) ≤ List.length (Option.getD (Prod.fst (readD (bootD (Prod.snd q)) (↑k : Int))) [])) (by kernel_rfl) (by (and_intros <;> try first | exact True.intro | with_reducible rfl | omega | with_reducible assumption | (refine fits_i64 ?_ ?_ <;> omega) | (refine fits_u64 ?_ ?_ <;> omega))) ?_
                refine To.yes hok (Option.isSome (Prod.fst (readD (bootD (Prod.fst q)) (↑k : Int)))) ?_ (C := DiskD.Fine (bootD (Prod.fst q))) (by kernel_rfl) (by (and_intros <;> try first | exact True.intro | with_reducible rfl | omega | with_reducible assumption | (refine fits_i64 ?_ ?_ <;> omega) | (refine fits_u64 ?_ ?_ <;> omega))) ?_
                · show (readD (bootD q.1) (k : Int)).1.isSome = true
                  rw [hr2]; rfl
                refine To.run hok 5000 (C := List.length (Option.getD (Prod.fst (readD (bootD (Prod.fst q)) (↑k : Int))) []) ≤ List.length (Option.getD (Prod.fst (readD (bootD (Prod.fst q)) (↑k : Int))) [])) (by kernel_rfl) (by (and_intros <;> try first | exact True.intro | with_reducible rfl | omega | with_reducible assumption | (refine fits_i64 ?_ ?_ <;> omega) | (refine fits_u64 ?_ ?_ <;> omega))) ?_
                refine To.yesd hok (Array.toList (ByteArray.data (str (List.take (List.length (Option.getD (Prod.fst (readD (bootD (Prod.fst q)) (↑k : Int))) [])) (Option.getD (Prod.fst (readD (bootD (Prod.fst q)) (↑k : Int))) [])))) = Array.toList (ByteArray.data (str (List.take (List.length (Option.getD (Prod.fst (readD (bootD (Prod.snd q)) (↑k : Int))) [])) (Option.getD (Prod.fst (readD (bootD (Prod.snd q)) (↑k : Int))) []))))) ?_ (C := True) (by kernel_rfl) (by (and_intros <;> try first | exact True.intro | with_reducible rfl | omega | with_reducible assumption | (refine fits_i64 ?_ ?_ <;> omega) | (refine fits_u64 ?_ ?_ <;> omega))) ?_
                · show (str (List.take ((readD (bootD q.1) (k : Int)).1.getD []).length ((readD (bootD q.1) (k : Int)).1.getD []))).data.toList = (str (List.take ((readD (bootD q.2) (k : Int)).1.getD []).length ((readD (bootD q.2) (k : Int)).1.getD []))).data.toList
                  rw [hrd]
                refine To.run hok 16 (C := fits IntKind.i64 ((↑k : Int) + (1 : Int))) (by kernel_rfl) (by (and_intros <;> try first | exact True.intro | with_reducible rfl | omega | with_reducible assumption | (refine fits_i64 ?_ ?_ <;> omega) | (refine fits_u64 ?_ ?_ <;> omega))) ?_
                refine To.backX (L := [LN.old (0 : Nat), LN.old (1 : Nat)]) (kp := [(18 : Nat), (11 : Nat), (9 : Nat), (7 : Nat)]) (ks := []) (ov := [((18 : Nat), AV.sy (Value.int IntKind.i64 (↑(k + (1 : Nat)) : Int)))]) (ob := []) (C := IntKind.i64 = IntKind.i64 ∧ (↑k : Int) + (1 : Int) = (↑(k + (1 : Nat)) : Int)) (hB := by kernel_rfl) (hC := by kernel_rfl) (hc := by (and_intros <;> try first | exact True.intro | with_reducible rfl | omega | with_reducible assumption | (refine fits_i64 ?_ ?_ <;> omega) | (refine fits_u64 ?_ ?_ <;> omega))) (he := by kernel_rfl) (ihk (k + 1) hk1 hk2)
              · intro h8
                refine To.run hok 5000 (C := True) (by kernel_rfl) (by (and_intros <;> try first | exact True.intro | with_reducible rfl | omega | with_reducible assumption | (refine fits_i64 ?_ ?_ <;> omega) | (refine fits_u64 ?_ ?_ <;> omega))) ?_
                refine To.end (AV.v (Value.bool true)) (by kernel_rfl) ?_
                rfl
  · intro h4
    refine To.run hok 1 (C := True) (by kernel_rfl) (by (and_intros <;> try first | exact True.intro | with_reducible rfl | omega | with_reducible assumption | (refine fits_i64 ?_ ?_ <;> omega) | (refine fits_u64 ?_ ?_ <;> omega))) ?_
    refine To.run hok 1 (C := True) (by kernel_rfl) (by (and_intros <;> try first | exact True.intro | with_reducible rfl | omega | with_reducible assumption | (refine fits_i64 ?_ ?_ <;> omega) | (refine fits_u64 ?_ ?_ <;> omega))) ?_
    refine To.run hok 1 (C := True) (by kernel_rfl) (by (and_intros <;> try first | exact True.intro | with_reducible rfl | omega | with_reducible assumption | (refine fits_i64 ?_ ?_ <;> omega) | (refine fits_u64 ?_ ?_ <;> omega))) ?_
    obtain ⟨dX, hdX⟩ : ∃ d, d = p.2.1.armed p.2.2 c := ⟨_, rfl⟩
    obtain ⟨dY, hdY⟩ : ∃ d, d = p.2.1 := ⟨_, rfl⟩
    have hX := hdX.symm
    have hY := hdY.symm
    have hXY : Post dX dY := by
      rw [hdX, hdY]
      exact ⟨hfineA, hfine, rfl, rfl, rfl, rfl, hcalm.six⟩
    refine To.loopX (L := [LN.old (1 : Nat), LN.old (2 : Nat)]) (kp := [(11 : Nat), (9 : Nat), (7 : Nat)]) (ks := []) (C := Ob.disk (DiskD.armed (Prod.fst (Prod.snd p)) (Prod.snd (Prod.snd p)) c) = Ob.disk (Prod.fst (dX, dY)) ∧ Ob.disk (Prod.fst (Prod.snd p)) = Ob.disk (Prod.snd (dX, dY))) (st := fun (a : DiskD × DiskD) => (⟨⟨13, 150, slotT 150 [(7, AV.v (Value.bool true)), (9, AV.ptr (nat_lit 0) (nat_lit 0)), (11, AV.ptr (nat_lit 1) (nat_lit 0))], ARg.no, [Go.Proofs.Ytnkjhicokcmmpaa.Sm.AItem.code (subC (bodyC Try.prog 13) [1, 1, 1, 1, 1, 1, 1, 1, 0, 1, 0, 0, 1, 0, 1]), Go.Proofs.Ytnkjhicokcmmpaa.Sm.AItem.code (subC (bodyC Try.prog 13) [1, 1, 1, 1, 1, 1, 1, 1, 0, 1, 0, 0, 1, 1]), Go.Proofs.Ytnkjhicokcmmpaa.Sm.AItem.inLoop (subC (bodyC Try.prog 13) [1, 1, 1, 1, 1, 1, 1, 1, 0, 1, 0, 0]), (AItem.inBlock 0), Go.Proofs.Ytnkjhicokcmmpaa.Sm.AItem.code (subC (bodyC Try.prog 13) [1, 1, 1, 1, 1, 1, 1, 1, 1])], [], false, none, (0 : Nat)⟩, [], memF [AB.obj (Ob.disk (Prod.fst a)), AB.obj (Ob.disk (Prod.snd a))] 0 Tr.e, 2⟩ : ASt)) (hB := by kernel_rfl) (hC := by kernel_rfl) (he := by kernel_rfl) (hI := by (and_intros <;> try first | exact True.intro | with_reducible rfl | omega | with_reducible assumption | (refine fits_i64 ?_ ?_ <;> omega) | (refine fits_u64 ?_ ?_ <;> omega))) (hc := ?_) (step := ?_) (fun (q : DiskD × DiskD) => []) (fun q => [(0, .obj (.disk q.1)), (1, .obj (.disk q.2))]) (fun q => Post q.1 q.2) (fun _ => 0) ((dX, dY))
    · exact ⟨congrArg Ob.disk hX, congrArg Ob.disk hY⟩
    intro q hq _
    have q1 := hq.fd
    have q2 := hq.fe
    have q3 := hq.down
    have q4 := hq.writes
    have q5 := hq.waits
    have q6 : (bootD q.1).Fine := ⟨q1.ok.of rfl rfl, q1.cw, q1.keep, q1.at_, q1.wr⟩
    have q7 : (bootD q.2).Fine := ⟨q2.ok.of rfl rfl, q2.cw, q2.keep, q2.at_, q2.wr⟩
    have hrd : ∀ z, readD (bootD q.1) z = readD (bootD q.2) z := fun z => Alike.read (d := bootD q.1) (e := bootD q.2) ⟨hq.stays, fun z => congrArg (fun m => getM m z) q5⟩ rfl z
    have h6 := hq.six
    have hr0 : ∀ z : Int, 0 ≤ z → z < 6 → readD (bootD q.2) z = (some ((getM q.2.waits z).getD (q.2.stays.getD z.toNat [])), 0) := fun z hz0 hz6 => by
      unfold readD
      rw [if_neg (by simp [bootD]), if_neg (by omega), if_neg (by show ¬ ¬ z < (q.2.stays.length : Int); omega)]
      rfl
    refine To.run hok 5000 (C := True) (by kernel_rfl) (by (and_intros <;> try first | exact True.intro | with_reducible rfl | omega | with_reducible assumption | (refine fits_i64 ?_ ?_ <;> omega) | (refine fits_u64 ?_ ?_ <;> omega))) ?_
    refine To.br hok (!DiskD.down (Prod.fst q)) (C := DiskD.Fine (Prod.fst q)) (by kernel_rfl) (by kernel_rfl) (by (and_intros <;> try first | exact True.intro | with_reducible rfl | omega | with_reducible assumption | (refine fits_i64 ?_ ?_ <;> omega) | (refine fits_u64 ?_ ?_ <;> omega))) ?_ ?_
    · intro h7
      refine To.run hok 5000 (C := True) (by kernel_rfl) (by (and_intros <;> try first | exact True.intro | with_reducible rfl | omega | with_reducible assumption | (refine fits_i64 ?_ ?_ <;> omega) | (refine fits_u64 ?_ ?_ <;> omega))) ?_
      refine To.yes hok (!DiskD.down (Prod.snd q)) ?_ (C := DiskD.Fine (Prod.snd q)) (by kernel_rfl) (by (and_intros <;> try first | exact True.intro | with_reducible rfl | omega | with_reducible assumption | (refine fits_i64 ?_ ?_ <;> omega) | (refine fits_u64 ?_ ?_ <;> omega))) ?_
      · rw [← q3]; exact h7
      refine To.run hok 5000 (C := DiskD.Fine (Prod.fst q) ∧ DiskD.Fine (Prod.snd q)) (by kernel_rfl) (by (and_intros <;> try first | exact True.intro | with_reducible rfl | omega | with_reducible assumption | (refine fits_i64 ?_ ?_ <;> omega) | (refine fits_u64 ?_ ?_ <;> omega))) ?_
      refine To.non hok ((fun x ↦ DiskD.writes x) (Prod.fst q) = (fun x ↦ DiskD.writes x) (Prod.snd q)) (by (and_intros <;> try first | exact True.intro | with_reducible rfl | omega | with_reducible assumption | (refine fits_i64 ?_ ?_ <;> omega) | (refine fits_u64 ?_ ?_ <;> omega))) (C := True) (by kernel_rfl) (by (and_intros <;> try first | exact True.intro | with_reducible rfl | omega | with_reducible assumption | (refine fits_i64 ?_ ?_ <;> omega) | (refine fits_u64 ?_ ?_ <;> omega))) ?_
      refine To.run hok 5000 (C := DiskD.Fine (id (Prod.fst q)) ∧ DiskD.Fine (id (Prod.snd q))) (by kernel_rfl) ?_ ?_; (and_intros <;> try first | exact True.intro | with_reducible rfl | omega | with_reducible assumption | (refine fits_i64 ?_ ?_ <;> omega) | (refine fits_u64 ?_ ?_ <;> omega))
      · exact q1
      · exact q2
      refine To.yesd hok (Prod.fst (numsF (List.length (DiskD.waits (id (Prod.fst q)))) (intsF (keysD (DiskD.waits (id (Prod.fst q))))), ∀ (r : Nat), r < List.length (DiskD.waits (id (Prod.fst q))) → intsF (keysD (DiskD.waits (id (Prod.fst q)))) r = intsF (numsF (List.length (DiskD.waits (id (Prod.fst q)))) (intsF (keysD (DiskD.waits (id (Prod.fst q)))))) r) = Prod.fst (numsF (List.length (DiskD.waits (id (Prod.snd q)))) (intsF (keysD (DiskD.waits (id (Prod.snd q))))), ∀ (r : Nat), r < List.length (DiskD.waits (id (Prod.snd q))) → intsF (keysD (DiskD.waits (id (Prod.snd q)))) r = intsF (numsF (List.length (DiskD.waits (id (Prod.snd q)))) (intsF (keysD (DiskD.waits (id (Prod.snd q)))))) r)) ?_ (C := (∀ (r : Nat), r < List.length (DiskD.waits (id (Prod.fst q))) → intsF (keysD (DiskD.waits (id (Prod.fst q)))) r = intsF (numsF (List.length (DiskD.waits (id (Prod.fst q)))) (intsF (keysD (DiskD.waits (id (Prod.fst q)))))) r) ∧ (∀ (r : Nat), r < List.length (DiskD.waits (id (Prod.snd q))) → intsF (keysD (DiskD.waits (id (Prod.snd q)))) r = intsF (numsF (List.length (DiskD.waits (id (Prod.snd q)))) (intsF (keysD (DiskD.waits (id (Prod.snd q)))))) r) ∧ List.length (Prod.fst (numsF (List.length (DiskD.waits (id (Prod.fst q)))) (intsF (keysD (DiskD.waits (id (Prod.fst q))))), ∀ (r : Nat), r < List.length (DiskD.waits (id (Prod.fst q))) → intsF (keysD (DiskD.waits (id (Prod.fst q)))) r = intsF (numsF (List.length (DiskD.waits (id (Prod.fst q)))) (intsF (keysD (DiskD.waits (id (Prod.fst q)))))) r)) ≤ (1000000 : Nat)) (by kernel_rfl) ?_ ?_; rotate_left; (and_intros <;> try first | exact True.intro | with_reducible rfl | omega | with_reducible assumption | (refine fits_i64 ?_ ?_ <;> omega) | (refine fits_u64 ?_ ?_ <;> omega)); rotate_right
      · show numsF q.1.waits.length (intsF (keysD q.1.waits)) = numsF q.2.waits.length (intsF (keysD q.2.waits))
        rw [q5]
      · intro r _; rw [nums_keys]
      · intro r _; rw [nums_keys]
      · show (numsF _ _).length ≤ 1000000
        rw [numsF_len]; have := q1.ok.len; show q.1.waits.length ≤ 1000000; omega
      refine To.run hok 22 (C := DiskD.Fine (id (Prod.fst q)) ∧ DiskD.Fine (id (Prod.snd q))) (by kernel_rfl) ?_ ?_; (and_intros <;> try first | exact True.intro | with_reducible rfl | omega | with_reducible assumption | (refine fits_i64 ?_ ?_ <;> omega) | (refine fits_u64 ?_ ?_ <;> omega))
      · exact q1
      · exact q2
      refine To.loopX (L := [LN.old (0 : Nat), LN.old (1 : Nat)]) (kp := [(18 : Nat), (11 : Nat), (9 : Nat), (7 : Nat)]) (ks := []) (C := (IntKind.i64 = IntKind.i64 ∧ (0 : Int) = (↑(0 : Nat) : Int)) ∧ Ob.disk (bootD (id (Prod.fst q))) = Ob.disk (bootD (Prod.fst q)) ∧ Ob.disk (bootD (id (Prod.snd q))) = Ob.disk (bootD (Prod.snd q))) (st := fun (a : Nat) => (⟨⟨13, 150, slotT 150 [(7, AV.v (Value.bool true)), (9, AV.ptr (nat_lit 0) (nat_lit 0)), (11, AV.ptr (nat_lit 1) (nat_lit 0)), (18, AV.sy (Value.int IntKind.i64 (↑a : Int)))], ARg.no, [Go.Proofs.Ytnkjhicokcmmpaa.Sm.AItem.code (subC (bodyC Try.prog 13) [1, 1, 1, 1, 1, 1, 1, 1, 1, 1, 1, 1, 0, 1, 0, 0]), Go.Proofs.Ytnkjhicokcmmpaa.Sm.AItem.inLoop (subC (bodyC Try.prog 13) [1, 1, 1, 1, 1, 1, 1, 1, 1, 1, 1, 1, 0, 1, 0, 0]), (AItem.inBlock 2), Go.Proofs.Ytnkjhicokcmmpaa.Sm.AItem.code (subC (bodyC Try.prog 13) [1, 1, 1, 1, 1, 1, 1, 1, 1, 1, 1, 1, 1])], [], false, none, (0 : Nat)⟩, [], memF [AB.obj (Ob.disk (bootD (Prod.fst q))), AB.obj (Ob.disk (bootD (Prod.snd q)))] 0 Tr.e, 2⟩ : ASt)) (hB := by kernel_rfl) (hC := by kernel_rfl) (he := by kernel_rfl) (hI := by (and_intros <;> try first | exact True.intro | with_reducible rfl | omega | with_reducible assumption | (refine fits_i64 ?_ ?_ <;> omega) | (refine fits_u64 ?_ ?_ <;> omega))) (hc := ?_) (step := ?_) (fun (k : Nat) => [(18, ivA (k : Int))]) (fun _ => [(0, .obj (.disk (bootD q.1))), (1, .obj (.disk (bootD q.2)))]) (fun k => k ≤ 6) (fun k => 6 - k) (0)
      · exact ⟨⟨rfl, rfl⟩, rfl, rfl⟩
      intro k hk ihk
      refine To.run hok 5000 (C := True) (by kernel_rfl) (by (and_intros <;> try first | exact True.intro | with_reducible rfl | omega | with_reducible assumption | (refine fits_i64 ?_ ?_ <;> omega) | (refine fits_u64 ?_ ?_ <;> omega))) ?_
      refine To.brd hok ((↑k : Int) < (6 : Int)) (C := True) (by kernel_rfl) (by kernel_rfl) (by (and_intros <;> try first | exact True.intro | with_reducible rfl | omega | with_reducible assumption | (refine fits_i64 ?_ ?_ <;> omega) | (refine fits_u64 ?_ ?_ <;> omega))) ?_ ?_
      · intro h8
        have hk1 : k + 1 ≤ 6 := by omega
        have hk2 : 6 - (k + 1) < 6 - k := by omega
        have hr1 := hr0 (k : Int) (by omega) (by omega)
        have hr2 := (hrd (k : Int)).trans hr1
        refine To.run hok 5000 (C := True) (by kernel_rfl) (by (and_intros <;> try first | exact True.intro | with_reducible rfl | omega | with_reducible assumption | (refine fits_i64 ?_ ?_ <;> omega) | (refine fits_u64 ?_ ?_ <;> omega))) ?_
        refine To.yes hok (Option.isSome (Prod.fst (readD (bootD (Prod.snd q)) (↑k : Int)))) ?_ (C := DiskD.Fine (bootD (Prod.snd q))) (by kernel_rfl) (by (and_intros <;> try first | exact True.intro | with_reducible rfl | omega | with_reducible assumption | (refine fits_i64 ?_ ?_ <;> omega) | (refine fits_u64 ?_ ?_ <;> omega))) ?_
        · show (readD (bootD q.2) (k : Int)).1.isSome = true
          rw [hr1]; rfl
        refine To.run hok 5000 (C := List.length (Option.getD (Prod.fst (readD (bootD (Prod.snd q)) (↑k : Int))) []) ≤ List.length (Option.getD (Prod.fst (readD (bootD (Prod.snd q)) (↑k : Int))) [])) (by kernel_rfl) (by (and_intros <;> try first | exact True.intro | with_reducible rfl | omega | with_reducible assumption | (refine fits_i64 ?_ ?_ <;> omega) | (refine fits_u64 ?_ ?_ <;> omega))) ?_
        refine To.yes hok (Option.isSome (Prod.fst (readD (bootD (Prod.fst q)) (↑k : Int)))) ?_ (C := DiskD.Fine (bootD (Prod.fst q))) (by kernel_rfl) (by (and_intros <;> try first | exact True.intro | with_reducible rfl | omega | with_reducible assumption | (refine fits_i64 ?_ ?_ <;> omega) | (refine fits_u64 ?_ ?_ <;> omega))) ?_
        · show (readD (bootD q.1) (k : Int)).1.isSome = true
          rw [hr2]; rfl
        refine To.run hok 5000 (C := List.length (Option.getD (Prod.fst (readD (bootD (Prod.fst q)) (↑k : Int))) []) ≤ List.length (Option.getD (Prod.fst (readD (bootD (Prod.fst q)) (↑k : Int))) [])) (by kernel_rfl) (by (and_intros <;> try first | exact True.intro | with_reducible rfl | omega | with_reducible assumption | (refine fits_i64 ?_ ?_ <;> omega) | (refine fits_u64 ?_ ?_ <;> omega))) ?_
        refine To.yesd hok (Array.toList (ByteArray.data (str (List.take (List.length (Option.getD (Prod.fst (readD (bootD (Prod.fst q)) (↑k : Int))) [])) (Option.getD (Prod.fst (readD (bootD (Prod.fst q)) (↑k : Int))) [])))) = Array.toList (ByteArray.data (str (List.take (List.length (Option.getD (Prod.fst (readD (bootD (Prod.snd q)) (↑k : Int))) [])) (Option.getD (Prod.fst (readD (bootD (Prod.snd q)) (↑k : Int))) []))))) ?_ (C := True) (by kernel_rfl) (by (and_intros <;> try first | exact True.intro | with_reducible rfl | omega | with_reducible assumption | (refine fits_i64 ?_ ?_ <;> omega) | (refine fits_u64 ?_ ?_ <;> omega))) ?_
        · show (str (List.take ((readD (bootD q.1) (k : Int)).1.getD []).length ((readD (bootD q.1) (k : Int)).1.getD []))).data.toList = (str (List.take ((readD (bootD q.2) (k : Int)).1.getD []).length ((readD (bootD q.2) (k : Int)).1.getD []))).data.toList
          rw [hrd]
        refine To.run hok 16 (C := fits IntKind.i64 ((↑k : Int) + (1 : Int))) (by kernel_rfl) (by (and_intros <;> try first | exact True.intro | with_reducible rfl | omega | with_reducible assumption | (refine fits_i64 ?_ ?_ <;> omega) | (refine fits_u64 ?_ ?_ <;> omega))) ?_
        refine To.backX (L := [LN.old (0 : Nat), LN.old (1 : Nat)]) (kp := [(18 : Nat), (11 : Nat), (9 : Nat), (7 : Nat)]) (ks := []) (ov := [((18 : Nat), AV.sy (Value.int IntKind.i64 (↑(k + (1 : Nat)) : Int)))]) (ob := []) (C := IntKind.i64 = IntKind.i64 ∧ (↑k : Int) + (1 : Int) = (↑(k + (1 : Nat)) : Int)) (hB := by kernel_rfl) (hC := by kernel_rfl) (hc := by (and_intros <;> try first | exact True.intro | with_reducible rfl | omega | with_reducible assumption | (refine fits_i64 ?_ ?_ <;> omega) | (refine fits_u64 ?_ ?_ <;> omega))) (he := by kernel_rfl) (ihk (k + 1) hk1 hk2)
      · intro h8
        refine To.run hok 5000 (C := True) (by kernel_rfl) (by (and_intros <;> try first | exact True.intro | with_reducible rfl | omega | with_reducible assumption | (refine fits_i64 ?_ ?_ <;> omega) | (refine fits_u64 ?_ ?_ <;> omega))) ?_
        refine To.end (AV.v (Value.bool true)) (by kernel_rfl) ?_
        rfl
    · intro h7
      refine To.run hok 5000 (C := True) (by kernel_rfl) (by (and_intros <;> try first | exact True.intro | with_reducible rfl | omega | with_reducible assumption | (refine fits_i64 ?_ ?_ <;> omega) | (refine fits_u64 ?_ ?_ <;> omega))) ?_
      refine To.no hok (!DiskD.down (Prod.snd q)) ?_ (C := DiskD.Fine (Prod.snd q)) (by kernel_rfl) (by (and_intros <;> try first | exact True.intro | with_reducible rfl | omega | with_reducible assumption | (refine fits_i64 ?_ ?_ <;> omega) | (refine fits_u64 ?_ ?_ <;> omega))) ?_
      · rw [← q3]; exact h7
      refine To.run hok 5000 (C := DiskD.Fine (Prod.fst q) ∧ DiskD.Fine (Prod.snd q)) (by kernel_rfl) (by (and_intros <;> try first | exact True.intro | with_reducible rfl | omega | with_reducible assumption | (refine fits_i64 ?_ ?_ <;> omega) | (refine fits_u64 ?_ ?_ <;> omega))) ?_
      refine To.non hok ((fun x ↦ DiskD.writes x) (Prod.fst q) = (fun x ↦ DiskD.writes x) (Prod.snd q)) (by (and_intros <;> try first | exact True.intro | with_reducible rfl | omega | with_reducible assumption | (refine fits_i64 ?_ ?_ <;> omega) | (refine fits_u64 ?_ ?_ <;> omega))) (C := True) (by kernel_rfl) (by (and_intros <;> try first | exact True.intro | with_reducible rfl | omega | with_reducible assumption | (refine fits_i64 ?_ ?_ <;> omega) | (refine fits_u64 ?_ ?_ <;> omega))) ?_
      refine To.run hok 5000 (C := DiskD.Fine (id (Prod.fst q)) ∧ DiskD.Fine (id (Prod.snd q))) (by kernel_rfl) ?_ ?_; (and_intros <;> try first | exact True.intro | with_reducible rfl | omega | with_reducible assumption | (refine fits_i64 ?_ ?_ <;> omega) | (refine fits_u64 ?_ ?_ <;> omega))
      · exact q1
      · exact q2
      refine To.yesd hok (Prod.fst (numsF (List.length (DiskD.waits (id (Prod.fst q)))) (intsF (keysD (DiskD.waits (id (Prod.fst q))))), ∀ (r : Nat), r < List.length (DiskD.waits (id (Prod.fst q))) → intsF (keysD (DiskD.waits (id (Prod.fst q)))) r = intsF (numsF (List.length (DiskD.waits (id (Prod.fst q)))) (intsF (keysD (DiskD.waits (id (Prod.fst q)))))) r) = Prod.fst (numsF (List.length (DiskD.waits (id (Prod.snd q)))) (intsF (keysD (DiskD.waits (id (Prod.snd q))))), ∀ (r : Nat), r < List.length (DiskD.waits (id (Prod.snd q))) → intsF (keysD (DiskD.waits (id (Prod.snd q)))) r = intsF (numsF (List.length (DiskD.waits (id (Prod.snd q)))) (intsF (keysD (DiskD.waits (id (Prod.snd q)))))) r)) ?_ (C := (∀ (r : Nat), r < List.length (DiskD.waits (id (Prod.fst q))) → intsF (keysD (DiskD.waits (id (Prod.fst q)))) r = intsF (numsF (List.length (DiskD.waits (id (Prod.fst q)))) (intsF (keysD (DiskD.waits (id (Prod.fst q)))))) r) ∧ (∀ (r : Nat), r < List.length (DiskD.waits (id (Prod.snd q))) → intsF (keysD (DiskD.waits (id (Prod.snd q)))) r = intsF (numsF (List.length (DiskD.waits (id (Prod.snd q)))) (intsF (keysD (DiskD.waits (id (Prod.snd q)))))) r) ∧ List.length (Prod.fst (numsF (List.length (DiskD.waits (id (Prod.fst q)))) (intsF (keysD (DiskD.waits (id (Prod.fst q))))), ∀ (r : Nat), r < List.length (DiskD.waits (id (Prod.fst q))) → intsF (keysD (DiskD.waits (id (Prod.fst q)))) r = intsF (numsF (List.length (DiskD.waits (id (Prod.fst q)))) (intsF (keysD (DiskD.waits (id (Prod.fst q)))))) r)) ≤ (1000000 : Nat)) (by kernel_rfl) ?_ ?_; rotate_left; (and_intros <;> try first | exact True.intro | with_reducible rfl | omega | with_reducible assumption | (refine fits_i64 ?_ ?_ <;> omega) | (refine fits_u64 ?_ ?_ <;> omega)); rotate_right
      · show numsF q.1.waits.length (intsF (keysD q.1.waits)) = numsF q.2.waits.length (intsF (keysD q.2.waits))
        rw [q5]
      · intro r _; rw [nums_keys]
      · intro r _; rw [nums_keys]
      · show (numsF _ _).length ≤ 1000000
        rw [numsF_len]; have := q1.ok.len; show q.1.waits.length ≤ 1000000; omega
      refine To.run hok 22 (C := DiskD.Fine (id (Prod.fst q)) ∧ DiskD.Fine (id (Prod.snd q))) (by kernel_rfl) ?_ ?_; (and_intros <;> try first | exact True.intro | with_reducible rfl | omega | with_reducible assumption | (refine fits_i64 ?_ ?_ <;> omega) | (refine fits_u64 ?_ ?_ <;> omega))
      · exact q1
      · exact q2
      refine To.loopX (L := [LN.old (0 : Nat), LN.old (1 : Nat)]) (kp := [(18 : Nat), (11 : Nat), (9 : Nat), (7 : Nat)]) (ks := []) (C := (IntKind.i64 = IntKind.i64 ∧ (0 : Int) = (↑(0 : Nat) : Int)) ∧ Ob.disk (bootD (id (Prod.fst q))) = Ob.disk (bootD (Prod.fst q)) ∧ Ob.disk (bootD (id (Prod.snd q))) = Ob.disk (bootD (Prod.snd q))) (st := fun (a : Nat) => (⟨⟨13, 150, slotT 150 [(7, AV.v (Value.bool true)), (9, AV.ptr (nat_lit 0) (nat_lit 0)), (11, AV.ptr (nat_lit 1) (nat_lit 0)), (18, AV.sy (Value.int IntKind.i64 (↑a : Int)))], ARg.no, [Go.Proofs.Ytnkjhicokcmmpaa.Sm.AItem.code (subC (bodyC Try.prog 13) [1, 1, 1, 1, 1, 1, 1, 1, 1, 1, 1, 1, 0, 1, 0, 0]), Go.Proofs.Ytnkjhicokcmmpaa.Sm.AItem.inLoop (subC (bodyC Try.prog 13) [1, 1, 1, 1, 1, 1, 1, 1, 1, 1, 1, 1, 0, 1, 0, 0]), (AItem.inBlock 2), Go.Proofs.Ytnkjhicokcmmpaa.Sm.AItem.code (subC (bodyC Try.prog 13) [1, 1, 1, 1, 1, 1, 1, 1, 1, 1, 1, 1, 1])], [], false, none, (0 : Nat)⟩, [], memF [AB.obj (Ob.disk (bootD (Prod.fst q))), AB.obj (Ob.disk (bootD (Prod.snd q)))] 0 Tr.e, 2⟩ : ASt)) (hB := by kernel_rfl) (hC := by kernel_rfl) (he := by kernel_rfl) (hI := by (and_intros <;> try first | exact True.intro | with_reducible rfl | omega | with_reducible assumption | (refine fits_i64 ?_ ?_ <;> omega) | (refine fits_u64 ?_ ?_ <;> omega))) (hc := ?_) (step := ?_) (fun (k : Nat) => [(18, ivA (k : Int))]) (fun _ => [(0, .obj (.disk (bootD q.1))), (1, .obj (.disk (bootD q.2)))]) (fun k => k ≤ 6) (fun k => 6 - k) (0)
      · exact ⟨⟨rfl, rfl⟩, rfl, rfl⟩
      intro k hk ihk
      refine To.run hok 5000 (C := True) (by kernel_rfl) (by (and_intros <;> try first | exact True.intro | with_reducible rfl | omega | with_reducible assumption | (refine fits_i64 ?_ ?_ <;> omega) | (refine fits_u64 ?_ ?_ <;> omega))) ?_
      refine To.brd hok ((↑k : Int) < (6 : Int)) (C := True) (by kernel_rfl) (by kernel_rfl) (by (and_intros <;> try first | exact True.intro | with_reducible rfl | omega | with_reducible assumption | (refine fits_i64 ?_ ?_ <;> omega) | (refine fits_u64 ?_ ?_ <;> omega))) ?_ ?_
      · intro h8
        have hk1 : k + 1 ≤ 6 := by omega
        have hk2 : 6 - (k + 1) < 6 - k := by omega
        have hr1 := hr0 (k : Int) (by omega) (by omega)
        have hr2 := (hrd (k : Int)).trans hr1
        refine To.run hok 5000 (C := True) (by kernel_rfl) (by (and_intros <;> try first | exact True.intro | with_reducible rfl | omega | with_reducible assumption | (refine fits_i64 ?_ ?_ <;> omega) | (refine fits_u64 ?_ ?_ <;> omega))) ?_
        refine To.yes hok (Option.isSome (Prod.fst (readD (bootD (Prod.snd q)) (↑k : Int)))) ?_ (C := DiskD.Fine (bootD (Prod.snd q))) (by kernel_rfl) (by (and_intros <;> try first | exact True.intro | with_reducible rfl | omega | with_reducible assumption | (refine fits_i64 ?_ ?_ <;> omega) | (refine fits_u64 ?_ ?_ <;> omega))) ?_
        · show (readD (bootD q.2) (k : Int)).1.isSome = true
          rw [hr1]; rfl
        refine To.run hok 5000 (C := List.length (Option.getD (Prod.fst (readD (bootD (Prod.snd q)) (↑k : Int))) []) ≤ List.length (Option.getD (Prod.fst (readD (bootD (Prod.snd q)) (↑k : Int))) [])) (by kernel_rfl) (by (and_intros <;> try first | exact True.intro | with_reducible rfl | omega | with_reducible assumption | (refine fits_i64 ?_ ?_ <;> omega) | (refine fits_u64 ?_ ?_ <;> omega))) ?_
        refine To.yes hok (Option.isSome (Prod.fst (readD (bootD (Prod.fst q)) (↑k : Int)))) ?_ (C := DiskD.Fine (bootD (Prod.fst q))) (by kernel_rfl) (by (and_intros <;> try first | exact True.intro | with_reducible rfl | omega | with_reducible assumption | (refine fits_i64 ?_ ?_ <;> omega) | (refine fits_u64 ?_ ?_ <;> omega))) ?_
        · show (readD (bootD q.1) (k : Int)).1.isSome = true
          rw [hr2]; rfl
        refine To.run hok 5000 (C := List.length (Option.getD (Prod.fst (readD (bootD (Prod.fst q)) (↑k : Int))) []) ≤ List.length (Option.getD (Prod.fst (readD (bootD (Prod.fst q)) (↑k : Int))) [])) (by kernel_rfl) (by (and_intros <;> try first | exact True.intro | with_reducible rfl | omega | with_reducible assumption | (refine fits_i64 ?_ ?_ <;> omega) | (refine fits_u64 ?_ ?_ <;> omega))) ?_
        refine To.yesd hok (Array.toList (ByteArray.data (str (List.take (List.length (Option.getD (Prod.fst (readD (bootD (Prod.fst q)) (↑k : Int))) [])) (Option.getD (Prod.fst (readD (bootD (Prod.fst q)) (↑k : Int))) [])))) = Array.toList (ByteArray.data (str (List.take (List.length (Option.getD (Prod.fst (readD (bootD (Prod.snd q)) (↑k : Int))) [])) (Option.getD (Prod.fst (readD (bootD (Prod.snd q)) (↑k : Int))) []))))) ?_ (C := True) (by kernel_rfl) (by (and_intros <;> try first | exact True.intro | with_reducible rfl | omega | with_reducible assumption | (refine fits_i64 ?_ ?_ <;> omega) | (refine fits_u64 ?_ ?_ <;> omega))) ?_
        · show (str (List.take ((readD (bootD q.1) (k : Int)).1.getD []).length ((readD (bootD q.1) (k : Int)).1.getD []))).data.toList = (str (List.take ((readD (bootD q.2) (k : Int)).1.getD []).length ((readD (bootD q.2) (k : Int)).1.getD []))).data.toList
          rw [hrd]
        refine To.run hok 16 (C := fits IntKind.i64 ((↑k : Int) + (1 : Int))) (by kernel_rfl) (by (and_intros <;> try first | exact True.intro | with_reducible rfl | omega | with_reducible assumption | (refine fits_i64 ?_ ?_ <;> omega) | (refine fits_u64 ?_ ?_ <;> omega))) ?_
        refine To.backX (L := [LN.old (0 : Nat), LN.old (1 : Nat)]) (kp := [(18 : Nat), (11 : Nat), (9 : Nat), (7 : Nat)]) (ks := []) (ov := [((18 : Nat), AV.sy (Value.int IntKind.i64 (↑(k + (1 : Nat)) : Int)))]) (ob := []) (C := IntKind.i64 = IntKind.i64 ∧ (↑k : Int) + (1 : Int) = (↑(k + (1 : Nat)) : Int)) (hB := by kernel_rfl) (hC := by kernel_rfl) (hc := by (and_intros <;> try first | exact True.intro | with_reducible rfl | omega | with_reducible assumption | (refine fits_i64 ?_ ?_ <;> omega) | (refine fits_u64 ?_ ?_ <;> omega))) (he := by kernel_rfl) (ihk (k + 1) hk1 hk2)
      · intro h8
        refine To.run hok 5000 (C := True) (by kernel_rfl) (by (and_intros <;> try first | exact True.intro | with_reducible rfl | omega | with_reducible assumption | (refine fits_i64 ?_ ?_ <;> omega) | (refine fits_u64 ?_ ?_ <;> omega))) ?_
        refine To.end (AV.v (Value.bool true)) (by kernel_rfl) ?_
        rfl
theorem armed_walk (l : List OpD) (wr : Int) (c : CrashD) (hl : ∀ o ∈ l, o.Wf) (hc : c.Wf) (hwr : 0 ≤ wr ∧ wr < 256) {w : World} {u v : Value} (hu : VR0 (imOf w) (.im 7 l.length (opsF l)) u) (hv : VR0 (imOf w) (.agg (crashF c)) v) :
    Calls Try.prog 13 #[u, .int .u8 wr, v] w (fun e w' => e = .returned (.bool true) ∧ Fr No w w') :=
  law_calls (args := [.im 7 l.length (opsF l), .sy (.int .u8 wr), .agg (crashF c)]) s3_ok (by kernel_rfl) (armed_to s3_ok l wr c hl hc hwr) (.cons (bare_VR (ρ := envOf w) hu) (.cons (.sy _) (.cons (bare_VR (ρ := envOf w) hv) .nil)))
end Go.Proofs.Ytnkjhicokcmmpaa.Sm

/-
  DiskArmed returns true, whatever is handed to it, and what it read reads as it did.
-/
namespace Go.Proofs.Ytnkjhicokcmmpaa.RDiskArmed
open Go.ChangeShapes Go.WideShapes Go.ChangeAt Go.RowKit

theorem crashFields : fieldsOk Try.prog 54 [(0, 3), (1, 52), (2, 3), (3, 3)] = true := by kernel_rfl
theorem own : ownKnob Try.prog.godebug = none := by kernel_rfl
theorem laidOut : laidOutB Try.prog = true := by kernel_rfl
theorem readable : (Try.f13.params.toList.all fun t => Try.prog.readableRec t && decide (t < Try.prog.types.size)) = true := by kernel_rfl

set_option maxHeartbeats 800000 in
set_option maxRecDepth 100000 in
theorem lifted (os : Os) (started : os.Started) (H : Type) (enc : TypeId × Value → H) :
    ReturnsInHanded {} Try.checked os 13 .any (Rows.diskArmedSpec.pre6 enc Try.prog Try.f13 Rows.diskArmedRow.domain false) (Rows.diskArmedSpec.post enc Try.prog Try.f13 false true false false) := by
  refine returnsInHanded_of_change (C := Try.checked) own started (by kernel_rfl) Try.func13
    (ChangeSpec.witness6 (enc := enc) (C := Try.checked) false ⟨#[], #[.slice none 0 0, .int .u8 0, .agg #[.int .i64 0, .slice none 0 0, .int .i64 0, .int .i64 0]], []⟩ 8 (by kernel_rfl) (by kernel_rfl) (by kernel_rfl) (by kernel_rfl)) ?_
  intro W base args ds gs before hval0 hW _ _
  have hval : ∀ (j : Nat) t v, Try.f13.params[j]? = some t → args[j]? = some v → Value.okWide Try.prog W .any base t v := hval0
  have hW' := hW
  obtain ⟨p, q, hA0, hV, rfl, _, _⟩ := hW
  have hA : DataW.TrodAll enc Try.prog W 0 (fun _ => true) true Try.f13.params.toList args.toList ds p := hA0
  have hlt : ∀ x ∈ p, x.block < W.heap.size := fun x hx => by simpa using hW'.lt x (by simpa using List.mem_append.2 (.inl hx))
  have hall := fun W' (hb : Below W.heap.size W W') => again_all laidOut hb readable hA hlt
  obtain ⟨rfl, rfl⟩ := trodVars_none hV
  rw [Try.params13] at hval
  have hA' := hA
  rw [Try.params13] at hA'
  obtain ⟨v0, vs0, d0, ds0, p0, q0, e0, rfl, rfl, h0, r0⟩ := trodAll_cons hA'
  obtain ⟨v1, vs1, d1, ds1, p1, q1, e1, rfl, rfl, h1, r1⟩ := trodAll_cons r0
  obtain ⟨v2, vs2, d2, ds2, p2, q2, e2, rfl, rfl, h2, r2⟩ := trodAll_cons r1
  obtain ⟨en, rfl, rfl⟩ := trodAll_nil r2
  obtain rfl : args = #[v0, v1, v2] := by
    apply Array.ext'
    rw [e0]
    try rw [e1]
    try rw [e2]
    rw [en]
  clear hA' e0 e1 e2 en
  obtain ⟨a0, n0, c0, rfl⟩ := arg_slice Try.underlying79 (hval 0 79 v0 rfl rfl)
  obtain ⟨a1, rfl, w1⟩ := arg_int Try.underlying5 (hval 1 5 v1 rfl rfl) h1
  obtain ⟨a2, rfl⟩ := arg_struct crashFields (hval 2 54 v2 rfl rfl)
  simp only [List.append_nil] at hW'
  obtain ⟨l, rfl, hl1, hl2⟩ := Sm.ops_open (Rd.of h0)
  have hb1 := u8_bd w1
  obtain ⟨c, hc1, hc2⟩ := Sm.crash_open (Rd.of h2)
  have hv1 : Sm.VR0 (Sm.imOf W) (.agg (Sm.crashF c)) (.agg a2) := by simpa [Value.cells] using Sm.VR0.agg hc1
  have hwalk := Sm.armed_walk l a1 c hl2 hc2 (by omega) hl1 hv1
  refine hwalk.mono fun e W' ⟨he, hf⟩ => ?_
  subst he
  have hbel : Below W.heap.size W W' := hf.below
  refine ⟨_, rfl, _, _, _, [], _, [], hW', ?_, hall W' hbel, rfl, hbel.frame _, fun h => by cases h⟩
  exact trodAll_mk1 (shut_bool Try.underlying4 _)

theorem said : Rows.DiskArmedSaid :=
  OpenClaim.holds_of_wide 13 Try.f13 rfl rfl rfl rfl rfl rfl rfl ⟨rfl, rfl, rfl, rfl, rfl⟩ rfl rfl rfl rfl rfl (by kernel_rfl) Try.func13 (by kernel_rfl)
    (of_decide_eq_true (by kernel_rfl)) (by unfold Func.isWrapper; first | (rw [if_pos (by decide +kernel)]; kernel_rfl) | (rw [if_neg (by decide +kernel)]; exact ⟨rfl, rfl⟩))
    (fun os started H enc _ => lifted os started H enc)

#print axioms said
end Go.Proofs.Ytnkjhicokcmmpaa.RDiskArmed
