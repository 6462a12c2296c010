/-
  Texts of this claim, laid together: Us, Uo, Va, Vc, Lm, Vd, Ve.
-/
import Derived.Test.YtnkjhicokcmmpaaQd
import Derived.Test.YtnkjhicokcmmpaaQc
import Derived.Shelf.SlMaps.Clone
import Derived.Ground.SlmcProg
import Derived.Test.YtnkjhicokcmmpaaProg

/-
  The chapter's first examples hold.
-/
namespace Go.Proofs.Ytnkjhicokcmmpaa.Sm
open Go Go.RowKit
def diskF0 : CF := orF writeF (orF flushF (orF downF (orF armF (orF bootF (orF spoilF (orF writesF (orF sizeF (orF waitsDF allF))))))))
def diskG0 : CG := orG readG (orG newG (orG upG (orG intsG greatG)))
theorem diskF0_ok : FOk Try.prog diskF0 := orF_ok writeF_ok (orF_ok flushF_ok (orF_ok downF_ok (orF_ok armF_ok (orF_ok bootF_ok (orF_ok spoilF_ok (orF_ok writesF_ok (orF_ok sizeF_ok (orF_ok waitsDF_ok allF_ok))))))))
theorem diskG0_ok : GOk Try.prog diskG0 := orG_ok readG_ok (orG_ok newG_ok (orG_ok upG_ok (orG_ok intsG_ok greatG_ok)))
noncomputable abbrev SA : Sy := sym Try.prog diskF0 diskG0
theorem sA_ok : SA.Ok Try.prog := sym_ok diskF0_ok diskG0_ok tab mix
def a0 : DiskD := newD 3
def a1 : DiskD := (writeD a0 0 (List.replicate 128 1)).1
def a2 : DiskD := (writeD a1 2 (List.replicate 128 1)).1
def a3 : DiskD := (writeD a2 0 (List.replicate 128 2)).1
theorem a0_in : a0.In 0 := newD_in (by decide) (by decide)
theorem a1_in : a1.In 1 := a0_in.write (by decide) _ _
theorem a2_in : a2.In 2 := a1_in.write (by decide) _ _
theorem a3_in : a3.In 3 := a2_in.write (by decide) _ _
def a4 : DiskD := (downD a3 ⟨0, [2], 0, 10⟩).1
theorem a4_in : a4.In 3 := a3_in.down _
theorem a3_waits : a3.waits = [(0, List.replicate 128 2), (2, List.replicate 128 1)] := by kernel_rfl
theorem a3_keys : keysD a3.waits = [0, 2] := by
  rw [a3_waits]
  exact List.mergeSort_of_pairwise (by simp [leI])
def a5 : DiskD := ⟨[List.replicate 10 2 ++ List.replicate 118 0, List.replicate 128 0, List.replicate 128 1], [], CrashD.none, 3, false⟩
theorem a5_eq : bootD a4 = a5 := by
  have h : bootD a4 = ⟨fallL a3.waits ⟨0, [2], 0, 10⟩ (keysD a3.waits) a3.stays, [], CrashD.none, 3, false⟩ := by kernel_rfl
  rw [h, a3_keys]
  show (⟨fallL a3.waits ⟨0, [2], 0, 10⟩ [0, 2] a3.stays, [], CrashD.none, 3, false⟩ : DiskD) = a5
  kernel_rfl
theorem a5_in : a5.In 3 := a5_eq ▸ a4_in.boot
set_option maxHeartbeats 4000000 in
set_option maxRecDepth 100000 in
theorem alive3_to (hok : SA.Ok Try.prog) : To SA Try.prog 46 (startOf Try.prog 46 [] .e 0) (fun x _ _ => x = .v (.bool true)) := by
  refine To.run hok 5000 (C := True) (by kernel_rfl) (by (and_intros <;> try first | exact True.intro | with_reducible rfl | omega | with_reducible assumption | (refine fits_i64 ?_ ?_ <;> omega) | (refine fits_u64 ?_ ?_ <;> omega))) ?_
  refine To.yesd hok ((1 : Int) ≤ (3 : Int) ∧ (3 : Int) ≤ (4096 : Int)) (by (and_intros <;> try first | exact True.intro | with_reducible rfl | omega | with_reducible assumption | (refine fits_i64 ?_ ?_ <;> omega) | (refine fits_u64 ?_ ?_ <;> omega))) (C := True) (by kernel_rfl) (by (and_intros <;> try first | exact True.intro | with_reducible rfl | omega | with_reducible assumption | (refine fits_i64 ?_ ?_ <;> omega) | (refine fits_u64 ?_ ?_ <;> omega))) ?_
  refine To.run hok 5000 (C := ((0 : Int) ≤ (1 : Int) ∧ (1 : Int) < (256 : Int)) ∧ (True ∧ DiskD.Fine (newD (3 : Nat))) ∧ ((0 : Int) ≤ (1 : Int) ∧ (1 : Int) < (256 : Int)) ∧ (True ∧ DiskD.Fine (Prod.fst (writeD (newD (3 : Nat)) (0 : Int) (Prod.fst (List.replicate (128 : Nat) (UInt8.ofNat (1 : Nat)), True))))) ∧ ((0 : Int) ≤ (2 : Int) ∧ (2 : Int) < (256 : Int)) ∧ (True ∧ DiskD.Fine (Prod.fst (writeD (Prod.fst (writeD (newD (3 : Nat)) (0 : Int) (Prod.fst (List.replicate (128 : Nat) (UInt8.ofNat (1 : Nat)), True)))) (2 : Int) (Prod.fst (List.replicate (128 : Nat) (UInt8.ofNat (1 : Nat)), True))))) ∧ DiskD.Fine (Prod.fst (writeD (Prod.fst (writeD (Prod.fst (writeD (newD (3 : Nat)) (0 : Int) (Prod.fst (List.replicate (128 : Nat) (UInt8.ofNat (1 : Nat)), True)))) (2 : Int) (Prod.fst (List.replicate (128 : Nat) (UInt8.ofNat (1 : Nat)), True)))) (0 : Int) (Prod.fst (List.replicate (128 : Nat) (UInt8.ofNat (2 : Nat)), True))))) (by kernel_rfl) ?_ ?_; (and_intros <;> try first | exact True.intro | with_reducible rfl | omega | with_reducible assumption | (refine fits_i64 ?_ ?_ <;> omega) | (refine fits_u64 ?_ ?_ <;> omega))
  · exact a0_in.fine
  · exact a1_in.fine
  · exact a2_in.fine
  · exact a3_in.fine
  refine To.yesd hok (Prod.fst (numsF (2 : Nat) (intsF (keysD (DiskD.waits (Prod.fst (writeD (Prod.fst (writeD (Prod.fst (writeD (newD (3 : Nat)) (0 : Int) (Prod.fst (List.replicate (128 : Nat) (UInt8.ofNat (1 : Nat)), True)))) (2 : Int) (Prod.fst (List.replicate (128 : Nat) (UInt8.ofNat (1 : Nat)), True)))) (0 : Int) (Prod.fst (List.replicate (128 : Nat) (UInt8.ofNat (2 : Nat)), True))))))), ∀ (r : Nat), r < (2 : Nat) → intsF (keysD (DiskD.waits (Prod.fst (writeD (Prod.fst (writeD (Prod.fst (writeD (newD (3 : Nat)) (0 : Int) (Prod.fst (List.replicate (128 : Nat) (UInt8.ofNat (1 : Nat)), True)))) (2 : Int) (Prod.fst (List.replicate (128 : Nat) (UInt8.ofNat (1 : Nat)), True)))) (0 : Int) (Prod.fst (List.replicate (128 : Nat) (UInt8.ofNat (2 : Nat)), True)))))) r = intsF (numsF (2 : Nat) (intsF (keysD (DiskD.waits (Prod.fst (writeD (Prod.fst (writeD (Prod.fst (writeD (newD (3 : Nat)) (0 : Int) (Prod.fst (List.replicate (128 : Nat) (UInt8.ofNat (1 : Nat)), True)))) (2 : Int) (Prod.fst (List.replicate (128 : Nat) (UInt8.ofNat (1 : Nat)), True)))) (0 : Int) (Prod.fst (List.replicate (128 : Nat) (UInt8.ofNat (2 : Nat)), True)))))))) r) = Prod.fst ([(0 : Int), (2 : Int)], True)) ?_ (C := (∀ (r : Nat), r < (2 : Nat) → intsF (keysD (DiskD.waits (Prod.fst (writeD (Prod.fst (writeD (Prod.fst (writeD (newD (3 : Nat)) (0 : Int) (Prod.fst (List.replicate (128 : Nat) (UInt8.ofNat (1 : Nat)), True)))) (2 : Int) (Prod.fst (List.replicate (128 : Nat) (UInt8.ofNat (1 : Nat)), True)))) (0 : Int) (Prod.fst (List.replicate (128 : Nat) (UInt8.ofNat (2 : Nat)), True)))))) r = intsF (numsF (2 : Nat) (intsF (keysD (DiskD.waits (Prod.fst (writeD (Prod.fst (writeD (Prod.fst (writeD (newD (3 : Nat)) (0 : Int) (Prod.fst (List.replicate (128 : Nat) (UInt8.ofNat (1 : Nat)), True)))) (2 : Int) (Prod.fst (List.replicate (128 : Nat) (UInt8.ofNat (1 : Nat)), True)))) (0 : Int) (Prod.fst (List.replicate (128 : Nat) (UInt8.ofNat (2 : Nat)), True)))))))) r) ∧ True ∧ (2 : Nat) ≤ (1000000 : Nat)) (by kernel_rfl) ?_ ?_; rotate_left; (and_intros <;> try first | exact True.intro | with_reducible rfl | omega | with_reducible assumption | (refine fits_i64 ?_ ?_ <;> omega) | (refine fits_u64 ?_ ?_ <;> omega)); rotate_right
  · show numsF 2 (intsF (keysD a3.waits)) = [0, 2]
    rw [a3_keys]; rfl
  · intro r h
    show intsF (keysD a3.waits) r = intsF (numsF 2 (intsF (keysD a3.waits))) r
    rw [a3_keys]; rfl
  refine To.run hok 5000 (C := ((0 : Int) ≤ (2 : Int) ∧ (2 : Int) < (256 : Int)) ∧ True) (by kernel_rfl) (by (and_intros <;> try first | exact True.intro | with_reducible rfl | omega | with_reducible assumption | (refine fits_i64 ?_ ?_ <;> omega) | (refine fits_u64 ?_ ?_ <;> omega))) ?_
  refine To.yes hok (Option.isSome (Prod.fst (readD (Prod.fst (writeD (Prod.fst (writeD (Prod.fst (writeD (newD (3 : Nat)) (0 : Int) (Prod.fst (List.replicate (128 : Nat) (UInt8.ofNat (1 : Nat)), True)))) (2 : Int) (Prod.fst (List.replicate (128 : Nat) (UInt8.ofNat (1 : Nat)), True)))) (0 : Int) (Prod.fst (List.replicate (128 : Nat) (UInt8.ofNat (2 : Nat)), True)))) (0 : Int)))) (by kernel_rfl) (C := DiskD.Fine (Prod.fst (writeD (Prod.fst (writeD (Prod.fst (writeD (newD (3 : Nat)) (0 : Int) (Prod.fst (List.replicate (128 : Nat) (UInt8.ofNat (1 : Nat)), True)))) (2 : Int) (Prod.fst (List.replicate (128 : Nat) (UInt8.ofNat (1 : Nat)), True)))) (0 : Int) (Prod.fst (List.replicate (128 : Nat) (UInt8.ofNat (2 : Nat)), True))))) (by kernel_rfl) ?_ ?_; (and_intros <;> try first | exact True.intro | with_reducible rfl | omega | with_reducible assumption | (refine fits_i64 ?_ ?_ <;> omega) | (refine fits_u64 ?_ ?_ <;> omega))
  · exact a3_in.fine
  refine To.run hok 5000 (C := (128 : Nat) ≤ (128 : Nat)) (by kernel_rfl) (by (and_intros <;> try first | exact True.intro | with_reducible rfl | omega | with_reducible assumption | (refine fits_i64 ?_ ?_ <;> omega) | (refine fits_u64 ?_ ?_ <;> omega))) ?_
  refine To.yes hok (decide (Array.toList (ByteArray.data (str (List.take (128 : Nat) (Option.getD (Prod.fst (readD (Prod.fst (writeD (Prod.fst (writeD (Prod.fst (writeD (newD (3 : Nat)) (0 : Int) (Prod.fst (List.replicate (128 : Nat) (UInt8.ofNat (1 : Nat)), True)))) (2 : Int) (Prod.fst (List.replicate (128 : Nat) (UInt8.ofNat (1 : Nat)), True)))) (0 : Int) (Prod.fst (List.replicate (128 : Nat) (UInt8.ofNat (2 : Nat)), True)))) (0 : Int))) [])))) = Array.toList (ByteArray.data (str (List.replicate (128 : Nat) (UInt8.ofNat (2 : Nat))))))) (by kernel_rfl) (C := True) (by kernel_rfl) (by (and_intros <;> try first | exact True.intro | with_reducible rfl | omega | with_reducible assumption | (refine fits_i64 ?_ ?_ <;> omega) | (refine fits_u64 ?_ ?_ <;> omega))) ?_
  refine To.run hok 5000 (C := True ∧ DiskD.Fine (Prod.fst (writeD (Prod.fst (writeD (Prod.fst (writeD (newD (3 : Nat)) (0 : Int) (Prod.fst (List.replicate (128 : Nat) (UInt8.ofNat (1 : Nat)), True)))) (2 : Int) (Prod.fst (List.replicate (128 : Nat) (UInt8.ofNat (1 : Nat)), True)))) (0 : Int) (Prod.fst (List.replicate (128 : Nat) (UInt8.ofNat (2 : Nat)), True)))) ∧ (1 : Nat) ≤ (1000000 : Nat) ∧ fits IntKind.i64 (10 : Int)) (by kernel_rfl) ?_ ?_; (and_intros <;> try first | exact True.intro | with_reducible rfl | omega | with_reducible assumption | (refine fits_i64 ?_ ?_ <;> omega) | (refine fits_u64 ?_ ?_ <;> omega))
  · exact a3_in.fine
  refine To.no hok (Option.isSome (Prod.fst (readD (Prod.fst (downD (Prod.fst (writeD (Prod.fst (writeD (Prod.fst (writeD (newD (3 : Nat)) (0 : Int) (Prod.fst (List.replicate (128 : Nat) (UInt8.ofNat (1 : Nat)), True)))) (2 : Int) (Prod.fst (List.replicate (128 : Nat) (UInt8.ofNat (1 : Nat)), True)))) (0 : Int) (Prod.fst (List.replicate (128 : Nat) (UInt8.ofNat (2 : Nat)), True)))) { w := (0 : Int), keep := Prod.fst ([(2 : Int)], True), torn := (0 : Int), at_ := (10 : Int) })) (0 : Int)))) (by kernel_rfl) (C := DiskD.Fine (Prod.fst (downD (Prod.fst (writeD (Prod.fst (writeD (Prod.fst (writeD (newD (3 : Nat)) (0 : Int) (Prod.fst (List.replicate (128 : Nat) (UInt8.ofNat (1 : Nat)), True)))) (2 : Int) (Prod.fst (List.replicate (128 : Nat) (UInt8.ofNat (1 : Nat)), True)))) (0 : Int) (Prod.fst (List.replicate (128 : Nat) (UInt8.ofNat (2 : Nat)), True)))) { w := (0 : Int), keep := Prod.fst ([(2 : Int)], True), torn := (0 : Int), at_ := (10 : Int) }))) (by kernel_rfl) ?_ ?_; (and_intros <;> try first | exact True.intro | with_reducible rfl | omega | with_reducible assumption | (refine fits_i64 ?_ ?_ <;> omega) | (refine fits_u64 ?_ ?_ <;> omega))
  · exact a4_in.fine
  refine To.run hok 6 (C := True) (by kernel_rfl) (by (and_intros <;> try first | exact True.intro | with_reducible rfl | omega | with_reducible assumption | (refine fits_i64 ?_ ?_ <;> omega) | (refine fits_u64 ?_ ?_ <;> omega))) ?_
  refine To.run hok 1 (C := True) (by kernel_rfl) (by (and_intros <;> try first | exact True.intro | with_reducible rfl | omega | with_reducible assumption | (refine fits_i64 ?_ ?_ <;> omega) | (refine fits_u64 ?_ ?_ <;> omega))) ?_
  refine To.run hok 4 (C := DiskD.Fine (Prod.fst (downD (Prod.fst (writeD (Prod.fst (writeD (Prod.fst (writeD (newD (3 : Nat)) (0 : Int) (Prod.fst (List.replicate (128 : Nat) (UInt8.ofNat (1 : Nat)), True)))) (2 : Int) (Prod.fst (List.replicate (128 : Nat) (UInt8.ofNat (1 : Nat)), True)))) (0 : Int) (Prod.fst (List.replicate (128 : Nat) (UInt8.ofNat (2 : Nat)), True)))) { w := (0 : Int), keep := Prod.fst ([(2 : Int)], True), torn := (0 : Int), at_ := (10 : Int) }))) (by kernel_rfl) ?_ ?_; (and_intros <;> try first | exact True.intro | with_reducible rfl | omega | with_reducible assumption | (refine fits_i64 ?_ ?_ <;> omega) | (refine fits_u64 ?_ ?_ <;> omega))
  · exact a4_in.fine
  refine To.loopX (L := [LN.old (0 : Nat)]) (kp := [(9 : Nat), (7 : Nat), (6 : Nat), (5 : Nat), (4 : Nat), (3 : Nat), (2 : Nat), (1 : Nat)]) (ks := []) (C := Ob.disk (bootD (Prod.fst (downD (Prod.fst (writeD (Prod.fst (writeD (Prod.fst (writeD (newD (3 : Nat)) (0 : Int) (Prod.fst (List.replicate (128 : Nat) (UInt8.ofNat (1 : Nat)), True)))) (2 : Int) (Prod.fst (List.replicate (128 : Nat) (UInt8.ofNat (1 : Nat)), True)))) (0 : Int) (Prod.fst (List.replicate (128 : Nat) (UInt8.ofNat (2 : Nat)), True)))) { w := (0 : Int), keep := Prod.fst ([(2 : Int)], True), torn := (0 : Int), at_ := (10 : Int) }))) = Ob.disk a5) (st := fun (a : Unit) => (⟨⟨46, 85, slotT 85 [(1, AV.ptr (nat_lit 0) (nat_lit 0)), (2, AV.v (Value.int IntKind.i64 (0 : Int))), (3, AV.sy (Value.int IntKind.i64 (Prod.snd (writeD (newD (3 : Nat)) (0 : Int) (Prod.fst (List.replicate (128 : Nat) (UInt8.ofNat (1 : Nat)), True)))))), (4, AV.sy (Value.int IntKind.i64 (Prod.snd (writeD (Prod.fst (writeD (newD (3 : Nat)) (0 : Int) (Prod.fst (List.replicate (128 : Nat) (UInt8.ofNat (1 : Nat)), True)))) (2 : Int) (Prod.fst (List.replicate (128 : Nat) (UInt8.ofNat (1 : Nat)), True)))))), (5, AV.sy (Value.int IntKind.i64 (Prod.snd (writeD (Prod.fst (writeD (Prod.fst (writeD (newD (3 : Nat)) (0 : Int) (Prod.fst (List.replicate (128 : Nat) (UInt8.ofNat (1 : Nat)), True)))) (2 : Int) (Prod.fst (List.replicate (128 : Nat) (UInt8.ofNat (1 : Nat)), True)))) (0 : Int) (Prod.fst (List.replicate (128 : Nat) (UInt8.ofNat (2 : Nat)), True)))))), (6, AV.v (Value.bool true)), (7, AV.sy (Value.int IntKind.i64 (Prod.snd (downD (Prod.fst (writeD (Prod.fst (writeD (Prod.fst (writeD (newD (3 : Nat)) (0 : Int) (Prod.fst (List.replicate (128 : Nat) (UInt8.ofNat (1 : Nat)), True)))) (2 : Int) (Prod.fst (List.replicate (128 : Nat) (UInt8.ofNat (1 : Nat)), True)))) (0 : Int) (Prod.fst (List.replicate (128 : Nat) (UInt8.ofNat (2 : Nat)), True)))) { w := (0 : Int), keep := Prod.fst ([(2 : Int)], True), torn := (0 : Int), at_ := (10 : Int) })))), (9, AV.sy (Value.int IntKind.i64 (Prod.snd (readD (Prod.fst (downD (Prod.fst (writeD (Prod.fst (writeD (Prod.fst (writeD (newD (3 : Nat)) (0 : Int) (Prod.fst (List.replicate (128 : Nat) (UInt8.ofNat (1 : Nat)), True)))) (2 : Int) (Prod.fst (List.replicate (128 : Nat) (UInt8.ofNat (1 : Nat)), True)))) (0 : Int) (Prod.fst (List.replicate (128 : Nat) (UInt8.ofNat (2 : Nat)), True)))) { w := (0 : Int), keep := Prod.fst ([(2 : Int)], True), torn := (0 : Int), at_ := (10 : Int) })) (0 : Int)))))], ARg.no, [Go.Proofs.Ytnkjhicokcmmpaa.Sm.AItem.code (subC (bodyC Try.prog 46) [1, 1, 1, 1, 1, 1, 1])], [], false, none, (0 : Nat)⟩, [], memF [AB.obj (Ob.disk a5)] 0 Tr.e, 1⟩ : ASt)) (hB := by kernel_rfl) (hC := by kernel_rfl) (he := by kernel_rfl) (hI := by (and_intros <;> try first | exact True.intro | with_reducible rfl | omega | with_reducible assumption | (refine fits_i64 ?_ ?_ <;> omega) | (refine fits_u64 ?_ ?_ <;> omega))) (hc := ?_) (step := ?_) (fun (_ : Unit) => []) (fun _ => [(0, .obj (.disk a5))]) (fun _ => True) (fun _ => 0) (())
  · exact congrArg Ob.disk a5_eq
  intro _ _ _
  refine To.run hok 5000 (C := True) (by kernel_rfl) (by (and_intros <;> try first | exact True.intro | with_reducible rfl | omega | with_reducible assumption | (refine fits_i64 ?_ ?_ <;> omega) | (refine fits_u64 ?_ ?_ <;> omega))) ?_
  refine To.yes hok (decide (Prod.snd (writeD (newD (3 : Nat)) (0 : Int) (Prod.fst (List.replicate (128 : Nat) (UInt8.ofNat (1 : Nat)), True))) = (0 : Int))) (by kernel_rfl) (C := True) (by kernel_rfl) (by (and_intros <;> try first | exact True.intro | with_reducible rfl | omega | with_reducible assumption | (refine fits_i64 ?_ ?_ <;> omega) | (refine fits_u64 ?_ ?_ <;> omega))) ?_
  refine To.run hok 5000 (C := True) (by kernel_rfl) (by (and_intros <;> try first | exact True.intro | with_reducible rfl | omega | with_reducible assumption | (refine fits_i64 ?_ ?_ <;> omega) | (refine fits_u64 ?_ ?_ <;> omega))) ?_
  refine To.yes hok (decide (Prod.snd (writeD (Prod.fst (writeD (newD (3 : Nat)) (0 : Int) (Prod.fst (List.replicate (128 : Nat) (UInt8.ofNat (1 : Nat)), True)))) (2 : Int) (Prod.fst (List.replicate (128 : Nat) (UInt8.ofNat (1 : Nat)), True))) = (0 : Int))) (by kernel_rfl) (C := True) (by kernel_rfl) (by (and_intros <;> try first | exact True.intro | with_reducible rfl | omega | with_reducible assumption | (refine fits_i64 ?_ ?_ <;> omega) | (refine fits_u64 ?_ ?_ <;> omega))) ?_
  refine To.run hok 5000 (C := True) (by kernel_rfl) (by (and_intros <;> try first | exact True.intro | with_reducible rfl | omega | with_reducible assumption | (refine fits_i64 ?_ ?_ <;> omega) | (refine fits_u64 ?_ ?_ <;> omega))) ?_
  refine To.yes hok (decide (Prod.snd (writeD (Prod.fst (writeD (Prod.fst (writeD (newD (3 : Nat)) (0 : Int) (Prod.fst (List.replicate (128 : Nat) (UInt8.ofNat (1 : Nat)), True)))) (2 : Int) (Prod.fst (List.replicate (128 : Nat) (UInt8.ofNat (1 : Nat)), True)))) (0 : Int) (Prod.fst (List.replicate (128 : Nat) (UInt8.ofNat (2 : Nat)), True))) = (0 : Int))) (by kernel_rfl) (C := True) (by kernel_rfl) (by (and_intros <;> try first | exact True.intro | with_reducible rfl | omega | with_reducible assumption | (refine fits_i64 ?_ ?_ <;> omega) | (refine fits_u64 ?_ ?_ <;> omega))) ?_
  refine To.run hok 5000 (C := True) (by kernel_rfl) (by (and_intros <;> try first | exact True.intro | with_reducible rfl | omega | with_reducible assumption | (refine fits_i64 ?_ ?_ <;> omega) | (refine fits_u64 ?_ ?_ <;> omega))) ?_
  refine To.yes hok (decide (Prod.snd (downD (Prod.fst (writeD (Prod.fst (writeD (Prod.fst (writeD (newD (3 : Nat)) (0 : Int) (Prod.fst (List.replicate (128 : Nat) (UInt8.ofNat (1 : Nat)), True)))) (2 : Int) (Prod.fst (List.replicate (128 : Nat) (UInt8.ofNat (1 : Nat)), True)))) (0 : Int) (Prod.fst (List.replicate (128 : Nat) (UInt8.ofNat (2 : Nat)), True)))) { w := (0 : Int), keep := Prod.fst ([(2 : Int)], True), torn := (0 : Int), at_ := (10 : Int) }) = (0 : Int))) (by kernel_rfl) (C := True) (by kernel_rfl) (by (and_intros <;> try first | exact True.intro | with_reducible rfl | omega | with_reducible assumption | (refine fits_i64 ?_ ?_ <;> omega) | (refine fits_u64 ?_ ?_ <;> omega))) ?_
  refine To.run hok 5000 (C := True) (by kernel_rfl) (by (and_intros <;> try first | exact True.intro | with_reducible rfl | omega | with_reducible assumption | (refine fits_i64 ?_ ?_ <;> omega) | (refine fits_u64 ?_ ?_ <;> omega))) ?_
  refine To.yes hok (decide (Prod.snd (readD (Prod.fst (downD (Prod.fst (writeD (Prod.fst (writeD (Prod.fst (writeD (newD (3 : Nat)) (0 : Int) (Prod.fst (List.replicate (128 : Nat) (UInt8.ofNat (1 : Nat)), True)))) (2 : Int) (Prod.fst (List.replicate (128 : Nat) (UInt8.ofNat (1 : Nat)), True)))) (0 : Int) (Prod.fst (List.replicate (128 : Nat) (UInt8.ofNat (2 : Nat)), True)))) { w := (0 : Int), keep := Prod.fst ([(2 : Int)], True), torn := (0 : Int), at_ := (10 : Int) })) (0 : Int)) = (31 : Int))) (by kernel_rfl) (C := True) (by kernel_rfl) (by (and_intros <;> try first | exact True.intro | with_reducible rfl | omega | with_reducible assumption | (refine fits_i64 ?_ ?_ <;> omega) | (refine fits_u64 ?_ ?_ <;> omega))) ?_
  refine To.run hok 5000 (C := ((0 : Int) ≤ (2 : Int) ∧ (2 : Int) < (256 : Int)) ∧ AV.v (Value.string (strOf [(0 : Int), (0 : Int), (0 : Int), (0 : Int), (0 : Int), (0 : Int), (0 : Int), (0 : Int), (0 : Int), (0 : Int), (0 : Int), (0 : Int), (0 : Int), (0 : Int), (0 : Int), (0 : Int), (0 : Int), (0 : Int), (0 : Int), (0 : Int), (0 : Int), (0 : Int), (0 : Int), (0 : Int), (0 : Int), (0 : Int), (0 : Int), (0 : Int), (0 : Int), (0 : Int), (0 : Int), (0 : Int), (0 : Int), (0 : Int), (0 : Int), (0 : Int), (0 : Int), (0 : Int), (0 : Int), (0 : Int), (0 : Int), (0 : Int), (0 : Int), (0 : Int), (0 : Int), (0 : Int), (0 : Int), (0 : Int), (0 : Int), (0 : Int), (0 : Int), (0 : Int), (0 : Int), (0 : Int), (0 : Int), (0 : Int), (0 : Int), (0 : Int), (0 : Int), (0 : Int), (0 : Int), (0 : Int), (0 : Int), (0 : Int), (0 : Int), (0 : Int), (0 : Int), (0 : Int), (0 : Int), (0 : Int), (0 : Int), (0 : Int), (0 : Int), (0 : Int), (0 : Int), (0 : Int), (0 : Int), (0 : Int), (0 : Int), (0 : Int), (0 : Int), (0 : Int), (0 : Int), (0 : Int), (0 : Int), (0 : Int), (0 : Int), (0 : Int), (0 : Int), (0 : Int), (0 : Int), (0 : Int), (0 : Int), (0 : Int), (0 : Int), (0 : Int), (0 : Int), (0 : Int), (0 : Int), (0 : Int), (0 : Int), (0 : Int), (0 : Int), (0 : Int), (0 : Int), (0 : Int), (0 : Int), (0 : Int), (0 : Int), (0 : Int), (0 : Int), (0 : Int), (0 : Int), (0 : Int), (0 : Int), (0 : Int), (0 : Int), (0 : Int)])) = AV.v (Value.string (strOf [(0 : Int), (0 : Int), (0 : Int), (0 : Int), (0 : Int), (0 : Int), (0 : Int), (0 : Int), (0 : Int), (0 : Int), (0 : Int), (0 : Int), (0 : Int), (0 : Int), (0 : Int), (0 : Int), (0 : Int), (0 : Int), (0 : Int), (0 : Int), (0 : Int), (0 : Int), (0 : Int), (0 : Int), (0 : Int), (0 : Int), (0 : Int), (0 : Int), (0 : Int), (0 : Int), (0 : Int), (0 : Int), (0 : Int), (0 : Int), (0 : Int), (0 : Int), (0 : Int), (0 : Int), (0 : Int), (0 : Int), (0 : Int), (0 : Int), (0 : Int), (0 : Int), (0 : Int), (0 : Int), (0 : Int), (0 : Int), (0 : Int), (0 : Int), (0 : Int), (0 : Int), (0 : Int), (0 : Int), (0 : Int), (0 : Int), (0 : Int), (0 : Int), (0 : Int), (0 : Int), (0 : Int), (0 : Int), (0 : Int), (0 : Int), (0 : Int), (0 : Int), (0 : Int), (0 : Int), (0 : Int), (0 : Int), (0 : Int), (0 : Int), (0 : Int), (0 : Int), (0 : Int), (0 : Int), (0 : Int), (0 : Int), (0 : Int), (0 : Int), (0 : Int), (0 : Int), (0 : Int), (0 : Int), (0 : Int), (0 : Int), (0 : Int), (0 : Int), (0 : Int), (0 : Int), (0 : Int), (0 : Int), (0 : Int), (0 : Int), (0 : Int), (0 : Int), (0 : Int), (0 : Int), (0 : Int), (0 : Int), (0 : Int), (0 : Int), (0 : Int), (0 : Int), (0 : Int), (0 : Int), (0 : Int), (0 : Int), (0 : Int), (0 : Int), (0 : Int), (0 : Int), (0 : Int), (0 : Int), (0 : Int), (0 : Int), (0 : Int), (0 : Int)])) ∧ ((0 : Int) ≤ (↑(0 : Nat) : Int) ∧ (↑(0 : Nat) : Int) ≤ (10 : Int) ∧ (10 : Int) ≤ (↑(128 : Nat) : Int)) ∧ True ∧ (128 : Nat) ≤ (1000000000 : Nat)) (by kernel_rfl) (by (and_intros <;> try first | exact True.intro | with_reducible rfl | omega | with_reducible assumption | (refine fits_i64 ?_ ?_ <;> omega) | (refine fits_u64 ?_ ?_ <;> omega))) ?_
  refine To.yes hok (Option.isSome (Prod.fst (readD a5 (0 : Int)))) (by kernel_rfl) (C := DiskD.Fine a5) (by kernel_rfl) ?_ ?_; (and_intros <;> try first | exact True.intro | with_reducible rfl | omega | with_reducible assumption | (refine fits_i64 ?_ ?_ <;> omega) | (refine fits_u64 ?_ ?_ <;> omega))
  · exact a5_in.fine
  refine To.run hok 5000 (C := (128 : Nat) ≤ (128 : Nat)) (by kernel_rfl) (by (and_intros <;> try first | exact True.intro | with_reducible rfl | omega | with_reducible assumption | (refine fits_i64 ?_ ?_ <;> omega) | (refine fits_u64 ?_ ?_ <;> omega))) ?_
  refine To.yes hok (decide (Array.toList (ByteArray.data (str (List.take (128 : Nat) (Option.getD (Prod.fst (readD a5 (0 : Int))) [])))) = Array.toList (ByteArray.data (str (Array.toList (ByteArray.data (str (List.drop (0 : Nat) (List.take (10 : Nat) (List.replicate (128 : Nat) (UInt8.ofNat (2 : Nat))))))) ++ Array.toList (ByteArray.data (strOf [(0 : Int), (0 : Int), (0 : Int), (0 : Int), (0 : Int), (0 : Int), (0 : Int), (0 : Int), (0 : Int), (0 : Int), (0 : Int), (0 : Int), (0 : Int), (0 : Int), (0 : Int), (0 : Int), (0 : Int), (0 : Int), (0 : Int), (0 : Int), (0 : Int), (0 : Int), (0 : Int), (0 : Int), (0 : Int), (0 : Int), (0 : Int), (0 : Int), (0 : Int), (0 : Int), (0 : Int), (0 : Int), (0 : Int), (0 : Int), (0 : Int), (0 : Int), (0 : Int), (0 : Int), (0 : Int), (0 : Int), (0 : Int), (0 : Int), (0 : Int), (0 : Int), (0 : Int), (0 : Int), (0 : Int), (0 : Int), (0 : Int), (0 : Int), (0 : Int), (0 : Int), (0 : Int), (0 : Int), (0 : Int), (0 : Int), (0 : Int), (0 : Int), (0 : Int), (0 : Int), (0 : Int), (0 : Int), (0 : Int), (0 : Int), (0 : Int), (0 : Int), (0 : Int), (0 : Int), (0 : Int), (0 : Int), (0 : Int), (0 : Int), (0 : Int), (0 : Int), (0 : Int), (0 : Int), (0 : Int), (0 : Int), (0 : Int), (0 : Int), (0 : Int), (0 : Int), (0 : Int), (0 : Int), (0 : Int), (0 : Int), (0 : Int), (0 : Int), (0 : Int), (0 : Int), (0 : Int), (0 : Int), (0 : Int), (0 : Int), (0 : Int), (0 : Int), (0 : Int), (0 : Int), (0 : Int), (0 : Int), (0 : Int), (0 : Int), (0 : Int), (0 : Int), (0 : Int), (0 : Int), (0 : Int), (0 : Int), (0 : Int), (0 : Int), (0 : Int), (0 : Int), (0 : Int), (0 : Int), (0 : Int), (0 : Int), (0 : Int), (0 : Int)]))))))) (by kernel_rfl) (C := True) (by kernel_rfl) (by (and_intros <;> try first | exact True.intro | with_reducible rfl | omega | with_reducible assumption | (refine fits_i64 ?_ ?_ <;> omega) | (refine fits_u64 ?_ ?_ <;> omega))) ?_
  refine To.run hok 5000 (C := ((0 : Int) ≤ (1 : Int) ∧ (1 : Int) < (256 : Int)) ∧ True) (by kernel_rfl) (by (and_intros <;> try first | exact True.intro | with_reducible rfl | omega | with_reducible assumption | (refine fits_i64 ?_ ?_ <;> omega) | (refine fits_u64 ?_ ?_ <;> omega))) ?_
  refine To.yes hok (Option.isSome (Prod.fst (readD a5 (2 : Int)))) (by kernel_rfl) (C := DiskD.Fine a5) (by kernel_rfl) ?_ ?_; (and_intros <;> try first | exact True.intro | with_reducible rfl | omega | with_reducible assumption | (refine fits_i64 ?_ ?_ <;> omega) | (refine fits_u64 ?_ ?_ <;> omega))
  · exact a5_in.fine
  refine To.run hok 5000 (C := (128 : Nat) ≤ (128 : Nat)) (by kernel_rfl) (by (and_intros <;> try first | exact True.intro | with_reducible rfl | omega | with_reducible assumption | (refine fits_i64 ?_ ?_ <;> omega) | (refine fits_u64 ?_ ?_ <;> omega))) ?_
  refine To.yes hok (decide (Array.toList (ByteArray.data (str (List.take (128 : Nat) (Option.getD (Prod.fst (readD a5 (2 : Int))) [])))) = Array.toList (ByteArray.data (str (List.replicate (128 : Nat) (UInt8.ofNat (1 : Nat))))))) (by kernel_rfl) (C := True) (by kernel_rfl) (by (and_intros <;> try first | exact True.intro | with_reducible rfl | omega | with_reducible assumption | (refine fits_i64 ?_ ?_ <;> omega) | (refine fits_u64 ?_ ?_ <;> omega))) ?_
  refine To.run hok 5000 (C := True) (by kernel_rfl) (by (and_intros <;> try first | exact True.intro | with_reducible rfl | omega | with_reducible assumption | (refine fits_i64 ?_ ?_ <;> omega) | (refine fits_u64 ?_ ?_ <;> omega))) ?_
  refine To.end (AV.v (Value.bool true)) (by kernel_rfl) ?_
  rfl
def aliveF : CF := trueF 46
theorem aliveF_ok : FOk Try.prog aliveF := trueF_ok tab Try.func46 (by kernel_rfl) fun w => (law_calls sA_ok (by kernel_rfl) (alive3_to sA_ok) (w := w) .nil)
end Go.Proofs.Ytnkjhicokcmmpaa.Sm

/-
  DiskOrder: the walk.
-/
namespace Go.Proofs.Ytnkjhicokcmmpaa.Sm
open Go Go.RowKit
theorem write0 {d : DiskD} (hu : d.down = false) (hw : d.crash.w = 0) (z : Int) (b : List UInt8) : writeD d z b = if 0 ≤ z ∧ z < d.stays.length ∧ b.length = 128 then (d.put z b, 0) else (d, 30) := by
  unfold writeD
  rw [if_neg (by simp [hu])]
  by_cases h1 : 0 ≤ z
  · rw [if_neg (by omega)]
    by_cases h2 : z < d.stays.length
    · rw [if_neg (by omega)]
      by_cases h3 : b.length = 128
      · rw [if_neg (by omega), if_pos hw, if_pos ⟨h1, h2, h3⟩]
      · rw [if_pos h3, if_neg (fun h => h3 h.2.2)]
    · rw [if_pos h2, if_neg (fun h => h2 h.2.1)]
  · rw [if_pos h1, if_neg (fun h => h1 h.1)]
/-- A disk of six sectors that is up and not armed, with few writes behind it. -/
structure Calm (d : DiskD) (n : Nat) : Prop where
  in_ : d.In n
  six : d.stays.length = 6
  up : d.down = false
  cr : d.crash = CrashD.none
theorem Calm.fine {d : DiskD} {n : Nat} (h : Calm d n) : d.Fine := h.in_.fine
theorem Calm.put {d : DiskD} {n : Nat} (h : Calm d n) (hn : n < 1000000) {z : Int} {b : List UInt8} (h0 : 0 ≤ z) (h1 : z < d.stays.length) (hb : b.length = 128) : Calm (d.put z b) (n + 1) :=
  ⟨h.in_.put (by omega) h0 h1 hb, h.six, h.up, h.cr⟩
theorem Calm.more {d : DiskD} {n m : Nat} (h : Calm d n) (hm : n ≤ m) (hM : m ≤ 1000000) : Calm d m := ⟨h.in_.more hm (by omega), h.six, h.up, h.cr⟩
/-- What waits, by each sector's last write. -/
def lastW (last : Nat → List UInt8) (lo : Nat) (z : Int) : Option (List UInt8) := if (lo : Int) ≤ z ∧ z < 6 ∧ last z.toNat ≠ [] then some (last z.toNat) else none
structure InvO (d : DiskD) (last : Nat → List UInt8) (lo : Nat) : Prop where
  stays : d.stays = (newD 6).stays
  waits : ∀ z, getM d.waits z = lastW last lo z
theorem InvO.put {d : DiskD} {last last' : Nat → List UInt8} {lo lo' : Nat} (h : InvO d last lo) {z : Int} {b : List UInt8} (hb : b.length = 128) (h1 : ∀ y, lastW last' lo' y = if y = z then some b else lastW last lo y) : InvO (d.put z b) last' lo' :=
  ⟨h.stays, fun y => by
    show getM (putM d.waits z (b.take 128)) y = _
    rw [getM_putM, h1, h.waits, List.take_of_length_le (by omega)]⟩
end Go.Proofs.Ytnkjhicokcmmpaa.Sm

/-
  DiskArmed: the walk.
-/
namespace Go.Proofs.Ytnkjhicokcmmpaa.Sm
open Go Go.RowKit
theorem Calm.flush {d : DiskD} {k : Nat} (h : Calm d k) : Calm (flushD d).1 k := by
  have e : flushD d = ({ d with stays := flushL d.waits (keysD d.waits) d.stays, waits := [] }, 0) := by unfold flushD; rw [if_neg (by simp [h.up])]
  have hi := h.in_.flush
  rw [e] at hi ⊢
  exact ⟨hi, (flushL_len _ _ _).trans h.six, h.up, h.cr⟩
/-- Disks that differ by their crash alone. -/
structure Post (d e : DiskD) : Prop where
  fd : d.Fine
  fe : e.Fine
  stays : d.stays = e.stays
  waits : d.waits = e.waits
  writes : d.writes = e.writes
  down : d.down = e.down
  six : e.stays.length = 6
end Go.Proofs.Ytnkjhicokcmmpaa.Sm

/-
  The disk's laws' helpers made and has.
-/
namespace Go.Proofs.Ytnkjhicokcmmpaa.Sm
open Go Go.RowKit
def madeStep (d : DiskD) (o : OpD) : DiskD :=
  if o.kind = 0 then (writeD d o.at_ o.b).1 else if o.kind = 1 then (flushD d).1 else if o.kind = 3 then (downD d o.c).1 else if o.kind = 5 then bootD d else if o.kind = 6 then (spoilD d o.at_ o.b).1 else d
def runM (l : List OpD) : DiskD := l.foldl madeStep (newD 6)
def madeD (l : List OpD) : DiskD := (flushD (bootD (runM l))).1
theorem runM_succ {l : List OpD} {a : Nat} (h : a < l.length) : runM (l.take (a + 1)) = madeStep (runM (l.take a)) (l.getD a default) := by
  rw [List.take_succ_eq_append_getElem h, List.getD_eq_getElem?_getD, List.getElem?_eq_getElem h]
  unfold runM
  rw [List.foldl_append]
  rfl
/-- A disk of six sectors that is not armed. -/
structure Loose (d : DiskD) (n : Nat) : Prop where
  in_ : d.In n
  six : d.stays.length = 6
  cr : d.crash = CrashD.none
theorem Loose.more {d : DiskD} {n m : Nat} (h : Loose d n) (hm : n ≤ m) (hM : m ≤ 1000000) : Loose d m := ⟨h.in_.more hm (by omega), h.six, h.cr⟩
theorem Loose.step {d : DiskD} {n : Nat} (h : Loose d n) (hn : n < 1000000) (o : OpD) : Loose (madeStep d o) (n + 1) := by
  unfold madeStep
  split
  · have hi := h.in_.write (by omega) o.at_ o.b
    refine ⟨hi, ?_, ?_⟩
    · unfold writeD
      rw [h.cr]
      split
      · exact h.six
      · split
        · exact h.six
        · split
          · exact h.six
          · split
            · exact h.six
            · rw [if_pos (show CrashD.none.w = 0 from rfl)]; exact h.six
    · unfold writeD
      rw [h.cr]
      split
      · exact h.cr
      · split
        · exact h.cr
        · split
          · exact h.cr
          · split
            · exact h.cr
            · rw [if_pos (show CrashD.none.w = 0 from rfl)]; exact h.cr
  · split
    · refine ⟨h.in_.flush.more (Nat.le_succ _) (by omega), ?_, ?_⟩
      · unfold flushD
        split
        · exact h.six
        · exact (flushL_len _ _ _).trans h.six
      · unfold flushD
        split
        · exact h.cr
        · exact h.cr
    · split
      · refine ⟨(h.in_.down o.c).more (Nat.le_succ _) (by omega), ?_, ?_⟩
        · unfold downD
          split
          · exact h.six
          · exact (fallL_len _ _ _ _).trans h.six
        · unfold downD
          split
          · exact h.cr
          · rfl
      · split
        · exact ⟨h.in_.boot.more (Nat.le_succ _) (by omega), h.six, h.cr⟩
        · split
          · refine ⟨(h.in_.spoil o.at_ o.b).more (Nat.le_succ _) (by omega), ?_, ?_⟩
            · unfold spoilD
              split
              · exact h.six
              · split
                · exact h.six
                · split
                  · exact h.six
                  · simpa using h.six
            · unfold spoilD
              split
              · exact h.cr
              · split
                · exact h.cr
                · split
                  · exact h.cr
                  · exact h.cr
          · exact h.more (Nat.le_succ _) (by omega)
theorem loose_new : Loose (newD 6) 0 := ⟨newD_in (by decide) (by decide), rfl, rfl⟩
theorem loose_run (l : List OpD) (hl : l.length ≤ 1000) : ∀ a, a ≤ l.length → Loose (runM (l.take a)) a := by
  intro a
  induction a with
  | zero => intro _; exact loose_new
  | succ a ih =>
    intro ha
    rw [runM_succ ha]
    exact (ih (by omega)).step (by omega) _
theorem calm_made (l : List OpD) (hl : l.length ≤ 1000) : Calm (madeD l) l.length ∧ (madeD l).waits = [] := by
  have h := loose_run l hl l.length (Nat.le_refl _)
  rw [List.take_length] at h
  have e : flushD (bootD (runM l)) = ({ bootD (runM l) with stays := flushL (runM l).waits (keysD (runM l).waits) (runM l).stays, waits := [] }, 0) := by unfold flushD; rw [if_neg (by simp [bootD])]; rfl
  have hi := h.in_.boot.flush
  unfold madeD
  rw [e] at hi ⊢
  exact ⟨⟨hi, (flushL_len _ _ _).trans h.six, rfl, h.cr⟩, rfl⟩
/-- A call that answers a new thing, and turns nothing else. -/
theorem obj_calls {S : Sy} {P : Program} (hok : S.Ok P) {f : FuncId} {args : List AV} {o : Ob} (h0 : (startF (tabOf P) f args .e 0).isSome = true)
    (h : To S P f (startOf P f args .e 0) (fun x H' _ => ∃ q, x = .ptr q 0 ∧ H'.get q = some (.obj o))) {w : World} {vs : List Value} (hvs : VRs (envOf w) args vs)
    {w0 : Bs} {ρ : Env} {H : Tr AB} {n : Nat} (hr : HR w0 ρ H n w) : Calls P f vs.toArray w (fun e w' => ∃ ρ' v, e = .returned v ∧ VR ρ' (.ptr n 0) v ∧ HR w0 ρ' (tput H n (.obj o)) (n + 1) w' ∧ Ext ρ ρ' H (tput H n (.obj o)) n (n + 1)) := by
  refine (pure_calls hok h0 h hvs).mono ?_
  rintro e w' ⟨x, H', n', ρ', v, ⟨q, rfl, hq⟩, rfl, hv, hf, hr'⟩
  cases hv with
  | @ptr _ b c _ hb =>
    obtain ⟨F, hF, hrep, hin⟩ := hr'.obj hb hq
    obtain ⟨k1, k2⟩ := hr.newX (x := o) (g := b) (c := c) hf hrep hin (fun k hk => by
      obtain ⟨a, b', _⟩ := hF.there hb hq rfl hk
      refine ⟨?_, b'⟩
      rcases a with a | a
      · exact absurd a (No.no k)
      · exact a)
    exact ⟨_, _, rfl, .ptr 0 (Env.set_same _ _ _), k1, k2⟩
set_option maxHeartbeats 4000000 in
set_option maxRecDepth 100000 in
theorem made_to (hok : SA.Ok Try.prog) (l : List OpD) (hl : ∀ o ∈ l, o.Wf ∧ o.c.keep.length ≤ 1000000) (hlen : l.length ≤ 200) : To SA Try.prog 56 (startOf Try.prog 56 [.im 7 l.length (opsF l)] .e 0) (fun x H' _ => ∃ q, x = .ptr q 0 ∧ H'.get q = some (.obj (.disk (madeD l)))) := by
  refine To.run hok 5000 (C := True) (by kernel_rfl) (by (and_intros <;> try first | exact True.intro | with_reducible rfl | omega | with_reducible assumption | (refine fits_i64 ?_ ?_ <;> omega) | (refine fits_u64 ?_ ?_ <;> omega))) ?_
  refine To.yesd hok ((1 : Int) ≤ (6 : Int) ∧ (6 : Int) ≤ (4096 : Int)) (by (and_intros <;> try first | exact True.intro | with_reducible rfl | omega | with_reducible assumption | (refine fits_i64 ?_ ?_ <;> omega) | (refine fits_u64 ?_ ?_ <;> omega))) (C := True) (by kernel_rfl) (by (and_intros <;> try first | exact True.intro | with_reducible rfl | omega | with_reducible assumption | (refine fits_i64 ?_ ?_ <;> omega) | (refine fits_u64 ?_ ?_ <;> omega))) ?_
  refine To.run hok 23 (C := True) (by kernel_rfl) (by (and_intros <;> try first | exact True.intro | with_reducible rfl | omega | with_reducible assumption | (refine fits_i64 ?_ ?_ <;> omega) | (refine fits_u64 ?_ ?_ <;> omega))) ?_
  refine To.loopX (L := [LN.old (0 : Nat)]) (kp := [(15 : Nat), (14 : Nat), (13 : Nat), (3 : Nat)]) (ks := []) (C := (IntKind.i64 = IntKind.i64 ∧ (0 : Int) = (↑(0 : Nat) : Int)) ∧ Ob.disk (newD (6 : Nat)) = Ob.disk (runM (List.take (0 : Nat) l))) (st := fun (a : Nat) => (⟨⟨56, 57, slotT 57 [(3, AV.ptr (nat_lit 0) (nat_lit 0)), (13, AV.im (nat_lit 7) (List.length l) (opsF l)), (14, AV.sy (Value.int IntKind.i64 (↑(List.length l) : Int))), (15, AV.sy (Value.int IntKind.i64 (↑a : Int)))], ARg.no, [Go.Proofs.Ytnkjhicokcmmpaa.Sm.AItem.code (subC (bodyC Try.prog 56) [1, 1, 1, 0, 1, 0, 0]), Go.Proofs.Ytnkjhicokcmmpaa.Sm.AItem.inLoop (subC (bodyC Try.prog 56) [1, 1, 1, 0, 1, 0, 0]), (AItem.inBlock 0), Go.Proofs.Ytnkjhicokcmmpaa.Sm.AItem.code (subC (bodyC Try.prog 56) [1, 1, 1, 1])], [], false, none, (0 : Nat)⟩, [], memF [AB.obj (Ob.disk (runM (List.take a l)))] 0 Tr.e, 1⟩ : ASt)) (hB := by kernel_rfl) (hC := by kernel_rfl) (he := by kernel_rfl) (hI := by (and_intros <;> try first | exact True.intro | with_reducible rfl | omega | with_reducible assumption | (refine fits_i64 ?_ ?_ <;> omega) | (refine fits_u64 ?_ ?_ <;> omega))) (hc := ?_) (step := ?_) (fun (a : Nat) => [(15, ivA (a : Int))]) (fun a => [(0, .obj (.disk (runM (l.take a))))]) (fun a => a ≤ l.length) (fun a => l.length - a) (0)
  · exact ⟨⟨rfl, rfl⟩, rfl⟩
  intro a ha ih
  have hloose := loose_run l (by omega) a ha
  have hfine := hloose.in_.fine
  refine To.run hok 5000 (C := True) (by kernel_rfl) (by (and_intros <;> try first | exact True.intro | with_reducible rfl | omega | with_reducible assumption | (refine fits_i64 ?_ ?_ <;> omega) | (refine fits_u64 ?_ ?_ <;> omega))) ?_
  refine To.brd hok ((↑a : Int) < (↑(List.length l) : Int)) (C := True) (by kernel_rfl) (by kernel_rfl) (by (and_intros <;> try first | exact True.intro | with_reducible rfl | omega | with_reducible assumption | (refine fits_i64 ?_ ?_ <;> omega) | (refine fits_u64 ?_ ?_ <;> omega))) ?_ ?_
  · intro h1
    have hlt : a < l.length := by omega
    have hi1 : a + 1 ≤ l.length := hlt
    have hi2 : l.length - (a + 1) < l.length - a := by omega
    have hmem : l.getD a default ∈ l := by rw [List.getD_eq_getElem?_getD, List.getElem?_eq_getElem hlt]; simp
    obtain ⟨hwf, hkp⟩ := hl _ hmem
    have hsucc := runM_succ hlt
    rw [show l.getD a default = l.getD (Int.toNat (a : Int)) default by rw [Int.toNat_natCast]] at hsucc hwf hkp
    have hck := numsF_ints (l.getD (Int.toNat (a : Int)) default).c.keep
    unfold madeStep at hsucc
    refine To.run hok 5000 (C := ((0 : Int) ≤ (↑a : Int) ∧ (↑a : Int) < (↑(List.length l) : Int)) ∧ True) (by kernel_rfl) (by (and_intros <;> try first | exact True.intro | with_reducible rfl | omega | with_reducible assumption | (refine fits_i64 ?_ ?_ <;> omega) | (refine fits_u64 ?_ ?_ <;> omega))) ?_
    refine To.brd hok (OpD.kind (List.getD l (Int.toNat (↑a : Int)) default) = (0 : Int)) (C := True) (by kernel_rfl) (by kernel_rfl) (by (and_intros <;> try first | exact True.intro | with_reducible rfl | omega | with_reducible assumption | (refine fits_i64 ?_ ?_ <;> omega) | (refine fits_u64 ?_ ?_ <;> omega))) ?_ ?_
    · intro h2
      rw [if_pos h2] at hsucc
      refine To.run hok 18 (C := (True ∧ DiskD.Fine (runM (List.take a l))) ∧ fits IntKind.i64 ((↑a : Int) + (1 : Int))) (by kernel_rfl) (by (and_intros <;> try first | exact True.intro | with_reducible rfl | omega | with_reducible assumption | (refine fits_i64 ?_ ?_ <;> omega) | (refine fits_u64 ?_ ?_ <;> omega))) ?_
      refine To.backX (L := [LN.old (0 : Nat)]) (kp := [(15 : Nat), (14 : Nat), (13 : Nat), (3 : Nat)]) (ks := []) (ov := [((15 : Nat), AV.sy (Value.int IntKind.i64 (↑(a + (1 : Nat)) : Int)))]) (ob := [((0 : Nat), AB.obj (Ob.disk (runM (List.take (a + (1 : Nat)) l))))]) (C := (IntKind.i64 = IntKind.i64 ∧ (↑a : Int) + (1 : Int) = (↑(a + (1 : Nat)) : Int)) ∧ Ob.disk (Prod.fst (writeD (runM (List.take a l)) (OpD.at_ (List.getD l (Int.toNat (↑a : Int)) default)) (Prod.fst (OpD.b (List.getD l (Int.toNat (↑a : Int)) default), True)))) = Ob.disk (runM (List.take (a + (1 : Nat)) l))) (hB := by kernel_rfl) (hC := by kernel_rfl) (hc := ?_) (he := by kernel_rfl) (ih (a + 1) hi1 hi2)
      exact ⟨⟨rfl, Int.natCast_succ _⟩, congrArg Ob.disk hsucc.symm⟩
    · intro h2
      rw [if_neg h2] at hsucc
      refine To.run hok 5000 (C := True) (by kernel_rfl) (by (and_intros <;> try first | exact True.intro | with_reducible rfl | omega | with_reducible assumption | (refine fits_i64 ?_ ?_ <;> omega) | (refine fits_u64 ?_ ?_ <;> omega))) ?_
      refine To.brd hok (OpD.kind (List.getD l (Int.toNat (↑a : Int)) default) = (1 : Int)) (C := True) (by kernel_rfl) (by kernel_rfl) (by (and_intros <;> try first | exact True.intro | with_reducible rfl | omega | with_reducible assumption | (refine fits_i64 ?_ ?_ <;> omega) | (refine fits_u64 ?_ ?_ <;> omega))) ?_ ?_
      · intro h3
        rw [if_pos h3] at hsucc
        refine To.run hok 14 (C := DiskD.Fine (runM (List.take a l)) ∧ fits IntKind.i64 ((↑a : Int) + (1 : Int))) (by kernel_rfl) (by (and_intros <;> try first | exact True.intro | with_reducible rfl | omega | with_reducible assumption | (refine fits_i64 ?_ ?_ <;> omega) | (refine fits_u64 ?_ ?_ <;> omega))) ?_
        refine To.backX (L := [LN.old (0 : Nat)]) (kp := [(15 : Nat), (14 : Nat), (13 : Nat), (3 : Nat)]) (ks := []) (ov := [((15 : Nat), AV.sy (Value.int IntKind.i64 (↑(a + (1 : Nat)) : Int)))]) (ob := [((0 : Nat), AB.obj (Ob.disk (runM (List.take (a + (1 : Nat)) l))))]) (C := (IntKind.i64 = IntKind.i64 ∧ (↑a : Int) + (1 : Int) = (↑(a + (1 : Nat)) : Int)) ∧ Ob.disk ((fun d ↦ Prod.fst (flushD d)) (runM (List.take a l))) = Ob.disk (runM (List.take (a + (1 : Nat)) l))) (hB := by kernel_rfl) (hC := by kernel_rfl) (hc := ?_) (he := by kernel_rfl) (ih (a + 1) hi1 hi2)
        exact ⟨⟨rfl, Int.natCast_succ _⟩, congrArg Ob.disk hsucc.symm⟩
      · intro h3
        rw [if_neg h3] at hsucc
        refine To.run hok 5000 (C := True) (by kernel_rfl) (by (and_intros <;> try first | exact True.intro | with_reducible rfl | omega | with_reducible assumption | (refine fits_i64 ?_ ?_ <;> omega) | (refine fits_u64 ?_ ?_ <;> omega))) ?_
        refine To.brd hok (OpD.kind (List.getD l (Int.toNat (↑a : Int)) default) = (3 : Int)) (C := True) (by kernel_rfl) (by kernel_rfl) (by (and_intros <;> try first | exact True.intro | with_reducible rfl | omega | with_reducible assumption | (refine fits_i64 ?_ ?_ <;> omega) | (refine fits_u64 ?_ ?_ <;> omega))) ?_ ?_
        · intro h4
          rw [if_pos h4] at hsucc
          refine To.run hok 16 (C := ((∀ (r : Nat), r < List.length (CrashD.keep (OpD.c (List.getD l (Int.toNat (↑a : Int)) default))) → intsF (CrashD.keep (OpD.c (List.getD l (Int.toNat (↑a : Int)) default))) r = intsF (numsF (List.length (CrashD.keep (OpD.c (List.getD l (Int.toNat (↑a : Int)) default)))) (intsF (CrashD.keep (OpD.c (List.getD l (Int.toNat (↑a : Int)) default))))) r) ∧ DiskD.Fine (runM (List.take a l)) ∧ List.length (Prod.fst (numsF (List.length (CrashD.keep (OpD.c (List.getD l (Int.toNat (↑a : Int)) default)))) (intsF (CrashD.keep (OpD.c (List.getD l (Int.toNat (↑a : Int)) default)))), ∀ (r : Nat), r < List.length (CrashD.keep (OpD.c (List.getD l (Int.toNat (↑a : Int)) default))) → intsF (CrashD.keep (OpD.c (List.getD l (Int.toNat (↑a : Int)) default))) r = intsF (numsF (List.length (CrashD.keep (OpD.c (List.getD l (Int.toNat (↑a : Int)) default)))) (intsF (CrashD.keep (OpD.c (List.getD l (Int.toNat (↑a : Int)) default))))) r)) ≤ (1000000 : Nat) ∧ fits IntKind.i64 (CrashD.at_ (OpD.c (List.getD l (Int.toNat (↑a : Int)) default)))) ∧ fits IntKind.i64 ((↑a : Int) + (1 : Int))) (by kernel_rfl) ?_ ?_; (and_intros <;> try first | exact True.intro | with_reducible rfl | omega | with_reducible assumption | (refine fits_i64 ?_ ?_ <;> omega) | (refine fits_u64 ?_ ?_ <;> omega))
          · intro r _; rw [hck]
          · show (numsF _ _).length ≤ 1000000
            rw [numsF_len]; exact hkp
          · exact hwf.c.at_
          have hdd : (downD (runM (l.take a)) ⟨(l.getD (Int.toNat (a : Int)) default).c.w, numsF (l.getD (Int.toNat (a : Int)) default).c.keep.length (intsF (l.getD (Int.toNat (a : Int)) default).c.keep), (l.getD (Int.toNat (a : Int)) default).c.torn, (l.getD (Int.toNat (a : Int)) default).c.at_⟩).1 = runM (l.take (a + 1)) := by
            rw [hck]; exact hsucc.symm
          refine To.backX (L := [LN.old (0 : Nat)]) (kp := [(15 : Nat), (14 : Nat), (13 : Nat), (3 : Nat)]) (ks := []) (ov := [((15 : Nat), AV.sy (Value.int IntKind.i64 (↑(a + (1 : Nat)) : Int)))]) (ob := [((0 : Nat), AB.obj (Ob.disk (runM (List.take (a + (1 : Nat)) l))))]) (C := (IntKind.i64 = IntKind.i64 ∧ (↑a : Int) + (1 : Int) = (↑(a + (1 : Nat)) : Int)) ∧ Ob.disk (Prod.fst (downD (runM (List.take a l)) { w := CrashD.w (OpD.c (List.getD l (Int.toNat (↑a : Int)) default)), keep := Prod.fst (numsF (List.length (CrashD.keep (OpD.c (List.getD l (Int.toNat (↑a : Int)) default)))) (intsF (CrashD.keep (OpD.c (List.getD l (Int.toNat (↑a : Int)) default)))), ∀ (r : Nat), r < List.length (CrashD.keep (OpD.c (List.getD l (Int.toNat (↑a : Int)) default))) → intsF (CrashD.keep (OpD.c (List.getD l (Int.toNat (↑a : Int)) default))) r = intsF (numsF (List.length (CrashD.keep (OpD.c (List.getD l (Int.toNat (↑a : Int)) default)))) (intsF (CrashD.keep (OpD.c (List.getD l (Int.toNat (↑a : Int)) default))))) r), torn := CrashD.torn (OpD.c (List.getD l (Int.toNat (↑a : Int)) default)), at_ := CrashD.at_ (OpD.c (List.getD l (Int.toNat (↑a : Int)) default)) })) = Ob.disk (runM (List.take (a + (1 : Nat)) l))) (hB := by kernel_rfl) (hC := by kernel_rfl) (hc := ?_) (he := by kernel_rfl) (ih (a + 1) hi1 hi2)
          exact ⟨⟨rfl, Int.natCast_succ _⟩, congrArg Ob.disk hdd⟩
        · intro h4
          rw [if_neg h4] at hsucc
          refine To.run hok 5000 (C := True) (by kernel_rfl) (by (and_intros <;> try first | exact True.intro | with_reducible rfl | omega | with_reducible assumption | (refine fits_i64 ?_ ?_ <;> omega) | (refine fits_u64 ?_ ?_ <;> omega))) ?_
          refine To.brd hok (OpD.kind (List.getD l (Int.toNat (↑a : Int)) default) = (5 : Int)) (C := True) (by kernel_rfl) (by kernel_rfl) (by (and_intros <;> try first | exact True.intro | with_reducible rfl | omega | with_reducible assumption | (refine fits_i64 ?_ ?_ <;> omega) | (refine fits_u64 ?_ ?_ <;> omega))) ?_ ?_
          · intro h5
            rw [if_pos h5] at hsucc
            refine To.run hok 14 (C := DiskD.Fine (runM (List.take a l)) ∧ fits IntKind.i64 ((↑a : Int) + (1 : Int))) (by kernel_rfl) (by (and_intros <;> try first | exact True.intro | with_reducible rfl | omega | with_reducible assumption | (refine fits_i64 ?_ ?_ <;> omega) | (refine fits_u64 ?_ ?_ <;> omega))) ?_
            refine To.backX (L := [LN.old (0 : Nat)]) (kp := [(15 : Nat), (14 : Nat), (13 : Nat), (3 : Nat)]) (ks := []) (ov := [((15 : Nat), AV.sy (Value.int IntKind.i64 (↑(a + (1 : Nat)) : Int)))]) (ob := [((0 : Nat), AB.obj (Ob.disk (runM (List.take (a + (1 : Nat)) l))))]) (C := (IntKind.i64 = IntKind.i64 ∧ (↑a : Int) + (1 : Int) = (↑(a + (1 : Nat)) : Int)) ∧ Ob.disk (bootD (runM (List.take a l))) = Ob.disk (runM (List.take (a + (1 : Nat)) l))) (hB := by kernel_rfl) (hC := by kernel_rfl) (hc := ?_) (he := by kernel_rfl) (ih (a + 1) hi1 hi2)
            exact ⟨⟨rfl, Int.natCast_succ _⟩, congrArg Ob.disk hsucc.symm⟩
          · intro h5
            rw [if_neg h5] at hsucc
            refine To.run hok 5000 (C := True) (by kernel_rfl) (by (and_intros <;> try first | exact True.intro | with_reducible rfl | omega | with_reducible assumption | (refine fits_i64 ?_ ?_ <;> omega) | (refine fits_u64 ?_ ?_ <;> omega))) ?_
            refine To.brd hok (OpD.kind (List.getD l (Int.toNat (↑a : Int)) default) = (6 : Int)) (C := True) (by kernel_rfl) (by kernel_rfl) (by (and_intros <;> try first | exact True.intro | with_reducible rfl | omega | with_reducible assumption | (refine fits_i64 ?_ ?_ <;> omega) | (refine fits_u64 ?_ ?_ <;> omega))) ?_ ?_
            · intro h6
              rw [if_pos h6] at hsucc
              refine To.run hok 18 (C := (True ∧ DiskD.Fine (runM (List.take a l))) ∧ fits IntKind.i64 ((↑a : Int) + (1 : Int))) (by kernel_rfl) (by (and_intros <;> try first | exact True.intro | with_reducible rfl | omega | with_reducible assumption | (refine fits_i64 ?_ ?_ <;> omega) | (refine fits_u64 ?_ ?_ <;> omega))) ?_
              refine To.backX (L := [LN.old (0 : Nat)]) (kp := [(15 : Nat), (14 : Nat), (13 : Nat), (3 : Nat)]) (ks := []) (ov := [((15 : Nat), AV.sy (Value.int IntKind.i64 (↑(a + (1 : Nat)) : Int)))]) (ob := [((0 : Nat), AB.obj (Ob.disk (runM (List.take (a + (1 : Nat)) l))))]) (C := (IntKind.i64 = IntKind.i64 ∧ (↑a : Int) + (1 : Int) = (↑(a + (1 : Nat)) : Int)) ∧ Ob.disk (Prod.fst (spoilD (runM (List.take a l)) (OpD.at_ (List.getD l (Int.toNat (↑a : Int)) default)) (Prod.fst (OpD.b (List.getD l (Int.toNat (↑a : Int)) default), True)))) = Ob.disk (runM (List.take (a + (1 : Nat)) l))) (hB := by kernel_rfl) (hC := by kernel_rfl) (hc := ?_) (he := by kernel_rfl) (ih (a + 1) hi1 hi2)
              exact ⟨⟨rfl, Int.natCast_succ _⟩, congrArg Ob.disk hsucc.symm⟩
            · intro h6
              rw [if_neg h6] at hsucc
              refine To.run hok 11 (C := fits IntKind.i64 ((↑a : Int) + (1 : Int))) (by kernel_rfl) (by (and_intros <;> try first | exact True.intro | with_reducible rfl | omega | with_reducible assumption | (refine fits_i64 ?_ ?_ <;> omega) | (refine fits_u64 ?_ ?_ <;> omega))) ?_
              refine To.backX (L := [LN.old (0 : Nat)]) (kp := [(15 : Nat), (14 : Nat), (13 : Nat), (3 : Nat)]) (ks := []) (ov := [((15 : Nat), AV.sy (Value.int IntKind.i64 (↑(a + (1 : Nat)) : Int)))]) (ob := [((0 : Nat), AB.obj (Ob.disk (runM (List.take (a + (1 : Nat)) l))))]) (C := (IntKind.i64 = IntKind.i64 ∧ (↑a : Int) + (1 : Int) = (↑(a + (1 : Nat)) : Int)) ∧ Ob.disk (runM (List.take a l)) = Ob.disk (runM (List.take (a + (1 : Nat)) l))) (hB := by kernel_rfl) (hC := by kernel_rfl) (hc := ?_) (he := by kernel_rfl) (ih (a + 1) hi1 hi2)
              exact ⟨⟨rfl, Int.natCast_succ _⟩, congrArg Ob.disk hsucc.symm⟩
  · intro h1
    have hfin : l.take a = l := List.take_of_length_le (by omega)
    have e : madeD l = (flushD (bootD (runM (l.take a)))).1 := by rw [hfin]; rfl
    refine To.run hok 5000 (C := DiskD.Fine (runM (List.take a l)) ∧ DiskD.Fine (bootD (runM (List.take a l)))) (by kernel_rfl) ?_ ?_; (and_intros <;> try first | exact True.intro | with_reducible rfl | omega | with_reducible assumption | (refine fits_i64 ?_ ?_ <;> omega) | (refine fits_u64 ?_ ?_ <;> omega))
    · exact hloose.in_.boot.fine
    refine To.end (AV.ptr (nat_lit 0) (nat_lit 0)) (by kernel_rfl) ?_
    rw [e]
    exact ⟨0, rfl, by kernel_rfl⟩
/-- A disk behind calls. -/
def madeF : CF := oneF 56 fun args H n => match args with
  | [.im 7 m f] => some ((.ptr n 0, tput H n (.obj (.disk (madeD (opsOf m f)))), n + 1), (∀ r, r < m → f r = opsF (opsOf m f) r) ∧ (∀ o ∈ opsOf m f, o.Wf ∧ o.c.keep.length ≤ 1000000) ∧ m ≤ 200)
  | _ => none
theorem madeF_ok : FOk Try.prog madeF := oneF_ok tab Try.func56 (by kernel_rfl) fun {args H n r} h hC {w0 ρ w vs} hr hv => by
  split at h
  · rename_i m f
    cases h
    obtain ⟨hC1, hC2, hC3⟩ : (∀ r, r < m → f r = opsF (opsOf m f) r) ∧ (∀ o ∈ opsOf m f, o.Wf ∧ o.c.keep.length ≤ 1000000) ∧ m ≤ 200 := hC
    cases hv with
    | @cons _ u _ _ e1 t =>
    cases t
    have him := im_all hr
    have hx : VR (envOf w) (.im 7 (opsOf m f).length (opsF (opsOf m f))) u := by
      cases e1 with
      | im hw hf =>
        rw [opsOf_len]
        exact .im (hw.mono him) (fun r hr' => by rw [← hC1 r hr']; exact (hf r hr').mono him)
    exact obj_calls sA_ok (by kernel_rfl) (made_to sA_ok (opsOf m f) hC2 (by rw [opsOf_len]; exact hC3)) (.cons hx .nil) hr
  · cases h
set_option maxRecDepth 100000 in
theorem has_to (hok : S0.Ok Try.prog) (l : List Int) (z : Int) (hl : l.length ≤ 1000000) : To S0 Try.prog 58 (startOf Try.prog 58 [.im 1 l.length (intsF l), ivA z] .e 0) (fun x _ _ => x = .v (.bool (decide (z ∈ l)))) := by
  refine To.run hok 13 (C := True) (by kernel_rfl) (by (and_intros <;> try first | exact True.intro | with_reducible rfl | omega | with_reducible assumption | (refine fits_i64 ?_ ?_ <;> omega) | (refine fits_u64 ?_ ?_ <;> omega))) ?_
  refine To.loopX (L := []) (kp := [(8 : Nat), (7 : Nat), (1 : Nat), (0 : Nat)]) (ks := []) (C := IntKind.i64 = IntKind.i64 ∧ (0 : Int) = (↑(0 : Nat) : Int)) (st := fun (a : Nat) => (⟨⟨58, 18, slotT 18 [(0, AV.im (nat_lit 1) (List.length l) (intsF l)), (1, AV.sy (Value.int IntKind.i64 z)), (7, AV.sy (Value.int IntKind.i64 (↑(List.length l) : Int))), (8, AV.sy (Value.int IntKind.i64 (↑a : Int)))], ARg.no, [Go.Proofs.Ytnkjhicokcmmpaa.Sm.AItem.code (subC (bodyC Try.prog 58) [1, 0, 1, 0, 0]), Go.Proofs.Ytnkjhicokcmmpaa.Sm.AItem.inLoop (subC (bodyC Try.prog 58) [1, 0, 1, 0, 0]), (AItem.inBlock 0), Go.Proofs.Ytnkjhicokcmmpaa.Sm.AItem.code (subC (bodyC Try.prog 58) [1, 1])], [], false, none, (0 : Nat)⟩, [], memF [] 0 Tr.e, 0⟩ : ASt)) (hB := by kernel_rfl) (hC := by kernel_rfl) (he := by kernel_rfl) (hI := ?_) (hc := by (and_intros <;> try first | exact True.intro | with_reducible rfl | omega | with_reducible assumption | (refine fits_i64 ?_ ?_ <;> omega) | (refine fits_u64 ?_ ?_ <;> omega))) (step := ?_) (fun (a : Nat) => [(8, ivA (a : Int))]) (fun _ => []) (fun a => a ≤ l.length ∧ z ∉ l.take a) (fun a => l.length - a) (0)
  · simp
  intro a ⟨ha, hn⟩ ih
  refine To.run hok 5000 (C := True) (by kernel_rfl) (by (and_intros <;> try first | exact True.intro | with_reducible rfl | omega | with_reducible assumption | (refine fits_i64 ?_ ?_ <;> omega) | (refine fits_u64 ?_ ?_ <;> omega))) ?_
  refine To.brd hok ((↑a : Int) < (↑(List.length l) : Int)) (C := True) (by kernel_rfl) (by kernel_rfl) (by (and_intros <;> try first | exact True.intro | with_reducible rfl | omega | with_reducible assumption | (refine fits_i64 ?_ ?_ <;> omega) | (refine fits_u64 ?_ ?_ <;> omega))) ?_ ?_
  · intro h
    have hlt : a < l.length := by omega
    have hi : a + 1 ≤ l.length := hlt
    have hi2 : l.length - (a + 1) < l.length - a := by omega
    refine To.run hok 5000 (C := ((0 : Int) ≤ (↑a : Int) ∧ (↑a : Int) < (↑(List.length l) : Int)) ∧ True) (by kernel_rfl) (by (and_intros <;> try first | exact True.intro | with_reducible rfl | omega | with_reducible assumption | (refine fits_i64 ?_ ?_ <;> omega) | (refine fits_u64 ?_ ?_ <;> omega))) ?_
    refine To.brd hok (List.getD l (Int.toNat (↑a : Int)) (0 : Int) = z) (C := True) (by kernel_rfl) (by kernel_rfl) (by (and_intros <;> try first | exact True.intro | with_reducible rfl | omega | with_reducible assumption | (refine fits_i64 ?_ ?_ <;> omega) | (refine fits_u64 ?_ ?_ <;> omega))) ?_ ?_
    · intro h2
      refine To.run hok 5000 (C := True) (by kernel_rfl) (by (and_intros <;> try first | exact True.intro | with_reducible rfl | omega | with_reducible assumption | (refine fits_i64 ?_ ?_ <;> omega) | (refine fits_u64 ?_ ?_ <;> omega))) ?_
      refine To.end (AV.v (Value.bool true)) (by kernel_rfl) ?_
      have : z ∈ l := List.mem_of_mem_take ((mem_take_succ hlt z).2 (.inr (by simpa using h2.symm)))
      simp [this]
    · intro h2
      refine To.run hok 9 (C := fits IntKind.i64 ((↑a : Int) + (1 : Int))) (by kernel_rfl) (by (and_intros <;> try first | exact True.intro | with_reducible rfl | omega | with_reducible assumption | (refine fits_i64 ?_ ?_ <;> omega) | (refine fits_u64 ?_ ?_ <;> omega))) ?_
      refine To.backX (L := []) (kp := [(8 : Nat), (7 : Nat), (1 : Nat), (0 : Nat)]) (ks := []) (ov := [((8 : Nat), AV.sy (Value.int IntKind.i64 (↑(a + (1 : Nat)) : Int)))]) (ob := []) (C := IntKind.i64 = IntKind.i64 ∧ (↑a : Int) + (1 : Int) = (↑(a + (1 : Nat)) : Int)) (hB := by kernel_rfl) (hC := by kernel_rfl) (hc := by (and_intros <;> try first | exact True.intro | with_reducible rfl | omega | with_reducible assumption | (refine fits_i64 ?_ ?_ <;> omega) | (refine fits_u64 ?_ ?_ <;> omega))) (he := by kernel_rfl) (ih (a + 1) ⟨hi, by rw [mem_take_succ hlt]; rintro (h3 | h3); exact hn h3; exact h2 (by simpa using h3.symm)⟩ hi2)
  · intro h
    refine To.run hok 5000 (C := True) (by kernel_rfl) (by (and_intros <;> try first | exact True.intro | with_reducible rfl | omega | with_reducible assumption | (refine fits_i64 ?_ ?_ <;> omega) | (refine fits_u64 ?_ ?_ <;> omega))) ?_
    refine To.end (AV.v (Value.bool false)) (by kernel_rfl) ?_
    have : z ∉ l := by rwa [List.take_of_length_le (by omega)] at hn
    simp [this]
/-- Is a number among those that a slice reads? -/
def hasG : CG := oneG 58 (testG fun args H => match args with
  | [x, y] => match isrc x H, intA y with
    | some (l, C), some (.i64, z) => some (decide (z ∈ l), C ∧ l.length ≤ 1000000)
    | _, _ => none
  | _ => none)
theorem hasG_ok : GOk Try.prog hasG := testG_ok tab Try.func58 (by kernel_rfl) fun {args H r} h hC {w0 ρ w vs n} hr hv => by
  split at h
  · rename_i x y
    split at h
    · rename_i l C z hl hz
      cases h
      obtain ⟨h1, h2⟩ : C ∧ l.length ≤ 1000000 := hC
      cases hv with
      | cons e1 t =>
      cases t with
      | cons e2 t =>
      cases t
      obtain rfl := intA_sound hz e2
      refine (pure_calls s0_ok (by kernel_rfl) (has_to s0_ok l z h2) (w := w) (.cons (isrc_sound hr hl h1 e1) (.cons (.sy _) .nil))).mono ?_
      rintro e w' ⟨x, H', n', ρ', v, rfl, rfl, hv, hf, _⟩
      cases hv
      exact ⟨rfl, hf⟩
    · cases h
  · cases h
end Go.Proofs.Ytnkjhicokcmmpaa.Sm

/-
  maps.Clone: the kit's contract laid at this program, in plain words (written by the kit's lay-plain.mjs).
-/
namespace Go.Proofs
open Go.Shelf
def Ytnkjhicokcmmpaa.mcloneL_ren : Go.Shelf.Ren := ⟨fun | 5 => 95 | 7 => 118 | n => n, fun | 23 => 106 | 25 => 3 | 3 => 131 | 4 => 4 | 20 => 20 | n => n, fun | n => n⟩
theorem Ytnkjhicokcmmpaa.mcloneL : Go.Proofs.SlLaysW.n5 Try.prog Ytnkjhicokcmmpaa.mcloneL_ren := {
  mixed := by kernel_rfl
  f5 := ⟨Try.f95.name, by decide, Try.func95.trans (congrArg some (by kernel_rfl))⟩
  f7 := Try.func118.trans (congrArg some (by kernel_rfl))
  t4 := Try.underlying4
  a4 := Try.isAgg4
  z4 := Try.sizeOf4
  v4 := Try.zeroValue4
  t20 := Try.underlying20
  a20 := Try.isAgg20
  z20 := Try.sizeOf20
  v20 := Try.zeroValue20
  t23 := Try.underlying106
  a23 := Try.isAgg106
  z23 := Try.sizeOf106
  v23 := Try.zeroValue106 }
end Go.Proofs

/-
  Copies of a disk's rows and of its map.
-/
namespace Go.Proofs.Ytnkjhicokcmmpaa.Sm
open Go Go.RowKit
/-- maps.Clone of a map to sectors. -/
def cloneMF : CF := oneF 95 fun args H n => match args with
  | [.mp q] => match H.get q with
    | some (.obj (.wmap m)) => some ((.mp n, tput H n (.obj (.wmap m)), n + 1), True)
    | _ => none
  | _ => none
theorem cloneMF_ok : FOk Try.prog cloneMF := oneF_ok tab Try.func95 (by kernel_rfl) fun {args H n r} h _ {w0 ρ w vs} hr hv => by
  split at h
  · rename_i q
    split at h
    · rename_i m hq
      cases h
      cases hv with
      | cons e1 t =>
      cases t
      cases e1 with
      | @mp _ b c hm =>
        obtain ⟨F, hF, hrep, _⟩ := hr.obj hm hq
        obtain ⟨es, clock, hb, hst, hes⟩ := hrep.2
        refine Calls.mono (AnyW.maps_Clone Ytnkjhicokcmmpaa.mcloneL b es clock w hb) ?_
        rintro e w' ⟨rfl, rfl⟩
        have hnew := heap_alloc_new w (.map es clock)
        obtain ⟨k1, k2⟩ := hr.newX (x := .wmap m) (g := w.heap.size) (c := 0) (F' := fun k => k = w.heap.size) ((Fr.refl No w).alloc _) ⟨fun _ => Iff.rfl, es, clock, hnew, hst, hes⟩ rfl (fun k hk => by
          subst hk; exact ⟨Nat.le_refl _, (Array.getElem?_eq_some_iff.1 hnew).1⟩)
        exact ⟨_, _, rfl, .mp (Env.set_same _ _ _), k1, k2⟩
    · cases h
  · cases h
def rowBs (ll : List (List UInt8)) (r : Nat) : List AV := (ll.getD r []).map fun x => .sy (byt x)
theorem rowBs_VR (I : Im) : ∀ l : List UInt8, VRs0 I (l.map fun x => AV.sy (byt x)) (l.map byt)
  | [] => .nil
  | _ :: l => .cons (.sy _) (rowBs_VR I l)
theorem rowBs_inv (I : Im) : ∀ (l : List UInt8) (vs : List Value), VRs0 I (l.map fun x => AV.sy (byt x)) vs → vs = l.map byt
  | [], vs, h => by cases h; rfl
  | x :: l, vs, h => by
    cases h with
    | cons e t => cases e; rw [rowBs_inv I l _ t]; rfl
theorem rows_flat : ∀ {ll : List (List UInt8)} {vs : List Value}, (∀ l ∈ ll, l.length = 128) → vs.length = ll.length * 128 → (∀ r, r < ll.length → (vs.drop (r * 128)).take 128 = (ll.getD r []).map byt) → vs = ll.flatten.map byt
  | [], vs, _, hl, _ => by simpa using hl
  | l :: ll, vs, h, hl, hr => by
    have h0 := hr 0 (by simp)
    simp at h0
    have ih := rows_flat (ll := ll) (vs := vs.drop 128) (fun x hx => h x (by simp [hx])) (by simp [hl, Nat.succ_mul]) (fun r hr' => by
      have := hr (r + 1) (by simpa using hr')
      rw [List.drop_drop]
      simpa [Nat.succ_mul, Nat.add_comm] using this)
    rw [List.flatten_cons, List.map_append, ← ih, ← h0, List.take_append_drop]
set_option maxRecDepth 100000 in
theorem cloneS_to1 (hok : S0.Ok Try.prog) (ad : Addr) (c k : Nat) (f : Nat → List AV) (hk : k + 1 ≤ 1000000) (hf : ∀ r, r < k + 1 → (f r).all oneA = true) : To S0 Try.prog 94 (startOf Try.prog 94 [.ix (some ad) c 128 (Nat.succ k) f] .e 0) (fun x H _ => x = .ow 1 (k + 1) ∧ H.get 1 = some (.rw 131 128 (k + 1) f)) := by
  refine To.run hok 5000 (C := True ∧ k + (1 : Nat) ≤ (1073741824 : Nat) ∧ ∀ (r : Nat), r < k + (1 : Nat) → List.all (f r) oneA = true) (by kernel_rfl) (by (and_intros <;> try first | exact True.intro | with_reducible rfl | omega | with_reducible assumption | (refine fits_i64 ?_ ?_ <;> omega) | (refine fits_u64 ?_ ?_ <;> omega))) ?_
  refine To.end (AV.ow (nat_lit 1) (k + (1 : Nat))) (by kernel_rfl) ?_
  exact ⟨rfl, by kernel_rfl⟩
set_option maxRecDepth 100000 in
theorem cloneS_to2 (hok : S0.Ok Try.prog) (ad : Addr) (c : Nat) (f : Nat → List AV) : To S0 Try.prog 94 (startOf Try.prog 94 [.ix (some ad) c 128 0 f] .e 0) (fun x _ _ => ∃ q o, x = .sl q o 0 0) := by
  refine To.run hok 5000 (C := True ∧ True) (by kernel_rfl) (by (and_intros <;> try first | exact True.intro | with_reducible rfl | omega | with_reducible assumption | (refine fits_i64 ?_ ?_ <;> omega) | (refine fits_u64 ?_ ?_ <;> omega))) ?_
  refine To.end (AV.sl (nat_lit 0) (nat_lit 0) (nat_lit 0) (nat_lit 0)) (by kernel_rfl) ?_
  exact ⟨_, _, rfl⟩
set_option maxRecDepth 100000 in
theorem cloneS_to3 (hok : S0.Ok Try.prog) : To S0 Try.prog 94 (startOf Try.prog 94 [.v (.slice none 0 0)] .e 0) (fun x _ _ => x = .v (.slice none 0 0)) := by
  refine To.run hok 5000 (C := True) (by kernel_rfl) (by (and_intros <;> try first | exact True.intro | with_reducible rfl | omega | with_reducible assumption | (refine fits_i64 ?_ ?_ <;> omega) | (refine fits_u64 ?_ ?_ <;> omega))) ?_
  refine To.end (AV.v (Value.slice none (0 : Nat) (0 : Nat))) (by kernel_rfl) ?_
  rfl
def cloneSF0 : CF := oneF 94 (cloneK 131 128)
theorem cloneSF0_ok : FOk Try.prog cloneSF0 := cloneF_ok s0_ok tab Try.func94 (by kernel_rfl) (cloneS_to1 s0_ok) (cloneS_to2 s0_ok) (cloneS_to3 s0_ok) (fun _ _ _ _ => by kernel_rfl) (fun _ _ _ => by kernel_rfl) (by kernel_rfl)
/-- slices.Clone of a disk's rows. -/
def cloneSF : CF := oneF 94 fun args H n => match args with
  | [.ow i N] => match H.get i with
    | some (.obj (.rows 128 ll)) => some ((.ow n N, tput H n (.obj (.rows 128 ll)), n + 1), N = ll.length ∧ N ≠ 0 ∧ N ≤ 1000000)
    | _ => none
  | _ => none
theorem cloneSF_ok : FOk Try.prog cloneSF := oneF_ok tab Try.func94 (by kernel_rfl) fun {args H n r} h hC {w0 ρ w vs} hr hv => by
  split at h
  · rename_i i N
    split at h
    · rename_i ll hB
      cases h
      obtain ⟨rfl, hne, hle⟩ : N = ll.length ∧ N ≠ 0 ∧ N ≤ 1000000 := hC
      cases hv with
      | cons e1 t =>
      cases t
      generalize hN : ll.length = N at e1 hne hle
      cases e1 with
      | ow0 => exact absurd rfl hne
      | @ow _ b c _ hi hn hc =>
        obtain ⟨F, hF, hrep, _⟩ := hr.obj hi hB
        obtain ⟨T, fz, sp, hb, hfz, hrow⟩ := hrep.2
        have hfl := flat_len hrow
        have hx : VR (envOf w) (.im 128 N (rowBs ll)) (.slice (some ⟨b, 0, none⟩) N c) := by
          refine .im (vs := ll.flatten.map byt) ⟨by simp only [List.length_map]; rw [hfl, hN], hn, hc, (fun e => by cases e), fun ad had j u hu => ?_⟩ (fun r hr' => ?_)
          · cases had
            rw [Addr.add_lit]
            refine imOf_cell ?_
            rw [cells_cell hb, Nat.zero_add, List.getElem?_append_left (List.getElem?_eq_some_iff.1 hu).1]; exact hu
          · rw [← List.map_drop, ← List.map_take, flat_row hrow (by rw [hN]; exact hr')]
            exact rowBs_VR _ _
        obtain ⟨k, rfl⟩ : ∃ k, N = k + 1 := ⟨N - 1, by omega⟩
        have hcl := (cloneSF0_ok.ok (f := 94) (args := [.im 128 (k + 1) (rowBs ll)]) (H := .e) (n := 0) (r := ((.ow 0 (k + 1), tput .e 0 (.rw 131 128 (k + 1) (rowBs ll)), 1), k + 1 ≤ 1000000 ∧ ∀ r, r < k + 1 → (rowBs ll r).all oneA = true)) (by kernel_rfl) ⟨hle, fun r _ => by simp [rowBs, oneA, byt, Value.oneCell']⟩).2 (HR.all w) (.cons hx .nil)
        refine Calls.mono hcl ?_
        rintro e w' ⟨ρ', v, rfl, hv', hr', _⟩
        generalize hK : k + 1 = K at hv'
        cases hv' with
        | ow0 => omega
        | @ow _ b' c' _ hi' hn' hc' =>
          subst hK
          obtain ⟨o, ho, us, sp', rfl, g1, g2, g3, g4, g5⟩ := hr'.blk (B := .rw 131 128 (k + 1) (rowBs ll)) hi' (by show (tput .e 0 _).get 0 = _; rw [get_tput, if_pos rfl])
          have hus : us = ll.flatten.map byt := rows_flat hrow (by rw [g1, hN]) (fun r hr2 => by
            have := g5 r (by rw [← hN]; exact hr2)
            exact rowBs_inv _ _ _ this)
          subst hus
          have hnew : w.heap.size ≤ b' := by
            rcases (hr'.base hi').1 with h | h
            · exact absurd h (No.no b')
            · exact h
          obtain ⟨k1, k2⟩ := hr.newX (x := .rows 128 ll) (g := b') (c := c') (F' := fun k => k = b') hr'.fr ⟨fun _ => Iff.rfl, _, _, sp', ho, .inl rfl, hrow⟩ rfl (fun k hk => by
            subst hk; exact ⟨hnew, (hr'.base hi').2⟩)
          exact ⟨_, _, rfl, .ow _ (Env.set_same _ _ _) hn' hc', k1, k2⟩
    · cases h
  · cases h
end Go.Proofs.Ytnkjhicokcmmpaa.Sm

/-
  A disk that is not armed, copied.
-/
namespace Go.Proofs.Ytnkjhicokcmmpaa.Sm
open Go Go.RowKit
noncomputable abbrev S6 : Sy := sym Try.prog (orF cloneSF cloneMF) noG
theorem s6_ok : S6.Ok Try.prog := sym_ok (orF_ok cloneSF_ok cloneMF_ok) (noG_ok _) tab mix
set_option maxHeartbeats 4000000 in
set_option maxRecDepth 100000 in
theorem copy_to (hok : S6.Ok Try.prog) (T : TypeId) (d : DiskD) (ka : Option Addr) (kc : Nat) (hd : d.Fine) :
    To S6 Try.prog 57 (startOf Try.prog 57 [.ptr 0 0] (memF (diskH T d ka kc) 0 .e) 3)
      (fun x H' _ => x = .ptr 3 0 ∧ DEnd 0 ka kc d.crash.keep d H' [3, 4, 5] ∧ H'.get 3 = some (.mem 108 none [.ow 4 d.stays.length, .mp 5, ivA d.crash.w, .ix ka kc 1 d.crash.keep.length (intsF d.crash.keep), ivA d.crash.torn, ivA d.crash.at_, ivA d.writes, .sy (.bool d.down)]) ∧ H'.get 4 = some (.obj (.rows 128 d.stays)) ∧ H'.get 5 = some (.obj (.wmap d.waits))) := by
  have w1 := hd.ok.npos
  have w2 := hd.ok.le
  refine To.run hok 5000 (C := True) (by kernel_rfl) (by (and_intros <;> try first | exact True.intro | with_reducible rfl | omega | with_reducible assumption | (refine fits_i64 ?_ ?_ <;> omega) | (refine fits_u64 ?_ ?_ <;> omega))) ?_
  refine To.nod hok ((↑(List.length (DiskD.stays d)) : Int) = (0 : Int)) (by (and_intros <;> try first | exact True.intro | with_reducible rfl | omega | with_reducible assumption | (refine fits_i64 ?_ ?_ <;> omega) | (refine fits_u64 ?_ ?_ <;> omega))) (C := True) (by kernel_rfl) (by (and_intros <;> try first | exact True.intro | with_reducible rfl | omega | with_reducible assumption | (refine fits_i64 ?_ ?_ <;> omega) | (refine fits_u64 ?_ ?_ <;> omega))) ?_
  refine To.run hok 5000 (C := (List.length (DiskD.stays d) = List.length (DiskD.stays d) ∧ List.length (DiskD.stays d) ≠ (0 : Nat) ∧ List.length (DiskD.stays d) ≤ (1000000 : Nat)) ∧ AV.mp (nat_lit 2) = AV.mp (nat_lit 2) ∧ True) (by kernel_rfl) (by (and_intros <;> try first | exact True.intro | with_reducible rfl | omega | with_reducible assumption | (refine fits_i64 ?_ ?_ <;> omega) | (refine fits_u64 ?_ ?_ <;> omega))) ?_
  refine To.end (AV.ptr (nat_lit 3) (nat_lit 0)) (by kernel_rfl) ?_
  exact ⟨rfl, DEnd.upM (T := T) [3, 4, 5] (by decide) (by kernel_rfl) (by kernel_rfl) (by kernel_rfl) w1, by kernel_rfl, by kernel_rfl, by kernel_rfl⟩
/-- A copy of a disk that is not armed. -/
def copyF : CF := oneF 57 fun args H n => match args with
  | [.ptr i 0] => match H.get i with
    | some (.obj (.disk d)) => some ((.ptr n 0, tput (tput H i (.obj (.disk d))) n (.obj (.disk d)), n + 1), d.Fine ∧ d.crash.keep = [])
    | _ => none
  | _ => none
theorem copyF_ok : FOk Try.prog copyF := oneF_ok tab Try.func57 (by kernel_rfl) fun {args H n r} h hC {w0 ρ w vs} hr hv => by
  split at h
  · rename_i i
    split at h
    · rename_i d hB
      cases h
      obtain ⟨hd, hk0⟩ : d.Fine ∧ d.crash.keep = [] := hC
      cases hv with
      | cons e1 t =>
      cases t
      cases e1 with
      | @ptr _ b c _ hi =>
        obtain ⟨F, hF⟩ := hr.foot
        refine (disk_core s6_ok (rest := []) (Q := fun ka kc x H' => x = .ptr 3 0 ∧ DEnd 0 ka kc d.crash.keep d H' [3, 4, 5] ∧ H'.get 3 = some (.mem 108 none [.ow 4 d.stays.length, .mp 5, ivA d.crash.w, .ix ka kc 1 d.crash.keep.length (intsF d.crash.keep), ivA d.crash.torn, ivA d.crash.at_, ivA d.writes, .sy (.bool d.down)]) ∧ H'.get 4 = some (.obj (.rows 128 d.stays)) ∧ H'.get 5 = some (.obj (.wmap d.waits))) (fun T ka kc => by kernel_rfl) (fun T ka kc => copy_to s6_ok T d ka kc hd) hF hi hB .nil).mono ?_
        rintro e w' ⟨ka, kc, x, H', n', ρ', v, bs0, cs, bm, ⟨rfl, he, h3, h4, h5⟩, rfl, hv, hdi, hr'⟩
        obtain ⟨F', g1, g2, g3, g4⟩ := disk_put hr hF hi hB hdi hr' he
        cases hv with
        | @ptr _ bg cg _ hg =>
          obtain ⟨F2, k1, k2, k3, _, k5⟩ := hr'.closeG (ka := ka) (kc := kc) (keep0 := d.crash.keep) (d' := d) hg (fun h => absurd hk0 h) h3 h4 rfl (.map h5) rfl .was rfl rfl rfl rfl hd.ok.npos
          have named : ∀ k, F2 k → ∃ g cg' B, g ∈ [3, 4, 5] ∧ ρ' g = some (k, cg') ∧ H'.get g = some B ∧ B.live = true := fun k hk => by
            rcases k5 hk0 k hk with rfl | ⟨c1, e⟩ | ⟨q, c1, e0, e, B, e2, e3⟩
            · exact ⟨3, _, _, by simp, hg, h3, rfl⟩
            · exact ⟨4, _, _, by simp, e, h4, rfl⟩
            · cases e0; exact ⟨5, _, _, by simp, e, e2, e3⟩
          obtain ⟨j1, j2⟩ := g1.nameX (B := .obj (.disk d)) (g := bg) (c := cg) (F2 := F2) g3 k2 (fun k hk => by
            obtain ⟨a, b'⟩ : (F i k ∨ w.heap.size ≤ k) ∧ k < w'.heap.size := k3 k hk
            refine ⟨?_, b', ?_⟩
            · rcases a with h | h
              · exact (hF.there hi hB rfl h).1
              · exact .inr (Nat.le_trans hr.fr.size h)
            · rcases a with h | h
              · exact (hF.there hi hB rfl h).2.2
              · cases hk' : ρ.im k with
                | none => rfl
                | some cc => have := hr.imlt hk'; omega) (fun {j k p C} e1 e2 e3 e4 e5 => by
            obtain ⟨a, b'⟩ : (F i k ∨ w.heap.size ≤ k) ∧ k < w'.heap.size := k3 k e5
            by_cases hj : j = i
            · subst hj; simp only [if_true] at e4
              obtain ⟨g, cg', B, hm, q1, q2, q3⟩ := named k e5
              exact g4 hm q1 q2 q3 e4
            · simp only [if_neg hj] at e4
              rw [get_tput, if_neg hj] at e2
              rcases a with h | h
              · exact hj (hF.apart e1 hi e2 hB e3 rfl e4 h)
              · have := (hF.there e1 e2 e3 e4).2.1; omega) (by
            obtain ⟨o, ho, _⟩ := hr'.blk hg h3
            exact ⟨o, ho, trivial⟩) (fun h => by cases h) (fun x e => by cases e; exact k1)
          exact ⟨_, _, rfl, .ptr 0 (Env.set_same _ _ _), j1, g2.trans j2⟩
    · cases h
  · cases h
end Go.Proofs.Ytnkjhicokcmmpaa.Sm
