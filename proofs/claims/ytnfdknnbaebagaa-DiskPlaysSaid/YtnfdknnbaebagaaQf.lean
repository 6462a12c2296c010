/-
  Texts of this claim, laid together: Kg.
-/
import Derived.Test.YtnfdknnbaebagaaQe
import Derived.Test.YtnfdknnbaebagaaQd

namespace Go.Proofs.Ytnfdknnbaebagaa.Sm
open Go Go.RowKit
def dplayF : CF := orF writeF (orF flushF (orF downF (orF armF (orF bootF (orF spoilF (orF writesF (orF sizeF (orF waitsDF copyF))))))))
def dplayR : CF := orF rwriteF (orF rspoilF (orF rflushF (orF rdownF (orF rarmF (orF rreadF rwaitsF)))))
theorem dplayF_ok : FOk Try.prog dplayF := orF_ok writeF_ok (orF_ok flushF_ok (orF_ok downF_ok (orF_ok armF_ok (orF_ok bootF_ok (orF_ok spoilF_ok (orF_ok writesF_ok (orF_ok sizeF_ok (orF_ok waitsDF_ok copyF_ok))))))))
theorem dplayR_ok : FOk Try.prog dplayR := orF_ok rwriteF_ok (orF_ok rspoilF_ok (orF_ok rflushF_ok (orF_ok rdownF_ok (orF_ok rarmF_ok (orF_ok rreadF_ok rwaitsF_ok)))))
noncomputable abbrev S30 : Sy := sym Try.prog (orF dplayF dplayR) (orG newG (orG readG (orG upG (orG intsG (orG rnewG greatG)))))
theorem s30_ok : S30.Ok Try.prog := sym_ok (orF_ok dplayF_ok dplayR_ok) (orG_ok newG_ok (orG_ok readG_ok (orG_ok upG_ok (orG_ok intsG_ok (orG_ok rnewG_ok greatG_ok))))) tab mix
theorem great3_small {l : List OpD} (h : greatL l = false) : l.length ≤ 200 ∧ ∀ o ∈ l, o.b.length ≤ 500 ∧ o.c.keep.length ≤ 100 := by
 unfold greatL at h
 simp only [Bool.or_eq_false_iff, decide_eq_false_iff_not, List.any_eq_false] at h
 refine ⟨by omega, fun o ho => ?_⟩
 have := h.2 o ho
 simp only [bigO, Bool.or_eq_true, decide_eq_true_eq, not_or] at this
 omega
theorem own_str (b : List UInt8) : (str (List.take (b.length + (List.take 1 [UInt8.ofNat 7]).length) (b ++ List.take 1 [UInt8.ofNat 7]))).data.toList = (str ((str b).data.toList ++ (⟨#[7]⟩ : ByteArray).data.toList)).data.toList := by
 show List.take (b.length + 1) (b ++ [UInt8.ofNat 7]) = b ++ [7]
 rw [List.take_of_length_le (by simp)]
 rfl
theorem read_some {d : DiskD} {z : Int} (h : (readD d z).1.isSome = true) : (readD d z).2 = 0 := by
 obtain ⟨⟨a, e⟩, _⟩ := rdJ_some h
 rw [e]
theorem read_none {d : DiskD} {z : Int} (h : (readD d z).1.isSome = false) : (readD d z).1.getD [] = [] := by
 cases e : (readD d z).1 with
 | none => rfl
 | some a => rw [e] at h; cases h
def RW.up (x : RW) : RW := ⟨x.n, x.sf, x.cf, x.w, x.kn, x.kf, x.torn, x.at_, x.many, false⟩
theorem u8_lt (x : UInt8) : IntKind.u8.wrap ((x.toNat : Int) + 1) < 256 := by
 simp [IntKind.wrap, IntKind.signed, IntKind.bits]; omega
theorem u8_ge (x : UInt8) : 0 ≤ IntKind.u8.wrap ((x.toNat : Int) + 1) := by
 simp [IntKind.wrap, IntKind.signed, IntKind.bits]; omega
structure OwP where
 k : Nat
 bs : List UInt8
structure KpP where
 k : Nat
 f : Nat → List AV
structure DtP where
 d : DiskD
 x : RW
structure DkP where
 i : Nat
 d : DiskD
 x : RW
set_option maxHeartbeats 4000000 in
set_option maxRecDepth 100000 in
theorem plays3_to (hok : S30.Ok Try.prog) (s : Int) (hs : fits .i64 s) (l : List OpD) (hl : ∀ o ∈ l, o.Wf) :
   To S30 Try.prog 4 (startOf Try.prog 4 [ivA s, .im 7 l.length (opsF l)] .e 0) (fun x _ _ => x = .v (.bool true)) := by
 have e1 := opsOf_ops l
 refine To.R (h := ?_)
 refine To.B (greatL (opsOf l.length (opsF l))) (C := (∀ (r : Nat), r < l.length → opsF l r = opsF (opsOf l.length (opsF l)) r)) (hc := ?_) (h := ?_) (g := ?_); (and_intros <;> try exact cl)
 · rw [e1]; exact fun r hr => rfl
 · intro h1
   refine To.R (h := ?_)
   refine To.E (AV.v (Value.bool true)) (hq := ?_)
   rfl
 intro h1
 rw [e1] at h1
 obtain ⟨hl1, hl2⟩ := great3_small h1
 refine To.R (h := ?_)
 refine To.Bd (100 < s) (h := ?_) (g := ?_)
 · intro h2
   refine To.R (h := ?_)
   refine To.Bd (s ≤ 4096) (h := ?_) (g := ?_)
   · intro h3
     refine To.R (h := ?_)
     refine To.E (AV.v (Value.bool true)) (hq := ?_)
     rfl
   intro h3
   have h3' : ¬ (1 ≤ s ∧ s ≤ 4096) := by omega
   refine To.R (h := ?_)
   refine To.Nd (1 ≤ s ∧ s ≤ 4096) (h := ?_)
   refine To.R (h := ?_)
   refine To.Nd (1 ≤ s ∧ s ≤ 4096) (h := ?_)
   refine To.R (h := ?_)
   refine To.E (AV.v (Value.bool true)) (hq := ?_)
   rfl
 intro h2
 refine To.R (h := ?_)
 refine To.Bd (1 ≤ s ∧ s ≤ 4096) (h := ?_) (g := ?_)
 · intro h3
   refine To.R (h := ?_)
   refine To.Yd (1 ≤ s ∧ s ≤ 4096) (h := ?_)
   have hk1 : 1 ≤ s.toNat := by omega
   have hk2 : s.toNat ≤ 4096 := by omega
   refine To.R (h := ?_)
   refine To.Nn ((0 : Int) = 0) (h := ?_)
   refine To.R (h := ?_)
   refine To.Nn ((0 : Int) = 0) (h := ?_)
   refine To.R (h := ?_)
   refine To.Nn ((0 : Int) = 0) (h := ?_)
   refine To.R (k := 12) (h := ?_)
   refine To.L (L := [LN.old 0, LN.old 1, LN.old 2, LN.old 3]) (kp := [51, 50, 7, 5, 1]) (C := (Same IntKind.i64 ∧ (0 : Int) = (↑(0 : Nat) : Int)) ∧ Same (Ob.disk (newD s.toNat)) ∧ (Same 58 ∧ (none : Option Nat) = none ∧ (Same 2 ∧ Same (rnewD s.toNat).raw.n) ∧ (Same 3 ∧ Same (rnewD s.toNat).raw.n) ∧ (Same IntKind.i64 ∧ Same (rnewD s.toNat).raw.w) ∧ (Same 1 ∧ Same 0 ∧ (∀ (r : Nat), r < (rnewD s.toNat).raw.kn → (rnewD s.toNat).raw.kf r = (rnewD s.toNat).raw.kf r)) ∧ (Same IntKind.i64 ∧ Same (rnewD s.toNat).raw.torn) ∧ (Same IntKind.i64 ∧ Same (rnewD s.toNat).raw.at_) ∧ (Same IntKind.i64 ∧ Same (rnewD s.toNat).raw.many) ∧ Same (rnewD s.toNat).raw.down ∧ True) ∧ (Same 36 ∧ Same 1 ∧ Same (rnewD s.toNat).raw.n ∧ (∀ (r : Nat), r < (rnewD s.toNat).raw.n → (rnewD s.toNat).raw.sf r = (rnewD s.toNat).raw.sf r)) ∧ Same 36 ∧ Same 1 ∧ Same (rnewD s.toNat).raw.n ∧ (∀ (r : Nat), r < (rnewD s.toNat).raw.n → (rnewD s.toNat).raw.cf r = (rnewD s.toNat).raw.cf r)) (st := fun (a : DkP) => (⟨(⟨4, 104, (slotT 104 [(1, AV.im 7 l.length (opsF l)), (5, AV.ptr 0 0), (7, AV.ptr 1 0), (50, AV.sy (Value.int IntKind.i64 l.length)), (51, AV.sy (Value.int IntKind.i64 a.i))]), ARg.no, [(AItem.code (subC (bodyC Try.prog 4) [1, 1, 1, 1, 1, 1, 0, 1, 0, 0])), (AItem.inLoop (subC (bodyC Try.prog 4) [1, 1, 1, 1, 1, 1, 0, 1, 0, 0])), (AItem.inBlock 0), (AItem.code (subC (bodyC Try.prog 4) [1, 1, 1, 1, 1, 1, 1]))], [], false, none, 0⟩ : AFr), [], memF [AB.obj (Ob.disk a.d), AB.mem 58 none [AV.ow 2 a.x.n, AV.ow 3 a.x.n, AV.sy (Value.int IntKind.i64 a.x.w), AV.im 1 a.x.kn a.x.kf, AV.sy (Value.int IntKind.i64 a.x.torn), AV.sy (Value.int IntKind.i64 a.x.at_), AV.sy (Value.int IntKind.i64 a.x.many), AV.sy (Value.bool a.x.down)], AB.rw 36 1 a.x.n a.x.sf, AB.rw 36 1 a.x.n a.x.cf] 0 Tr.e, 4⟩ : ASt)) (hI := ?_) (h := ?_) (fun (p : DkP) => [(51, ivA (p.i : Int))]) (fun p => [(0, .obj (.disk p.d)), (1, .mem 58 none [.ow 2 p.x.n, .ow 3 p.x.n, ivA p.x.w, .im 1 p.x.kn p.x.kf, ivA p.x.torn, ivA p.x.at_, ivA p.x.many, .sy (.bool p.x.down)]), (2, .rw 36 1 p.x.n p.x.sf), (3, .rw 36 1 p.x.n p.x.cf)]) (fun p => p.i ≤ l.length ∧ p.d.In (2 * p.i) ∧ GoesW p.d p.x) (fun p => l.length - p.i) (DkP.mk 0 (newD s.toNat) (rnewD s.toNat).raw)
   · exact ⟨Nat.zero_le _, newD_in hk1 hk2, goesW_new hk1 hk2⟩
   intro p ⟨hp, hin, hg⟩ ih
   refine To.R (h := ?_)
   refine To.Bd ((p.i : Int) < l.length) (h := ?_) (g := ?_)
   · intro h2
     have hlt : p.i < l.length := by omega
     have hi1 : p.i + 1 ≤ l.length := by omega
     have hi2 : l.length - (p.i + 1) < l.length - p.i := by omega
     have hmem : l.getD p.i default ∈ l := by rw [List.getD_eq_getElem?_getD, List.getElem?_eq_getElem hlt]; simp
     have hwf := hl _ hmem
     have hsm := hl2 _ hmem
     have hfF := hin.fine
     have hxo := hg.ok
     have hn : 2 * p.i < 1000000000 := by omega
     refine To.R (C := ((0 : Int) ≤ p.i ∧ (p.i : Int) < l.length) ∧ True ∧ True ∧ (l.getD p.i default).b.length ≤ 1073741824) (h := ?_)
     refine To.frz 6 true [24, 23, 5, 1, 0] (by kernel_rfl) (C := ((0 : Int) ≤ 7 ∧ (7 : Int) < 256) ∧ True) (by kernel_rfl) (by and_intros <;> exact cl) ?_
     refine To.R (C := (True ∧ Same (l.getD p.i default).b.length ∧ (l.getD p.i default).b.length + 1 ≤ 1073741824) ∧ True ∧ ((0 : Int) ≤ (↑(0 : Nat) : Int) ∧ (↑(0 : Nat) : Int) ≤ (↑(l.getD p.i default).b.length : Int) ∧ (↑(l.getD p.i default).b.length : Int) ≤ (↑((l.getD p.i default).b.length + 1) : Int)) ∧ True ∧ (l.getD p.i default).c.keep.length ≤ 1073741824 ∧ (∀ (r : Nat), r < (l.getD p.i default).c.keep.length → (intsF (l.getD p.i default).c.keep r).all oneA = true)) (hc := ?_) (h := ?_); (and_intros <;> try exact cl)
     · exact fun r hr => rfl
     have hkn := numsF_ints (l.getD p.i default).c.keep
     have hB : (List.take ((l.getD p.i default).b.length - 0) (List.drop 0 ((l.getD p.i default).b ++ List.take 1 [UInt8.ofNat 7]))) = (l.getD p.i default).b := by simp
     have hq1 := numsF_ints (l.getD p.i default).c.keep
     have hq2 : ∀ r, r < (l.getD p.i default).c.keep.length → intsF (l.getD p.i default).c.keep r = intsF (numsF (l.getD p.i default).c.keep.length (intsF (l.getD p.i default).c.keep)) r := by rw [hq1]; exact fun _ _ => rfl
     have hq3 : (numsF (l.getD p.i default).c.keep.length (intsF (l.getD p.i default).c.keep)).length ≤ 1000000 := by rw [hq1]; omega
     have hq4 : (l.getD p.i default).c.keep.length ≤ 1000000 := by omega
     have hq5 := hwf.c.at_
     have hq6 := hwf.c.w
     have hq7 := hwf.c.torn
     have hb5 : (List.take ((l.getD p.i default).b.length - 0) (List.drop 0 ((l.getD p.i default).b ++ List.take 1 [UInt8.ofNat 7]))).length ≤ 1000000 := by rw [hB]; omega
     refine To.Bd ((l.getD p.i default).kind = 0) (h := ?_) (g := ?_)
     · intro k0
       have ha := hg.write hin hn (l.getD p.i default).at_ (l.getD p.i default).b
       have hmany : (fun r : RD => r.many < 4000000000000000000) p.x.toL := by
         show p.x.toL.many < _
         rw [hg.goes.many]
         have := hin.wr
         omega
       have hb6 : 0 + ((l.getD p.i default).b.length - 0) ≤ ((l.getD p.i default).b ++ List.take 1 [UInt8.ofNat 7]).length := by simp
       refine To.R (C := (0 + ((l.getD p.i default).b.length - 0) ≤ ((l.getD p.i default).b ++ List.take 1 [UInt8.ofNat 7]).length ∧ p.d.Fine) ∧ Same (AV.by8 (l.getD p.i default).b) ∧ Same (AV.sy (Value.int IntKind.i64 (l.getD p.i default).at_)) ∧ (Same p.x.n ∧ Same p.x.n ∧ Same p.x.n) ∧ p.x.Ok ∧ (fun r ↦ r.many < 4000000000000000000) p.x.toL ∧ (l.getD p.i default).b.length ≤ 1000000) (h := ?_)
       refine To.Yd ((writeD p.d (l.getD p.i default).at_ (List.take ((l.getD p.i default).b.length - 0) (List.drop 0 ((l.getD p.i default).b ++ List.take 1 [UInt8.ofNat 7])))).snd = (rwriteW p.x (l.getD p.i default).at_ (l.getD p.i default).b).snd) (hp := ?_) (h := ?_)
       · rw [hB]; exact ha.2.symm
       have hZ : (writeD p.d (l.getD p.i default).at_ (List.take ((l.getD p.i default).b.length - 0) (List.drop 0 ((l.getD p.i default).b ++ List.take 1 [UInt8.ofNat 7])))).1.In (2 * (p.i + 1)) := (hin.write hn _ _).more (by omega) (by omega)
       have hZG : GoesW (writeD p.d (l.getD p.i default).at_ (List.take ((l.getD p.i default).b.length - 0) (List.drop 0 ((l.getD p.i default).b ++ List.take 1 [UInt8.ofNat 7])))).1 (rwriteW p.x (l.getD p.i default).at_ (l.getD p.i default).b).1 := by rw [hB]; exact ha.1
       refine To.R (k := 2) (h := ?_)
       refine To.L (L := [LN.old 0, LN.old 1, LN.old 2, LN.old 3, LN.old 4, LN.old 7, LN.old 9]) (kp := [12, 10, 8, 5, 1, 0]) (ks := [[60, 56, 55, 51, 50, 7, 1]]) (C := Ob.disk (writeD p.d (l.getD p.i default).at_ (List.take ((l.getD p.i default).b.length - 0) (List.drop 0 ((l.getD p.i default).b ++ List.take 1 [UInt8.ofNat 7])))).fst = Ob.disk (writeD p.d (l.getD p.i default).at_ (List.take ((l.getD p.i default).b.length - 0) (List.drop 0 ((l.getD p.i default).b ++ List.take 1 [UInt8.ofNat 7])))).fst ∧ (Same 58 ∧ (none : Option Nat) = none ∧ (Same 2 ∧ Same (rwriteW p.x (l.getD p.i default).at_ (l.getD p.i default).b).fst.n) ∧ (Same 3 ∧ Same (rwriteW p.x (l.getD p.i default).at_ (l.getD p.i default).b).fst.n) ∧ (Same IntKind.i64 ∧ Same (rwriteW p.x (l.getD p.i default).at_ (l.getD p.i default).b).fst.w) ∧ (Same 1 ∧ Same (rwriteW p.x (l.getD p.i default).at_ (l.getD p.i default).b).fst.kn ∧ (∀ (r : Nat), r < (rwriteW p.x (l.getD p.i default).at_ (l.getD p.i default).b).fst.kn → (rwriteW p.x (l.getD p.i default).at_ (l.getD p.i default).b).fst.kf r = (rwriteW p.x (l.getD p.i default).at_ (l.getD p.i default).b).fst.kf r)) ∧ (Same IntKind.i64 ∧ Same (rwriteW p.x (l.getD p.i default).at_ (l.getD p.i default).b).fst.torn) ∧ (Same IntKind.i64 ∧ Same (rwriteW p.x (l.getD p.i default).at_ (l.getD p.i default).b).fst.at_) ∧ (Same IntKind.i64 ∧ Same (rwriteW p.x (l.getD p.i default).at_ (l.getD p.i default).b).fst.many) ∧ Same (rwriteW p.x (l.getD p.i default).at_ (l.getD p.i default).b).fst.down ∧ True) ∧ (Same 36 ∧ Same 1 ∧ Same (rwriteW p.x (l.getD p.i default).at_ (l.getD p.i default).b).fst.n ∧ (∀ (r : Nat), r < (rwriteW p.x (l.getD p.i default).at_ (l.getD p.i default).b).fst.n → (rwriteW p.x (l.getD p.i default).at_ (l.getD p.i default).b).fst.sf r = (rwriteW p.x (l.getD p.i default).at_ (l.getD p.i default).b).fst.sf r)) ∧ Same 36 ∧ Same 1 ∧ Same (rwriteW p.x (l.getD p.i default).at_ (l.getD p.i default).b).fst.n ∧ (∀ (r : Nat), r < (rwriteW p.x (l.getD p.i default).at_ (l.getD p.i default).b).fst.n → (rwriteW p.x (l.getD p.i default).at_ (l.getD p.i default).b).fst.cf r = (rwriteW p.x (l.getD p.i default).at_ (l.getD p.i default).b).fst.cf r)) (st := fun (a : DtP) => (⟨(⟨16, 236, (slotT 236 [(0, AV.ptr 0 0), (1, AV.ptr 1 0), (5, AV.ptr 4 0), (8, AV.ow 5 ((l.getD p.i default).b.length + 1)), (10, AV.ow 6 (l.getD p.i default).c.keep.length), (12, AV.v (Value.bool true))]), ARg.no, [(AItem.inBlock 0), (AItem.code (subC (bodyC Try.prog 16) [1, 1, 1, 1, 1, 1, 1, 1]))], [], false, none, 7⟩ : AFr), [(⟨4, 104, (slotT 104 [(1, AV.im 7 l.length (opsF l)), (7, AV.ptr 1 0), (50, AV.sy (Value.int IntKind.i64 l.length)), (51, AV.sy (Value.int IntKind.i64 p.i)), (55, AV.ptr 0 0), (56, AV.ptr 1 0), (60, AV.agg [AV.sy (Value.int IntKind.i64 (l.getD p.i default).kind), AV.sy (Value.int IntKind.i64 (l.getD p.i default).at_), AV.by8 (l.getD p.i default).b, AV.sy (Value.int IntKind.i64 (l.getD p.i default).c.w), AV.im 1 (l.getD p.i default).c.keep.length (intsF (l.getD p.i default).c.keep), AV.sy (Value.int IntKind.i64 (l.getD p.i default).c.torn), AV.sy (Value.int IntKind.i64 (l.getD p.i default).c.at_)])]), (plC (subC (bodyC Try.prog 4) [1, 1, 1, 1, 1, 1, 0, 1, 0, 0, 1, 1, 0, 0, 1, 0]) 6), [(AItem.code (subC (bodyC Try.prog 4) [1, 1, 1, 1, 1, 1, 0, 1, 0, 0, 1, 1, 0, 0, 1, 1])), (AItem.inBlock 1), (AItem.code (subC (bodyC Try.prog 4) [1, 1, 1, 1, 1, 1, 0, 1, 0, 0, 1, 1, 1])), (AItem.inLoop (subC (bodyC Try.prog 4) [1, 1, 1, 1, 1, 1, 0, 1, 0, 0])), (AItem.inBlock 0), (AItem.code (subC (bodyC Try.prog 4) [1, 1, 1, 1, 1, 1, 1]))], [], false, none, 0⟩ : AFr)], memF [AB.obj (Ob.disk a.d), AB.mem 58 none [AV.ow 2 a.x.n, AV.ow 3 a.x.n, AV.sy (Value.int IntKind.i64 a.x.w), AV.im 1 a.x.kn a.x.kf, AV.sy (Value.int IntKind.i64 a.x.torn), AV.sy (Value.int IntKind.i64 a.x.at_), AV.sy (Value.int IntKind.i64 a.x.many), AV.sy (Value.bool a.x.down)], AB.rw 36 1 a.x.n a.x.sf, AB.rw 36 1 a.x.n a.x.cf, AB.mem 54 none [AV.sy (Value.int IntKind.i64 (l.getD p.i default).kind), AV.sy (Value.int IntKind.i64 (l.getD p.i default).at_), AV.by8 (l.getD p.i default).b, AV.sy (Value.int IntKind.i64 (l.getD p.i default).c.w), AV.im 1 (l.getD p.i default).c.keep.length (intsF (l.getD p.i default).c.keep), AV.sy (Value.int IntKind.i64 (l.getD p.i default).c.torn), AV.sy (Value.int IntKind.i64 (l.getD p.i default).c.at_)], AB.bb 5 ((l.getD p.i default).b ++ List.take 1 [UInt8.ofNat 7]), AB.rw 3 1 (l.getD p.i default).c.keep.length (intsF (l.getD p.i default).c.keep)] 0 Tr.e, 7⟩ : ASt)) (h := ?_) (fun (_ : DtP) => []) (fun z => [(0, .obj (.disk z.d)), (1, .mem 58 none [.ow 2 z.x.n, .ow 3 z.x.n, ivA z.x.w, .im 1 z.x.kn z.x.kf, ivA z.x.torn, ivA z.x.at_, ivA z.x.many, .sy (.bool z.x.down)]), (2, .rw 36 1 z.x.n z.x.sf), (3, .rw 36 1 z.x.n z.x.cf)]) (fun z => z.d.In (2 * (p.i + 1)) ∧ GoesW z.d z.x) (fun _ => 0) (DtP.mk ((writeD p.d (l.getD p.i default).at_ (List.take ((l.getD p.i default).b.length - 0) (List.drop 0 ((l.getD p.i default).b ++ List.take 1 [UInt8.ofNat 7])))).1) ((rwriteW p.x (l.getD p.i default).at_ (l.getD p.i default).b).1))
       all_goals first | exact ⟨hZ, hZG⟩ | (and_intros <;> first | exact trivial | exact rfl | exact fun _ _ => rfl) | skip
       intro z ⟨hZ, hZG⟩ _
       have hT1 : (l.getD p.i default).b.length + 1 ≤ ((l.getD p.i default).b ++ List.take 1 [UInt8.ofNat 7]).length := by simp
       have hT3 : (List.take 1 [UInt8.ofNat 7]).length = 1 := rfl
       have hzF := hZ.fine
       have hzX := hZG.ok
       have hT2 : (str (l.getD p.i default).b).size + 1 ≤ 1000000000 := by
         have : (str (l.getD p.i default).b).size = (l.getD p.i default).b.length := by simp [str, ByteArray.size]
         omega
       refine To.R (C := (l.getD p.i default).b.length + 1 ≤ ((l.getD p.i default).b ++ List.take 1 [UInt8.ofNat 7]).length ∧ True ∧ (str (l.getD p.i default).b).size + 1 ≤ 1000000000) (h := ?_)
       refine To.Yd ((str (List.take ((l.getD p.i default).b.length + 1) ((l.getD p.i default).b ++ List.take 1 [UInt8.ofNat 7]))).data.toList = (str ((str (l.getD p.i default).b).data.toList ++ (ByteArray.mk #[7]).data.toList)).data.toList) (hp := ?_) (h := ?_)
       · exact own_str _
       refine To.R (h := ?_)
       refine To.Yd (numsF (l.getD p.i default).c.keep.length (intsF (l.getD p.i default).c.keep) = numsF (l.getD p.i default).c.keep.length (intsF (l.getD p.i default).c.keep)) (C := (Same (l.getD p.i default).c.keep.length ∧ (∀ (r : Nat), r < (l.getD p.i default).c.keep.length → intsF (l.getD p.i default).c.keep r = intsF (numsF (l.getD p.i default).c.keep.length (intsF (l.getD p.i default).c.keep)) r)) ∧ (∀ (r : Nat), r < (l.getD p.i default).c.keep.length → intsF (l.getD p.i default).c.keep r = intsF (numsF (l.getD p.i default).c.keep.length (intsF (l.getD p.i default).c.keep)) r) ∧ (numsF (l.getD p.i default).c.keep.length (intsF (l.getD p.i default).c.keep)).length ≤ 1000000) (h := ?_)
       refine To.R (k := 12) (h := ?_)
       refine To.L (L := [LN.old 0, LN.old 1, LN.old 2, LN.old 3, LN.old 5, LN.old 6]) (kp := [182, 181, 12, 10, 8, 1, 0]) (ks := [[60, 56, 55, 51, 50, 7, 1]]) (C := (Same IntKind.i64 ∧ (0 : Int) = (↑(0 : Nat) : Int)) ∧ 5 = 5 ∧ (l.getD p.i default).b ++ List.take 1 [UInt8.ofNat 7] = (l.getD p.i default).b ++ List.take 1 [UInt8.ofNat 7]) (st := fun (a : OwP) => (⟨(⟨16, 236, (slotT 236 [(0, AV.ptr 0 0), (1, AV.ptr 1 0), (8, AV.ow 4 ((l.getD p.i default).b.length + 1)), (10, AV.ow 5 (l.getD p.i default).c.keep.length), (12, AV.v (Value.bool true)), (181, AV.sy (Value.int IntKind.i64 (↑((l.getD p.i default).b.length + 1) : Int))), (182, AV.sy (Value.int IntKind.i64 a.k))]), ARg.no, [(AItem.code (subC (bodyC Try.prog 16) [1, 1, 1, 1, 1, 1, 1, 1, 1, 0, 1, 0, 0])), (AItem.inLoop (subC (bodyC Try.prog 16) [1, 1, 1, 1, 1, 1, 1, 1, 1, 0, 1, 0, 0])), (AItem.inBlock 3), (AItem.code (subC (bodyC Try.prog 16) [1, 1, 1, 1, 1, 1, 1, 1, 1, 1]))], [], false, none, 6⟩ : AFr), [(⟨4, 104, (slotT 104 [(1, AV.im 7 l.length (opsF l)), (7, AV.ptr 1 0), (50, AV.sy (Value.int IntKind.i64 l.length)), (51, AV.sy (Value.int IntKind.i64 p.i)), (55, AV.ptr 0 0), (56, AV.ptr 1 0), (60, AV.agg [AV.sy (Value.int IntKind.i64 (l.getD p.i default).kind), AV.sy (Value.int IntKind.i64 (l.getD p.i default).at_), AV.by8 (l.getD p.i default).b, AV.sy (Value.int IntKind.i64 (l.getD p.i default).c.w), AV.im 1 (l.getD p.i default).c.keep.length (intsF (l.getD p.i default).c.keep), AV.sy (Value.int IntKind.i64 (l.getD p.i default).c.torn), AV.sy (Value.int IntKind.i64 (l.getD p.i default).c.at_)])]), (plC (subC (bodyC Try.prog 4) [1, 1, 1, 1, 1, 1, 0, 1, 0, 0, 1, 1, 0, 0, 1, 0]) 6), [(AItem.code (subC (bodyC Try.prog 4) [1, 1, 1, 1, 1, 1, 0, 1, 0, 0, 1, 1, 0, 0, 1, 1])), (AItem.inBlock 1), (AItem.code (subC (bodyC Try.prog 4) [1, 1, 1, 1, 1, 1, 0, 1, 0, 0, 1, 1, 1])), (AItem.inLoop (subC (bodyC Try.prog 4) [1, 1, 1, 1, 1, 1, 0, 1, 0, 0])), (AItem.inBlock 0), (AItem.code (subC (bodyC Try.prog 4) [1, 1, 1, 1, 1, 1, 1]))], [], false, none, 0⟩ : AFr)], memF [AB.obj (Ob.disk z.d), AB.mem 58 none [AV.ow 2 z.x.n, AV.ow 3 z.x.n, AV.sy (Value.int IntKind.i64 z.x.w), AV.im 1 z.x.kn z.x.kf, AV.sy (Value.int IntKind.i64 z.x.torn), AV.sy (Value.int IntKind.i64 z.x.at_), AV.sy (Value.int IntKind.i64 z.x.many), AV.sy (Value.bool z.x.down)], AB.rw 36 1 z.x.n z.x.sf, AB.rw 36 1 z.x.n z.x.cf, AB.bb 5 a.bs, AB.rw 3 1 (l.getD p.i default).c.keep.length (intsF (l.getD p.i default).c.keep)] 0 Tr.e, 6⟩ : ASt)) (hI := ?_) (h := ?_) (fun (e : OwP) => [(182, ivA (e.k : Int))]) (fun e => [(4, .bb 5 e.bs)]) (fun e => e.k ≤ (l.getD p.i default).b.length + 1 ∧ e.bs.length = (l.getD p.i default).b.length + 1) (fun e => (l.getD p.i default).b.length + 1 - e.k) (OwP.mk 0 ((l.getD p.i default).b ++ List.take 1 [UInt8.ofNat 7]))
       all_goals first | exact ⟨Nat.zero_le _, by simp⟩ | skip
       intro e ⟨j1, j2⟩ ihe
       refine To.R (h := ?_)
       refine To.Bd ((↑e.k : Int) < (↑((l.getD p.i default).b.length + 1) : Int)) (h := ?_) (g := ?_)
       · intro j3
         have j4 : e.k + 1 ≤ (l.getD p.i default).b.length + 1 := by omega
         have j5 : (l.getD p.i default).b.length + 1 - (e.k + 1) < (l.getD p.i default).b.length + 1 - e.k := by omega
         have j6 : (e.bs.set e.k (UInt8.ofNat 99)).length = (l.getD p.i default).b.length + 1 := by rw [List.length_set]; exact j2
         refine To.R (k := 23) (C := ((0 : Int) ≤ e.k ∧ (↑e.k : Int) < (↑((l.getD p.i default).b.length + 1) : Int)) ∧ (e.k < e.bs.length ∧ (0 : Int) ≤ 99 ∧ (99 : Int) < 256) ∧ fits IntKind.i64 (e.k + 1)) (h := ?_)
         refine To.K (L := [LN.old 0, LN.old 1, LN.old 2, LN.old 3, LN.old 4, LN.old 5]) (kp := [182, 181, 12, 10, 8, 1, 0]) (ks := [[60, 56, 55, 51, 50, 7, 1]]) (ov := [(182, AV.sy (Value.int IntKind.i64 (OwP.mk (e.k + 1) (e.bs.set e.k (UInt8.ofNat 99))).k))]) (C := Same IntKind.i64 ∧ (↑e.k : Int) + 1 = (↑(e.k + 1) : Int)) (ihe (OwP.mk (e.k + 1) (e.bs.set e.k (UInt8.ofNat 99))) ⟨j4, j6⟩ j5)
       · intro j3
         refine To.R (k := 13) (h := ?_)
         refine To.L (L := [LN.old 0, LN.old 1, LN.old 2, LN.old 3, LN.old 5]) (kp := [191, 190, 12, 10, 1, 0]) (ks := [[60, 56, 55, 51, 50, 7, 1]]) (C := (Same IntKind.i64 ∧ (0 : Int) = (↑(0 : Nat) : Int)) ∧ 3 = 3 ∧ Same 1 ∧ Same (l.getD p.i default).c.keep.length ∧ (∀ (r : Nat), r < (l.getD p.i default).c.keep.length → intsF (l.getD p.i default).c.keep r = (KpP.mk 0 (intsF (l.getD p.i default).c.keep)).f r)) (st := fun (a : KpP) => (⟨(⟨16, 236, (slotT 236 [(0, AV.ptr 0 0), (1, AV.ptr 1 0), (10, AV.ow 4 (l.getD p.i default).c.keep.length), (12, AV.v (Value.bool true)), (190, AV.sy (Value.int IntKind.i64 (l.getD p.i default).c.keep.length)), (191, AV.sy (Value.int IntKind.i64 a.k))]), ARg.no, [(AItem.code (subC (bodyC Try.prog 16) [1, 1, 1, 1, 1, 1, 1, 1, 1, 1, 0, 1, 0, 0])), (AItem.inLoop (subC (bodyC Try.prog 16) [1, 1, 1, 1, 1, 1, 1, 1, 1, 1, 0, 1, 0, 0])), (AItem.inBlock 5), (AItem.code (subC (bodyC Try.prog 16) [1, 1, 1, 1, 1, 1, 1, 1, 1, 1, 1]))], [], false, none, 5⟩ : AFr), [(⟨4, 104, (slotT 104 [(1, AV.im 7 l.length (opsF l)), (7, AV.ptr 1 0), (50, AV.sy (Value.int IntKind.i64 l.length)), (51, AV.sy (Value.int IntKind.i64 p.i)), (55, AV.ptr 0 0), (56, AV.ptr 1 0), (60, AV.agg [AV.sy (Value.int IntKind.i64 (l.getD p.i default).kind), AV.sy (Value.int IntKind.i64 (l.getD p.i default).at_), AV.by8 (l.getD p.i default).b, AV.sy (Value.int IntKind.i64 (l.getD p.i default).c.w), AV.im 1 (l.getD p.i default).c.keep.length (intsF (l.getD p.i default).c.keep), AV.sy (Value.int IntKind.i64 (l.getD p.i default).c.torn), AV.sy (Value.int IntKind.i64 (l.getD p.i default).c.at_)])]), (plC (subC (bodyC Try.prog 4) [1, 1, 1, 1, 1, 1, 0, 1, 0, 0, 1, 1, 0, 0, 1, 0]) 6), [(AItem.code (subC (bodyC Try.prog 4) [1, 1, 1, 1, 1, 1, 0, 1, 0, 0, 1, 1, 0, 0, 1, 1])), (AItem.inBlock 1), (AItem.code (subC (bodyC Try.prog 4) [1, 1, 1, 1, 1, 1, 0, 1, 0, 0, 1, 1, 1])), (AItem.inLoop (subC (bodyC Try.prog 4) [1, 1, 1, 1, 1, 1, 0, 1, 0, 0])), (AItem.inBlock 0), (AItem.code (subC (bodyC Try.prog 4) [1, 1, 1, 1, 1, 1, 1]))], [], false, none, 0⟩ : AFr)], memF [AB.obj (Ob.disk z.d), AB.mem 58 none [AV.ow 2 z.x.n, AV.ow 3 z.x.n, AV.sy (Value.int IntKind.i64 z.x.w), AV.im 1 z.x.kn z.x.kf, AV.sy (Value.int IntKind.i64 z.x.torn), AV.sy (Value.int IntKind.i64 z.x.at_), AV.sy (Value.int IntKind.i64 z.x.many), AV.sy (Value.bool z.x.down)], AB.rw 36 1 z.x.n z.x.sf, AB.rw 36 1 z.x.n z.x.cf, AB.rw 3 1 (l.getD p.i default).c.keep.length a.f] 0 Tr.e, 5⟩ : ASt)) (hI := ?_) (h := ?_) (fun (e : KpP) => [(191, ivA (e.k : Int))]) (fun e => [(4, .rw 3 1 (l.getD p.i default).c.keep.length e.f)]) (fun e => e.k ≤ (l.getD p.i default).c.keep.length) (fun e => (l.getD p.i default).c.keep.length - e.k) (KpP.mk 0 (intsF (l.getD p.i default).c.keep))
         all_goals first | exact Nat.zero_le _ | skip
         intro e j4 ihf
         refine To.R (h := ?_)
         refine To.Bd ((e.k : Int) < (l.getD p.i default).c.keep.length) (h := ?_) (g := ?_)
         · intro j5
           have j6 : e.k + 1 ≤ (l.getD p.i default).c.keep.length := by omega
           have j7 : (l.getD p.i default).c.keep.length - (e.k + 1) < (l.getD p.i default).c.keep.length - e.k := by omega
           refine To.R (k := 23) (C := ((0 : Int) ≤ e.k ∧ (e.k : Int) < (l.getD p.i default).c.keep.length) ∧ e.k < (l.getD p.i default).c.keep.length ∧ fits IntKind.i64 (e.k + 1)) (h := ?_)
           refine To.K (L := [LN.old 0, LN.old 1, LN.old 2, LN.old 3, LN.old 4]) (kp := [191, 190, 12, 10, 1, 0]) (ks := [[60, 56, 55, 51, 50, 7, 1]]) (ov := [(191, AV.sy (Value.int IntKind.i64 (KpP.mk (e.k + 1) (rwSet e.f e.k 0 [AV.v (Value.int IntKind.i64 99)])).k))]) (C := Same IntKind.i64 ∧ (↑e.k : Int) + 1 = (↑(e.k + 1) : Int)) (ihf (KpP.mk (e.k + 1) (rwSet e.f e.k 0 [.v (.int .i64 99)])) j6 j7)
         · intro j5
           have g1 : z.x.many = z.d.writes := hZG.goes.many
           have g2 : z.x.down = z.d.down := hZG.goes.down
           have g3 : rwaitsD z.x.toL = keysD z.d.waits := hZG.goes.waits hzF.ok
           have g4 : z.x.n = z.d.stays.length := by
             have := congrArg List.length hZG.goes.stays
             rw [show z.x.toL.stays.length = z.x.n from recsF_len _ _] at this
             exact this
           refine To.R (h := ?_)
           refine To.B (!z.x.down) (h := ?_) (g := ?_)
           · intro g5
             have g6 : (!z.d.down) = true := by rw [← g2]; exact g5
             have g7 : z.d.writes = z.x.many := g1.symm
             have g8 : keysD z.d.waits = rwaitsD z.x.toL := g3.symm
             have g9 : (z.d.stays.length : Int) = (z.x.n : Int) := by rw [g4]
             have g10 := keysD_len z.d.waits
             have g11 := hzF.ok.len
             have g12 : (id z.d).Fine := hzF
             have g13 : numsF (id z.d).waits.length (intsF (keysD (id z.d).waits)) = numsF (rwaitsD z.x.toL).length (intsF (rwaitsD z.x.toL)) := by
               show numsF z.d.waits.length (intsF (keysD z.d.waits)) = _
               rw [← g10, numsF_ints, numsF_ints, g3]
             have g14 : ∀ r, r < (id z.d).waits.length → intsF (keysD (id z.d).waits) r = intsF (numsF (id z.d).waits.length (intsF (keysD (id z.d).waits))) r := by
               show ∀ r, r < z.d.waits.length → intsF (keysD z.d.waits) r = intsF (numsF z.d.waits.length (intsF (keysD z.d.waits))) r
               rw [← g10, numsF_ints]; exact fun _ _ => rfl
             have g15 : ∀ r, r < (rwaitsD z.x.toL).length → intsF (rwaitsD z.x.toL) r = intsF (numsF (rwaitsD z.x.toL).length (intsF (rwaitsD z.x.toL))) r := by
               rw [numsF_ints]; exact fun _ _ => rfl
             have g16 : (numsF (id z.d).waits.length (intsF (keysD (id z.d).waits))).length ≤ 1000000 := by
               rw [numsF_len]; show z.d.waits.length ≤ 1000000; omega
             refine To.Y (!z.d.down) (C := z.d.Fine ∧ Same (AV.sy (Value.bool z.x.down))) (h := ?_)
             refine To.R (C := z.d.Fine ∧ Same (AV.sy (Value.int IntKind.i64 z.x.many))) (h := ?_)
             refine To.Yd ((fun x ↦ x.writes) z.d = z.x.many) (h := ?_)
             refine To.R (C := (id z.d).Fine ∧ (Same z.x.n ∧ Same z.x.n ∧ Same z.x.n) ∧ z.x.Ok ∧ True) (h := ?_)
             refine To.Yd (numsF (id z.d).waits.length (intsF (keysD (id z.d).waits)) = numsF (rwaitsD z.x.toL).length (intsF (rwaitsD z.x.toL))) (C := (∀ (r : Nat), r < (id z.d).waits.length → intsF (keysD (id z.d).waits) r = intsF (numsF (id z.d).waits.length (intsF (keysD (id z.d).waits))) r) ∧ (∀ (r : Nat), r < (rwaitsD z.x.toL).length → intsF (rwaitsD z.x.toL) r = intsF (numsF (rwaitsD z.x.toL).length (intsF (rwaitsD z.x.toL))) r) ∧ (numsF (id z.d).waits.length (intsF (keysD (id z.d).waits))).length ≤ 1000000) (h := ?_)
             refine To.R (C := True ∧ (id z.d).Fine ∧ Same (AV.ow 2 z.x.n)) (h := ?_)
             refine To.Yd ((fun d ↦ (d.stays.length : Int)) (id z.d) = z.x.n) (hp := ?_) (h := ?_)
             · exact g9
             refine To.R (k := 30) (C := fits IntKind.i64 (p.i + 1)) (h := ?_)
             refine To.K (L := [LN.old 0, LN.old 1, LN.old 2, LN.old 3]) (kp := [51, 50, 7, 5, 1]) (ov := [(51, AV.sy (Value.int IntKind.i64 (DkP.mk (p.i + 1) z.d z.x).i))]) (ob := [(0, AB.obj (Ob.disk (DkP.mk (p.i + 1) z.d z.x).d))]) (C := (Same IntKind.i64 ∧ (↑p.i : Int) + 1 = (↑(p.i + 1) : Int)) ∧ Ob.disk (id (id z.d)) = Ob.disk z.d) (hc := ?_) (ih (DkP.mk (p.i + 1) z.d z.x) ⟨hi1, hZ, hZG⟩ hi2)
             all_goals repeat' (first | exact trivial | exact rfl | exact fun _ _ => rfl | exact Int.natCast_succ _ | refine ⟨?_, ?_⟩)
           · intro g5
             have g6 : (!z.d.down) = false := by rw [← g2]; simpa using g5
             have g7 : z.d.writes = z.x.many := g1.symm
             have g8 : keysD z.d.waits = rwaitsD z.x.toL := g3.symm
             have g9 : (z.d.stays.length : Int) = (z.x.n : Int) := by rw [g4]
             have g10 := keysD_len z.d.waits
             have g11 := hzF.ok.len
             have g12 : (id z.d).Fine := hzF
             have g13 : numsF (id z.d).waits.length (intsF (keysD (id z.d).waits)) = numsF (rwaitsD z.x.toL).length (intsF (rwaitsD z.x.toL)) := by
               show numsF z.d.waits.length (intsF (keysD z.d.waits)) = _
               rw [← g10, numsF_ints, numsF_ints, g3]
             have g14 : ∀ r, r < (id z.d).waits.length → intsF (keysD (id z.d).waits) r = intsF (numsF (id z.d).waits.length (intsF (keysD (id z.d).waits))) r := by
               show ∀ r, r < z.d.waits.length → intsF (keysD z.d.waits) r = intsF (numsF z.d.waits.length (intsF (keysD z.d.waits))) r
               rw [← g10, numsF_ints]; exact fun _ _ => rfl
             have g15 : ∀ r, r < (rwaitsD z.x.toL).length → intsF (rwaitsD z.x.toL) r = intsF (numsF (rwaitsD z.x.toL).length (intsF (rwaitsD z.x.toL))) r := by
               rw [numsF_ints]; exact fun _ _ => rfl
             have g16 : (numsF (id z.d).waits.length (intsF (keysD (id z.d).waits))).length ≤ 1000000 := by
               rw [numsF_len]; show z.d.waits.length ≤ 1000000; omega
             refine To.N (!z.d.down) (C := z.d.Fine ∧ Same (AV.sy (Value.bool z.x.down))) (h := ?_)
             refine To.R (C := z.d.Fine ∧ Same (AV.sy (Value.int IntKind.i64 z.x.many))) (h := ?_)
             refine To.Yd ((fun x ↦ x.writes) z.d = z.x.many) (h := ?_)
             refine To.R (C := (id z.d).Fine ∧ (Same z.x.n ∧ Same z.x.n ∧ Same z.x.n) ∧ z.x.Ok ∧ True) (h := ?_)
             refine To.Yd (numsF (id z.d).waits.length (intsF (keysD (id z.d).waits)) = numsF (rwaitsD z.x.toL).length (intsF (rwaitsD z.x.toL))) (C := (∀ (r : Nat), r < (id z.d).waits.length → intsF (keysD (id z.d).waits) r = intsF (numsF (id z.d).waits.length (intsF (keysD (id z.d).waits))) r) ∧ (∀ (r : Nat), r < (rwaitsD z.x.toL).length → intsF (rwaitsD z.x.toL) r = intsF (numsF (rwaitsD z.x.toL).length (intsF (rwaitsD z.x.toL))) r) ∧ (numsF (id z.d).waits.length (intsF (keysD (id z.d).waits))).length ≤ 1000000) (h := ?_)
             refine To.R (C := True ∧ (id z.d).Fine ∧ Same (AV.ow 2 z.x.n)) (h := ?_)
             refine To.Yd ((fun d ↦ (d.stays.length : Int)) (id z.d) = z.x.n) (hp := ?_) (h := ?_)
             · exact g9
             refine To.R (k := 30) (C := fits IntKind.i64 (p.i + 1)) (h := ?_)
             refine To.K (L := [LN.old 0, LN.old 1, LN.old 2, LN.old 3]) (kp := [51, 50, 7, 5, 1]) (ov := [(51, AV.sy (Value.int IntKind.i64 (DkP.mk (p.i + 1) z.d z.x).i))]) (ob := [(0, AB.obj (Ob.disk (DkP.mk (p.i + 1) z.d z.x).d))]) (C := (Same IntKind.i64 ∧ (↑p.i : Int) + 1 = (↑(p.i + 1) : Int)) ∧ Ob.disk (id (id z.d)) = Ob.disk z.d) (hc := ?_) (ih (DkP.mk (p.i + 1) z.d z.x) ⟨hi1, hZ, hZG⟩ hi2)
             all_goals repeat' (first | exact trivial | exact rfl | exact fun _ _ => rfl | exact Int.natCast_succ _ | refine ⟨?_, ?_⟩)
     intro k0
     refine To.R (h := ?_)
     refine To.Bd ((l.getD p.i default).kind = 1) (h := ?_) (g := ?_)
     · intro k1
       have ha := hg.flush hin
       refine To.R (C := p.d.Fine ∧ (Same p.x.n ∧ Same p.x.n ∧ Same p.x.n) ∧ p.x.Ok ∧ True) (h := ?_)
       refine To.Yd ((fun d ↦ (flushD d).snd) p.d = (rflushW p.x).snd) (hp := ?_) (h := ?_)
       · exact ha.2.symm
       have hZ : (flushD p.d).1.In (2 * (p.i + 1)) := hin.flush.more (by omega) (by omega)
       have hZG : GoesW (flushD p.d).1 (rflushW p.x).1 := ha.1
       refine To.R (k := 2) (h := ?_)
       refine To.L (L := [LN.old 0, LN.old 1, LN.old 2, LN.old 3, LN.old 4, LN.old 7, LN.old 9]) (kp := [12, 10, 8, 5, 1, 0]) (ks := [[60, 56, 55, 51, 50, 7, 1]]) (C := Ob.disk ((fun d ↦ (flushD d).fst) p.d) = Ob.disk (flushD p.d).fst ∧ (Same 58 ∧ (none : Option Nat) = none ∧ (Same 2 ∧ Same (rflushW p.x).fst.n) ∧ (Same 3 ∧ Same (rflushW p.x).fst.n) ∧ (Same IntKind.i64 ∧ Same (rflushW p.x).fst.w) ∧ (Same 1 ∧ Same (rflushW p.x).fst.kn ∧ (∀ (r : Nat), r < (rflushW p.x).fst.kn → (rflushW p.x).fst.kf r = (rflushW p.x).fst.kf r)) ∧ (Same IntKind.i64 ∧ Same (rflushW p.x).fst.torn) ∧ (Same IntKind.i64 ∧ Same (rflushW p.x).fst.at_) ∧ (Same IntKind.i64 ∧ Same (rflushW p.x).fst.many) ∧ Same (rflushW p.x).fst.down ∧ True) ∧ (Same 36 ∧ Same 1 ∧ Same (rflushW p.x).fst.n ∧ (∀ (r : Nat), r < (rflushW p.x).fst.n → (rflushW p.x).fst.sf r = (rflushW p.x).fst.sf r)) ∧ Same 36 ∧ Same 1 ∧ Same (rflushW p.x).fst.n ∧ (∀ (r : Nat), r < (rflushW p.x).fst.n → (rflushW p.x).fst.cf r = (rflushW p.x).fst.cf r)) (st := fun (a : DtP) => (⟨(⟨16, 236, (slotT 236 [(0, AV.ptr 0 0), (1, AV.ptr 1 0), (5, AV.ptr 4 0), (8, AV.ow 5 ((l.getD p.i default).b.length + 1)), (10, AV.ow 6 (l.getD p.i default).c.keep.length), (12, AV.v (Value.bool true))]), ARg.no, [(AItem.inBlock 0), (AItem.code (subC (bodyC Try.prog 16) [1, 1, 1, 1, 1, 1, 1, 1]))], [], false, none, 7⟩ : AFr), [(⟨4, 104, (slotT 104 [(1, AV.im 7 l.length (opsF l)), (7, AV.ptr 1 0), (50, AV.sy (Value.int IntKind.i64 l.length)), (51, AV.sy (Value.int IntKind.i64 p.i)), (55, AV.ptr 0 0), (56, AV.ptr 1 0), (60, AV.agg [AV.sy (Value.int IntKind.i64 (l.getD p.i default).kind), AV.sy (Value.int IntKind.i64 (l.getD p.i default).at_), AV.by8 (l.getD p.i default).b, AV.sy (Value.int IntKind.i64 (l.getD p.i default).c.w), AV.im 1 (l.getD p.i default).c.keep.length (intsF (l.getD p.i default).c.keep), AV.sy (Value.int IntKind.i64 (l.getD p.i default).c.torn), AV.sy (Value.int IntKind.i64 (l.getD p.i default).c.at_)])]), (plC (subC (bodyC Try.prog 4) [1, 1, 1, 1, 1, 1, 0, 1, 0, 0, 1, 1, 0, 0, 1, 0]) 6), [(AItem.code (subC (bodyC Try.prog 4) [1, 1, 1, 1, 1, 1, 0, 1, 0, 0, 1, 1, 0, 0, 1, 1])), (AItem.inBlock 1), (AItem.code (subC (bodyC Try.prog 4) [1, 1, 1, 1, 1, 1, 0, 1, 0, 0, 1, 1, 1])), (AItem.inLoop (subC (bodyC Try.prog 4) [1, 1, 1, 1, 1, 1, 0, 1, 0, 0])), (AItem.inBlock 0), (AItem.code (subC (bodyC Try.prog 4) [1, 1, 1, 1, 1, 1, 1]))], [], false, none, 0⟩ : AFr)], memF [AB.obj (Ob.disk a.d), AB.mem 58 none [AV.ow 2 a.x.n, AV.ow 3 a.x.n, AV.sy (Value.int IntKind.i64 a.x.w), AV.im 1 a.x.kn a.x.kf, AV.sy (Value.int IntKind.i64 a.x.torn), AV.sy (Value.int IntKind.i64 a.x.at_), AV.sy (Value.int IntKind.i64 a.x.many), AV.sy (Value.bool a.x.down)], AB.rw 36 1 a.x.n a.x.sf, AB.rw 36 1 a.x.n a.x.cf, AB.mem 54 none [AV.sy (Value.int IntKind.i64 (l.getD p.i default).kind), AV.sy (Value.int IntKind.i64 (l.getD p.i default).at_), AV.by8 (l.getD p.i default).b, AV.sy (Value.int IntKind.i64 (l.getD p.i default).c.w), AV.im 1 (l.getD p.i default).c.keep.length (intsF (l.getD p.i default).c.keep), AV.sy (Value.int IntKind.i64 (l.getD p.i default).c.torn), AV.sy (Value.int IntKind.i64 (l.getD p.i default).c.at_)], AB.bb 5 ((l.getD p.i default).b ++ List.take 1 [UInt8.ofNat 7]), AB.rw 3 1 (l.getD p.i default).c.keep.length (intsF (l.getD p.i default).c.keep)] 0 Tr.e, 7⟩ : ASt)) (h := ?_) (fun (_ : DtP) => []) (fun z => [(0, .obj (.disk z.d)), (1, .mem 58 none [.ow 2 z.x.n, .ow 3 z.x.n, ivA z.x.w, .im 1 z.x.kn z.x.kf, ivA z.x.torn, ivA z.x.at_, ivA z.x.many, .sy (.bool z.x.down)]), (2, .rw 36 1 z.x.n z.x.sf), (3, .rw 36 1 z.x.n z.x.cf)]) (fun z => z.d.In (2 * (p.i + 1)) ∧ GoesW z.d z.x) (fun _ => 0) (DtP.mk ((flushD p.d).1) ((rflushW p.x).1))
       all_goals first | exact ⟨hZ, hZG⟩ | (and_intros <;> first | exact trivial | exact rfl | exact fun _ _ => rfl) | skip
       intro z ⟨hZ, hZG⟩ _
       have hT1 : (l.getD p.i default).b.length + 1 ≤ ((l.getD p.i default).b ++ List.take 1 [UInt8.ofNat 7]).length := by simp
       have hT3 : (List.take 1 [UInt8.ofNat 7]).length = 1 := rfl
       have hzF := hZ.fine
       have hzX := hZG.ok
       have hT2 : (str (l.getD p.i default).b).size + 1 ≤ 1000000000 := by
         have : (str (l.getD p.i default).b).size = (l.getD p.i default).b.length := by simp [str, ByteArray.size]
         omega
       refine To.R (C := (l.getD p.i default).b.length + 1 ≤ ((l.getD p.i default).b ++ List.take 1 [UInt8.ofNat 7]).length ∧ True ∧ (str (l.getD p.i default).b).size + 1 ≤ 1000000000) (h := ?_)
       refine To.Yd ((str (List.take ((l.getD p.i default).b.length + 1) ((l.getD p.i default).b ++ List.take 1 [UInt8.ofNat 7]))).data.toList = (str ((str (l.getD p.i default).b).data.toList ++ (ByteArray.mk #[7]).data.toList)).data.toList) (hp := ?_) (h := ?_)
       · exact own_str _
       refine To.R (h := ?_)
       refine To.Yd (numsF (l.getD p.i default).c.keep.length (intsF (l.getD p.i default).c.keep) = numsF (l.getD p.i default).c.keep.length (intsF (l.getD p.i default).c.keep)) (C := (Same (l.getD p.i default).c.keep.length ∧ (∀ (r : Nat), r < (l.getD p.i default).c.keep.length → intsF (l.getD p.i default).c.keep r = intsF (numsF (l.getD p.i default).c.keep.length (intsF (l.getD p.i default).c.keep)) r)) ∧ (∀ (r : Nat), r < (l.getD p.i default).c.keep.length → intsF (l.getD p.i default).c.keep r = intsF (numsF (l.getD p.i default).c.keep.length (intsF (l.getD p.i default).c.keep)) r) ∧ (numsF (l.getD p.i default).c.keep.length (intsF (l.getD p.i default).c.keep)).length ≤ 1000000) (h := ?_)
       refine To.R (k := 12) (h := ?_)
       refine To.L (L := [LN.old 0, LN.old 1, LN.old 2, LN.old 3, LN.old 5, LN.old 6]) (kp := [182, 181, 12, 10, 8, 1, 0]) (ks := [[60, 56, 55, 51, 50, 7, 1]]) (C := (Same IntKind.i64 ∧ (0 : Int) = (↑(0 : Nat) : Int)) ∧ 5 = 5 ∧ (l.getD p.i default).b ++ List.take 1 [UInt8.ofNat 7] = (l.getD p.i default).b ++ List.take 1 [UInt8.ofNat 7]) (st := fun (a : OwP) => (⟨(⟨16, 236, (slotT 236 [(0, AV.ptr 0 0), (1, AV.ptr 1 0), (8, AV.ow 4 ((l.getD p.i default).b.length + 1)), (10, AV.ow 5 (l.getD p.i default).c.keep.length), (12, AV.v (Value.bool true)), (181, AV.sy (Value.int IntKind.i64 (↑((l.getD p.i default).b.length + 1) : Int))), (182, AV.sy (Value.int IntKind.i64 a.k))]), ARg.no, [(AItem.code (subC (bodyC Try.prog 16) [1, 1, 1, 1, 1, 1, 1, 1, 1, 0, 1, 0, 0])), (AItem.inLoop (subC (bodyC Try.prog 16) [1, 1, 1, 1, 1, 1, 1, 1, 1, 0, 1, 0, 0])), (AItem.inBlock 3), (AItem.code (subC (bodyC Try.prog 16) [1, 1, 1, 1, 1, 1, 1, 1, 1, 1]))], [], false, none, 6⟩ : AFr), [(⟨4, 104, (slotT 104 [(1, AV.im 7 l.length (opsF l)), (7, AV.ptr 1 0), (50, AV.sy (Value.int IntKind.i64 l.length)), (51, AV.sy (Value.int IntKind.i64 p.i)), (55, AV.ptr 0 0), (56, AV.ptr 1 0), (60, AV.agg [AV.sy (Value.int IntKind.i64 (l.getD p.i default).kind), AV.sy (Value.int IntKind.i64 (l.getD p.i default).at_), AV.by8 (l.getD p.i default).b, AV.sy (Value.int IntKind.i64 (l.getD p.i default).c.w), AV.im 1 (l.getD p.i default).c.keep.length (intsF (l.getD p.i default).c.keep), AV.sy (Value.int IntKind.i64 (l.getD p.i default).c.torn), AV.sy (Value.int IntKind.i64 (l.getD p.i default).c.at_)])]), (plC (subC (bodyC Try.prog 4) [1, 1, 1, 1, 1, 1, 0, 1, 0, 0, 1, 1, 0, 0, 1, 0]) 6), [(AItem.code (subC (bodyC Try.prog 4) [1, 1, 1, 1, 1, 1, 0, 1, 0, 0, 1, 1, 0, 0, 1, 1])), (AItem.inBlock 1), (AItem.code (subC (bodyC Try.prog 4) [1, 1, 1, 1, 1, 1, 0, 1, 0, 0, 1, 1, 1])), (AItem.inLoop (subC (bodyC Try.prog 4) [1, 1, 1, 1, 1, 1, 0, 1, 0, 0])), (AItem.inBlock 0), (AItem.code (subC (bodyC Try.prog 4) [1, 1, 1, 1, 1, 1, 1]))], [], false, none, 0⟩ : AFr)], memF [AB.obj (Ob.disk z.d), AB.mem 58 none [AV.ow 2 z.x.n, AV.ow 3 z.x.n, AV.sy (Value.int IntKind.i64 z.x.w), AV.im 1 z.x.kn z.x.kf, AV.sy (Value.int IntKind.i64 z.x.torn), AV.sy (Value.int IntKind.i64 z.x.at_), AV.sy (Value.int IntKind.i64 z.x.many), AV.sy (Value.bool z.x.down)], AB.rw 36 1 z.x.n z.x.sf, AB.rw 36 1 z.x.n z.x.cf, AB.bb 5 a.bs, AB.rw 3 1 (l.getD p.i default).c.keep.length (intsF (l.getD p.i default).c.keep)] 0 Tr.e, 6⟩ : ASt)) (hI := ?_) (h := ?_) (fun (e : OwP) => [(182, ivA (e.k : Int))]) (fun e => [(4, .bb 5 e.bs)]) (fun e => e.k ≤ (l.getD p.i default).b.length + 1 ∧ e.bs.length = (l.getD p.i default).b.length + 1) (fun e => (l.getD p.i default).b.length + 1 - e.k) (OwP.mk 0 ((l.getD p.i default).b ++ List.take 1 [UInt8.ofNat 7]))
       all_goals first | exact ⟨Nat.zero_le _, by simp⟩ | skip
       intro e ⟨j1, j2⟩ ihe
       refine To.R (h := ?_)
       refine To.Bd ((↑e.k : Int) < (↑((l.getD p.i default).b.length + 1) : Int)) (h := ?_) (g := ?_)
       · intro j3
         have j4 : e.k + 1 ≤ (l.getD p.i default).b.length + 1 := by omega
         have j5 : (l.getD p.i default).b.length + 1 - (e.k + 1) < (l.getD p.i default).b.length + 1 - e.k := by omega
         have j6 : (e.bs.set e.k (UInt8.ofNat 99)).length = (l.getD p.i default).b.length + 1 := by rw [List.length_set]; exact j2
         refine To.R (k := 23) (C := ((0 : Int) ≤ e.k ∧ (↑e.k : Int) < (↑((l.getD p.i default).b.length + 1) : Int)) ∧ (e.k < e.bs.length ∧ (0 : Int) ≤ 99 ∧ (99 : Int) < 256) ∧ fits IntKind.i64 (e.k + 1)) (h := ?_)
         refine To.K (L := [LN.old 0, LN.old 1, LN.old 2, LN.old 3, LN.old 4, LN.old 5]) (kp := [182, 181, 12, 10, 8, 1, 0]) (ks := [[60, 56, 55, 51, 50, 7, 1]]) (ov := [(182, AV.sy (Value.int IntKind.i64 (OwP.mk (e.k + 1) (e.bs.set e.k (UInt8.ofNat 99))).k))]) (C := Same IntKind.i64 ∧ (↑e.k : Int) + 1 = (↑(e.k + 1) : Int)) (ihe (OwP.mk (e.k + 1) (e.bs.set e.k (UInt8.ofNat 99))) ⟨j4, j6⟩ j5)
       · intro j3
         refine To.R (k := 13) (h := ?_)
         refine To.L (L := [LN.old 0, LN.old 1, LN.old 2, LN.old 3, LN.old 5]) (kp := [191, 190, 12, 10, 1, 0]) (ks := [[60, 56, 55, 51, 50, 7, 1]]) (C := (Same IntKind.i64 ∧ (0 : Int) = (↑(0 : Nat) : Int)) ∧ 3 = 3 ∧ Same 1 ∧ Same (l.getD p.i default).c.keep.length ∧ (∀ (r : Nat), r < (l.getD p.i default).c.keep.length → intsF (l.getD p.i default).c.keep r = (KpP.mk 0 (intsF (l.getD p.i default).c.keep)).f r)) (st := fun (a : KpP) => (⟨(⟨16, 236, (slotT 236 [(0, AV.ptr 0 0), (1, AV.ptr 1 0), (10, AV.ow 4 (l.getD p.i default).c.keep.length), (12, AV.v (Value.bool true)), (190, AV.sy (Value.int IntKind.i64 (l.getD p.i default).c.keep.length)), (191, AV.sy (Value.int IntKind.i64 a.k))]), ARg.no, [(AItem.code (subC (bodyC Try.prog 16) [1, 1, 1, 1, 1, 1, 1, 1, 1, 1, 0, 1, 0, 0])), (AItem.inLoop (subC (bodyC Try.prog 16) [1, 1, 1, 1, 1, 1, 1, 1, 1, 1, 0, 1, 0, 0])), (AItem.inBlock 5), (AItem.code (subC (bodyC Try.prog 16) [1, 1, 1, 1, 1, 1, 1, 1, 1, 1, 1]))], [], false, none, 5⟩ : AFr), [(⟨4, 104, (slotT 104 [(1, AV.im 7 l.length (opsF l)), (7, AV.ptr 1 0), (50, AV.sy (Value.int IntKind.i64 l.length)), (51, AV.sy (Value.int IntKind.i64 p.i)), (55, AV.ptr 0 0), (56, AV.ptr 1 0), (60, AV.agg [AV.sy (Value.int IntKind.i64 (l.getD p.i default).kind), AV.sy (Value.int IntKind.i64 (l.getD p.i default).at_), AV.by8 (l.getD p.i default).b, AV.sy (Value.int IntKind.i64 (l.getD p.i default).c.w), AV.im 1 (l.getD p.i default).c.keep.length (intsF (l.getD p.i default).c.keep), AV.sy (Value.int IntKind.i64 (l.getD p.i default).c.torn), AV.sy (Value.int IntKind.i64 (l.getD p.i default).c.at_)])]), (plC (subC (bodyC Try.prog 4) [1, 1, 1, 1, 1, 1, 0, 1, 0, 0, 1, 1, 0, 0, 1, 0]) 6), [(AItem.code (subC (bodyC Try.prog 4) [1, 1, 1, 1, 1, 1, 0, 1, 0, 0, 1, 1, 0, 0, 1, 1])), (AItem.inBlock 1), (AItem.code (subC (bodyC Try.prog 4) [1, 1, 1, 1, 1, 1, 0, 1, 0, 0, 1, 1, 1])), (AItem.inLoop (subC (bodyC Try.prog 4) [1, 1, 1, 1, 1, 1, 0, 1, 0, 0])), (AItem.inBlock 0), (AItem.code (subC (bodyC Try.prog 4) [1, 1, 1, 1, 1, 1, 1]))], [], false, none, 0⟩ : AFr)], memF [AB.obj (Ob.disk z.d), AB.mem 58 none [AV.ow 2 z.x.n, AV.ow 3 z.x.n, AV.sy (Value.int IntKind.i64 z.x.w), AV.im 1 z.x.kn z.x.kf, AV.sy (Value.int IntKind.i64 z.x.torn), AV.sy (Value.int IntKind.i64 z.x.at_), AV.sy (Value.int IntKind.i64 z.x.many), AV.sy (Value.bool z.x.down)], AB.rw 36 1 z.x.n z.x.sf, AB.rw 36 1 z.x.n z.x.cf, AB.rw 3 1 (l.getD p.i default).c.keep.length a.f] 0 Tr.e, 5⟩ : ASt)) (hI := ?_) (h := ?_) (fun (e : KpP) => [(191, ivA (e.k : Int))]) (fun e => [(4, .rw 3 1 (l.getD p.i default).c.keep.length e.f)]) (fun e => e.k ≤ (l.getD p.i default).c.keep.length) (fun e => (l.getD p.i default).c.keep.length - e.k) (KpP.mk 0 (intsF (l.getD p.i default).c.keep))
         all_goals first | exact Nat.zero_le _ | skip
         intro e j4 ihf
         refine To.R (h := ?_)
         refine To.Bd ((e.k : Int) < (l.getD p.i default).c.keep.length) (h := ?_) (g := ?_)
         · intro j5
           have j6 : e.k + 1 ≤ (l.getD p.i default).c.keep.length := by omega
           have j7 : (l.getD p.i default).c.keep.length - (e.k + 1) < (l.getD p.i default).c.keep.length - e.k := by omega
           refine To.R (k := 23) (C := ((0 : Int) ≤ e.k ∧ (e.k : Int) < (l.getD p.i default).c.keep.length) ∧ e.k < (l.getD p.i default).c.keep.length ∧ fits IntKind.i64 (e.k + 1)) (h := ?_)
           refine To.K (L := [LN.old 0, LN.old 1, LN.old 2, LN.old 3, LN.old 4]) (kp := [191, 190, 12, 10, 1, 0]) (ks := [[60, 56, 55, 51, 50, 7, 1]]) (ov := [(191, AV.sy (Value.int IntKind.i64 (KpP.mk (e.k + 1) (rwSet e.f e.k 0 [AV.v (Value.int IntKind.i64 99)])).k))]) (C := Same IntKind.i64 ∧ (↑e.k : Int) + 1 = (↑(e.k + 1) : Int)) (ihf (KpP.mk (e.k + 1) (rwSet e.f e.k 0 [.v (.int .i64 99)])) j6 j7)
         · intro j5
           have g1 : z.x.many = z.d.writes := hZG.goes.many
           have g2 : z.x.down = z.d.down := hZG.goes.down
           have g3 : rwaitsD z.x.toL = keysD z.d.waits := hZG.goes.waits hzF.ok
           have g4 : z.x.n = z.d.stays.length := by
             have := congrArg List.length hZG.goes.stays
             rw [show z.x.toL.stays.length = z.x.n from recsF_len _ _] at this
             exact this
           refine To.R (h := ?_)
           refine To.B (!z.x.down) (h := ?_) (g := ?_)
           · intro g5
             have g6 : (!z.d.down) = true := by rw [← g2]; exact g5
             have g7 : z.d.writes = z.x.many := g1.symm
             have g8 : keysD z.d.waits = rwaitsD z.x.toL := g3.symm
             have g9 : (z.d.stays.length : Int) = (z.x.n : Int) := by rw [g4]
             have g10 := keysD_len z.d.waits
             have g11 := hzF.ok.len
             have g12 : (id z.d).Fine := hzF
             have g13 : numsF (id z.d).waits.length (intsF (keysD (id z.d).waits)) = numsF (rwaitsD z.x.toL).length (intsF (rwaitsD z.x.toL)) := by
               show numsF z.d.waits.length (intsF (keysD z.d.waits)) = _
               rw [← g10, numsF_ints, numsF_ints, g3]
             have g14 : ∀ r, r < (id z.d).waits.length → intsF (keysD (id z.d).waits) r = intsF (numsF (id z.d).waits.length (intsF (keysD (id z.d).waits))) r := by
               show ∀ r, r < z.d.waits.length → intsF (keysD z.d.waits) r = intsF (numsF z.d.waits.length (intsF (keysD z.d.waits))) r
               rw [← g10, numsF_ints]; exact fun _ _ => rfl
             have g15 : ∀ r, r < (rwaitsD z.x.toL).length → intsF (rwaitsD z.x.toL) r = intsF (numsF (rwaitsD z.x.toL).length (intsF (rwaitsD z.x.toL))) r := by
               rw [numsF_ints]; exact fun _ _ => rfl
             have g16 : (numsF (id z.d).waits.length (intsF (keysD (id z.d).waits))).length ≤ 1000000 := by
               rw [numsF_len]; show z.d.waits.length ≤ 1000000; omega
             refine To.Y (!z.d.down) (C := z.d.Fine ∧ Same (AV.sy (Value.bool z.x.down))) (h := ?_)
             refine To.R (C := z.d.Fine ∧ Same (AV.sy (Value.int IntKind.i64 z.x.many))) (h := ?_)
             refine To.Yd ((fun x ↦ x.writes) z.d = z.x.many) (h := ?_)
             refine To.R (C := (id z.d).Fine ∧ (Same z.x.n ∧ Same z.x.n ∧ Same z.x.n) ∧ z.x.Ok ∧ True) (h := ?_)
             refine To.Yd (numsF (id z.d).waits.length (intsF (keysD (id z.d).waits)) = numsF (rwaitsD z.x.toL).length (intsF (rwaitsD z.x.toL))) (C := (∀ (r : Nat), r < (id z.d).waits.length → intsF (keysD (id z.d).waits) r = intsF (numsF (id z.d).waits.length (intsF (keysD (id z.d).waits))) r) ∧ (∀ (r : Nat), r < (rwaitsD z.x.toL).length → intsF (rwaitsD z.x.toL) r = intsF (numsF (rwaitsD z.x.toL).length (intsF (rwaitsD z.x.toL))) r) ∧ (numsF (id z.d).waits.length (intsF (keysD (id z.d).waits))).length ≤ 1000000) (h := ?_)
             refine To.R (C := True ∧ (id z.d).Fine ∧ Same (AV.ow 2 z.x.n)) (h := ?_)
             refine To.Yd ((fun d ↦ (d.stays.length : Int)) (id z.d) = z.x.n) (hp := ?_) (h := ?_)
             · exact g9
             refine To.R (k := 30) (C := fits IntKind.i64 (p.i + 1)) (h := ?_)
             refine To.K (L := [LN.old 0, LN.old 1, LN.old 2, LN.old 3]) (kp := [51, 50, 7, 5, 1]) (ov := [(51, AV.sy (Value.int IntKind.i64 (DkP.mk (p.i + 1) z.d z.x).i))]) (ob := [(0, AB.obj (Ob.disk (DkP.mk (p.i + 1) z.d z.x).d))]) (C := (Same IntKind.i64 ∧ (↑p.i : Int) + 1 = (↑(p.i + 1) : Int)) ∧ Ob.disk (id (id z.d)) = Ob.disk z.d) (hc := ?_) (ih (DkP.mk (p.i + 1) z.d z.x) ⟨hi1, hZ, hZG⟩ hi2)
             all_goals repeat' (first | exact trivial | exact rfl | exact fun _ _ => rfl | exact Int.natCast_succ _ | refine ⟨?_, ?_⟩)
           · intro g5
             have g6 : (!z.d.down) = false := by rw [← g2]; simpa using g5
             have g7 : z.d.writes = z.x.many := g1.symm
             have g8 : keysD z.d.waits = rwaitsD z.x.toL := g3.symm
             have g9 : (z.d.stays.length : Int) = (z.x.n : Int) := by rw [g4]
             have g10 := keysD_len z.d.waits
             have g11 := hzF.ok.len
             have g12 : (id z.d).Fine := hzF
             have g13 : numsF (id z.d).waits.length (intsF (keysD (id z.d).waits)) = numsF (rwaitsD z.x.toL).length (intsF (rwaitsD z.x.toL)) := by
               show numsF z.d.waits.length (intsF (keysD z.d.waits)) = _
               rw [← g10, numsF_ints, numsF_ints, g3]
             have g14 : ∀ r, r < (id z.d).waits.length → intsF (keysD (id z.d).waits) r = intsF (numsF (id z.d).waits.length (intsF (keysD (id z.d).waits))) r := by
               show ∀ r, r < z.d.waits.length → intsF (keysD z.d.waits) r = intsF (numsF z.d.waits.length (intsF (keysD z.d.waits))) r
               rw [← g10, numsF_ints]; exact fun _ _ => rfl
             have g15 : ∀ r, r < (rwaitsD z.x.toL).length → intsF (rwaitsD z.x.toL) r = intsF (numsF (rwaitsD z.x.toL).length (intsF (rwaitsD z.x.toL))) r := by
               rw [numsF_ints]; exact fun _ _ => rfl
             have g16 : (numsF (id z.d).waits.length (intsF (keysD (id z.d).waits))).length ≤ 1000000 := by
               rw [numsF_len]; show z.d.waits.length ≤ 1000000; omega
             refine To.N (!z.d.down) (C := z.d.Fine ∧ Same (AV.sy (Value.bool z.x.down))) (h := ?_)
             refine To.R (C := z.d.Fine ∧ Same (AV.sy (Value.int IntKind.i64 z.x.many))) (h := ?_)
             refine To.Yd ((fun x ↦ x.writes) z.d = z.x.many) (h := ?_)
             refine To.R (C := (id z.d).Fine ∧ (Same z.x.n ∧ Same z.x.n ∧ Same z.x.n) ∧ z.x.Ok ∧ True) (h := ?_)
             refine To.Yd (numsF (id z.d).waits.length (intsF (keysD (id z.d).waits)) = numsF (rwaitsD z.x.toL).length (intsF (rwaitsD z.x.toL))) (C := (∀ (r : Nat), r < (id z.d).waits.length → intsF (keysD (id z.d).waits) r = intsF (numsF (id z.d).waits.length (intsF (keysD (id z.d).waits))) r) ∧ (∀ (r : Nat), r < (rwaitsD z.x.toL).length → intsF (rwaitsD z.x.toL) r = intsF (numsF (rwaitsD z.x.toL).length (intsF (rwaitsD z.x.toL))) r) ∧ (numsF (id z.d).waits.length (intsF (keysD (id z.d).waits))).length ≤ 1000000) (h := ?_)
             refine To.R (C := True ∧ (id z.d).Fine ∧ Same (AV.ow 2 z.x.n)) (h := ?_)
             refine To.Yd ((fun d ↦ (d.stays.length : Int)) (id z.d) = z.x.n) (hp := ?_) (h := ?_)
             · exact g9
             refine To.R (k := 30) (C := fits IntKind.i64 (p.i + 1)) (h := ?_)
             refine To.K (L := [LN.old 0, LN.old 1, LN.old 2, LN.old 3]) (kp := [51, 50, 7, 5, 1]) (ov := [(51, AV.sy (Value.int IntKind.i64 (DkP.mk (p.i + 1) z.d z.x).i))]) (ob := [(0, AB.obj (Ob.disk (DkP.mk (p.i + 1) z.d z.x).d))]) (C := (Same IntKind.i64 ∧ (↑p.i : Int) + 1 = (↑(p.i + 1) : Int)) ∧ Ob.disk (id (id z.d)) = Ob.disk z.d) (hc := ?_) (ih (DkP.mk (p.i + 1) z.d z.x) ⟨hi1, hZ, hZG⟩ hi2)
             all_goals repeat' (first | exact trivial | exact rfl | exact fun _ _ => rfl | exact Int.natCast_succ _ | refine ⟨?_, ?_⟩)
     intro k1
     refine To.R (h := ?_)
     refine To.Bd ((l.getD p.i default).kind = 2) (h := ?_) (g := ?_)
     · intro k2
       have ha := hg.read hfF.ok (l.getD p.i default).at_
       have hZ : p.d.In (2 * (p.i + 1)) := hin.more (by omega) (by omega)
       have hZG : GoesW p.d p.x := hg
       refine To.R (h := ?_)
       refine To.B ((readD p.d (l.getD p.i default).at_).fst.isSome) (C := p.d.Fine) (h := ?_) (g := ?_)
       · intro q1
         have hr0 : (str (List.take ((readD p.d (l.getD p.i default).at_).1.getD []).length ((readD p.d (l.getD p.i default).at_).1.getD []))).data.toList = (str (rreadW p.x (l.getD p.i default).at_).1).data.toList := by
           rw [ha, List.take_length]
         have hrl : ((readD p.d (l.getD p.i default).at_).1.getD []).length = 128 := by
           obtain ⟨⟨a, e⟩, _⟩ := rdJ_some q1
           rw [e]; exact readD_len hfF e
         have hr1 : (0 : Int) = (rreadW p.x (l.getD p.i default).at_).2 := by
           rw [ha]
           exact (read_some q1).symm
         refine To.R (C := ((Same p.x.n ∧ Same p.x.n ∧ Same p.x.n) ∧ p.x.Ok ∧ True) ∧ ((readD p.d (l.getD p.i default).at_).fst.getD []).length ≤ ((readD p.d (l.getD p.i default).at_).fst.getD []).length ∧ True) (h := ?_)
         refine To.Yd ((str (List.take ((readD p.d (l.getD p.i default).at_).fst.getD []).length ((readD p.d (l.getD p.i default).at_).fst.getD []))).data.toList = (str (rreadW p.x (l.getD p.i default).at_).fst).data.toList) (h := ?_)
         refine To.R (h := ?_)
         refine To.Yd (0 = (rreadW p.x (l.getD p.i default).at_).snd) (h := ?_)
         refine To.R (k := 11) (h := ?_)
         refine To.L (L := [LN.old 0, LN.old 1, LN.old 2, LN.old 3, LN.old 4, LN.old 7, LN.old 9, LN.old 11]) (kp := [91, 90, 13, 12, 10, 8, 5, 1, 0]) (ks := [[60, 56, 55, 51, 50, 7, 1]]) (C := (Same IntKind.i64 ∧ (0 : Int) = (↑(0 : Nat) : Int)) ∧ Same 5 ∧ Same ((readD p.d (l.getD p.i default).at_).fst.getD [])) (st := fun (a : OwP) => (⟨(⟨16, 236, (slotT 236 [(0, AV.ptr 0 0), (1, AV.ptr 1 0), (5, AV.ptr 4 0), (8, AV.ow 5 ((l.getD p.i default).b.length + 1)), (10, AV.ow 6 (l.getD p.i default).c.keep.length), (12, AV.v (Value.bool true)), (13, AV.ow 7 ((readD p.d (l.getD p.i default).at_).fst.getD []).length), (90, AV.sy (Value.int IntKind.i64 ((readD p.d (l.getD p.i default).at_).fst.getD []).length)), (91, AV.sy (Value.int IntKind.i64 a.k))]), ARg.no, [(AItem.code (subC (bodyC Try.prog 16) [1, 1, 1, 1, 1, 1, 1, 0, 1, 0, 1, 1, 1, 1, 1, 0, 1, 1, 1, 1, 0, 0])), (AItem.inLoop (subC (bodyC Try.prog 16) [1, 1, 1, 1, 1, 1, 1, 0, 1, 0, 1, 1, 1, 1, 1, 0, 1, 1, 1, 1, 0, 0])), (AItem.inBlock 1), (AItem.inBlock 0), (AItem.code (subC (bodyC Try.prog 16) [1, 1, 1, 1, 1, 1, 1, 1]))], [], false, none, 8⟩ : AFr), [(⟨4, 104, (slotT 104 [(1, AV.im 7 l.length (opsF l)), (7, AV.ptr 1 0), (50, AV.sy (Value.int IntKind.i64 l.length)), (51, AV.sy (Value.int IntKind.i64 p.i)), (55, AV.ptr 0 0), (56, AV.ptr 1 0), (60, AV.agg [AV.sy (Value.int IntKind.i64 (l.getD p.i default).kind), AV.sy (Value.int IntKind.i64 (l.getD p.i default).at_), AV.by8 (l.getD p.i default).b, AV.sy (Value.int IntKind.i64 (l.getD p.i default).c.w), AV.im 1 (l.getD p.i default).c.keep.length (intsF (l.getD p.i default).c.keep), AV.sy (Value.int IntKind.i64 (l.getD p.i default).c.torn), AV.sy (Value.int IntKind.i64 (l.getD p.i default).c.at_)])]), (plC (subC (bodyC Try.prog 4) [1, 1, 1, 1, 1, 1, 0, 1, 0, 0, 1, 1, 0, 0, 1, 0]) 6), [(AItem.code (subC (bodyC Try.prog 4) [1, 1, 1, 1, 1, 1, 0, 1, 0, 0, 1, 1, 0, 0, 1, 1])), (AItem.inBlock 1), (AItem.code (subC (bodyC Try.prog 4) [1, 1, 1, 1, 1, 1, 0, 1, 0, 0, 1, 1, 1])), (AItem.inLoop (subC (bodyC Try.prog 4) [1, 1, 1, 1, 1, 1, 0, 1, 0, 0])), (AItem.inBlock 0), (AItem.code (subC (bodyC Try.prog 4) [1, 1, 1, 1, 1, 1, 1]))], [], false, none, 0⟩ : AFr)], memF [AB.obj (Ob.disk p.d), AB.mem 58 none [AV.ow 2 p.x.n, AV.ow 3 p.x.n, AV.sy (Value.int IntKind.i64 p.x.w), AV.im 1 p.x.kn p.x.kf, AV.sy (Value.int IntKind.i64 p.x.torn), AV.sy (Value.int IntKind.i64 p.x.at_), AV.sy (Value.int IntKind.i64 p.x.many), AV.sy (Value.bool p.x.down)], AB.rw 36 1 p.x.n p.x.sf, AB.rw 36 1 p.x.n p.x.cf, AB.mem 54 none [AV.sy (Value.int IntKind.i64 (l.getD p.i default).kind), AV.sy (Value.int IntKind.i64 (l.getD p.i default).at_), AV.by8 (l.getD p.i default).b, AV.sy (Value.int IntKind.i64 (l.getD p.i default).c.w), AV.im 1 (l.getD p.i default).c.keep.length (intsF (l.getD p.i default).c.keep), AV.sy (Value.int IntKind.i64 (l.getD p.i default).c.torn), AV.sy (Value.int IntKind.i64 (l.getD p.i default).c.at_)], AB.bb 5 ((l.getD p.i default).b ++ List.take 1 [UInt8.ofNat 7]), AB.rw 3 1 (l.getD p.i default).c.keep.length (intsF (l.getD p.i default).c.keep), AB.bb 5 a.bs] 0 Tr.e, 8⟩ : ASt)) (hI := ?_) (h := ?_) (fun (e : OwP) => [(91, ivA (e.k : Int))]) (fun e => [(7, .bb 5 e.bs)]) (fun e => e.k ≤ ((readD p.d (l.getD p.i default).at_).1.getD []).length ∧ e.bs.length = ((readD p.d (l.getD p.i default).at_).1.getD []).length) (fun e => ((readD p.d (l.getD p.i default).at_).1.getD []).length - e.k) (OwP.mk 0 ((readD p.d (l.getD p.i default).at_).1.getD []))
         all_goals first | exact ⟨Nat.zero_le _, rfl⟩ | skip
         intro e ⟨j1, j2⟩ ihe
         refine To.R (h := ?_)
         refine To.Bd ((e.k : Int) < ((readD p.d (l.getD p.i default).at_).fst.getD []).length) (h := ?_) (g := ?_)
         · intro j3
           have j4 : e.k + 1 ≤ ((readD p.d (l.getD p.i default).at_).1.getD []).length := by omega
           have j5 : ((readD p.d (l.getD p.i default).at_).1.getD []).length - (e.k + 1) < ((readD p.d (l.getD p.i default).at_).1.getD []).length - e.k := by omega
           have j6 := u8_lt (e.bs.getD e.k 0)
           have j7 := u8_ge (e.bs.getD e.k 0)
           have j8 : (e.bs.set e.k (UInt8.ofNat (IntKind.u8.wrap (((e.bs.getD e.k 0).toNat : Int) + 1)).toNat)).length = ((readD p.d (l.getD p.i default).at_).1.getD []).length := by rw [List.length_set]; exact j2
           refine To.R (k := 28) (C := ((0 : Int) ≤ e.k ∧ (e.k : Int) < ((readD p.d (l.getD p.i default).at_).fst.getD []).length) ∧ e.k < e.bs.length ∧ True ∧ ((0 : Int) ≤ e.k ∧ (e.k : Int) < ((readD p.d (l.getD p.i default).at_).fst.getD []).length) ∧ (e.k < e.bs.length ∧ 0 ≤ IntKind.u8.wrap ((e.bs.getD e.k 0).toNat + 1) ∧ IntKind.u8.wrap ((e.bs.getD e.k 0).toNat + 1) < 256) ∧ fits IntKind.i64 (e.k + 1)) (h := ?_)
           refine To.K (L := [LN.old 0, LN.old 1, LN.old 2, LN.old 3, LN.old 4, LN.old 5, LN.old 6, LN.old 7]) (kp := [91, 90, 13, 12, 10, 8, 5, 1, 0]) (ks := [[60, 56, 55, 51, 50, 7, 1]]) (ov := [(91, AV.sy (Value.int IntKind.i64 (OwP.mk (e.k + 1) (e.bs.set e.k (UInt8.ofNat (IntKind.u8.wrap ((e.bs.getD e.k 0).toNat + 1)).toNat))).k))]) (C := Same IntKind.i64 ∧ (↑e.k : Int) + 1 = (↑(e.k + 1) : Int)) (ihe (OwP.mk (e.k + 1) (e.bs.set e.k (UInt8.ofNat (IntKind.u8.wrap (((e.bs.getD e.k 0).toNat : Int) + 1)).toNat))) ⟨j4, j8⟩ j5)
         · intro j3
           refine To.R (k := 1) (h := ?_)
           refine To.L (L := [LN.old 0, LN.old 1, LN.old 2, LN.old 3, LN.old 4, LN.old 5, LN.old 6, LN.old 7]) (kp := [92, 91, 90, 13, 12, 10, 8, 5, 1, 0]) (ks := [[60, 56, 55, 51, 50, 7, 1]]) (C := Same (Ob.disk p.d) ∧ (Same 58 ∧ (none : Option Nat) = none ∧ (Same 2 ∧ Same p.x.n) ∧ (Same 3 ∧ Same p.x.n) ∧ (Same IntKind.i64 ∧ Same p.x.w) ∧ (Same 1 ∧ Same p.x.kn ∧ (∀ (r : Nat), r < p.x.kn → p.x.kf r = p.x.kf r)) ∧ (Same IntKind.i64 ∧ Same p.x.torn) ∧ (Same IntKind.i64 ∧ Same p.x.at_) ∧ (Same IntKind.i64 ∧ Same p.x.many) ∧ Same p.x.down ∧ True) ∧ (Same 36 ∧ Same 1 ∧ Same p.x.n ∧ (∀ (r : Nat), r < p.x.n → p.x.sf r = p.x.sf r)) ∧ Same 36 ∧ Same 1 ∧ Same p.x.n ∧ (∀ (r : Nat), r < p.x.n → p.x.cf r = p.x.cf r)) (st := fun (a : DtP) => (⟨(⟨16, 236, (slotT 236 [(0, AV.ptr 0 0), (1, AV.ptr 1 0), (5, AV.ptr 4 0), (8, AV.ow 5 ((l.getD p.i default).b.length + 1)), (10, AV.ow 6 (l.getD p.i default).c.keep.length), (12, AV.v (Value.bool true)), (13, AV.ow 7 ((readD p.d (l.getD p.i default).at_).fst.getD []).length), (90, AV.sy (Value.int IntKind.i64 ((readD p.d (l.getD p.i default).at_).fst.getD []).length)), (91, AV.sy (Value.int IntKind.i64 e.k)), (92, AV.v (Value.bool false))]), ARg.no, [(AItem.code (subC (bodyC Try.prog 16) [1, 1, 1, 1, 1, 1, 1, 0, 1, 0, 1, 1, 1, 1, 1, 0, 1, 1, 1, 1, 0, 0, 1])), (AItem.inLoop (subC (bodyC Try.prog 16) [1, 1, 1, 1, 1, 1, 1, 0, 1, 0, 1, 1, 1, 1, 1, 0, 1, 1, 1, 1, 0, 0])), (AItem.inBlock 1), (AItem.inBlock 0), (AItem.code (subC (bodyC Try.prog 16) [1, 1, 1, 1, 1, 1, 1, 1]))], [], false, none, 8⟩ : AFr), [(⟨4, 104, (slotT 104 [(1, AV.im 7 l.length (opsF l)), (7, AV.ptr 1 0), (50, AV.sy (Value.int IntKind.i64 l.length)), (51, AV.sy (Value.int IntKind.i64 p.i)), (55, AV.ptr 0 0), (56, AV.ptr 1 0), (60, AV.agg [AV.sy (Value.int IntKind.i64 (l.getD p.i default).kind), AV.sy (Value.int IntKind.i64 (l.getD p.i default).at_), AV.by8 (l.getD p.i default).b, AV.sy (Value.int IntKind.i64 (l.getD p.i default).c.w), AV.im 1 (l.getD p.i default).c.keep.length (intsF (l.getD p.i default).c.keep), AV.sy (Value.int IntKind.i64 (l.getD p.i default).c.torn), AV.sy (Value.int IntKind.i64 (l.getD p.i default).c.at_)])]), (plC (subC (bodyC Try.prog 4) [1, 1, 1, 1, 1, 1, 0, 1, 0, 0, 1, 1, 0, 0, 1, 0]) 6), [(AItem.code (subC (bodyC Try.prog 4) [1, 1, 1, 1, 1, 1, 0, 1, 0, 0, 1, 1, 0, 0, 1, 1])), (AItem.inBlock 1), (AItem.code (subC (bodyC Try.prog 4) [1, 1, 1, 1, 1, 1, 0, 1, 0, 0, 1, 1, 1])), (AItem.inLoop (subC (bodyC Try.prog 4) [1, 1, 1, 1, 1, 1, 0, 1, 0, 0])), (AItem.inBlock 0), (AItem.code (subC (bodyC Try.prog 4) [1, 1, 1, 1, 1, 1, 1]))], [], false, none, 0⟩ : AFr)], memF [AB.obj (Ob.disk a.d), AB.mem 58 none [AV.ow 2 a.x.n, AV.ow 3 a.x.n, AV.sy (Value.int IntKind.i64 a.x.w), AV.im 1 a.x.kn a.x.kf, AV.sy (Value.int IntKind.i64 a.x.torn), AV.sy (Value.int IntKind.i64 a.x.at_), AV.sy (Value.int IntKind.i64 a.x.many), AV.sy (Value.bool a.x.down)], AB.rw 36 1 a.x.n a.x.sf, AB.rw 36 1 a.x.n a.x.cf, AB.mem 54 none [AV.sy (Value.int IntKind.i64 (l.getD p.i default).kind), AV.sy (Value.int IntKind.i64 (l.getD p.i default).at_), AV.by8 (l.getD p.i default).b, AV.sy (Value.int IntKind.i64 (l.getD p.i default).c.w), AV.im 1 (l.getD p.i default).c.keep.length (intsF (l.getD p.i default).c.keep), AV.sy (Value.int IntKind.i64 (l.getD p.i default).c.torn), AV.sy (Value.int IntKind.i64 (l.getD p.i default).c.at_)], AB.bb 5 ((l.getD p.i default).b ++ List.take 1 [UInt8.ofNat 7]), AB.rw 3 1 (l.getD p.i default).c.keep.length (intsF (l.getD p.i default).c.keep), AB.bb 5 e.bs] 0 Tr.e, 8⟩ : ASt)) (h := ?_) (fun (_ : DtP) => []) (fun z => [(0, .obj (.disk z.d)), (1, .mem 58 none [.ow 2 z.x.n, .ow 3 z.x.n, ivA z.x.w, .im 1 z.x.kn z.x.kf, ivA z.x.torn, ivA z.x.at_, ivA z.x.many, .sy (.bool z.x.down)]), (2, .rw 36 1 z.x.n z.x.sf), (3, .rw 36 1 z.x.n z.x.cf)]) (fun z => z.d.In (2 * (p.i + 1)) ∧ GoesW z.d z.x) (fun _ => 0) (DtP.mk (p.d) (p.x))
           all_goals first | exact ⟨hZ, hZG⟩ | (and_intros <;> first | exact trivial | exact rfl | exact fun _ _ => rfl) | skip
           intro z ⟨hZ, hZG⟩ _
           have hT1 : (l.getD p.i default).b.length + 1 ≤ ((l.getD p.i default).b ++ List.take 1 [UInt8.ofNat 7]).length := by simp
           have hT3 : (List.take 1 [UInt8.ofNat 7]).length = 1 := rfl
           have hzF := hZ.fine
           have hzX := hZG.ok
           have hT2 : (str (l.getD p.i default).b).size + 1 ≤ 1000000000 := by
             have : (str (l.getD p.i default).b).size = (l.getD p.i default).b.length := by simp [str, ByteArray.size]
             omega
           refine To.R (C := (l.getD p.i default).b.length + 1 ≤ ((l.getD p.i default).b ++ List.take 1 [UInt8.ofNat 7]).length ∧ True ∧ (str (l.getD p.i default).b).size + 1 ≤ 1000000000) (h := ?_)
           refine To.Yd ((str (List.take ((l.getD p.i default).b.length + 1) ((l.getD p.i default).b ++ List.take 1 [UInt8.ofNat 7]))).data.toList = (str ((str (l.getD p.i default).b).data.toList ++ (ByteArray.mk #[7]).data.toList)).data.toList) (hp := ?_) (h := ?_)
           · exact own_str _
           refine To.R (h := ?_)
           refine To.Yd (numsF (l.getD p.i default).c.keep.length (intsF (l.getD p.i default).c.keep) = numsF (l.getD p.i default).c.keep.length (intsF (l.getD p.i default).c.keep)) (C := (Same (l.getD p.i default).c.keep.length ∧ (∀ (r : Nat), r < (l.getD p.i default).c.keep.length → intsF (l.getD p.i default).c.keep r = intsF (numsF (l.getD p.i default).c.keep.length (intsF (l.getD p.i default).c.keep)) r)) ∧ (∀ (r : Nat), r < (l.getD p.i default).c.keep.length → intsF (l.getD p.i default).c.keep r = intsF (numsF (l.getD p.i default).c.keep.length (intsF (l.getD p.i default).c.keep)) r) ∧ (numsF (l.getD p.i default).c.keep.length (intsF (l.getD p.i default).c.keep)).length ≤ 1000000) (h := ?_)
           refine To.R (k := 12) (h := ?_)
           refine To.L (L := [LN.old 0, LN.old 1, LN.old 2, LN.old 3, LN.old 5, LN.old 6]) (kp := [182, 181, 12, 10, 8, 1, 0]) (ks := [[60, 56, 55, 51, 50, 7, 1]]) (C := (Same IntKind.i64 ∧ (0 : Int) = (↑(0 : Nat) : Int)) ∧ 5 = 5 ∧ (l.getD p.i default).b ++ List.take 1 [UInt8.ofNat 7] = (l.getD p.i default).b ++ List.take 1 [UInt8.ofNat 7]) (st := fun (a : OwP) => (⟨(⟨16, 236, (slotT 236 [(0, AV.ptr 0 0), (1, AV.ptr 1 0), (8, AV.ow 4 ((l.getD p.i default).b.length + 1)), (10, AV.ow 5 (l.getD p.i default).c.keep.length), (12, AV.v (Value.bool true)), (181, AV.sy (Value.int IntKind.i64 (↑((l.getD p.i default).b.length + 1) : Int))), (182, AV.sy (Value.int IntKind.i64 a.k))]), ARg.no, [(AItem.code (subC (bodyC Try.prog 16) [1, 1, 1, 1, 1, 1, 1, 1, 1, 0, 1, 0, 0])), (AItem.inLoop (subC (bodyC Try.prog 16) [1, 1, 1, 1, 1, 1, 1, 1, 1, 0, 1, 0, 0])), (AItem.inBlock 3), (AItem.code (subC (bodyC Try.prog 16) [1, 1, 1, 1, 1, 1, 1, 1, 1, 1]))], [], false, none, 6⟩ : AFr), [(⟨4, 104, (slotT 104 [(1, AV.im 7 l.length (opsF l)), (7, AV.ptr 1 0), (50, AV.sy (Value.int IntKind.i64 l.length)), (51, AV.sy (Value.int IntKind.i64 p.i)), (55, AV.ptr 0 0), (56, AV.ptr 1 0), (60, AV.agg [AV.sy (Value.int IntKind.i64 (l.getD p.i default).kind), AV.sy (Value.int IntKind.i64 (l.getD p.i default).at_), AV.by8 (l.getD p.i default).b, AV.sy (Value.int IntKind.i64 (l.getD p.i default).c.w), AV.im 1 (l.getD p.i default).c.keep.length (intsF (l.getD p.i default).c.keep), AV.sy (Value.int IntKind.i64 (l.getD p.i default).c.torn), AV.sy (Value.int IntKind.i64 (l.getD p.i default).c.at_)])]), (plC (subC (bodyC Try.prog 4) [1, 1, 1, 1, 1, 1, 0, 1, 0, 0, 1, 1, 0, 0, 1, 0]) 6), [(AItem.code (subC (bodyC Try.prog 4) [1, 1, 1, 1, 1, 1, 0, 1, 0, 0, 1, 1, 0, 0, 1, 1])), (AItem.inBlock 1), (AItem.code (subC (bodyC Try.prog 4) [1, 1, 1, 1, 1, 1, 0, 1, 0, 0, 1, 1, 1])), (AItem.inLoop (subC (bodyC Try.prog 4) [1, 1, 1, 1, 1, 1, 0, 1, 0, 0])), (AItem.inBlock 0), (AItem.code (subC (bodyC Try.prog 4) [1, 1, 1, 1, 1, 1, 1]))], [], false, none, 0⟩ : AFr)], memF [AB.obj (Ob.disk z.d), AB.mem 58 none [AV.ow 2 z.x.n, AV.ow 3 z.x.n, AV.sy (Value.int IntKind.i64 z.x.w), AV.im 1 z.x.kn z.x.kf, AV.sy (Value.int IntKind.i64 z.x.torn), AV.sy (Value.int IntKind.i64 z.x.at_), AV.sy (Value.int IntKind.i64 z.x.many), AV.sy (Value.bool z.x.down)], AB.rw 36 1 z.x.n z.x.sf, AB.rw 36 1 z.x.n z.x.cf, AB.bb 5 a.bs, AB.rw 3 1 (l.getD p.i default).c.keep.length (intsF (l.getD p.i default).c.keep)] 0 Tr.e, 6⟩ : ASt)) (hI := ?_) (h := ?_) (fun (e : OwP) => [(182, ivA (e.k : Int))]) (fun e => [(4, .bb 5 e.bs)]) (fun e => e.k ≤ (l.getD p.i default).b.length + 1 ∧ e.bs.length = (l.getD p.i default).b.length + 1) (fun e => (l.getD p.i default).b.length + 1 - e.k) (OwP.mk 0 ((l.getD p.i default).b ++ List.take 1 [UInt8.ofNat 7]))
           all_goals first | exact ⟨Nat.zero_le _, by simp⟩ | skip
           intro e ⟨j1, j2⟩ ihe
           refine To.R (h := ?_)
           refine To.Bd ((↑e.k : Int) < (↑((l.getD p.i default).b.length + 1) : Int)) (h := ?_) (g := ?_)
           · intro j3
             have j4 : e.k + 1 ≤ (l.getD p.i default).b.length + 1 := by omega
             have j5 : (l.getD p.i default).b.length + 1 - (e.k + 1) < (l.getD p.i default).b.length + 1 - e.k := by omega
             have j6 : (e.bs.set e.k (UInt8.ofNat 99)).length = (l.getD p.i default).b.length + 1 := by rw [List.length_set]; exact j2
             refine To.R (k := 23) (C := ((0 : Int) ≤ e.k ∧ (↑e.k : Int) < (↑((l.getD p.i default).b.length + 1) : Int)) ∧ (e.k < e.bs.length ∧ (0 : Int) ≤ 99 ∧ (99 : Int) < 256) ∧ fits IntKind.i64 (e.k + 1)) (h := ?_)
             refine To.K (L := [LN.old 0, LN.old 1, LN.old 2, LN.old 3, LN.old 4, LN.old 5]) (kp := [182, 181, 12, 10, 8, 1, 0]) (ks := [[60, 56, 55, 51, 50, 7, 1]]) (ov := [(182, AV.sy (Value.int IntKind.i64 (OwP.mk (e.k + 1) (e.bs.set e.k (UInt8.ofNat 99))).k))]) (C := Same IntKind.i64 ∧ (↑e.k : Int) + 1 = (↑(e.k + 1) : Int)) (ihe (OwP.mk (e.k + 1) (e.bs.set e.k (UInt8.ofNat 99))) ⟨j4, j6⟩ j5)
           · intro j3
             refine To.R (k := 13) (h := ?_)
             refine To.L (L := [LN.old 0, LN.old 1, LN.old 2, LN.old 3, LN.old 5]) (kp := [191, 190, 12, 10, 1, 0]) (ks := [[60, 56, 55, 51, 50, 7, 1]]) (C := (Same IntKind.i64 ∧ (0 : Int) = (↑(0 : Nat) : Int)) ∧ 3 = 3 ∧ Same 1 ∧ Same (l.getD p.i default).c.keep.length ∧ (∀ (r : Nat), r < (l.getD p.i default).c.keep.length → intsF (l.getD p.i default).c.keep r = (KpP.mk 0 (intsF (l.getD p.i default).c.keep)).f r)) (st := fun (a : KpP) => (⟨(⟨16, 236, (slotT 236 [(0, AV.ptr 0 0), (1, AV.ptr 1 0), (10, AV.ow 4 (l.getD p.i default).c.keep.length), (12, AV.v (Value.bool true)), (190, AV.sy (Value.int IntKind.i64 (l.getD p.i default).c.keep.length)), (191, AV.sy (Value.int IntKind.i64 a.k))]), ARg.no, [(AItem.code (subC (bodyC Try.prog 16) [1, 1, 1, 1, 1, 1, 1, 1, 1, 1, 0, 1, 0, 0])), (AItem.inLoop (subC (bodyC Try.prog 16) [1, 1, 1, 1, 1, 1, 1, 1, 1, 1, 0, 1, 0, 0])), (AItem.inBlock 5), (AItem.code (subC (bodyC Try.prog 16) [1, 1, 1, 1, 1, 1, 1, 1, 1, 1, 1]))], [], false, none, 5⟩ : AFr), [(⟨4, 104, (slotT 104 [(1, AV.im 7 l.length (opsF l)), (7, AV.ptr 1 0), (50, AV.sy (Value.int IntKind.i64 l.length)), (51, AV.sy (Value.int IntKind.i64 p.i)), (55, AV.ptr 0 0), (56, AV.ptr 1 0), (60, AV.agg [AV.sy (Value.int IntKind.i64 (l.getD p.i default).kind), AV.sy (Value.int IntKind.i64 (l.getD p.i default).at_), AV.by8 (l.getD p.i default).b, AV.sy (Value.int IntKind.i64 (l.getD p.i default).c.w), AV.im 1 (l.getD p.i default).c.keep.length (intsF (l.getD p.i default).c.keep), AV.sy (Value.int IntKind.i64 (l.getD p.i default).c.torn), AV.sy (Value.int IntKind.i64 (l.getD p.i default).c.at_)])]), (plC (subC (bodyC Try.prog 4) [1, 1, 1, 1, 1, 1, 0, 1, 0, 0, 1, 1, 0, 0, 1, 0]) 6), [(AItem.code (subC (bodyC Try.prog 4) [1, 1, 1, 1, 1, 1, 0, 1, 0, 0, 1, 1, 0, 0, 1, 1])), (AItem.inBlock 1), (AItem.code (subC (bodyC Try.prog 4) [1, 1, 1, 1, 1, 1, 0, 1, 0, 0, 1, 1, 1])), (AItem.inLoop (subC (bodyC Try.prog 4) [1, 1, 1, 1, 1, 1, 0, 1, 0, 0])), (AItem.inBlock 0), (AItem.code (subC (bodyC Try.prog 4) [1, 1, 1, 1, 1, 1, 1]))], [], false, none, 0⟩ : AFr)], memF [AB.obj (Ob.disk z.d), AB.mem 58 none [AV.ow 2 z.x.n, AV.ow 3 z.x.n, AV.sy (Value.int IntKind.i64 z.x.w), AV.im 1 z.x.kn z.x.kf, AV.sy (Value.int IntKind.i64 z.x.torn), AV.sy (Value.int IntKind.i64 z.x.at_), AV.sy (Value.int IntKind.i64 z.x.many), AV.sy (Value.bool z.x.down)], AB.rw 36 1 z.x.n z.x.sf, AB.rw 36 1 z.x.n z.x.cf, AB.rw 3 1 (l.getD p.i default).c.keep.length a.f] 0 Tr.e, 5⟩ : ASt)) (hI := ?_) (h := ?_) (fun (e : KpP) => [(191, ivA (e.k : Int))]) (fun e => [(4, .rw 3 1 (l.getD p.i default).c.keep.length e.f)]) (fun e => e.k ≤ (l.getD p.i default).c.keep.length) (fun e => (l.getD p.i default).c.keep.length - e.k) (KpP.mk 0 (intsF (l.getD p.i default).c.keep))
             all_goals first | exact Nat.zero_le _ | skip
             intro e j4 ihf
             refine To.R (h := ?_)
             refine To.Bd ((e.k : Int) < (l.getD p.i default).c.keep.length) (h := ?_) (g := ?_)
             · intro j5
               have j6 : e.k + 1 ≤ (l.getD p.i default).c.keep.length := by omega
               have j7 : (l.getD p.i default).c.keep.length - (e.k + 1) < (l.getD p.i default).c.keep.length - e.k := by omega
               refine To.R (k := 23) (C := ((0 : Int) ≤ e.k ∧ (e.k : Int) < (l.getD p.i default).c.keep.length) ∧ e.k < (l.getD p.i default).c.keep.length ∧ fits IntKind.i64 (e.k + 1)) (h := ?_)
               refine To.K (L := [LN.old 0, LN.old 1, LN.old 2, LN.old 3, LN.old 4]) (kp := [191, 190, 12, 10, 1, 0]) (ks := [[60, 56, 55, 51, 50, 7, 1]]) (ov := [(191, AV.sy (Value.int IntKind.i64 (KpP.mk (e.k + 1) (rwSet e.f e.k 0 [AV.v (Value.int IntKind.i64 99)])).k))]) (C := Same IntKind.i64 ∧ (↑e.k : Int) + 1 = (↑(e.k + 1) : Int)) (ihf (KpP.mk (e.k + 1) (rwSet e.f e.k 0 [.v (.int .i64 99)])) j6 j7)
             · intro j5
               have g1 : z.x.many = z.d.writes := hZG.goes.many
               have g2 : z.x.down = z.d.down := hZG.goes.down
               have g3 : rwaitsD z.x.toL = keysD z.d.waits := hZG.goes.waits hzF.ok
               have g4 : z.x.n = z.d.stays.length := by
                 have := congrArg List.length hZG.goes.stays
                 rw [show z.x.toL.stays.length = z.x.n from recsF_len _ _] at this
                 exact this
               refine To.R (h := ?_)
               refine To.B (!z.x.down) (h := ?_) (g := ?_)
               · intro g5
                 have g6 : (!z.d.down) = true := by rw [← g2]; exact g5
                 have g7 : z.d.writes = z.x.many := g1.symm
                 have g8 : keysD z.d.waits = rwaitsD z.x.toL := g3.symm
                 have g9 : (z.d.stays.length : Int) = (z.x.n : Int) := by rw [g4]
                 have g10 := keysD_len z.d.waits
                 have g11 := hzF.ok.len
                 have g12 : (id z.d).Fine := hzF
                 have g13 : numsF (id z.d).waits.length (intsF (keysD (id z.d).waits)) = numsF (rwaitsD z.x.toL).length (intsF (rwaitsD z.x.toL)) := by
                   show numsF z.d.waits.length (intsF (keysD z.d.waits)) = _
                   rw [← g10, numsF_ints, numsF_ints, g3]
                 have g14 : ∀ r, r < (id z.d).waits.length → intsF (keysD (id z.d).waits) r = intsF (numsF (id z.d).waits.length (intsF (keysD (id z.d).waits))) r := by
                   show ∀ r, r < z.d.waits.length → intsF (keysD z.d.waits) r = intsF (numsF z.d.waits.length (intsF (keysD z.d.waits))) r
                   rw [← g10, numsF_ints]; exact fun _ _ => rfl
                 have g15 : ∀ r, r < (rwaitsD z.x.toL).length → intsF (rwaitsD z.x.toL) r = intsF (numsF (rwaitsD z.x.toL).length (intsF (rwaitsD z.x.toL))) r := by
                   rw [numsF_ints]; exact fun _ _ => rfl
                 have g16 : (numsF (id z.d).waits.length (intsF (keysD (id z.d).waits))).length ≤ 1000000 := by
                   rw [numsF_len]; show z.d.waits.length ≤ 1000000; omega
                 refine To.Y (!z.d.down) (C := z.d.Fine ∧ Same (AV.sy (Value.bool z.x.down))) (h := ?_)
                 refine To.R (C := z.d.Fine ∧ Same (AV.sy (Value.int IntKind.i64 z.x.many))) (h := ?_)
                 refine To.Yd ((fun x ↦ x.writes) z.d = z.x.many) (h := ?_)
                 refine To.R (C := (id z.d).Fine ∧ (Same z.x.n ∧ Same z.x.n ∧ Same z.x.n) ∧ z.x.Ok ∧ True) (h := ?_)
                 refine To.Yd (numsF (id z.d).waits.length (intsF (keysD (id z.d).waits)) = numsF (rwaitsD z.x.toL).length (intsF (rwaitsD z.x.toL))) (C := (∀ (r : Nat), r < (id z.d).waits.length → intsF (keysD (id z.d).waits) r = intsF (numsF (id z.d).waits.length (intsF (keysD (id z.d).waits))) r) ∧ (∀ (r : Nat), r < (rwaitsD z.x.toL).length → intsF (rwaitsD z.x.toL) r = intsF (numsF (rwaitsD z.x.toL).length (intsF (rwaitsD z.x.toL))) r) ∧ (numsF (id z.d).waits.length (intsF (keysD (id z.d).waits))).length ≤ 1000000) (h := ?_)
                 refine To.R (C := True ∧ (id z.d).Fine ∧ Same (AV.ow 2 z.x.n)) (h := ?_)
                 refine To.Yd ((fun d ↦ (d.stays.length : Int)) (id z.d) = z.x.n) (hp := ?_) (h := ?_)
                 · exact g9
                 refine To.R (k := 30) (C := fits IntKind.i64 (p.i + 1)) (h := ?_)
                 refine To.K (L := [LN.old 0, LN.old 1, LN.old 2, LN.old 3]) (kp := [51, 50, 7, 5, 1]) (ov := [(51, AV.sy (Value.int IntKind.i64 (DkP.mk (p.i + 1) z.d z.x).i))]) (ob := [(0, AB.obj (Ob.disk (DkP.mk (p.i + 1) z.d z.x).d))]) (C := (Same IntKind.i64 ∧ (↑p.i : Int) + 1 = (↑(p.i + 1) : Int)) ∧ Ob.disk (id (id z.d)) = Ob.disk z.d) (hc := ?_) (ih (DkP.mk (p.i + 1) z.d z.x) ⟨hi1, hZ, hZG⟩ hi2)
                 all_goals repeat' (first | exact trivial | exact rfl | exact fun _ _ => rfl | exact Int.natCast_succ _ | refine ⟨?_, ?_⟩)
               · intro g5
                 have g6 : (!z.d.down) = false := by rw [← g2]; simpa using g5
                 have g7 : z.d.writes = z.x.many := g1.symm
                 have g8 : keysD z.d.waits = rwaitsD z.x.toL := g3.symm
                 have g9 : (z.d.stays.length : Int) = (z.x.n : Int) := by rw [g4]
                 have g10 := keysD_len z.d.waits
                 have g11 := hzF.ok.len
                 have g12 : (id z.d).Fine := hzF
                 have g13 : numsF (id z.d).waits.length (intsF (keysD (id z.d).waits)) = numsF (rwaitsD z.x.toL).length (intsF (rwaitsD z.x.toL)) := by
                   show numsF z.d.waits.length (intsF (keysD z.d.waits)) = _
                   rw [← g10, numsF_ints, numsF_ints, g3]
                 have g14 : ∀ r, r < (id z.d).waits.length → intsF (keysD (id z.d).waits) r = intsF (numsF (id z.d).waits.length (intsF (keysD (id z.d).waits))) r := by
                   show ∀ r, r < z.d.waits.length → intsF (keysD z.d.waits) r = intsF (numsF z.d.waits.length (intsF (keysD z.d.waits))) r
                   rw [← g10, numsF_ints]; exact fun _ _ => rfl
                 have g15 : ∀ r, r < (rwaitsD z.x.toL).length → intsF (rwaitsD z.x.toL) r = intsF (numsF (rwaitsD z.x.toL).length (intsF (rwaitsD z.x.toL))) r := by
                   rw [numsF_ints]; exact fun _ _ => rfl
                 have g16 : (numsF (id z.d).waits.length (intsF (keysD (id z.d).waits))).length ≤ 1000000 := by
                   rw [numsF_len]; show z.d.waits.length ≤ 1000000; omega
                 refine To.N (!z.d.down) (C := z.d.Fine ∧ Same (AV.sy (Value.bool z.x.down))) (h := ?_)
                 refine To.R (C := z.d.Fine ∧ Same (AV.sy (Value.int IntKind.i64 z.x.many))) (h := ?_)
                 refine To.Yd ((fun x ↦ x.writes) z.d = z.x.many) (h := ?_)
                 refine To.R (C := (id z.d).Fine ∧ (Same z.x.n ∧ Same z.x.n ∧ Same z.x.n) ∧ z.x.Ok ∧ True) (h := ?_)
                 refine To.Yd (numsF (id z.d).waits.length (intsF (keysD (id z.d).waits)) = numsF (rwaitsD z.x.toL).length (intsF (rwaitsD z.x.toL))) (C := (∀ (r : Nat), r < (id z.d).waits.length → intsF (keysD (id z.d).waits) r = intsF (numsF (id z.d).waits.length (intsF (keysD (id z.d).waits))) r) ∧ (∀ (r : Nat), r < (rwaitsD z.x.toL).length → intsF (rwaitsD z.x.toL) r = intsF (numsF (rwaitsD z.x.toL).length (intsF (rwaitsD z.x.toL))) r) ∧ (numsF (id z.d).waits.length (intsF (keysD (id z.d).waits))).length ≤ 1000000) (h := ?_)
                 refine To.R (C := True ∧ (id z.d).Fine ∧ Same (AV.ow 2 z.x.n)) (h := ?_)
                 refine To.Yd ((fun d ↦ (d.stays.length : Int)) (id z.d) = z.x.n) (hp := ?_) (h := ?_)
                 · exact g9
                 refine To.R (k := 30) (C := fits IntKind.i64 (p.i + 1)) (h := ?_)
                 refine To.K (L := [LN.old 0, LN.old 1, LN.old 2, LN.old 3]) (kp := [51, 50, 7, 5, 1]) (ov := [(51, AV.sy (Value.int IntKind.i64 (DkP.mk (p.i + 1) z.d z.x).i))]) (ob := [(0, AB.obj (Ob.disk (DkP.mk (p.i + 1) z.d z.x).d))]) (C := (Same IntKind.i64 ∧ (↑p.i : Int) + 1 = (↑(p.i + 1) : Int)) ∧ Ob.disk (id (id z.d)) = Ob.disk z.d) (hc := ?_) (ih (DkP.mk (p.i + 1) z.d z.x) ⟨hi1, hZ, hZG⟩ hi2)
                 all_goals repeat' (first | exact trivial | exact rfl | exact fun _ _ => rfl | exact Int.natCast_succ _ | refine ⟨?_, ?_⟩)
       · intro q1
         have hr0 : ByteArray.empty.data.toList = (str (rreadW p.x (l.getD p.i default).at_).1).data.toList := by
           rw [ha]
           simp only [read_none q1]
           rfl
         have hr1 : (readD p.d (l.getD p.i default).at_).2 = (rreadW p.x (l.getD p.i default).at_).2 := by rw [ha]
         refine To.R (C := ((Same p.x.n ∧ Same p.x.n ∧ Same p.x.n) ∧ p.x.Ok ∧ True) ∧ True) (h := ?_)
         refine To.Yd (ByteArray.empty.data.toList = (str (rreadW p.x (l.getD p.i default).at_).fst).data.toList) (h := ?_)
         refine To.R (h := ?_)
         refine To.Yd ((readD p.d (l.getD p.i default).at_).snd = (rreadW p.x (l.getD p.i default).at_).snd) (h := ?_)
         refine To.R (k := 3) (h := ?_)
         refine To.R (k := 1) (h := ?_)
         refine To.L (L := [LN.old 0, LN.old 1, LN.old 2, LN.old 3, LN.old 4, LN.old 7, LN.old 9]) (kp := [13, 12, 10, 8, 5, 1, 0]) (ks := [[60, 56, 55, 51, 50, 7, 1]]) (C := Same (Ob.disk p.d) ∧ (Same 58 ∧ (none : Option Nat) = none ∧ (Same 2 ∧ Same p.x.n) ∧ (Same 3 ∧ Same p.x.n) ∧ (Same IntKind.i64 ∧ Same p.x.w) ∧ (Same 1 ∧ Same p.x.kn ∧ (∀ (r : Nat), r < p.x.kn → p.x.kf r = p.x.kf r)) ∧ (Same IntKind.i64 ∧ Same p.x.torn) ∧ (Same IntKind.i64 ∧ Same p.x.at_) ∧ (Same IntKind.i64 ∧ Same p.x.many) ∧ Same p.x.down ∧ True) ∧ (Same 36 ∧ Same 1 ∧ Same p.x.n ∧ (∀ (r : Nat), r < p.x.n → p.x.sf r = p.x.sf r)) ∧ Same 36 ∧ Same 1 ∧ Same p.x.n ∧ (∀ (r : Nat), r < p.x.n → p.x.cf r = p.x.cf r)) (st := fun (a : DtP) => (⟨(⟨16, 236, (slotT 236 [(0, AV.ptr 0 0), (1, AV.ptr 1 0), (5, AV.ptr 4 0), (8, AV.ow 5 ((l.getD p.i default).b.length + 1)), (10, AV.ow 6 (l.getD p.i default).c.keep.length), (12, AV.v (Value.bool true)), (13, AV.v (Value.slice none 0 0))]), ARg.no, [(AItem.code (subC (bodyC Try.prog 16) [1, 1, 1, 1, 1, 1, 1, 0, 1, 0, 1, 1, 1, 1, 1, 0, 1, 1, 1, 0])), (AItem.code (subC (bodyC Try.prog 16) [1, 1, 1, 1, 1, 1, 1, 0, 1, 0, 1, 1, 1, 1, 1, 0, 1, 1, 1, 1])), (AItem.inBlock 0), (AItem.code (subC (bodyC Try.prog 16) [1, 1, 1, 1, 1, 1, 1, 1]))], [], false, none, 7⟩ : AFr), [(⟨4, 104, (slotT 104 [(1, AV.im 7 l.length (opsF l)), (7, AV.ptr 1 0), (50, AV.sy (Value.int IntKind.i64 l.length)), (51, AV.sy (Value.int IntKind.i64 p.i)), (55, AV.ptr 0 0), (56, AV.ptr 1 0), (60, AV.agg [AV.sy (Value.int IntKind.i64 (l.getD p.i default).kind), AV.sy (Value.int IntKind.i64 (l.getD p.i default).at_), AV.by8 (l.getD p.i default).b, AV.sy (Value.int IntKind.i64 (l.getD p.i default).c.w), AV.im 1 (l.getD p.i default).c.keep.length (intsF (l.getD p.i default).c.keep), AV.sy (Value.int IntKind.i64 (l.getD p.i default).c.torn), AV.sy (Value.int IntKind.i64 (l.getD p.i default).c.at_)])]), (plC (subC (bodyC Try.prog 4) [1, 1, 1, 1, 1, 1, 0, 1, 0, 0, 1, 1, 0, 0, 1, 0]) 6), [(AItem.code (subC (bodyC Try.prog 4) [1, 1, 1, 1, 1, 1, 0, 1, 0, 0, 1, 1, 0, 0, 1, 1])), (AItem.inBlock 1), (AItem.code (subC (bodyC Try.prog 4) [1, 1, 1, 1, 1, 1, 0, 1, 0, 0, 1, 1, 1])), (AItem.inLoop (subC (bodyC Try.prog 4) [1, 1, 1, 1, 1, 1, 0, 1, 0, 0])), (AItem.inBlock 0), (AItem.code (subC (bodyC Try.prog 4) [1, 1, 1, 1, 1, 1, 1]))], [], false, none, 0⟩ : AFr)], memF [AB.obj (Ob.disk a.d), AB.mem 58 none [AV.ow 2 a.x.n, AV.ow 3 a.x.n, AV.sy (Value.int IntKind.i64 a.x.w), AV.im 1 a.x.kn a.x.kf, AV.sy (Value.int IntKind.i64 a.x.torn), AV.sy (Value.int IntKind.i64 a.x.at_), AV.sy (Value.int IntKind.i64 a.x.many), AV.sy (Value.bool a.x.down)], AB.rw 36 1 a.x.n a.x.sf, AB.rw 36 1 a.x.n a.x.cf, AB.mem 54 none [AV.sy (Value.int IntKind.i64 (l.getD p.i default).kind), AV.sy (Value.int IntKind.i64 (l.getD p.i default).at_), AV.by8 (l.getD p.i default).b, AV.sy (Value.int IntKind.i64 (l.getD p.i default).c.w), AV.im 1 (l.getD p.i default).c.keep.length (intsF (l.getD p.i default).c.keep), AV.sy (Value.int IntKind.i64 (l.getD p.i default).c.torn), AV.sy (Value.int IntKind.i64 (l.getD p.i default).c.at_)], AB.bb 5 ((l.getD p.i default).b ++ List.take 1 [UInt8.ofNat 7]), AB.rw 3 1 (l.getD p.i default).c.keep.length (intsF (l.getD p.i default).c.keep)] 0 Tr.e, 7⟩ : ASt)) (h := ?_) (fun (_ : DtP) => []) (fun z => [(0, .obj (.disk z.d)), (1, .mem 58 none [.ow 2 z.x.n, .ow 3 z.x.n, ivA z.x.w, .im 1 z.x.kn z.x.kf, ivA z.x.torn, ivA z.x.at_, ivA z.x.many, .sy (.bool z.x.down)]), (2, .rw 36 1 z.x.n z.x.sf), (3, .rw 36 1 z.x.n z.x.cf)]) (fun z => z.d.In (2 * (p.i + 1)) ∧ GoesW z.d z.x) (fun _ => 0) (DtP.mk (p.d) (p.x))
         all_goals first | exact ⟨hZ, hZG⟩ | (and_intros <;> first | exact trivial | exact rfl | exact fun _ _ => rfl) | skip
         intro z ⟨hZ, hZG⟩ _
         have hT1 : (l.getD p.i default).b.length + 1 ≤ ((l.getD p.i default).b ++ List.take 1 [UInt8.ofNat 7]).length := by simp
         have hT3 : (List.take 1 [UInt8.ofNat 7]).length = 1 := rfl
         have hzF := hZ.fine
         have hzX := hZG.ok
         have hT2 : (str (l.getD p.i default).b).size + 1 ≤ 1000000000 := by
           have : (str (l.getD p.i default).b).size = (l.getD p.i default).b.length := by simp [str, ByteArray.size]
           omega
         refine To.R (C := (l.getD p.i default).b.length + 1 ≤ ((l.getD p.i default).b ++ List.take 1 [UInt8.ofNat 7]).length ∧ True ∧ (str (l.getD p.i default).b).size + 1 ≤ 1000000000) (h := ?_)
         refine To.Yd ((str (List.take ((l.getD p.i default).b.length + 1) ((l.getD p.i default).b ++ List.take 1 [UInt8.ofNat 7]))).data.toList = (str ((str (l.getD p.i default).b).data.toList ++ (ByteArray.mk #[7]).data.toList)).data.toList) (hp := ?_) (h := ?_)
         · exact own_str _
         refine To.R (h := ?_)
         refine To.Yd (numsF (l.getD p.i default).c.keep.length (intsF (l.getD p.i default).c.keep) = numsF (l.getD p.i default).c.keep.length (intsF (l.getD p.i default).c.keep)) (C := (Same (l.getD p.i default).c.keep.length ∧ (∀ (r : Nat), r < (l.getD p.i default).c.keep.length → intsF (l.getD p.i default).c.keep r = intsF (numsF (l.getD p.i default).c.keep.length (intsF (l.getD p.i default).c.keep)) r)) ∧ (∀ (r : Nat), r < (l.getD p.i default).c.keep.length → intsF (l.getD p.i default).c.keep r = intsF (numsF (l.getD p.i default).c.keep.length (intsF (l.getD p.i default).c.keep)) r) ∧ (numsF (l.getD p.i default).c.keep.length (intsF (l.getD p.i default).c.keep)).length ≤ 1000000) (h := ?_)
         refine To.R (k := 12) (h := ?_)
         refine To.L (L := [LN.old 0, LN.old 1, LN.old 2, LN.old 3, LN.old 5, LN.old 6]) (kp := [182, 181, 12, 10, 8, 1, 0]) (ks := [[60, 56, 55, 51, 50, 7, 1]]) (C := (Same IntKind.i64 ∧ (0 : Int) = (↑(0 : Nat) : Int)) ∧ 5 = 5 ∧ (l.getD p.i default).b ++ List.take 1 [UInt8.ofNat 7] = (l.getD p.i default).b ++ List.take 1 [UInt8.ofNat 7]) (st := fun (a : OwP) => (⟨(⟨16, 236, (slotT 236 [(0, AV.ptr 0 0), (1, AV.ptr 1 0), (8, AV.ow 4 ((l.getD p.i default).b.length + 1)), (10, AV.ow 5 (l.getD p.i default).c.keep.length), (12, AV.v (Value.bool true)), (181, AV.sy (Value.int IntKind.i64 (↑((l.getD p.i default).b.length + 1) : Int))), (182, AV.sy (Value.int IntKind.i64 a.k))]), ARg.no, [(AItem.code (subC (bodyC Try.prog 16) [1, 1, 1, 1, 1, 1, 1, 1, 1, 0, 1, 0, 0])), (AItem.inLoop (subC (bodyC Try.prog 16) [1, 1, 1, 1, 1, 1, 1, 1, 1, 0, 1, 0, 0])), (AItem.inBlock 3), (AItem.code (subC (bodyC Try.prog 16) [1, 1, 1, 1, 1, 1, 1, 1, 1, 1]))], [], false, none, 6⟩ : AFr), [(⟨4, 104, (slotT 104 [(1, AV.im 7 l.length (opsF l)), (7, AV.ptr 1 0), (50, AV.sy (Value.int IntKind.i64 l.length)), (51, AV.sy (Value.int IntKind.i64 p.i)), (55, AV.ptr 0 0), (56, AV.ptr 1 0), (60, AV.agg [AV.sy (Value.int IntKind.i64 (l.getD p.i default).kind), AV.sy (Value.int IntKind.i64 (l.getD p.i default).at_), AV.by8 (l.getD p.i default).b, AV.sy (Value.int IntKind.i64 (l.getD p.i default).c.w), AV.im 1 (l.getD p.i default).c.keep.length (intsF (l.getD p.i default).c.keep), AV.sy (Value.int IntKind.i64 (l.getD p.i default).c.torn), AV.sy (Value.int IntKind.i64 (l.getD p.i default).c.at_)])]), (plC (subC (bodyC Try.prog 4) [1, 1, 1, 1, 1, 1, 0, 1, 0, 0, 1, 1, 0, 0, 1, 0]) 6), [(AItem.code (subC (bodyC Try.prog 4) [1, 1, 1, 1, 1, 1, 0, 1, 0, 0, 1, 1, 0, 0, 1, 1])), (AItem.inBlock 1), (AItem.code (subC (bodyC Try.prog 4) [1, 1, 1, 1, 1, 1, 0, 1, 0, 0, 1, 1, 1])), (AItem.inLoop (subC (bodyC Try.prog 4) [1, 1, 1, 1, 1, 1, 0, 1, 0, 0])), (AItem.inBlock 0), (AItem.code (subC (bodyC Try.prog 4) [1, 1, 1, 1, 1, 1, 1]))], [], false, none, 0⟩ : AFr)], memF [AB.obj (Ob.disk z.d), AB.mem 58 none [AV.ow 2 z.x.n, AV.ow 3 z.x.n, AV.sy (Value.int IntKind.i64 z.x.w), AV.im 1 z.x.kn z.x.kf, AV.sy (Value.int IntKind.i64 z.x.torn), AV.sy (Value.int IntKind.i64 z.x.at_), AV.sy (Value.int IntKind.i64 z.x.many), AV.sy (Value.bool z.x.down)], AB.rw 36 1 z.x.n z.x.sf, AB.rw 36 1 z.x.n z.x.cf, AB.bb 5 a.bs, AB.rw 3 1 (l.getD p.i default).c.keep.length (intsF (l.getD p.i default).c.keep)] 0 Tr.e, 6⟩ : ASt)) (hI := ?_) (h := ?_) (fun (e : OwP) => [(182, ivA (e.k : Int))]) (fun e => [(4, .bb 5 e.bs)]) (fun e => e.k ≤ (l.getD p.i default).b.length + 1 ∧ e.bs.length = (l.getD p.i default).b.length + 1) (fun e => (l.getD p.i default).b.length + 1 - e.k) (OwP.mk 0 ((l.getD p.i default).b ++ List.take 1 [UInt8.ofNat 7]))
         all_goals first | exact ⟨Nat.zero_le _, by simp⟩ | skip
         intro e ⟨j1, j2⟩ ihe
         refine To.R (h := ?_)
         refine To.Bd ((↑e.k : Int) < (↑((l.getD p.i default).b.length + 1) : Int)) (h := ?_) (g := ?_)
         · intro j3
           have j4 : e.k + 1 ≤ (l.getD p.i default).b.length + 1 := by omega
           have j5 : (l.getD p.i default).b.length + 1 - (e.k + 1) < (l.getD p.i default).b.length + 1 - e.k := by omega
           have j6 : (e.bs.set e.k (UInt8.ofNat 99)).length = (l.getD p.i default).b.length + 1 := by rw [List.length_set]; exact j2
           refine To.R (k := 23) (C := ((0 : Int) ≤ e.k ∧ (↑e.k : Int) < (↑((l.getD p.i default).b.length + 1) : Int)) ∧ (e.k < e.bs.length ∧ (0 : Int) ≤ 99 ∧ (99 : Int) < 256) ∧ fits IntKind.i64 (e.k + 1)) (h := ?_)
           refine To.K (L := [LN.old 0, LN.old 1, LN.old 2, LN.old 3, LN.old 4, LN.old 5]) (kp := [182, 181, 12, 10, 8, 1, 0]) (ks := [[60, 56, 55, 51, 50, 7, 1]]) (ov := [(182, AV.sy (Value.int IntKind.i64 (OwP.mk (e.k + 1) (e.bs.set e.k (UInt8.ofNat 99))).k))]) (C := Same IntKind.i64 ∧ (↑e.k : Int) + 1 = (↑(e.k + 1) : Int)) (ihe (OwP.mk (e.k + 1) (e.bs.set e.k (UInt8.ofNat 99))) ⟨j4, j6⟩ j5)
         · intro j3
           refine To.R (k := 13) (h := ?_)
           refine To.L (L := [LN.old 0, LN.old 1, LN.old 2, LN.old 3, LN.old 5]) (kp := [191, 190, 12, 10, 1, 0]) (ks := [[60, 56, 55, 51, 50, 7, 1]]) (C := (Same IntKind.i64 ∧ (0 : Int) = (↑(0 : Nat) : Int)) ∧ 3 = 3 ∧ Same 1 ∧ Same (l.getD p.i default).c.keep.length ∧ (∀ (r : Nat), r < (l.getD p.i default).c.keep.length → intsF (l.getD p.i default).c.keep r = (KpP.mk 0 (intsF (l.getD p.i default).c.keep)).f r)) (st := fun (a : KpP) => (⟨(⟨16, 236, (slotT 236 [(0, AV.ptr 0 0), (1, AV.ptr 1 0), (10, AV.ow 4 (l.getD p.i default).c.keep.length), (12, AV.v (Value.bool true)), (190, AV.sy (Value.int IntKind.i64 (l.getD p.i default).c.keep.length)), (191, AV.sy (Value.int IntKind.i64 a.k))]), ARg.no, [(AItem.code (subC (bodyC Try.prog 16) [1, 1, 1, 1, 1, 1, 1, 1, 1, 1, 0, 1, 0, 0])), (AItem.inLoop (subC (bodyC Try.prog 16) [1, 1, 1, 1, 1, 1, 1, 1, 1, 1, 0, 1, 0, 0])), (AItem.inBlock 5), (AItem.code (subC (bodyC Try.prog 16) [1, 1, 1, 1, 1, 1, 1, 1, 1, 1, 1]))], [], false, none, 5⟩ : AFr), [(⟨4, 104, (slotT 104 [(1, AV.im 7 l.length (opsF l)), (7, AV.ptr 1 0), (50, AV.sy (Value.int IntKind.i64 l.length)), (51, AV.sy (Value.int IntKind.i64 p.i)), (55, AV.ptr 0 0), (56, AV.ptr 1 0), (60, AV.agg [AV.sy (Value.int IntKind.i64 (l.getD p.i default).kind), AV.sy (Value.int IntKind.i64 (l.getD p.i default).at_), AV.by8 (l.getD p.i default).b, AV.sy (Value.int IntKind.i64 (l.getD p.i default).c.w), AV.im 1 (l.getD p.i default).c.keep.length (intsF (l.getD p.i default).c.keep), AV.sy (Value.int IntKind.i64 (l.getD p.i default).c.torn), AV.sy (Value.int IntKind.i64 (l.getD p.i default).c.at_)])]), (plC (subC (bodyC Try.prog 4) [1, 1, 1, 1, 1, 1, 0, 1, 0, 0, 1, 1, 0, 0, 1, 0]) 6), [(AItem.code (subC (bodyC Try.prog 4) [1, 1, 1, 1, 1, 1, 0, 1, 0, 0, 1, 1, 0, 0, 1, 1])), (AItem.inBlock 1), (AItem.code (subC (bodyC Try.prog 4) [1, 1, 1, 1, 1, 1, 0, 1, 0, 0, 1, 1, 1])), (AItem.inLoop (subC (bodyC Try.prog 4) [1, 1, 1, 1, 1, 1, 0, 1, 0, 0])), (AItem.inBlock 0), (AItem.code (subC (bodyC Try.prog 4) [1, 1, 1, 1, 1, 1, 1]))], [], false, none, 0⟩ : AFr)], memF [AB.obj (Ob.disk z.d), AB.mem 58 none [AV.ow 2 z.x.n, AV.ow 3 z.x.n, AV.sy (Value.int IntKind.i64 z.x.w), AV.im 1 z.x.kn z.x.kf, AV.sy (Value.int IntKind.i64 z.x.torn), AV.sy (Value.int IntKind.i64 z.x.at_), AV.sy (Value.int IntKind.i64 z.x.many), AV.sy (Value.bool z.x.down)], AB.rw 36 1 z.x.n z.x.sf, AB.rw 36 1 z.x.n z.x.cf, AB.rw 3 1 (l.getD p.i default).c.keep.length a.f] 0 Tr.e, 5⟩ : ASt)) (hI := ?_) (h := ?_) (fun (e : KpP) => [(191, ivA (e.k : Int))]) (fun e => [(4, .rw 3 1 (l.getD p.i default).c.keep.length e.f)]) (fun e => e.k ≤ (l.getD p.i default).c.keep.length) (fun e => (l.getD p.i default).c.keep.length - e.k) (KpP.mk 0 (intsF (l.getD p.i default).c.keep))
           all_goals first | exact Nat.zero_le _ | skip
           intro e j4 ihf
           refine To.R (h := ?_)
           refine To.Bd ((e.k : Int) < (l.getD p.i default).c.keep.length) (h := ?_) (g := ?_)
           · intro j5
             have j6 : e.k + 1 ≤ (l.getD p.i default).c.keep.length := by omega
             have j7 : (l.getD p.i default).c.keep.length - (e.k + 1) < (l.getD p.i default).c.keep.length - e.k := by omega
             refine To.R (k := 23) (C := ((0 : Int) ≤ e.k ∧ (e.k : Int) < (l.getD p.i default).c.keep.length) ∧ e.k < (l.getD p.i default).c.keep.length ∧ fits IntKind.i64 (e.k + 1)) (h := ?_)
             refine To.K (L := [LN.old 0, LN.old 1, LN.old 2, LN.old 3, LN.old 4]) (kp := [191, 190, 12, 10, 1, 0]) (ks := [[60, 56, 55, 51, 50, 7, 1]]) (ov := [(191, AV.sy (Value.int IntKind.i64 (KpP.mk (e.k + 1) (rwSet e.f e.k 0 [AV.v (Value.int IntKind.i64 99)])).k))]) (C := Same IntKind.i64 ∧ (↑e.k : Int) + 1 = (↑(e.k + 1) : Int)) (ihf (KpP.mk (e.k + 1) (rwSet e.f e.k 0 [.v (.int .i64 99)])) j6 j7)
           · intro j5
             have g1 : z.x.many = z.d.writes := hZG.goes.many
             have g2 : z.x.down = z.d.down := hZG.goes.down
             have g3 : rwaitsD z.x.toL = keysD z.d.waits := hZG.goes.waits hzF.ok
             have g4 : z.x.n = z.d.stays.length := by
               have := congrArg List.length hZG.goes.stays
               rw [show z.x.toL.stays.length = z.x.n from recsF_len _ _] at this
               exact this
             refine To.R (h := ?_)
             refine To.B (!z.x.down) (h := ?_) (g := ?_)
             · intro g5
               have g6 : (!z.d.down) = true := by rw [← g2]; exact g5
               have g7 : z.d.writes = z.x.many := g1.symm
               have g8 : keysD z.d.waits = rwaitsD z.x.toL := g3.symm
               have g9 : (z.d.stays.length : Int) = (z.x.n : Int) := by rw [g4]
               have g10 := keysD_len z.d.waits
               have g11 := hzF.ok.len
               have g12 : (id z.d).Fine := hzF
               have g13 : numsF (id z.d).waits.length (intsF (keysD (id z.d).waits)) = numsF (rwaitsD z.x.toL).length (intsF (rwaitsD z.x.toL)) := by
                 show numsF z.d.waits.length (intsF (keysD z.d.waits)) = _
                 rw [← g10, numsF_ints, numsF_ints, g3]
               have g14 : ∀ r, r < (id z.d).waits.length → intsF (keysD (id z.d).waits) r = intsF (numsF (id z.d).waits.length (intsF (keysD (id z.d).waits))) r := by
                 show ∀ r, r < z.d.waits.length → intsF (keysD z.d.waits) r = intsF (numsF z.d.waits.length (intsF (keysD z.d.waits))) r
                 rw [← g10, numsF_ints]; exact fun _ _ => rfl
               have g15 : ∀ r, r < (rwaitsD z.x.toL).length → intsF (rwaitsD z.x.toL) r = intsF (numsF (rwaitsD z.x.toL).length (intsF (rwaitsD z.x.toL))) r := by
                 rw [numsF_ints]; exact fun _ _ => rfl
               have g16 : (numsF (id z.d).waits.length (intsF (keysD (id z.d).waits))).length ≤ 1000000 := by
                 rw [numsF_len]; show z.d.waits.length ≤ 1000000; omega
               refine To.Y (!z.d.down) (C := z.d.Fine ∧ Same (AV.sy (Value.bool z.x.down))) (h := ?_)
               refine To.R (C := z.d.Fine ∧ Same (AV.sy (Value.int IntKind.i64 z.x.many))) (h := ?_)
               refine To.Yd ((fun x ↦ x.writes) z.d = z.x.many) (h := ?_)
               refine To.R (C := (id z.d).Fine ∧ (Same z.x.n ∧ Same z.x.n ∧ Same z.x.n) ∧ z.x.Ok ∧ True) (h := ?_)
               refine To.Yd (numsF (id z.d).waits.length (intsF (keysD (id z.d).waits)) = numsF (rwaitsD z.x.toL).length (intsF (rwaitsD z.x.toL))) (C := (∀ (r : Nat), r < (id z.d).waits.length → intsF (keysD (id z.d).waits) r = intsF (numsF (id z.d).waits.length (intsF (keysD (id z.d).waits))) r) ∧ (∀ (r : Nat), r < (rwaitsD z.x.toL).length → intsF (rwaitsD z.x.toL) r = intsF (numsF (rwaitsD z.x.toL).length (intsF (rwaitsD z.x.toL))) r) ∧ (numsF (id z.d).waits.length (intsF (keysD (id z.d).waits))).length ≤ 1000000) (h := ?_)
               refine To.R (C := True ∧ (id z.d).Fine ∧ Same (AV.ow 2 z.x.n)) (h := ?_)
               refine To.Yd ((fun d ↦ (d.stays.length : Int)) (id z.d) = z.x.n) (hp := ?_) (h := ?_)
               · exact g9
               refine To.R (k := 30) (C := fits IntKind.i64 (p.i + 1)) (h := ?_)
               refine To.K (L := [LN.old 0, LN.old 1, LN.old 2, LN.old 3]) (kp := [51, 50, 7, 5, 1]) (ov := [(51, AV.sy (Value.int IntKind.i64 (DkP.mk (p.i + 1) z.d z.x).i))]) (ob := [(0, AB.obj (Ob.disk (DkP.mk (p.i + 1) z.d z.x).d))]) (C := (Same IntKind.i64 ∧ (↑p.i : Int) + 1 = (↑(p.i + 1) : Int)) ∧ Ob.disk (id (id z.d)) = Ob.disk z.d) (hc := ?_) (ih (DkP.mk (p.i + 1) z.d z.x) ⟨hi1, hZ, hZG⟩ hi2)
               all_goals repeat' (first | exact trivial | exact rfl | exact fun _ _ => rfl | exact Int.natCast_succ _ | refine ⟨?_, ?_⟩)
             · intro g5
               have g6 : (!z.d.down) = false := by rw [← g2]; simpa using g5
               have g7 : z.d.writes = z.x.many := g1.symm
               have g8 : keysD z.d.waits = rwaitsD z.x.toL := g3.symm
               have g9 : (z.d.stays.length : Int) = (z.x.n : Int) := by rw [g4]
               have g10 := keysD_len z.d.waits
               have g11 := hzF.ok.len
               have g12 : (id z.d).Fine := hzF
               have g13 : numsF (id z.d).waits.length (intsF (keysD (id z.d).waits)) = numsF (rwaitsD z.x.toL).length (intsF (rwaitsD z.x.toL)) := by
                 show numsF z.d.waits.length (intsF (keysD z.d.waits)) = _
                 rw [← g10, numsF_ints, numsF_ints, g3]
               have g14 : ∀ r, r < (id z.d).waits.length → intsF (keysD (id z.d).waits) r = intsF (numsF (id z.d).waits.length (intsF (keysD (id z.d).waits))) r := by
                 show ∀ r, r < z.d.waits.length → intsF (keysD z.d.waits) r = intsF (numsF z.d.waits.length (intsF (keysD z.d.waits))) r
                 rw [← g10, numsF_ints]; exact fun _ _ => rfl
               have g15 : ∀ r, r < (rwaitsD z.x.toL).length → intsF (rwaitsD z.x.toL) r = intsF (numsF (rwaitsD z.x.toL).length (intsF (rwaitsD z.x.toL))) r := by
                 rw [numsF_ints]; exact fun _ _ => rfl
               have g16 : (numsF (id z.d).waits.length (intsF (keysD (id z.d).waits))).length ≤ 1000000 := by
                 rw [numsF_len]; show z.d.waits.length ≤ 1000000; omega
               refine To.N (!z.d.down) (C := z.d.Fine ∧ Same (AV.sy (Value.bool z.x.down))) (h := ?_)
               refine To.R (C := z.d.Fine ∧ Same (AV.sy (Value.int IntKind.i64 z.x.many))) (h := ?_)
               refine To.Yd ((fun x ↦ x.writes) z.d = z.x.many) (h := ?_)
               refine To.R (C := (id z.d).Fine ∧ (Same z.x.n ∧ Same z.x.n ∧ Same z.x.n) ∧ z.x.Ok ∧ True) (h := ?_)
               refine To.Yd (numsF (id z.d).waits.length (intsF (keysD (id z.d).waits)) = numsF (rwaitsD z.x.toL).length (intsF (rwaitsD z.x.toL))) (C := (∀ (r : Nat), r < (id z.d).waits.length → intsF (keysD (id z.d).waits) r = intsF (numsF (id z.d).waits.length (intsF (keysD (id z.d).waits))) r) ∧ (∀ (r : Nat), r < (rwaitsD z.x.toL).length → intsF (rwaitsD z.x.toL) r = intsF (numsF (rwaitsD z.x.toL).length (intsF (rwaitsD z.x.toL))) r) ∧ (numsF (id z.d).waits.length (intsF (keysD (id z.d).waits))).length ≤ 1000000) (h := ?_)
               refine To.R (C := True ∧ (id z.d).Fine ∧ Same (AV.ow 2 z.x.n)) (h := ?_)
               refine To.Yd ((fun d ↦ (d.stays.length : Int)) (id z.d) = z.x.n) (hp := ?_) (h := ?_)
               · exact g9
               refine To.R (k := 30) (C := fits IntKind.i64 (p.i + 1)) (h := ?_)
               refine To.K (L := [LN.old 0, LN.old 1, LN.old 2, LN.old 3]) (kp := [51, 50, 7, 5, 1]) (ov := [(51, AV.sy (Value.int IntKind.i64 (DkP.mk (p.i + 1) z.d z.x).i))]) (ob := [(0, AB.obj (Ob.disk (DkP.mk (p.i + 1) z.d z.x).d))]) (C := (Same IntKind.i64 ∧ (↑p.i : Int) + 1 = (↑(p.i + 1) : Int)) ∧ Ob.disk (id (id z.d)) = Ob.disk z.d) (hc := ?_) (ih (DkP.mk (p.i + 1) z.d z.x) ⟨hi1, hZ, hZG⟩ hi2)
               all_goals repeat' (first | exact trivial | exact rfl | exact fun _ _ => rfl | exact Int.natCast_succ _ | refine ⟨?_, ?_⟩)
     intro k2
     refine To.R (h := ?_)
     refine To.Bd ((l.getD p.i default).kind = 3) (h := ?_) (g := ?_)
     · intro k3
       have ha := hg.down hin (⟨(l.getD p.i default).c.w, numsF (l.getD p.i default).c.keep.length (intsF (l.getD p.i default).c.keep), (l.getD p.i default).c.torn, (l.getD p.i default).c.at_⟩ : CrashD)
       refine To.R (C := ((Same (l.getD p.i default).c.keep.length ∧ (∀ (r : Nat), r < (l.getD p.i default).c.keep.length → intsF (l.getD p.i default).c.keep r = intsF (numsF (l.getD p.i default).c.keep.length (intsF (l.getD p.i default).c.keep)) r)) ∧ p.d.Fine ∧ (numsF (l.getD p.i default).c.keep.length (intsF (l.getD p.i default).c.keep)).length ≤ 1000000 ∧ fits IntKind.i64 (l.getD p.i default).c.at_) ∧ Same (AV.agg [AV.sy (Value.int IntKind.i64 (l.getD p.i default).c.w), AV.im 1 (l.getD p.i default).c.keep.length (intsF (l.getD p.i default).c.keep), AV.sy (Value.int IntKind.i64 (l.getD p.i default).c.torn), AV.sy (Value.int IntKind.i64 (l.getD p.i default).c.at_)]) ∧ (Same p.x.n ∧ Same p.x.n ∧ Same p.x.n) ∧ p.x.Ok ∧ (∀ (q : Nat), q < (l.getD p.i default).c.keep.length → (CW.mk (l.getD p.i default).c.w (l.getD p.i default).c.keep.length (intsF (l.getD p.i default).c.keep) (l.getD p.i default).c.torn (l.getD p.i default).c.at_).kf q = intsF (numsF (l.getD p.i default).c.keep.length (intsF (l.getD p.i default).c.keep)) q) ∧ (l.getD p.i default).c.keep.length ≤ 1000000) (h := ?_)
       refine To.Yd ((downD p.d (CrashD.mk (l.getD p.i default).c.w (numsF (l.getD p.i default).c.keep.length (intsF (l.getD p.i default).c.keep)) (l.getD p.i default).c.torn (l.getD p.i default).c.at_)).snd = (rdownW p.x (CW.mk (l.getD p.i default).c.w (l.getD p.i default).c.keep.length (intsF (l.getD p.i default).c.keep) (l.getD p.i default).c.torn (l.getD p.i default).c.at_).toL).snd) (hp := ?_) (h := ?_)
       · exact ha.2.symm
       have hZ : (downD p.d (⟨(l.getD p.i default).c.w, numsF (l.getD p.i default).c.keep.length (intsF (l.getD p.i default).c.keep), (l.getD p.i default).c.torn, (l.getD p.i default).c.at_⟩ : CrashD)).1.In (2 * (p.i + 1)) := (hin.down _).more (by omega) (by omega)
       have hZG : GoesW (downD p.d (⟨(l.getD p.i default).c.w, numsF (l.getD p.i default).c.keep.length (intsF (l.getD p.i default).c.keep), (l.getD p.i default).c.torn, (l.getD p.i default).c.at_⟩ : CrashD)).1 (rdownW p.x (⟨(l.getD p.i default).c.w, numsF (l.getD p.i default).c.keep.length (intsF (l.getD p.i default).c.keep), (l.getD p.i default).c.torn, (l.getD p.i default).c.at_⟩ : CrashD)).1 := ha.1
       refine To.R (k := 2) (h := ?_)
       refine To.L (L := [LN.old 0, LN.old 1, LN.old 2, LN.old 3, LN.old 4, LN.old 7, LN.old 9]) (kp := [12, 10, 8, 5, 1, 0]) (ks := [[60, 56, 55, 51, 50, 7, 1]]) (C := Same (Ob.disk (downD p.d (CrashD.mk (l.getD p.i default).c.w (numsF (l.getD p.i default).c.keep.length (intsF (l.getD p.i default).c.keep)) (l.getD p.i default).c.torn (l.getD p.i default).c.at_)).fst) ∧ (Same 58 ∧ (none : Option Nat) = none ∧ (Same 2 ∧ (rdownW p.x (CW.mk (l.getD p.i default).c.w (l.getD p.i default).c.keep.length (intsF (l.getD p.i default).c.keep) (l.getD p.i default).c.torn (l.getD p.i default).c.at_).toL).fst.n = (rdownW p.x (CrashD.mk (l.getD p.i default).c.w (numsF (l.getD p.i default).c.keep.length (intsF (l.getD p.i default).c.keep)) (l.getD p.i default).c.torn (l.getD p.i default).c.at_)).fst.n) ∧ (Same 3 ∧ (rdownW p.x (CW.mk (l.getD p.i default).c.w (l.getD p.i default).c.keep.length (intsF (l.getD p.i default).c.keep) (l.getD p.i default).c.torn (l.getD p.i default).c.at_).toL).fst.n = (rdownW p.x (CrashD.mk (l.getD p.i default).c.w (numsF (l.getD p.i default).c.keep.length (intsF (l.getD p.i default).c.keep)) (l.getD p.i default).c.torn (l.getD p.i default).c.at_)).fst.n) ∧ (Same IntKind.i64 ∧ (rdownW p.x (CW.mk (l.getD p.i default).c.w (l.getD p.i default).c.keep.length (intsF (l.getD p.i default).c.keep) (l.getD p.i default).c.torn (l.getD p.i default).c.at_).toL).fst.w = (rdownW p.x (CrashD.mk (l.getD p.i default).c.w (numsF (l.getD p.i default).c.keep.length (intsF (l.getD p.i default).c.keep)) (l.getD p.i default).c.torn (l.getD p.i default).c.at_)).fst.w) ∧ (Same 1 ∧ (rdownW p.x (CW.mk (l.getD p.i default).c.w (l.getD p.i default).c.keep.length (intsF (l.getD p.i default).c.keep) (l.getD p.i default).c.torn (l.getD p.i default).c.at_).toL).fst.kn = (rdownW p.x (CrashD.mk (l.getD p.i default).c.w (numsF (l.getD p.i default).c.keep.length (intsF (l.getD p.i default).c.keep)) (l.getD p.i default).c.torn (l.getD p.i default).c.at_)).fst.kn ∧ (∀ (r : Nat), r < (rdownW p.x (CW.mk (l.getD p.i default).c.w (l.getD p.i default).c.keep.length (intsF (l.getD p.i default).c.keep) (l.getD p.i default).c.torn (l.getD p.i default).c.at_).toL).fst.kn → (rdownW p.x (CW.mk (l.getD p.i default).c.w (l.getD p.i default).c.keep.length (intsF (l.getD p.i default).c.keep) (l.getD p.i default).c.torn (l.getD p.i default).c.at_).toL).fst.kf r = (rdownW p.x (CrashD.mk (l.getD p.i default).c.w (numsF (l.getD p.i default).c.keep.length (intsF (l.getD p.i default).c.keep)) (l.getD p.i default).c.torn (l.getD p.i default).c.at_)).fst.kf r)) ∧ (Same IntKind.i64 ∧ (rdownW p.x (CW.mk (l.getD p.i default).c.w (l.getD p.i default).c.keep.length (intsF (l.getD p.i default).c.keep) (l.getD p.i default).c.torn (l.getD p.i default).c.at_).toL).fst.torn = (rdownW p.x (CrashD.mk (l.getD p.i default).c.w (numsF (l.getD p.i default).c.keep.length (intsF (l.getD p.i default).c.keep)) (l.getD p.i default).c.torn (l.getD p.i default).c.at_)).fst.torn) ∧ (Same IntKind.i64 ∧ (rdownW p.x (CW.mk (l.getD p.i default).c.w (l.getD p.i default).c.keep.length (intsF (l.getD p.i default).c.keep) (l.getD p.i default).c.torn (l.getD p.i default).c.at_).toL).fst.at_ = (rdownW p.x (CrashD.mk (l.getD p.i default).c.w (numsF (l.getD p.i default).c.keep.length (intsF (l.getD p.i default).c.keep)) (l.getD p.i default).c.torn (l.getD p.i default).c.at_)).fst.at_) ∧ (Same IntKind.i64 ∧ (rdownW p.x (CW.mk (l.getD p.i default).c.w (l.getD p.i default).c.keep.length (intsF (l.getD p.i default).c.keep) (l.getD p.i default).c.torn (l.getD p.i default).c.at_).toL).fst.many = (rdownW p.x (CrashD.mk (l.getD p.i default).c.w (numsF (l.getD p.i default).c.keep.length (intsF (l.getD p.i default).c.keep)) (l.getD p.i default).c.torn (l.getD p.i default).c.at_)).fst.many) ∧ (rdownW p.x (CW.mk (l.getD p.i default).c.w (l.getD p.i default).c.keep.length (intsF (l.getD p.i default).c.keep) (l.getD p.i default).c.torn (l.getD p.i default).c.at_).toL).fst.down = (rdownW p.x (CrashD.mk (l.getD p.i default).c.w (numsF (l.getD p.i default).c.keep.length (intsF (l.getD p.i default).c.keep)) (l.getD p.i default).c.torn (l.getD p.i default).c.at_)).fst.down ∧ True) ∧ (Same 36 ∧ Same 1 ∧ (rdownW p.x (CW.mk (l.getD p.i default).c.w (l.getD p.i default).c.keep.length (intsF (l.getD p.i default).c.keep) (l.getD p.i default).c.torn (l.getD p.i default).c.at_).toL).fst.n = (rdownW p.x (CrashD.mk (l.getD p.i default).c.w (numsF (l.getD p.i default).c.keep.length (intsF (l.getD p.i default).c.keep)) (l.getD p.i default).c.torn (l.getD p.i default).c.at_)).fst.n ∧ (∀ (r : Nat), r < (rdownW p.x (CW.mk (l.getD p.i default).c.w (l.getD p.i default).c.keep.length (intsF (l.getD p.i default).c.keep) (l.getD p.i default).c.torn (l.getD p.i default).c.at_).toL).fst.n → (rdownW p.x (CW.mk (l.getD p.i default).c.w (l.getD p.i default).c.keep.length (intsF (l.getD p.i default).c.keep) (l.getD p.i default).c.torn (l.getD p.i default).c.at_).toL).fst.sf r = (rdownW p.x (CrashD.mk (l.getD p.i default).c.w (numsF (l.getD p.i default).c.keep.length (intsF (l.getD p.i default).c.keep)) (l.getD p.i default).c.torn (l.getD p.i default).c.at_)).fst.sf r)) ∧ Same 36 ∧ Same 1 ∧ (rdownW p.x (CW.mk (l.getD p.i default).c.w (l.getD p.i default).c.keep.length (intsF (l.getD p.i default).c.keep) (l.getD p.i default).c.torn (l.getD p.i default).c.at_).toL).fst.n = (rdownW p.x (CrashD.mk (l.getD p.i default).c.w (numsF (l.getD p.i default).c.keep.length (intsF (l.getD p.i default).c.keep)) (l.getD p.i default).c.torn (l.getD p.i default).c.at_)).fst.n ∧ (∀ (r : Nat), r < (rdownW p.x (CW.mk (l.getD p.i default).c.w (l.getD p.i default).c.keep.length (intsF (l.getD p.i default).c.keep) (l.getD p.i default).c.torn (l.getD p.i default).c.at_).toL).fst.n → (rdownW p.x (CW.mk (l.getD p.i default).c.w (l.getD p.i default).c.keep.length (intsF (l.getD p.i default).c.keep) (l.getD p.i default).c.torn (l.getD p.i default).c.at_).toL).fst.cf r = (rdownW p.x (CrashD.mk (l.getD p.i default).c.w (numsF (l.getD p.i default).c.keep.length (intsF (l.getD p.i default).c.keep)) (l.getD p.i default).c.torn (l.getD p.i default).c.at_)).fst.cf r)) (st := fun (a : DtP) => (⟨(⟨16, 236, (slotT 236 [(0, AV.ptr 0 0), (1, AV.ptr 1 0), (5, AV.ptr 4 0), (8, AV.ow 5 ((l.getD p.i default).b.length + 1)), (10, AV.ow 6 (l.getD p.i default).c.keep.length), (12, AV.v (Value.bool true))]), ARg.no, [(AItem.inBlock 0), (AItem.code (subC (bodyC Try.prog 16) [1, 1, 1, 1, 1, 1, 1, 1]))], [], false, none, 7⟩ : AFr), [(⟨4, 104, (slotT 104 [(1, AV.im 7 l.length (opsF l)), (7, AV.ptr 1 0), (50, AV.sy (Value.int IntKind.i64 l.length)), (51, AV.sy (Value.int IntKind.i64 p.i)), (55, AV.ptr 0 0), (56, AV.ptr 1 0), (60, AV.agg [AV.sy (Value.int IntKind.i64 (l.getD p.i default).kind), AV.sy (Value.int IntKind.i64 (l.getD p.i default).at_), AV.by8 (l.getD p.i default).b, AV.sy (Value.int IntKind.i64 (l.getD p.i default).c.w), AV.im 1 (l.getD p.i default).c.keep.length (intsF (l.getD p.i default).c.keep), AV.sy (Value.int IntKind.i64 (l.getD p.i default).c.torn), AV.sy (Value.int IntKind.i64 (l.getD p.i default).c.at_)])]), (plC (subC (bodyC Try.prog 4) [1, 1, 1, 1, 1, 1, 0, 1, 0, 0, 1, 1, 0, 0, 1, 0]) 6), [(AItem.code (subC (bodyC Try.prog 4) [1, 1, 1, 1, 1, 1, 0, 1, 0, 0, 1, 1, 0, 0, 1, 1])), (AItem.inBlock 1), (AItem.code (subC (bodyC Try.prog 4) [1, 1, 1, 1, 1, 1, 0, 1, 0, 0, 1, 1, 1])), (AItem.inLoop (subC (bodyC Try.prog 4) [1, 1, 1, 1, 1, 1, 0, 1, 0, 0])), (AItem.inBlock 0), (AItem.code (subC (bodyC Try.prog 4) [1, 1, 1, 1, 1, 1, 1]))], [], false, none, 0⟩ : AFr)], memF [AB.obj (Ob.disk a.d), AB.mem 58 none [AV.ow 2 a.x.n, AV.ow 3 a.x.n, AV.sy (Value.int IntKind.i64 a.x.w), AV.im 1 a.x.kn a.x.kf, AV.sy (Value.int IntKind.i64 a.x.torn), AV.sy (Value.int IntKind.i64 a.x.at_), AV.sy (Value.int IntKind.i64 a.x.many), AV.sy (Value.bool a.x.down)], AB.rw 36 1 a.x.n a.x.sf, AB.rw 36 1 a.x.n a.x.cf, AB.mem 54 none [AV.sy (Value.int IntKind.i64 (l.getD p.i default).kind), AV.sy (Value.int IntKind.i64 (l.getD p.i default).at_), AV.by8 (l.getD p.i default).b, AV.sy (Value.int IntKind.i64 (l.getD p.i default).c.w), AV.im 1 (l.getD p.i default).c.keep.length (intsF (l.getD p.i default).c.keep), AV.sy (Value.int IntKind.i64 (l.getD p.i default).c.torn), AV.sy (Value.int IntKind.i64 (l.getD p.i default).c.at_)], AB.bb 5 ((l.getD p.i default).b ++ List.take 1 [UInt8.ofNat 7]), AB.rw 3 1 (l.getD p.i default).c.keep.length (intsF (l.getD p.i default).c.keep)] 0 Tr.e, 7⟩ : ASt)) (hc := ?_) (h := ?_) (fun (_ : DtP) => []) (fun z => [(0, .obj (.disk z.d)), (1, .mem 58 none [.ow 2 z.x.n, .ow 3 z.x.n, ivA z.x.w, .im 1 z.x.kn z.x.kf, ivA z.x.torn, ivA z.x.at_, ivA z.x.many, .sy (.bool z.x.down)]), (2, .rw 36 1 z.x.n z.x.sf), (3, .rw 36 1 z.x.n z.x.cf)]) (fun z => z.d.In (2 * (p.i + 1)) ∧ GoesW z.d z.x) (fun _ => 0) (DtP.mk ((downD p.d (⟨(l.getD p.i default).c.w, numsF (l.getD p.i default).c.keep.length (intsF (l.getD p.i default).c.keep), (l.getD p.i default).c.torn, (l.getD p.i default).c.at_⟩ : CrashD)).1) ((rdownW p.x (⟨(l.getD p.i default).c.w, numsF (l.getD p.i default).c.keep.length (intsF (l.getD p.i default).c.keep), (l.getD p.i default).c.torn, (l.getD p.i default).c.at_⟩ : CrashD)).1))
       all_goals first | exact ⟨hZ, hZG⟩ | (and_intros <;> first | exact trivial | exact rfl | exact fun _ _ => rfl) | skip
       intro z ⟨hZ, hZG⟩ _
       have hT1 : (l.getD p.i default).b.length + 1 ≤ ((l.getD p.i default).b ++ List.take 1 [UInt8.ofNat 7]).length := by simp
       have hT3 : (List.take 1 [UInt8.ofNat 7]).length = 1 := rfl
       have hzF := hZ.fine
       have hzX := hZG.ok
       have hT2 : (str (l.getD p.i default).b).size + 1 ≤ 1000000000 := by
         have : (str (l.getD p.i default).b).size = (l.getD p.i default).b.length := by simp [str, ByteArray.size]
         omega
       refine To.R (C := (l.getD p.i default).b.length + 1 ≤ ((l.getD p.i default).b ++ List.take 1 [UInt8.ofNat 7]).length ∧ True ∧ (str (l.getD p.i default).b).size + 1 ≤ 1000000000) (h := ?_)
       refine To.Yd ((str (List.take ((l.getD p.i default).b.length + 1) ((l.getD p.i default).b ++ List.take 1 [UInt8.ofNat 7]))).data.toList = (str ((str (l.getD p.i default).b).data.toList ++ (ByteArray.mk #[7]).data.toList)).data.toList) (hp := ?_) (h := ?_)
       · exact own_str _
       refine To.R (h := ?_)
       refine To.Yd (numsF (l.getD p.i default).c.keep.length (intsF (l.getD p.i default).c.keep) = numsF (l.getD p.i default).c.keep.length (intsF (l.getD p.i default).c.keep)) (C := (Same (l.getD p.i default).c.keep.length ∧ (∀ (r : Nat), r < (l.getD p.i default).c.keep.length → intsF (l.getD p.i default).c.keep r = intsF (numsF (l.getD p.i default).c.keep.length (intsF (l.getD p.i default).c.keep)) r)) ∧ (∀ (r : Nat), r < (l.getD p.i default).c.keep.length → intsF (l.getD p.i default).c.keep r = intsF (numsF (l.getD p.i default).c.keep.length (intsF (l.getD p.i default).c.keep)) r) ∧ (numsF (l.getD p.i default).c.keep.length (intsF (l.getD p.i default).c.keep)).length ≤ 1000000) (h := ?_)
       refine To.R (k := 12) (h := ?_)
       refine To.L (L := [LN.old 0, LN.old 1, LN.old 2, LN.old 3, LN.old 5, LN.old 6]) (kp := [182, 181, 12, 10, 8, 1, 0]) (ks := [[60, 56, 55, 51, 50, 7, 1]]) (C := (Same IntKind.i64 ∧ (0 : Int) = (↑(0 : Nat) : Int)) ∧ 5 = 5 ∧ (l.getD p.i default).b ++ List.take 1 [UInt8.ofNat 7] = (l.getD p.i default).b ++ List.take 1 [UInt8.ofNat 7]) (st := fun (a : OwP) => (⟨(⟨16, 236, (slotT 236 [(0, AV.ptr 0 0), (1, AV.ptr 1 0), (8, AV.ow 4 ((l.getD p.i default).b.length + 1)), (10, AV.ow 5 (l.getD p.i default).c.keep.length), (12, AV.v (Value.bool true)), (181, AV.sy (Value.int IntKind.i64 (↑((l.getD p.i default).b.length + 1) : Int))), (182, AV.sy (Value.int IntKind.i64 a.k))]), ARg.no, [(AItem.code (subC (bodyC Try.prog 16) [1, 1, 1, 1, 1, 1, 1, 1, 1, 0, 1, 0, 0])), (AItem.inLoop (subC (bodyC Try.prog 16) [1, 1, 1, 1, 1, 1, 1, 1, 1, 0, 1, 0, 0])), (AItem.inBlock 3), (AItem.code (subC (bodyC Try.prog 16) [1, 1, 1, 1, 1, 1, 1, 1, 1, 1]))], [], false, none, 6⟩ : AFr), [(⟨4, 104, (slotT 104 [(1, AV.im 7 l.length (opsF l)), (7, AV.ptr 1 0), (50, AV.sy (Value.int IntKind.i64 l.length)), (51, AV.sy (Value.int IntKind.i64 p.i)), (55, AV.ptr 0 0), (56, AV.ptr 1 0), (60, AV.agg [AV.sy (Value.int IntKind.i64 (l.getD p.i default).kind), AV.sy (Value.int IntKind.i64 (l.getD p.i default).at_), AV.by8 (l.getD p.i default).b, AV.sy (Value.int IntKind.i64 (l.getD p.i default).c.w), AV.im 1 (l.getD p.i default).c.keep.length (intsF (l.getD p.i default).c.keep), AV.sy (Value.int IntKind.i64 (l.getD p.i default).c.torn), AV.sy (Value.int IntKind.i64 (l.getD p.i default).c.at_)])]), (plC (subC (bodyC Try.prog 4) [1, 1, 1, 1, 1, 1, 0, 1, 0, 0, 1, 1, 0, 0, 1, 0]) 6), [(AItem.code (subC (bodyC Try.prog 4) [1, 1, 1, 1, 1, 1, 0, 1, 0, 0, 1, 1, 0, 0, 1, 1])), (AItem.inBlock 1), (AItem.code (subC (bodyC Try.prog 4) [1, 1, 1, 1, 1, 1, 0, 1, 0, 0, 1, 1, 1])), (AItem.inLoop (subC (bodyC Try.prog 4) [1, 1, 1, 1, 1, 1, 0, 1, 0, 0])), (AItem.inBlock 0), (AItem.code (subC (bodyC Try.prog 4) [1, 1, 1, 1, 1, 1, 1]))], [], false, none, 0⟩ : AFr)], memF [AB.obj (Ob.disk z.d), AB.mem 58 none [AV.ow 2 z.x.n, AV.ow 3 z.x.n, AV.sy (Value.int IntKind.i64 z.x.w), AV.im 1 z.x.kn z.x.kf, AV.sy (Value.int IntKind.i64 z.x.torn), AV.sy (Value.int IntKind.i64 z.x.at_), AV.sy (Value.int IntKind.i64 z.x.many), AV.sy (Value.bool z.x.down)], AB.rw 36 1 z.x.n z.x.sf, AB.rw 36 1 z.x.n z.x.cf, AB.bb 5 a.bs, AB.rw 3 1 (l.getD p.i default).c.keep.length (intsF (l.getD p.i default).c.keep)] 0 Tr.e, 6⟩ : ASt)) (hI := ?_) (h := ?_) (fun (e : OwP) => [(182, ivA (e.k : Int))]) (fun e => [(4, .bb 5 e.bs)]) (fun e => e.k ≤ (l.getD p.i default).b.length + 1 ∧ e.bs.length = (l.getD p.i default).b.length + 1) (fun e => (l.getD p.i default).b.length + 1 - e.k) (OwP.mk 0 ((l.getD p.i default).b ++ List.take 1 [UInt8.ofNat 7]))
       all_goals first | exact ⟨Nat.zero_le _, by simp⟩ | skip
       intro e ⟨j1, j2⟩ ihe
       refine To.R (h := ?_)
       refine To.Bd ((↑e.k : Int) < (↑((l.getD p.i default).b.length + 1) : Int)) (h := ?_) (g := ?_)
       · intro j3
         have j4 : e.k + 1 ≤ (l.getD p.i default).b.length + 1 := by omega
         have j5 : (l.getD p.i default).b.length + 1 - (e.k + 1) < (l.getD p.i default).b.length + 1 - e.k := by omega
         have j6 : (e.bs.set e.k (UInt8.ofNat 99)).length = (l.getD p.i default).b.length + 1 := by rw [List.length_set]; exact j2
         refine To.R (k := 23) (C := ((0 : Int) ≤ e.k ∧ (↑e.k : Int) < (↑((l.getD p.i default).b.length + 1) : Int)) ∧ (e.k < e.bs.length ∧ (0 : Int) ≤ 99 ∧ (99 : Int) < 256) ∧ fits IntKind.i64 (e.k + 1)) (h := ?_)
         refine To.K (L := [LN.old 0, LN.old 1, LN.old 2, LN.old 3, LN.old 4, LN.old 5]) (kp := [182, 181, 12, 10, 8, 1, 0]) (ks := [[60, 56, 55, 51, 50, 7, 1]]) (ov := [(182, AV.sy (Value.int IntKind.i64 (OwP.mk (e.k + 1) (e.bs.set e.k (UInt8.ofNat 99))).k))]) (C := Same IntKind.i64 ∧ (↑e.k : Int) + 1 = (↑(e.k + 1) : Int)) (ihe (OwP.mk (e.k + 1) (e.bs.set e.k (UInt8.ofNat 99))) ⟨j4, j6⟩ j5)
       · intro j3
         refine To.R (k := 13) (h := ?_)
         refine To.L (L := [LN.old 0, LN.old 1, LN.old 2, LN.old 3, LN.old 5]) (kp := [191, 190, 12, 10, 1, 0]) (ks := [[60, 56, 55, 51, 50, 7, 1]]) (C := (Same IntKind.i64 ∧ (0 : Int) = (↑(0 : Nat) : Int)) ∧ 3 = 3 ∧ Same 1 ∧ Same (l.getD p.i default).c.keep.length ∧ (∀ (r : Nat), r < (l.getD p.i default).c.keep.length → intsF (l.getD p.i default).c.keep r = (KpP.mk 0 (intsF (l.getD p.i default).c.keep)).f r)) (st := fun (a : KpP) => (⟨(⟨16, 236, (slotT 236 [(0, AV.ptr 0 0), (1, AV.ptr 1 0), (10, AV.ow 4 (l.getD p.i default).c.keep.length), (12, AV.v (Value.bool true)), (190, AV.sy (Value.int IntKind.i64 (l.getD p.i default).c.keep.length)), (191, AV.sy (Value.int IntKind.i64 a.k))]), ARg.no, [(AItem.code (subC (bodyC Try.prog 16) [1, 1, 1, 1, 1, 1, 1, 1, 1, 1, 0, 1, 0, 0])), (AItem.inLoop (subC (bodyC Try.prog 16) [1, 1, 1, 1, 1, 1, 1, 1, 1, 1, 0, 1, 0, 0])), (AItem.inBlock 5), (AItem.code (subC (bodyC Try.prog 16) [1, 1, 1, 1, 1, 1, 1, 1, 1, 1, 1]))], [], false, none, 5⟩ : AFr), [(⟨4, 104, (slotT 104 [(1, AV.im 7 l.length (opsF l)), (7, AV.ptr 1 0), (50, AV.sy (Value.int IntKind.i64 l.length)), (51, AV.sy (Value.int IntKind.i64 p.i)), (55, AV.ptr 0 0), (56, AV.ptr 1 0), (60, AV.agg [AV.sy (Value.int IntKind.i64 (l.getD p.i default).kind), AV.sy (Value.int IntKind.i64 (l.getD p.i default).at_), AV.by8 (l.getD p.i default).b, AV.sy (Value.int IntKind.i64 (l.getD p.i default).c.w), AV.im 1 (l.getD p.i default).c.keep.length (intsF (l.getD p.i default).c.keep), AV.sy (Value.int IntKind.i64 (l.getD p.i default).c.torn), AV.sy (Value.int IntKind.i64 (l.getD p.i default).c.at_)])]), (plC (subC (bodyC Try.prog 4) [1, 1, 1, 1, 1, 1, 0, 1, 0, 0, 1, 1, 0, 0, 1, 0]) 6), [(AItem.code (subC (bodyC Try.prog 4) [1, 1, 1, 1, 1, 1, 0, 1, 0, 0, 1, 1, 0, 0, 1, 1])), (AItem.inBlock 1), (AItem.code (subC (bodyC Try.prog 4) [1, 1, 1, 1, 1, 1, 0, 1, 0, 0, 1, 1, 1])), (AItem.inLoop (subC (bodyC Try.prog 4) [1, 1, 1, 1, 1, 1, 0, 1, 0, 0])), (AItem.inBlock 0), (AItem.code (subC (bodyC Try.prog 4) [1, 1, 1, 1, 1, 1, 1]))], [], false, none, 0⟩ : AFr)], memF [AB.obj (Ob.disk z.d), AB.mem 58 none [AV.ow 2 z.x.n, AV.ow 3 z.x.n, AV.sy (Value.int IntKind.i64 z.x.w), AV.im 1 z.x.kn z.x.kf, AV.sy (Value.int IntKind.i64 z.x.torn), AV.sy (Value.int IntKind.i64 z.x.at_), AV.sy (Value.int IntKind.i64 z.x.many), AV.sy (Value.bool z.x.down)], AB.rw 36 1 z.x.n z.x.sf, AB.rw 36 1 z.x.n z.x.cf, AB.rw 3 1 (l.getD p.i default).c.keep.length a.f] 0 Tr.e, 5⟩ : ASt)) (hI := ?_) (h := ?_) (fun (e : KpP) => [(191, ivA (e.k : Int))]) (fun e => [(4, .rw 3 1 (l.getD p.i default).c.keep.length e.f)]) (fun e => e.k ≤ (l.getD p.i default).c.keep.length) (fun e => (l.getD p.i default).c.keep.length - e.k) (KpP.mk 0 (intsF (l.getD p.i default).c.keep))
         all_goals first | exact Nat.zero_le _ | skip
         intro e j4 ihf
         refine To.R (h := ?_)
         refine To.Bd ((e.k : Int) < (l.getD p.i default).c.keep.length) (h := ?_) (g := ?_)
         · intro j5
           have j6 : e.k + 1 ≤ (l.getD p.i default).c.keep.length := by omega
           have j7 : (l.getD p.i default).c.keep.length - (e.k + 1) < (l.getD p.i default).c.keep.length - e.k := by omega
           refine To.R (k := 23) (C := ((0 : Int) ≤ e.k ∧ (e.k : Int) < (l.getD p.i default).c.keep.length) ∧ e.k < (l.getD p.i default).c.keep.length ∧ fits IntKind.i64 (e.k + 1)) (h := ?_)
           refine To.K (L := [LN.old 0, LN.old 1, LN.old 2, LN.old 3, LN.old 4]) (kp := [191, 190, 12, 10, 1, 0]) (ks := [[60, 56, 55, 51, 50, 7, 1]]) (ov := [(191, AV.sy (Value.int IntKind.i64 (KpP.mk (e.k + 1) (rwSet e.f e.k 0 [AV.v (Value.int IntKind.i64 99)])).k))]) (C := Same IntKind.i64 ∧ (↑e.k : Int) + 1 = (↑(e.k + 1) : Int)) (ihf (KpP.mk (e.k + 1) (rwSet e.f e.k 0 [.v (.int .i64 99)])) j6 j7)
         · intro j5
           have g1 : z.x.many = z.d.writes := hZG.goes.many
           have g2 : z.x.down = z.d.down := hZG.goes.down
           have g3 : rwaitsD z.x.toL = keysD z.d.waits := hZG.goes.waits hzF.ok
           have g4 : z.x.n = z.d.stays.length := by
             have := congrArg List.length hZG.goes.stays
             rw [show z.x.toL.stays.length = z.x.n from recsF_len _ _] at this
             exact this
           refine To.R (h := ?_)
           refine To.B (!z.x.down) (h := ?_) (g := ?_)
           · intro g5
             have g6 : (!z.d.down) = true := by rw [← g2]; exact g5
             have g7 : z.d.writes = z.x.many := g1.symm
             have g8 : keysD z.d.waits = rwaitsD z.x.toL := g3.symm
             have g9 : (z.d.stays.length : Int) = (z.x.n : Int) := by rw [g4]
             have g10 := keysD_len z.d.waits
             have g11 := hzF.ok.len
             have g12 : (id z.d).Fine := hzF
             have g13 : numsF (id z.d).waits.length (intsF (keysD (id z.d).waits)) = numsF (rwaitsD z.x.toL).length (intsF (rwaitsD z.x.toL)) := by
               show numsF z.d.waits.length (intsF (keysD z.d.waits)) = _
               rw [← g10, numsF_ints, numsF_ints, g3]
             have g14 : ∀ r, r < (id z.d).waits.length → intsF (keysD (id z.d).waits) r = intsF (numsF (id z.d).waits.length (intsF (keysD (id z.d).waits))) r := by
               show ∀ r, r < z.d.waits.length → intsF (keysD z.d.waits) r = intsF (numsF z.d.waits.length (intsF (keysD z.d.waits))) r
               rw [← g10, numsF_ints]; exact fun _ _ => rfl
             have g15 : ∀ r, r < (rwaitsD z.x.toL).length → intsF (rwaitsD z.x.toL) r = intsF (numsF (rwaitsD z.x.toL).length (intsF (rwaitsD z.x.toL))) r := by
               rw [numsF_ints]; exact fun _ _ => rfl
             have g16 : (numsF (id z.d).waits.length (intsF (keysD (id z.d).waits))).length ≤ 1000000 := by
               rw [numsF_len]; show z.d.waits.length ≤ 1000000; omega
             refine To.Y (!z.d.down) (C := z.d.Fine ∧ Same (AV.sy (Value.bool z.x.down))) (h := ?_)
             refine To.R (C := z.d.Fine ∧ Same (AV.sy (Value.int IntKind.i64 z.x.many))) (h := ?_)
             refine To.Yd ((fun x ↦ x.writes) z.d = z.x.many) (h := ?_)
             refine To.R (C := (id z.d).Fine ∧ (Same z.x.n ∧ Same z.x.n ∧ Same z.x.n) ∧ z.x.Ok ∧ True) (h := ?_)
             refine To.Yd (numsF (id z.d).waits.length (intsF (keysD (id z.d).waits)) = numsF (rwaitsD z.x.toL).length (intsF (rwaitsD z.x.toL))) (C := (∀ (r : Nat), r < (id z.d).waits.length → intsF (keysD (id z.d).waits) r = intsF (numsF (id z.d).waits.length (intsF (keysD (id z.d).waits))) r) ∧ (∀ (r : Nat), r < (rwaitsD z.x.toL).length → intsF (rwaitsD z.x.toL) r = intsF (numsF (rwaitsD z.x.toL).length (intsF (rwaitsD z.x.toL))) r) ∧ (numsF (id z.d).waits.length (intsF (keysD (id z.d).waits))).length ≤ 1000000) (h := ?_)
             refine To.R (C := True ∧ (id z.d).Fine ∧ Same (AV.ow 2 z.x.n)) (h := ?_)
             refine To.Yd ((fun d ↦ (d.stays.length : Int)) (id z.d) = z.x.n) (hp := ?_) (h := ?_)
             · exact g9
             refine To.R (k := 30) (C := fits IntKind.i64 (p.i + 1)) (h := ?_)
             refine To.K (L := [LN.old 0, LN.old 1, LN.old 2, LN.old 3]) (kp := [51, 50, 7, 5, 1]) (ov := [(51, AV.sy (Value.int IntKind.i64 (DkP.mk (p.i + 1) z.d z.x).i))]) (ob := [(0, AB.obj (Ob.disk (DkP.mk (p.i + 1) z.d z.x).d))]) (C := (Same IntKind.i64 ∧ (↑p.i : Int) + 1 = (↑(p.i + 1) : Int)) ∧ Ob.disk (id (id z.d)) = Ob.disk z.d) (hc := ?_) (ih (DkP.mk (p.i + 1) z.d z.x) ⟨hi1, hZ, hZG⟩ hi2)
             all_goals repeat' (first | exact trivial | exact rfl | exact fun _ _ => rfl | exact Int.natCast_succ _ | refine ⟨?_, ?_⟩)
           · intro g5
             have g6 : (!z.d.down) = false := by rw [← g2]; simpa using g5
             have g7 : z.d.writes = z.x.many := g1.symm
             have g8 : keysD z.d.waits = rwaitsD z.x.toL := g3.symm
             have g9 : (z.d.stays.length : Int) = (z.x.n : Int) := by rw [g4]
             have g10 := keysD_len z.d.waits
             have g11 := hzF.ok.len
             have g12 : (id z.d).Fine := hzF
             have g13 : numsF (id z.d).waits.length (intsF (keysD (id z.d).waits)) = numsF (rwaitsD z.x.toL).length (intsF (rwaitsD z.x.toL)) := by
               show numsF z.d.waits.length (intsF (keysD z.d.waits)) = _
               rw [← g10, numsF_ints, numsF_ints, g3]
             have g14 : ∀ r, r < (id z.d).waits.length → intsF (keysD (id z.d).waits) r = intsF (numsF (id z.d).waits.length (intsF (keysD (id z.d).waits))) r := by
               show ∀ r, r < z.d.waits.length → intsF (keysD z.d.waits) r = intsF (numsF z.d.waits.length (intsF (keysD z.d.waits))) r
               rw [← g10, numsF_ints]; exact fun _ _ => rfl
             have g15 : ∀ r, r < (rwaitsD z.x.toL).length → intsF (rwaitsD z.x.toL) r = intsF (numsF (rwaitsD z.x.toL).length (intsF (rwaitsD z.x.toL))) r := by
               rw [numsF_ints]; exact fun _ _ => rfl
             have g16 : (numsF (id z.d).waits.length (intsF (keysD (id z.d).waits))).length ≤ 1000000 := by
               rw [numsF_len]; show z.d.waits.length ≤ 1000000; omega
             refine To.N (!z.d.down) (C := z.d.Fine ∧ Same (AV.sy (Value.bool z.x.down))) (h := ?_)
             refine To.R (C := z.d.Fine ∧ Same (AV.sy (Value.int IntKind.i64 z.x.many))) (h := ?_)
             refine To.Yd ((fun x ↦ x.writes) z.d = z.x.many) (h := ?_)
             refine To.R (C := (id z.d).Fine ∧ (Same z.x.n ∧ Same z.x.n ∧ Same z.x.n) ∧ z.x.Ok ∧ True) (h := ?_)
             refine To.Yd (numsF (id z.d).waits.length (intsF (keysD (id z.d).waits)) = numsF (rwaitsD z.x.toL).length (intsF (rwaitsD z.x.toL))) (C := (∀ (r : Nat), r < (id z.d).waits.length → intsF (keysD (id z.d).waits) r = intsF (numsF (id z.d).waits.length (intsF (keysD (id z.d).waits))) r) ∧ (∀ (r : Nat), r < (rwaitsD z.x.toL).length → intsF (rwaitsD z.x.toL) r = intsF (numsF (rwaitsD z.x.toL).length (intsF (rwaitsD z.x.toL))) r) ∧ (numsF (id z.d).waits.length (intsF (keysD (id z.d).waits))).length ≤ 1000000) (h := ?_)
             refine To.R (C := True ∧ (id z.d).Fine ∧ Same (AV.ow 2 z.x.n)) (h := ?_)
             refine To.Yd ((fun d ↦ (d.stays.length : Int)) (id z.d) = z.x.n) (hp := ?_) (h := ?_)
             · exact g9
             refine To.R (k := 30) (C := fits IntKind.i64 (p.i + 1)) (h := ?_)
             refine To.K (L := [LN.old 0, LN.old 1, LN.old 2, LN.old 3]) (kp := [51, 50, 7, 5, 1]) (ov := [(51, AV.sy (Value.int IntKind.i64 (DkP.mk (p.i + 1) z.d z.x).i))]) (ob := [(0, AB.obj (Ob.disk (DkP.mk (p.i + 1) z.d z.x).d))]) (C := (Same IntKind.i64 ∧ (↑p.i : Int) + 1 = (↑(p.i + 1) : Int)) ∧ Ob.disk (id (id z.d)) = Ob.disk z.d) (hc := ?_) (ih (DkP.mk (p.i + 1) z.d z.x) ⟨hi1, hZ, hZG⟩ hi2)
             all_goals repeat' (first | exact trivial | exact rfl | exact fun _ _ => rfl | exact Int.natCast_succ _ | refine ⟨?_, ?_⟩)
     intro k3
     refine To.R (h := ?_)
     refine To.Bd ((l.getD p.i default).kind = 4) (h := ?_) (g := ?_)
     · intro k4
       have ha := hg.arm hin (c := (⟨(l.getD p.i default).c.w, numsF (l.getD p.i default).c.keep.length (intsF (l.getD p.i default).c.keep), (l.getD p.i default).c.torn, (l.getD p.i default).c.at_⟩ : CrashD)) ⟨hq6, hq7, hq5⟩ hq3
       refine To.R (C := ((Same (l.getD p.i default).c.keep.length ∧ (∀ (r : Nat), r < (l.getD p.i default).c.keep.length → intsF (l.getD p.i default).c.keep r = intsF (numsF (l.getD p.i default).c.keep.length (intsF (l.getD p.i default).c.keep)) r)) ∧ p.d.Fine ∧ (numsF (l.getD p.i default).c.keep.length (intsF (l.getD p.i default).c.keep)).length ≤ 1000000 ∧ fits IntKind.i64 (l.getD p.i default).c.at_) ∧ Same (AV.agg [AV.sy (Value.int IntKind.i64 (l.getD p.i default).c.w), AV.im 1 (l.getD p.i default).c.keep.length (intsF (l.getD p.i default).c.keep), AV.sy (Value.int IntKind.i64 (l.getD p.i default).c.torn), AV.sy (Value.int IntKind.i64 (l.getD p.i default).c.at_)]) ∧ (Same p.x.n ∧ Same p.x.n ∧ Same p.x.n) ∧ p.x.Ok ∧ (∀ (q : Nat), q < (l.getD p.i default).c.keep.length → (CW.mk (l.getD p.i default).c.w (l.getD p.i default).c.keep.length (intsF (l.getD p.i default).c.keep) (l.getD p.i default).c.torn (l.getD p.i default).c.at_).kf q = intsF (numsF (l.getD p.i default).c.keep.length (intsF (l.getD p.i default).c.keep)) q) ∧ (l.getD p.i default).c.keep.length ≤ 1000000) (h := ?_)
       refine To.Yd ((armD p.d (CrashD.mk (l.getD p.i default).c.w (numsF (l.getD p.i default).c.keep.length (intsF (l.getD p.i default).c.keep)) (l.getD p.i default).c.torn (l.getD p.i default).c.at_)).snd = (rarmW p.x (CW.mk (l.getD p.i default).c.w (l.getD p.i default).c.keep.length (intsF (l.getD p.i default).c.keep) (l.getD p.i default).c.torn (l.getD p.i default).c.at_).toL).snd) (hp := ?_) (h := ?_)
       · exact ha.2.symm
       have hZ : (armD p.d (⟨(l.getD p.i default).c.w, numsF (l.getD p.i default).c.keep.length (intsF (l.getD p.i default).c.keep), (l.getD p.i default).c.torn, (l.getD p.i default).c.at_⟩ : CrashD)).1.In (2 * (p.i + 1)) := (hin.arm (c := (⟨(l.getD p.i default).c.w, numsF (l.getD p.i default).c.keep.length (intsF (l.getD p.i default).c.keep), (l.getD p.i default).c.torn, (l.getD p.i default).c.at_⟩ : CrashD)) ⟨hq6, hq7, hq5⟩ hq3).more (by omega) (by omega)
       have hZG : GoesW (armD p.d (⟨(l.getD p.i default).c.w, numsF (l.getD p.i default).c.keep.length (intsF (l.getD p.i default).c.keep), (l.getD p.i default).c.torn, (l.getD p.i default).c.at_⟩ : CrashD)).1 (rarmW p.x (⟨(l.getD p.i default).c.w, numsF (l.getD p.i default).c.keep.length (intsF (l.getD p.i default).c.keep), (l.getD p.i default).c.torn, (l.getD p.i default).c.at_⟩ : CrashD)).1 := ha.1
       refine To.R (k := 2) (h := ?_)
       refine To.L (L := [LN.old 0, LN.old 1, LN.old 2, LN.old 3, LN.old 4, LN.old 7, LN.old 9]) (kp := [12, 10, 8, 5, 1, 0]) (ks := [[60, 56, 55, 51, 50, 7, 1]]) (C := Same (Ob.disk (armD p.d (CrashD.mk (l.getD p.i default).c.w (numsF (l.getD p.i default).c.keep.length (intsF (l.getD p.i default).c.keep)) (l.getD p.i default).c.torn (l.getD p.i default).c.at_)).fst) ∧ (Same 58 ∧ (none : Option Nat) = none ∧ (Same 2 ∧ (rarmW p.x (CW.mk (l.getD p.i default).c.w (l.getD p.i default).c.keep.length (intsF (l.getD p.i default).c.keep) (l.getD p.i default).c.torn (l.getD p.i default).c.at_).toL).fst.n = (rarmW p.x (CrashD.mk (l.getD p.i default).c.w (numsF (l.getD p.i default).c.keep.length (intsF (l.getD p.i default).c.keep)) (l.getD p.i default).c.torn (l.getD p.i default).c.at_)).fst.n) ∧ (Same 3 ∧ (rarmW p.x (CW.mk (l.getD p.i default).c.w (l.getD p.i default).c.keep.length (intsF (l.getD p.i default).c.keep) (l.getD p.i default).c.torn (l.getD p.i default).c.at_).toL).fst.n = (rarmW p.x (CrashD.mk (l.getD p.i default).c.w (numsF (l.getD p.i default).c.keep.length (intsF (l.getD p.i default).c.keep)) (l.getD p.i default).c.torn (l.getD p.i default).c.at_)).fst.n) ∧ (Same IntKind.i64 ∧ (rarmW p.x (CW.mk (l.getD p.i default).c.w (l.getD p.i default).c.keep.length (intsF (l.getD p.i default).c.keep) (l.getD p.i default).c.torn (l.getD p.i default).c.at_).toL).fst.w = (rarmW p.x (CrashD.mk (l.getD p.i default).c.w (numsF (l.getD p.i default).c.keep.length (intsF (l.getD p.i default).c.keep)) (l.getD p.i default).c.torn (l.getD p.i default).c.at_)).fst.w) ∧ (Same 1 ∧ (rarmW p.x (CW.mk (l.getD p.i default).c.w (l.getD p.i default).c.keep.length (intsF (l.getD p.i default).c.keep) (l.getD p.i default).c.torn (l.getD p.i default).c.at_).toL).fst.kn = (rarmW p.x (CrashD.mk (l.getD p.i default).c.w (numsF (l.getD p.i default).c.keep.length (intsF (l.getD p.i default).c.keep)) (l.getD p.i default).c.torn (l.getD p.i default).c.at_)).fst.kn ∧ (∀ (r : Nat), r < (rarmW p.x (CW.mk (l.getD p.i default).c.w (l.getD p.i default).c.keep.length (intsF (l.getD p.i default).c.keep) (l.getD p.i default).c.torn (l.getD p.i default).c.at_).toL).fst.kn → (rarmW p.x (CW.mk (l.getD p.i default).c.w (l.getD p.i default).c.keep.length (intsF (l.getD p.i default).c.keep) (l.getD p.i default).c.torn (l.getD p.i default).c.at_).toL).fst.kf r = (rarmW p.x (CrashD.mk (l.getD p.i default).c.w (numsF (l.getD p.i default).c.keep.length (intsF (l.getD p.i default).c.keep)) (l.getD p.i default).c.torn (l.getD p.i default).c.at_)).fst.kf r)) ∧ (Same IntKind.i64 ∧ (rarmW p.x (CW.mk (l.getD p.i default).c.w (l.getD p.i default).c.keep.length (intsF (l.getD p.i default).c.keep) (l.getD p.i default).c.torn (l.getD p.i default).c.at_).toL).fst.torn = (rarmW p.x (CrashD.mk (l.getD p.i default).c.w (numsF (l.getD p.i default).c.keep.length (intsF (l.getD p.i default).c.keep)) (l.getD p.i default).c.torn (l.getD p.i default).c.at_)).fst.torn) ∧ (Same IntKind.i64 ∧ (rarmW p.x (CW.mk (l.getD p.i default).c.w (l.getD p.i default).c.keep.length (intsF (l.getD p.i default).c.keep) (l.getD p.i default).c.torn (l.getD p.i default).c.at_).toL).fst.at_ = (rarmW p.x (CrashD.mk (l.getD p.i default).c.w (numsF (l.getD p.i default).c.keep.length (intsF (l.getD p.i default).c.keep)) (l.getD p.i default).c.torn (l.getD p.i default).c.at_)).fst.at_) ∧ (Same IntKind.i64 ∧ (rarmW p.x (CW.mk (l.getD p.i default).c.w (l.getD p.i default).c.keep.length (intsF (l.getD p.i default).c.keep) (l.getD p.i default).c.torn (l.getD p.i default).c.at_).toL).fst.many = (rarmW p.x (CrashD.mk (l.getD p.i default).c.w (numsF (l.getD p.i default).c.keep.length (intsF (l.getD p.i default).c.keep)) (l.getD p.i default).c.torn (l.getD p.i default).c.at_)).fst.many) ∧ (rarmW p.x (CW.mk (l.getD p.i default).c.w (l.getD p.i default).c.keep.length (intsF (l.getD p.i default).c.keep) (l.getD p.i default).c.torn (l.getD p.i default).c.at_).toL).fst.down = (rarmW p.x (CrashD.mk (l.getD p.i default).c.w (numsF (l.getD p.i default).c.keep.length (intsF (l.getD p.i default).c.keep)) (l.getD p.i default).c.torn (l.getD p.i default).c.at_)).fst.down ∧ True) ∧ (Same 36 ∧ Same 1 ∧ (rarmW p.x (CW.mk (l.getD p.i default).c.w (l.getD p.i default).c.keep.length (intsF (l.getD p.i default).c.keep) (l.getD p.i default).c.torn (l.getD p.i default).c.at_).toL).fst.n = (rarmW p.x (CrashD.mk (l.getD p.i default).c.w (numsF (l.getD p.i default).c.keep.length (intsF (l.getD p.i default).c.keep)) (l.getD p.i default).c.torn (l.getD p.i default).c.at_)).fst.n ∧ (∀ (r : Nat), r < (rarmW p.x (CW.mk (l.getD p.i default).c.w (l.getD p.i default).c.keep.length (intsF (l.getD p.i default).c.keep) (l.getD p.i default).c.torn (l.getD p.i default).c.at_).toL).fst.n → (rarmW p.x (CW.mk (l.getD p.i default).c.w (l.getD p.i default).c.keep.length (intsF (l.getD p.i default).c.keep) (l.getD p.i default).c.torn (l.getD p.i default).c.at_).toL).fst.sf r = (rarmW p.x (CrashD.mk (l.getD p.i default).c.w (numsF (l.getD p.i default).c.keep.length (intsF (l.getD p.i default).c.keep)) (l.getD p.i default).c.torn (l.getD p.i default).c.at_)).fst.sf r)) ∧ Same 36 ∧ Same 1 ∧ (rarmW p.x (CW.mk (l.getD p.i default).c.w (l.getD p.i default).c.keep.length (intsF (l.getD p.i default).c.keep) (l.getD p.i default).c.torn (l.getD p.i default).c.at_).toL).fst.n = (rarmW p.x (CrashD.mk (l.getD p.i default).c.w (numsF (l.getD p.i default).c.keep.length (intsF (l.getD p.i default).c.keep)) (l.getD p.i default).c.torn (l.getD p.i default).c.at_)).fst.n ∧ (∀ (r : Nat), r < (rarmW p.x (CW.mk (l.getD p.i default).c.w (l.getD p.i default).c.keep.length (intsF (l.getD p.i default).c.keep) (l.getD p.i default).c.torn (l.getD p.i default).c.at_).toL).fst.n → (rarmW p.x (CW.mk (l.getD p.i default).c.w (l.getD p.i default).c.keep.length (intsF (l.getD p.i default).c.keep) (l.getD p.i default).c.torn (l.getD p.i default).c.at_).toL).fst.cf r = (rarmW p.x (CrashD.mk (l.getD p.i default).c.w (numsF (l.getD p.i default).c.keep.length (intsF (l.getD p.i default).c.keep)) (l.getD p.i default).c.torn (l.getD p.i default).c.at_)).fst.cf r)) (st := fun (a : DtP) => (⟨(⟨16, 236, (slotT 236 [(0, AV.ptr 0 0), (1, AV.ptr 1 0), (5, AV.ptr 4 0), (8, AV.ow 5 ((l.getD p.i default).b.length + 1)), (10, AV.ow 6 (l.getD p.i default).c.keep.length), (12, AV.v (Value.bool true))]), ARg.no, [(AItem.inBlock 0), (AItem.code (subC (bodyC Try.prog 16) [1, 1, 1, 1, 1, 1, 1, 1]))], [], false, none, 7⟩ : AFr), [(⟨4, 104, (slotT 104 [(1, AV.im 7 l.length (opsF l)), (7, AV.ptr 1 0), (50, AV.sy (Value.int IntKind.i64 l.length)), (51, AV.sy (Value.int IntKind.i64 p.i)), (55, AV.ptr 0 0), (56, AV.ptr 1 0), (60, AV.agg [AV.sy (Value.int IntKind.i64 (l.getD p.i default).kind), AV.sy (Value.int IntKind.i64 (l.getD p.i default).at_), AV.by8 (l.getD p.i default).b, AV.sy (Value.int IntKind.i64 (l.getD p.i default).c.w), AV.im 1 (l.getD p.i default).c.keep.length (intsF (l.getD p.i default).c.keep), AV.sy (Value.int IntKind.i64 (l.getD p.i default).c.torn), AV.sy (Value.int IntKind.i64 (l.getD p.i default).c.at_)])]), (plC (subC (bodyC Try.prog 4) [1, 1, 1, 1, 1, 1, 0, 1, 0, 0, 1, 1, 0, 0, 1, 0]) 6), [(AItem.code (subC (bodyC Try.prog 4) [1, 1, 1, 1, 1, 1, 0, 1, 0, 0, 1, 1, 0, 0, 1, 1])), (AItem.inBlock 1), (AItem.code (subC (bodyC Try.prog 4) [1, 1, 1, 1, 1, 1, 0, 1, 0, 0, 1, 1, 1])), (AItem.inLoop (subC (bodyC Try.prog 4) [1, 1, 1, 1, 1, 1, 0, 1, 0, 0])), (AItem.inBlock 0), (AItem.code (subC (bodyC Try.prog 4) [1, 1, 1, 1, 1, 1, 1]))], [], false, none, 0⟩ : AFr)], memF [AB.obj (Ob.disk a.d), AB.mem 58 none [AV.ow 2 a.x.n, AV.ow 3 a.x.n, AV.sy (Value.int IntKind.i64 a.x.w), AV.im 1 a.x.kn a.x.kf, AV.sy (Value.int IntKind.i64 a.x.torn), AV.sy (Value.int IntKind.i64 a.x.at_), AV.sy (Value.int IntKind.i64 a.x.many), AV.sy (Value.bool a.x.down)], AB.rw 36 1 a.x.n a.x.sf, AB.rw 36 1 a.x.n a.x.cf, AB.mem 54 none [AV.sy (Value.int IntKind.i64 (l.getD p.i default).kind), AV.sy (Value.int IntKind.i64 (l.getD p.i default).at_), AV.by8 (l.getD p.i default).b, AV.sy (Value.int IntKind.i64 (l.getD p.i default).c.w), AV.im 1 (l.getD p.i default).c.keep.length (intsF (l.getD p.i default).c.keep), AV.sy (Value.int IntKind.i64 (l.getD p.i default).c.torn), AV.sy (Value.int IntKind.i64 (l.getD p.i default).c.at_)], AB.bb 5 ((l.getD p.i default).b ++ List.take 1 [UInt8.ofNat 7]), AB.rw 3 1 (l.getD p.i default).c.keep.length (intsF (l.getD p.i default).c.keep)] 0 Tr.e, 7⟩ : ASt)) (hc := ?_) (h := ?_) (fun (_ : DtP) => []) (fun z => [(0, .obj (.disk z.d)), (1, .mem 58 none [.ow 2 z.x.n, .ow 3 z.x.n, ivA z.x.w, .im 1 z.x.kn z.x.kf, ivA z.x.torn, ivA z.x.at_, ivA z.x.many, .sy (.bool z.x.down)]), (2, .rw 36 1 z.x.n z.x.sf), (3, .rw 36 1 z.x.n z.x.cf)]) (fun z => z.d.In (2 * (p.i + 1)) ∧ GoesW z.d z.x) (fun _ => 0) (DtP.mk ((armD p.d (⟨(l.getD p.i default).c.w, numsF (l.getD p.i default).c.keep.length (intsF (l.getD p.i default).c.keep), (l.getD p.i default).c.torn, (l.getD p.i default).c.at_⟩ : CrashD)).1) ((rarmW p.x (⟨(l.getD p.i default).c.w, numsF (l.getD p.i default).c.keep.length (intsF (l.getD p.i default).c.keep), (l.getD p.i default).c.torn, (l.getD p.i default).c.at_⟩ : CrashD)).1))
       all_goals first | exact ⟨hZ, hZG⟩ | (and_intros <;> first | exact trivial | exact rfl | exact fun _ _ => rfl) | skip
       intro z ⟨hZ, hZG⟩ _
       have hT1 : (l.getD p.i default).b.length + 1 ≤ ((l.getD p.i default).b ++ List.take 1 [UInt8.ofNat 7]).length := by simp
       have hT3 : (List.take 1 [UInt8.ofNat 7]).length = 1 := rfl
       have hzF := hZ.fine
       have hzX := hZG.ok
       have hT2 : (str (l.getD p.i default).b).size + 1 ≤ 1000000000 := by
         have : (str (l.getD p.i default).b).size = (l.getD p.i default).b.length := by simp [str, ByteArray.size]
         omega
       refine To.R (C := (l.getD p.i default).b.length + 1 ≤ ((l.getD p.i default).b ++ List.take 1 [UInt8.ofNat 7]).length ∧ True ∧ (str (l.getD p.i default).b).size + 1 ≤ 1000000000) (h := ?_)
       refine To.Yd ((str (List.take ((l.getD p.i default).b.length + 1) ((l.getD p.i default).b ++ List.take 1 [UInt8.ofNat 7]))).data.toList = (str ((str (l.getD p.i default).b).data.toList ++ (ByteArray.mk #[7]).data.toList)).data.toList) (hp := ?_) (h := ?_)
       · exact own_str _
       refine To.R (h := ?_)
       refine To.Yd (numsF (l.getD p.i default).c.keep.length (intsF (l.getD p.i default).c.keep) = numsF (l.getD p.i default).c.keep.length (intsF (l.getD p.i default).c.keep)) (C := (Same (l.getD p.i default).c.keep.length ∧ (∀ (r : Nat), r < (l.getD p.i default).c.keep.length → intsF (l.getD p.i default).c.keep r = intsF (numsF (l.getD p.i default).c.keep.length (intsF (l.getD p.i default).c.keep)) r)) ∧ (∀ (r : Nat), r < (l.getD p.i default).c.keep.length → intsF (l.getD p.i default).c.keep r = intsF (numsF (l.getD p.i default).c.keep.length (intsF (l.getD p.i default).c.keep)) r) ∧ (numsF (l.getD p.i default).c.keep.length (intsF (l.getD p.i default).c.keep)).length ≤ 1000000) (h := ?_)
       refine To.R (k := 12) (h := ?_)
       refine To.L (L := [LN.old 0, LN.old 1, LN.old 2, LN.old 3, LN.old 5, LN.old 6]) (kp := [182, 181, 12, 10, 8, 1, 0]) (ks := [[60, 56, 55, 51, 50, 7, 1]]) (C := (Same IntKind.i64 ∧ (0 : Int) = (↑(0 : Nat) : Int)) ∧ 5 = 5 ∧ (l.getD p.i default).b ++ List.take 1 [UInt8.ofNat 7] = (l.getD p.i default).b ++ List.take 1 [UInt8.ofNat 7]) (st := fun (a : OwP) => (⟨(⟨16, 236, (slotT 236 [(0, AV.ptr 0 0), (1, AV.ptr 1 0), (8, AV.ow 4 ((l.getD p.i default).b.length + 1)), (10, AV.ow 5 (l.getD p.i default).c.keep.length), (12, AV.v (Value.bool true)), (181, AV.sy (Value.int IntKind.i64 (↑((l.getD p.i default).b.length + 1) : Int))), (182, AV.sy (Value.int IntKind.i64 a.k))]), ARg.no, [(AItem.code (subC (bodyC Try.prog 16) [1, 1, 1, 1, 1, 1, 1, 1, 1, 0, 1, 0, 0])), (AItem.inLoop (subC (bodyC Try.prog 16) [1, 1, 1, 1, 1, 1, 1, 1, 1, 0, 1, 0, 0])), (AItem.inBlock 3), (AItem.code (subC (bodyC Try.prog 16) [1, 1, 1, 1, 1, 1, 1, 1, 1, 1]))], [], false, none, 6⟩ : AFr), [(⟨4, 104, (slotT 104 [(1, AV.im 7 l.length (opsF l)), (7, AV.ptr 1 0), (50, AV.sy (Value.int IntKind.i64 l.length)), (51, AV.sy (Value.int IntKind.i64 p.i)), (55, AV.ptr 0 0), (56, AV.ptr 1 0), (60, AV.agg [AV.sy (Value.int IntKind.i64 (l.getD p.i default).kind), AV.sy (Value.int IntKind.i64 (l.getD p.i default).at_), AV.by8 (l.getD p.i default).b, AV.sy (Value.int IntKind.i64 (l.getD p.i default).c.w), AV.im 1 (l.getD p.i default).c.keep.length (intsF (l.getD p.i default).c.keep), AV.sy (Value.int IntKind.i64 (l.getD p.i default).c.torn), AV.sy (Value.int IntKind.i64 (l.getD p.i default).c.at_)])]), (plC (subC (bodyC Try.prog 4) [1, 1, 1, 1, 1, 1, 0, 1, 0, 0, 1, 1, 0, 0, 1, 0]) 6), [(AItem.code (subC (bodyC Try.prog 4) [1, 1, 1, 1, 1, 1, 0, 1, 0, 0, 1, 1, 0, 0, 1, 1])), (AItem.inBlock 1), (AItem.code (subC (bodyC Try.prog 4) [1, 1, 1, 1, 1, 1, 0, 1, 0, 0, 1, 1, 1])), (AItem.inLoop (subC (bodyC Try.prog 4) [1, 1, 1, 1, 1, 1, 0, 1, 0, 0])), (AItem.inBlock 0), (AItem.code (subC (bodyC Try.prog 4) [1, 1, 1, 1, 1, 1, 1]))], [], false, none, 0⟩ : AFr)], memF [AB.obj (Ob.disk z.d), AB.mem 58 none [AV.ow 2 z.x.n, AV.ow 3 z.x.n, AV.sy (Value.int IntKind.i64 z.x.w), AV.im 1 z.x.kn z.x.kf, AV.sy (Value.int IntKind.i64 z.x.torn), AV.sy (Value.int IntKind.i64 z.x.at_), AV.sy (Value.int IntKind.i64 z.x.many), AV.sy (Value.bool z.x.down)], AB.rw 36 1 z.x.n z.x.sf, AB.rw 36 1 z.x.n z.x.cf, AB.bb 5 a.bs, AB.rw 3 1 (l.getD p.i default).c.keep.length (intsF (l.getD p.i default).c.keep)] 0 Tr.e, 6⟩ : ASt)) (hI := ?_) (h := ?_) (fun (e : OwP) => [(182, ivA (e.k : Int))]) (fun e => [(4, .bb 5 e.bs)]) (fun e => e.k ≤ (l.getD p.i default).b.length + 1 ∧ e.bs.length = (l.getD p.i default).b.length + 1) (fun e => (l.getD p.i default).b.length + 1 - e.k) (OwP.mk 0 ((l.getD p.i default).b ++ List.take 1 [UInt8.ofNat 7]))
       all_goals first | exact ⟨Nat.zero_le _, by simp⟩ | skip
       intro e ⟨j1, j2⟩ ihe
       refine To.R (h := ?_)
       refine To.Bd ((↑e.k : Int) < (↑((l.getD p.i default).b.length + 1) : Int)) (h := ?_) (g := ?_)
       · intro j3
         have j4 : e.k + 1 ≤ (l.getD p.i default).b.length + 1 := by omega
         have j5 : (l.getD p.i default).b.length + 1 - (e.k + 1) < (l.getD p.i default).b.length + 1 - e.k := by omega
         have j6 : (e.bs.set e.k (UInt8.ofNat 99)).length = (l.getD p.i default).b.length + 1 := by rw [List.length_set]; exact j2
         refine To.R (k := 23) (C := ((0 : Int) ≤ e.k ∧ (↑e.k : Int) < (↑((l.getD p.i default).b.length + 1) : Int)) ∧ (e.k < e.bs.length ∧ (0 : Int) ≤ 99 ∧ (99 : Int) < 256) ∧ fits IntKind.i64 (e.k + 1)) (h := ?_)
         refine To.K (L := [LN.old 0, LN.old 1, LN.old 2, LN.old 3, LN.old 4, LN.old 5]) (kp := [182, 181, 12, 10, 8, 1, 0]) (ks := [[60, 56, 55, 51, 50, 7, 1]]) (ov := [(182, AV.sy (Value.int IntKind.i64 (OwP.mk (e.k + 1) (e.bs.set e.k (UInt8.ofNat 99))).k))]) (C := Same IntKind.i64 ∧ (↑e.k : Int) + 1 = (↑(e.k + 1) : Int)) (ihe (OwP.mk (e.k + 1) (e.bs.set e.k (UInt8.ofNat 99))) ⟨j4, j6⟩ j5)
       · intro j3
         refine To.R (k := 13) (h := ?_)
         refine To.L (L := [LN.old 0, LN.old 1, LN.old 2, LN.old 3, LN.old 5]) (kp := [191, 190, 12, 10, 1, 0]) (ks := [[60, 56, 55, 51, 50, 7, 1]]) (C := (Same IntKind.i64 ∧ (0 : Int) = (↑(0 : Nat) : Int)) ∧ 3 = 3 ∧ Same 1 ∧ Same (l.getD p.i default).c.keep.length ∧ (∀ (r : Nat), r < (l.getD p.i default).c.keep.length → intsF (l.getD p.i default).c.keep r = (KpP.mk 0 (intsF (l.getD p.i default).c.keep)).f r)) (st := fun (a : KpP) => (⟨(⟨16, 236, (slotT 236 [(0, AV.ptr 0 0), (1, AV.ptr 1 0), (10, AV.ow 4 (l.getD p.i default).c.keep.length), (12, AV.v (Value.bool true)), (190, AV.sy (Value.int IntKind.i64 (l.getD p.i default).c.keep.length)), (191, AV.sy (Value.int IntKind.i64 a.k))]), ARg.no, [(AItem.code (subC (bodyC Try.prog 16) [1, 1, 1, 1, 1, 1, 1, 1, 1, 1, 0, 1, 0, 0])), (AItem.inLoop (subC (bodyC Try.prog 16) [1, 1, 1, 1, 1, 1, 1, 1, 1, 1, 0, 1, 0, 0])), (AItem.inBlock 5), (AItem.code (subC (bodyC Try.prog 16) [1, 1, 1, 1, 1, 1, 1, 1, 1, 1, 1]))], [], false, none, 5⟩ : AFr), [(⟨4, 104, (slotT 104 [(1, AV.im 7 l.length (opsF l)), (7, AV.ptr 1 0), (50, AV.sy (Value.int IntKind.i64 l.length)), (51, AV.sy (Value.int IntKind.i64 p.i)), (55, AV.ptr 0 0), (56, AV.ptr 1 0), (60, AV.agg [AV.sy (Value.int IntKind.i64 (l.getD p.i default).kind), AV.sy (Value.int IntKind.i64 (l.getD p.i default).at_), AV.by8 (l.getD p.i default).b, AV.sy (Value.int IntKind.i64 (l.getD p.i default).c.w), AV.im 1 (l.getD p.i default).c.keep.length (intsF (l.getD p.i default).c.keep), AV.sy (Value.int IntKind.i64 (l.getD p.i default).c.torn), AV.sy (Value.int IntKind.i64 (l.getD p.i default).c.at_)])]), (plC (subC (bodyC Try.prog 4) [1, 1, 1, 1, 1, 1, 0, 1, 0, 0, 1, 1, 0, 0, 1, 0]) 6), [(AItem.code (subC (bodyC Try.prog 4) [1, 1, 1, 1, 1, 1, 0, 1, 0, 0, 1, 1, 0, 0, 1, 1])), (AItem.inBlock 1), (AItem.code (subC (bodyC Try.prog 4) [1, 1, 1, 1, 1, 1, 0, 1, 0, 0, 1, 1, 1])), (AItem.inLoop (subC (bodyC Try.prog 4) [1, 1, 1, 1, 1, 1, 0, 1, 0, 0])), (AItem.inBlock 0), (AItem.code (subC (bodyC Try.prog 4) [1, 1, 1, 1, 1, 1, 1]))], [], false, none, 0⟩ : AFr)], memF [AB.obj (Ob.disk z.d), AB.mem 58 none [AV.ow 2 z.x.n, AV.ow 3 z.x.n, AV.sy (Value.int IntKind.i64 z.x.w), AV.im 1 z.x.kn z.x.kf, AV.sy (Value.int IntKind.i64 z.x.torn), AV.sy (Value.int IntKind.i64 z.x.at_), AV.sy (Value.int IntKind.i64 z.x.many), AV.sy (Value.bool z.x.down)], AB.rw 36 1 z.x.n z.x.sf, AB.rw 36 1 z.x.n z.x.cf, AB.rw 3 1 (l.getD p.i default).c.keep.length a.f] 0 Tr.e, 5⟩ : ASt)) (hI := ?_) (h := ?_) (fun (e : KpP) => [(191, ivA (e.k : Int))]) (fun e => [(4, .rw 3 1 (l.getD p.i default).c.keep.length e.f)]) (fun e => e.k ≤ (l.getD p.i default).c.keep.length) (fun e => (l.getD p.i default).c.keep.length - e.k) (KpP.mk 0 (intsF (l.getD p.i default).c.keep))
         all_goals first | exact Nat.zero_le _ | skip
         intro e j4 ihf
         refine To.R (h := ?_)
         refine To.Bd ((e.k : Int) < (l.getD p.i default).c.keep.length) (h := ?_) (g := ?_)
         · intro j5
           have j6 : e.k + 1 ≤ (l.getD p.i default).c.keep.length := by omega
           have j7 : (l.getD p.i default).c.keep.length - (e.k + 1) < (l.getD p.i default).c.keep.length - e.k := by omega
           refine To.R (k := 23) (C := ((0 : Int) ≤ e.k ∧ (e.k : Int) < (l.getD p.i default).c.keep.length) ∧ e.k < (l.getD p.i default).c.keep.length ∧ fits IntKind.i64 (e.k + 1)) (h := ?_)
           refine To.K (L := [LN.old 0, LN.old 1, LN.old 2, LN.old 3, LN.old 4]) (kp := [191, 190, 12, 10, 1, 0]) (ks := [[60, 56, 55, 51, 50, 7, 1]]) (ov := [(191, AV.sy (Value.int IntKind.i64 (KpP.mk (e.k + 1) (rwSet e.f e.k 0 [AV.v (Value.int IntKind.i64 99)])).k))]) (C := Same IntKind.i64 ∧ (↑e.k : Int) + 1 = (↑(e.k + 1) : Int)) (ihf (KpP.mk (e.k + 1) (rwSet e.f e.k 0 [.v (.int .i64 99)])) j6 j7)
         · intro j5
           have g1 : z.x.many = z.d.writes := hZG.goes.many
           have g2 : z.x.down = z.d.down := hZG.goes.down
           have g3 : rwaitsD z.x.toL = keysD z.d.waits := hZG.goes.waits hzF.ok
           have g4 : z.x.n = z.d.stays.length := by
             have := congrArg List.length hZG.goes.stays
             rw [show z.x.toL.stays.length = z.x.n from recsF_len _ _] at this
             exact this
           refine To.R (h := ?_)
           refine To.B (!z.x.down) (h := ?_) (g := ?_)
           · intro g5
             have g6 : (!z.d.down) = true := by rw [← g2]; exact g5
             have g7 : z.d.writes = z.x.many := g1.symm
             have g8 : keysD z.d.waits = rwaitsD z.x.toL := g3.symm
             have g9 : (z.d.stays.length : Int) = (z.x.n : Int) := by rw [g4]
             have g10 := keysD_len z.d.waits
             have g11 := hzF.ok.len
             have g12 : (id z.d).Fine := hzF
             have g13 : numsF (id z.d).waits.length (intsF (keysD (id z.d).waits)) = numsF (rwaitsD z.x.toL).length (intsF (rwaitsD z.x.toL)) := by
               show numsF z.d.waits.length (intsF (keysD z.d.waits)) = _
               rw [← g10, numsF_ints, numsF_ints, g3]
             have g14 : ∀ r, r < (id z.d).waits.length → intsF (keysD (id z.d).waits) r = intsF (numsF (id z.d).waits.length (intsF (keysD (id z.d).waits))) r := by
               show ∀ r, r < z.d.waits.length → intsF (keysD z.d.waits) r = intsF (numsF z.d.waits.length (intsF (keysD z.d.waits))) r
               rw [← g10, numsF_ints]; exact fun _ _ => rfl
             have g15 : ∀ r, r < (rwaitsD z.x.toL).length → intsF (rwaitsD z.x.toL) r = intsF (numsF (rwaitsD z.x.toL).length (intsF (rwaitsD z.x.toL))) r := by
               rw [numsF_ints]; exact fun _ _ => rfl
             have g16 : (numsF (id z.d).waits.length (intsF (keysD (id z.d).waits))).length ≤ 1000000 := by
               rw [numsF_len]; show z.d.waits.length ≤ 1000000; omega
             refine To.Y (!z.d.down) (C := z.d.Fine ∧ Same (AV.sy (Value.bool z.x.down))) (h := ?_)
             refine To.R (C := z.d.Fine ∧ Same (AV.sy (Value.int IntKind.i64 z.x.many))) (h := ?_)
             refine To.Yd ((fun x ↦ x.writes) z.d = z.x.many) (h := ?_)
             refine To.R (C := (id z.d).Fine ∧ (Same z.x.n ∧ Same z.x.n ∧ Same z.x.n) ∧ z.x.Ok ∧ True) (h := ?_)
             refine To.Yd (numsF (id z.d).waits.length (intsF (keysD (id z.d).waits)) = numsF (rwaitsD z.x.toL).length (intsF (rwaitsD z.x.toL))) (C := (∀ (r : Nat), r < (id z.d).waits.length → intsF (keysD (id z.d).waits) r = intsF (numsF (id z.d).waits.length (intsF (keysD (id z.d).waits))) r) ∧ (∀ (r : Nat), r < (rwaitsD z.x.toL).length → intsF (rwaitsD z.x.toL) r = intsF (numsF (rwaitsD z.x.toL).length (intsF (rwaitsD z.x.toL))) r) ∧ (numsF (id z.d).waits.length (intsF (keysD (id z.d).waits))).length ≤ 1000000) (h := ?_)
             refine To.R (C := True ∧ (id z.d).Fine ∧ Same (AV.ow 2 z.x.n)) (h := ?_)
             refine To.Yd ((fun d ↦ (d.stays.length : Int)) (id z.d) = z.x.n) (hp := ?_) (h := ?_)
             · exact g9
             refine To.R (k := 30) (C := fits IntKind.i64 (p.i + 1)) (h := ?_)
             refine To.K (L := [LN.old 0, LN.old 1, LN.old 2, LN.old 3]) (kp := [51, 50, 7, 5, 1]) (ov := [(51, AV.sy (Value.int IntKind.i64 (DkP.mk (p.i + 1) z.d z.x).i))]) (ob := [(0, AB.obj (Ob.disk (DkP.mk (p.i + 1) z.d z.x).d))]) (C := (Same IntKind.i64 ∧ (↑p.i : Int) + 1 = (↑(p.i + 1) : Int)) ∧ Ob.disk (id (id z.d)) = Ob.disk z.d) (hc := ?_) (ih (DkP.mk (p.i + 1) z.d z.x) ⟨hi1, hZ, hZG⟩ hi2)
             all_goals repeat' (first | exact trivial | exact rfl | exact fun _ _ => rfl | exact Int.natCast_succ _ | refine ⟨?_, ?_⟩)
           · intro g5
             have g6 : (!z.d.down) = false := by rw [← g2]; simpa using g5
             have g7 : z.d.writes = z.x.many := g1.symm
             have g8 : keysD z.d.waits = rwaitsD z.x.toL := g3.symm
             have g9 : (z.d.stays.length : Int) = (z.x.n : Int) := by rw [g4]
             have g10 := keysD_len z.d.waits
             have g11 := hzF.ok.len
             have g12 : (id z.d).Fine := hzF
             have g13 : numsF (id z.d).waits.length (intsF (keysD (id z.d).waits)) = numsF (rwaitsD z.x.toL).length (intsF (rwaitsD z.x.toL)) := by
               show numsF z.d.waits.length (intsF (keysD z.d.waits)) = _
               rw [← g10, numsF_ints, numsF_ints, g3]
             have g14 : ∀ r, r < (id z.d).waits.length → intsF (keysD (id z.d).waits) r = intsF (numsF (id z.d).waits.length (intsF (keysD (id z.d).waits))) r := by
               show ∀ r, r < z.d.waits.length → intsF (keysD z.d.waits) r = intsF (numsF z.d.waits.length (intsF (keysD z.d.waits))) r
               rw [← g10, numsF_ints]; exact fun _ _ => rfl
             have g15 : ∀ r, r < (rwaitsD z.x.toL).length → intsF (rwaitsD z.x.toL) r = intsF (numsF (rwaitsD z.x.toL).length (intsF (rwaitsD z.x.toL))) r := by
               rw [numsF_ints]; exact fun _ _ => rfl
             have g16 : (numsF (id z.d).waits.length (intsF (keysD (id z.d).waits))).length ≤ 1000000 := by
               rw [numsF_len]; show z.d.waits.length ≤ 1000000; omega
             refine To.N (!z.d.down) (C := z.d.Fine ∧ Same (AV.sy (Value.bool z.x.down))) (h := ?_)
             refine To.R (C := z.d.Fine ∧ Same (AV.sy (Value.int IntKind.i64 z.x.many))) (h := ?_)
             refine To.Yd ((fun x ↦ x.writes) z.d = z.x.many) (h := ?_)
             refine To.R (C := (id z.d).Fine ∧ (Same z.x.n ∧ Same z.x.n ∧ Same z.x.n) ∧ z.x.Ok ∧ True) (h := ?_)
             refine To.Yd (numsF (id z.d).waits.length (intsF (keysD (id z.d).waits)) = numsF (rwaitsD z.x.toL).length (intsF (rwaitsD z.x.toL))) (C := (∀ (r : Nat), r < (id z.d).waits.length → intsF (keysD (id z.d).waits) r = intsF (numsF (id z.d).waits.length (intsF (keysD (id z.d).waits))) r) ∧ (∀ (r : Nat), r < (rwaitsD z.x.toL).length → intsF (rwaitsD z.x.toL) r = intsF (numsF (rwaitsD z.x.toL).length (intsF (rwaitsD z.x.toL))) r) ∧ (numsF (id z.d).waits.length (intsF (keysD (id z.d).waits))).length ≤ 1000000) (h := ?_)
             refine To.R (C := True ∧ (id z.d).Fine ∧ Same (AV.ow 2 z.x.n)) (h := ?_)
             refine To.Yd ((fun d ↦ (d.stays.length : Int)) (id z.d) = z.x.n) (hp := ?_) (h := ?_)
             · exact g9
             refine To.R (k := 30) (C := fits IntKind.i64 (p.i + 1)) (h := ?_)
             refine To.K (L := [LN.old 0, LN.old 1, LN.old 2, LN.old 3]) (kp := [51, 50, 7, 5, 1]) (ov := [(51, AV.sy (Value.int IntKind.i64 (DkP.mk (p.i + 1) z.d z.x).i))]) (ob := [(0, AB.obj (Ob.disk (DkP.mk (p.i + 1) z.d z.x).d))]) (C := (Same IntKind.i64 ∧ (↑p.i : Int) + 1 = (↑(p.i + 1) : Int)) ∧ Ob.disk (id (id z.d)) = Ob.disk z.d) (hc := ?_) (ih (DkP.mk (p.i + 1) z.d z.x) ⟨hi1, hZ, hZG⟩ hi2)
             all_goals repeat' (first | exact trivial | exact rfl | exact fun _ _ => rfl | exact Int.natCast_succ _ | refine ⟨?_, ?_⟩)
     intro k4
     refine To.R (h := ?_)
     refine To.Bd ((l.getD p.i default).kind = 5) (h := ?_) (g := ?_)
     · intro k5
       have ha := hg.boot
       have hZ : (bootD p.d).In (2 * (p.i + 1)) := hin.boot.more (by omega) (by omega)
       have hZG : GoesW (bootD p.d) p.x.up := ha
       refine To.R (C := p.d.Fine) (h := ?_)
       refine To.Yd ((fun x ↦ (0 : Int)) p.d = 0) (h := ?_)
       refine To.R (k := 2) (h := ?_)
       refine To.R (k := 6) (h := ?_)
       refine To.L (L := [LN.old 0, LN.old 1, LN.old 2, LN.old 3, LN.old 4, LN.old 7, LN.old 9]) (kp := [12, 10, 8, 5, 1, 0]) (ks := [[60, 56, 55, 51, 50, 7, 1]]) (C := Same (Ob.disk (bootD p.d)) ∧ (Same 58 ∧ (none : Option Nat) = none ∧ (Same 2 ∧ p.x.n = p.x.up.n) ∧ (Same 3 ∧ p.x.n = p.x.up.n) ∧ (Same IntKind.i64 ∧ p.x.w = p.x.up.w) ∧ (Same 1 ∧ p.x.kn = p.x.up.kn ∧ (∀ (r : Nat), r < p.x.kn → p.x.kf r = p.x.up.kf r)) ∧ (Same IntKind.i64 ∧ p.x.torn = p.x.up.torn) ∧ (Same IntKind.i64 ∧ p.x.at_ = p.x.up.at_) ∧ (Same IntKind.i64 ∧ p.x.many = p.x.up.many) ∧ false = p.x.up.down ∧ True) ∧ (Same 36 ∧ Same 1 ∧ p.x.n = p.x.up.n ∧ (∀ (r : Nat), r < p.x.n → p.x.sf r = p.x.up.sf r)) ∧ Same 36 ∧ Same 1 ∧ p.x.n = p.x.up.n ∧ (∀ (r : Nat), r < p.x.n → p.x.cf r = p.x.up.cf r)) (st := fun (a : DtP) => (⟨(⟨16, 236, (slotT 236 [(0, AV.ptr 0 0), (1, AV.ptr 1 0), (5, AV.ptr 4 0), (8, AV.ow 5 ((l.getD p.i default).b.length + 1)), (10, AV.ow 6 (l.getD p.i default).c.keep.length), (12, AV.v (Value.bool true))]), ARg.no, [(AItem.inBlock 0), (AItem.code (subC (bodyC Try.prog 16) [1, 1, 1, 1, 1, 1, 1, 1]))], [], false, none, 7⟩ : AFr), [(⟨4, 104, (slotT 104 [(1, AV.im 7 l.length (opsF l)), (7, AV.ptr 1 0), (50, AV.sy (Value.int IntKind.i64 l.length)), (51, AV.sy (Value.int IntKind.i64 p.i)), (55, AV.ptr 0 0), (56, AV.ptr 1 0), (60, AV.agg [AV.sy (Value.int IntKind.i64 (l.getD p.i default).kind), AV.sy (Value.int IntKind.i64 (l.getD p.i default).at_), AV.by8 (l.getD p.i default).b, AV.sy (Value.int IntKind.i64 (l.getD p.i default).c.w), AV.im 1 (l.getD p.i default).c.keep.length (intsF (l.getD p.i default).c.keep), AV.sy (Value.int IntKind.i64 (l.getD p.i default).c.torn), AV.sy (Value.int IntKind.i64 (l.getD p.i default).c.at_)])]), (plC (subC (bodyC Try.prog 4) [1, 1, 1, 1, 1, 1, 0, 1, 0, 0, 1, 1, 0, 0, 1, 0]) 6), [(AItem.code (subC (bodyC Try.prog 4) [1, 1, 1, 1, 1, 1, 0, 1, 0, 0, 1, 1, 0, 0, 1, 1])), (AItem.inBlock 1), (AItem.code (subC (bodyC Try.prog 4) [1, 1, 1, 1, 1, 1, 0, 1, 0, 0, 1, 1, 1])), (AItem.inLoop (subC (bodyC Try.prog 4) [1, 1, 1, 1, 1, 1, 0, 1, 0, 0])), (AItem.inBlock 0), (AItem.code (subC (bodyC Try.prog 4) [1, 1, 1, 1, 1, 1, 1]))], [], false, none, 0⟩ : AFr)], memF [AB.obj (Ob.disk a.d), AB.mem 58 none [AV.ow 2 a.x.n, AV.ow 3 a.x.n, AV.sy (Value.int IntKind.i64 a.x.w), AV.im 1 a.x.kn a.x.kf, AV.sy (Value.int IntKind.i64 a.x.torn), AV.sy (Value.int IntKind.i64 a.x.at_), AV.sy (Value.int IntKind.i64 a.x.many), AV.sy (Value.bool a.x.down)], AB.rw 36 1 a.x.n a.x.sf, AB.rw 36 1 a.x.n a.x.cf, AB.mem 54 none [AV.sy (Value.int IntKind.i64 (l.getD p.i default).kind), AV.sy (Value.int IntKind.i64 (l.getD p.i default).at_), AV.by8 (l.getD p.i default).b, AV.sy (Value.int IntKind.i64 (l.getD p.i default).c.w), AV.im 1 (l.getD p.i default).c.keep.length (intsF (l.getD p.i default).c.keep), AV.sy (Value.int IntKind.i64 (l.getD p.i default).c.torn), AV.sy (Value.int IntKind.i64 (l.getD p.i default).c.at_)], AB.bb 5 ((l.getD p.i default).b ++ List.take 1 [UInt8.ofNat 7]), AB.rw 3 1 (l.getD p.i default).c.keep.length (intsF (l.getD p.i default).c.keep)] 0 Tr.e, 7⟩ : ASt)) (hc := ?_) (h := ?_) (fun (_ : DtP) => []) (fun z => [(0, .obj (.disk z.d)), (1, .mem 58 none [.ow 2 z.x.n, .ow 3 z.x.n, ivA z.x.w, .im 1 z.x.kn z.x.kf, ivA z.x.torn, ivA z.x.at_, ivA z.x.many, .sy (.bool z.x.down)]), (2, .rw 36 1 z.x.n z.x.sf), (3, .rw 36 1 z.x.n z.x.cf)]) (fun z => z.d.In (2 * (p.i + 1)) ∧ GoesW z.d z.x) (fun _ => 0) (DtP.mk ((bootD p.d)) (p.x.up))
       all_goals first | exact ⟨hZ, hZG⟩ | (and_intros <;> first | exact trivial | exact rfl | exact fun _ _ => rfl) | skip
       intro z ⟨hZ, hZG⟩ _
       have hT1 : (l.getD p.i default).b.length + 1 ≤ ((l.getD p.i default).b ++ List.take 1 [UInt8.ofNat 7]).length := by simp
       have hT3 : (List.take 1 [UInt8.ofNat 7]).length = 1 := rfl
       have hzF := hZ.fine
       have hzX := hZG.ok
       have hT2 : (str (l.getD p.i default).b).size + 1 ≤ 1000000000 := by
         have : (str (l.getD p.i default).b).size = (l.getD p.i default).b.length := by simp [str, ByteArray.size]
         omega
       refine To.R (C := (l.getD p.i default).b.length + 1 ≤ ((l.getD p.i default).b ++ List.take 1 [UInt8.ofNat 7]).length ∧ True ∧ (str (l.getD p.i default).b).size + 1 ≤ 1000000000) (h := ?_)
       refine To.Yd ((str (List.take ((l.getD p.i default).b.length + 1) ((l.getD p.i default).b ++ List.take 1 [UInt8.ofNat 7]))).data.toList = (str ((str (l.getD p.i default).b).data.toList ++ (ByteArray.mk #[7]).data.toList)).data.toList) (hp := ?_) (h := ?_)
       · exact own_str _
       refine To.R (h := ?_)
       refine To.Yd (numsF (l.getD p.i default).c.keep.length (intsF (l.getD p.i default).c.keep) = numsF (l.getD p.i default).c.keep.length (intsF (l.getD p.i default).c.keep)) (C := (Same (l.getD p.i default).c.keep.length ∧ (∀ (r : Nat), r < (l.getD p.i default).c.keep.length → intsF (l.getD p.i default).c.keep r = intsF (numsF (l.getD p.i default).c.keep.length (intsF (l.getD p.i default).c.keep)) r)) ∧ (∀ (r : Nat), r < (l.getD p.i default).c.keep.length → intsF (l.getD p.i default).c.keep r = intsF (numsF (l.getD p.i default).c.keep.length (intsF (l.getD p.i default).c.keep)) r) ∧ (numsF (l.getD p.i default).c.keep.length (intsF (l.getD p.i default).c.keep)).length ≤ 1000000) (h := ?_)
       refine To.R (k := 12) (h := ?_)
       refine To.L (L := [LN.old 0, LN.old 1, LN.old 2, LN.old 3, LN.old 5, LN.old 6]) (kp := [182, 181, 12, 10, 8, 1, 0]) (ks := [[60, 56, 55, 51, 50, 7, 1]]) (C := (Same IntKind.i64 ∧ (0 : Int) = (↑(0 : Nat) : Int)) ∧ 5 = 5 ∧ (l.getD p.i default).b ++ List.take 1 [UInt8.ofNat 7] = (l.getD p.i default).b ++ List.take 1 [UInt8.ofNat 7]) (st := fun (a : OwP) => (⟨(⟨16, 236, (slotT 236 [(0, AV.ptr 0 0), (1, AV.ptr 1 0), (8, AV.ow 4 ((l.getD p.i default).b.length + 1)), (10, AV.ow 5 (l.getD p.i default).c.keep.length), (12, AV.v (Value.bool true)), (181, AV.sy (Value.int IntKind.i64 (↑((l.getD p.i default).b.length + 1) : Int))), (182, AV.sy (Value.int IntKind.i64 a.k))]), ARg.no, [(AItem.code (subC (bodyC Try.prog 16) [1, 1, 1, 1, 1, 1, 1, 1, 1, 0, 1, 0, 0])), (AItem.inLoop (subC (bodyC Try.prog 16) [1, 1, 1, 1, 1, 1, 1, 1, 1, 0, 1, 0, 0])), (AItem.inBlock 3), (AItem.code (subC (bodyC Try.prog 16) [1, 1, 1, 1, 1, 1, 1, 1, 1, 1]))], [], false, none, 6⟩ : AFr), [(⟨4, 104, (slotT 104 [(1, AV.im 7 l.length (opsF l)), (7, AV.ptr 1 0), (50, AV.sy (Value.int IntKind.i64 l.length)), (51, AV.sy (Value.int IntKind.i64 p.i)), (55, AV.ptr 0 0), (56, AV.ptr 1 0), (60, AV.agg [AV.sy (Value.int IntKind.i64 (l.getD p.i default).kind), AV.sy (Value.int IntKind.i64 (l.getD p.i default).at_), AV.by8 (l.getD p.i default).b, AV.sy (Value.int IntKind.i64 (l.getD p.i default).c.w), AV.im 1 (l.getD p.i default).c.keep.length (intsF (l.getD p.i default).c.keep), AV.sy (Value.int IntKind.i64 (l.getD p.i default).c.torn), AV.sy (Value.int IntKind.i64 (l.getD p.i default).c.at_)])]), (plC (subC (bodyC Try.prog 4) [1, 1, 1, 1, 1, 1, 0, 1, 0, 0, 1, 1, 0, 0, 1, 0]) 6), [(AItem.code (subC (bodyC Try.prog 4) [1, 1, 1, 1, 1, 1, 0, 1, 0, 0, 1, 1, 0, 0, 1, 1])), (AItem.inBlock 1), (AItem.code (subC (bodyC Try.prog 4) [1, 1, 1, 1, 1, 1, 0, 1, 0, 0, 1, 1, 1])), (AItem.inLoop (subC (bodyC Try.prog 4) [1, 1, 1, 1, 1, 1, 0, 1, 0, 0])), (AItem.inBlock 0), (AItem.code (subC (bodyC Try.prog 4) [1, 1, 1, 1, 1, 1, 1]))], [], false, none, 0⟩ : AFr)], memF [AB.obj (Ob.disk z.d), AB.mem 58 none [AV.ow 2 z.x.n, AV.ow 3 z.x.n, AV.sy (Value.int IntKind.i64 z.x.w), AV.im 1 z.x.kn z.x.kf, AV.sy (Value.int IntKind.i64 z.x.torn), AV.sy (Value.int IntKind.i64 z.x.at_), AV.sy (Value.int IntKind.i64 z.x.many), AV.sy (Value.bool z.x.down)], AB.rw 36 1 z.x.n z.x.sf, AB.rw 36 1 z.x.n z.x.cf, AB.bb 5 a.bs, AB.rw 3 1 (l.getD p.i default).c.keep.length (intsF (l.getD p.i default).c.keep)] 0 Tr.e, 6⟩ : ASt)) (hI := ?_) (h := ?_) (fun (e : OwP) => [(182, ivA (e.k : Int))]) (fun e => [(4, .bb 5 e.bs)]) (fun e => e.k ≤ (l.getD p.i default).b.length + 1 ∧ e.bs.length = (l.getD p.i default).b.length + 1) (fun e => (l.getD p.i default).b.length + 1 - e.k) (OwP.mk 0 ((l.getD p.i default).b ++ List.take 1 [UInt8.ofNat 7]))
       all_goals first | exact ⟨Nat.zero_le _, by simp⟩ | skip
       intro e ⟨j1, j2⟩ ihe
       refine To.R (h := ?_)
       refine To.Bd ((↑e.k : Int) < (↑((l.getD p.i default).b.length + 1) : Int)) (h := ?_) (g := ?_)
       · intro j3
         have j4 : e.k + 1 ≤ (l.getD p.i default).b.length + 1 := by omega
         have j5 : (l.getD p.i default).b.length + 1 - (e.k + 1) < (l.getD p.i default).b.length + 1 - e.k := by omega
         have j6 : (e.bs.set e.k (UInt8.ofNat 99)).length = (l.getD p.i default).b.length + 1 := by rw [List.length_set]; exact j2
         refine To.R (k := 23) (C := ((0 : Int) ≤ e.k ∧ (↑e.k : Int) < (↑((l.getD p.i default).b.length + 1) : Int)) ∧ (e.k < e.bs.length ∧ (0 : Int) ≤ 99 ∧ (99 : Int) < 256) ∧ fits IntKind.i64 (e.k + 1)) (h := ?_)
         refine To.K (L := [LN.old 0, LN.old 1, LN.old 2, LN.old 3, LN.old 4, LN.old 5]) (kp := [182, 181, 12, 10, 8, 1, 0]) (ks := [[60, 56, 55, 51, 50, 7, 1]]) (ov := [(182, AV.sy (Value.int IntKind.i64 (OwP.mk (e.k + 1) (e.bs.set e.k (UInt8.ofNat 99))).k))]) (C := Same IntKind.i64 ∧ (↑e.k : Int) + 1 = (↑(e.k + 1) : Int)) (ihe (OwP.mk (e.k + 1) (e.bs.set e.k (UInt8.ofNat 99))) ⟨j4, j6⟩ j5)
       · intro j3
         refine To.R (k := 13) (h := ?_)
         refine To.L (L := [LN.old 0, LN.old 1, LN.old 2, LN.old 3, LN.old 5]) (kp := [191, 190, 12, 10, 1, 0]) (ks := [[60, 56, 55, 51, 50, 7, 1]]) (C := (Same IntKind.i64 ∧ (0 : Int) = (↑(0 : Nat) : Int)) ∧ 3 = 3 ∧ Same 1 ∧ Same (l.getD p.i default).c.keep.length ∧ (∀ (r : Nat), r < (l.getD p.i default).c.keep.length → intsF (l.getD p.i default).c.keep r = (KpP.mk 0 (intsF (l.getD p.i default).c.keep)).f r)) (st := fun (a : KpP) => (⟨(⟨16, 236, (slotT 236 [(0, AV.ptr 0 0), (1, AV.ptr 1 0), (10, AV.ow 4 (l.getD p.i default).c.keep.length), (12, AV.v (Value.bool true)), (190, AV.sy (Value.int IntKind.i64 (l.getD p.i default).c.keep.length)), (191, AV.sy (Value.int IntKind.i64 a.k))]), ARg.no, [(AItem.code (subC (bodyC Try.prog 16) [1, 1, 1, 1, 1, 1, 1, 1, 1, 1, 0, 1, 0, 0])), (AItem.inLoop (subC (bodyC Try.prog 16) [1, 1, 1, 1, 1, 1, 1, 1, 1, 1, 0, 1, 0, 0])), (AItem.inBlock 5), (AItem.code (subC (bodyC Try.prog 16) [1, 1, 1, 1, 1, 1, 1, 1, 1, 1, 1]))], [], false, none, 5⟩ : AFr), [(⟨4, 104, (slotT 104 [(1, AV.im 7 l.length (opsF l)), (7, AV.ptr 1 0), (50, AV.sy (Value.int IntKind.i64 l.length)), (51, AV.sy (Value.int IntKind.i64 p.i)), (55, AV.ptr 0 0), (56, AV.ptr 1 0), (60, AV.agg [AV.sy (Value.int IntKind.i64 (l.getD p.i default).kind), AV.sy (Value.int IntKind.i64 (l.getD p.i default).at_), AV.by8 (l.getD p.i default).b, AV.sy (Value.int IntKind.i64 (l.getD p.i default).c.w), AV.im 1 (l.getD p.i default).c.keep.length (intsF (l.getD p.i default).c.keep), AV.sy (Value.int IntKind.i64 (l.getD p.i default).c.torn), AV.sy (Value.int IntKind.i64 (l.getD p.i default).c.at_)])]), (plC (subC (bodyC Try.prog 4) [1, 1, 1, 1, 1, 1, 0, 1, 0, 0, 1, 1, 0, 0, 1, 0]) 6), [(AItem.code (subC (bodyC Try.prog 4) [1, 1, 1, 1, 1, 1, 0, 1, 0, 0, 1, 1, 0, 0, 1, 1])), (AItem.inBlock 1), (AItem.code (subC (bodyC Try.prog 4) [1, 1, 1, 1, 1, 1, 0, 1, 0, 0, 1, 1, 1])), (AItem.inLoop (subC (bodyC Try.prog 4) [1, 1, 1, 1, 1, 1, 0, 1, 0, 0])), (AItem.inBlock 0), (AItem.code (subC (bodyC Try.prog 4) [1, 1, 1, 1, 1, 1, 1]))], [], false, none, 0⟩ : AFr)], memF [AB.obj (Ob.disk z.d), AB.mem 58 none [AV.ow 2 z.x.n, AV.ow 3 z.x.n, AV.sy (Value.int IntKind.i64 z.x.w), AV.im 1 z.x.kn z.x.kf, AV.sy (Value.int IntKind.i64 z.x.torn), AV.sy (Value.int IntKind.i64 z.x.at_), AV.sy (Value.int IntKind.i64 z.x.many), AV.sy (Value.bool z.x.down)], AB.rw 36 1 z.x.n z.x.sf, AB.rw 36 1 z.x.n z.x.cf, AB.rw 3 1 (l.getD p.i default).c.keep.length a.f] 0 Tr.e, 5⟩ : ASt)) (hI := ?_) (h := ?_) (fun (e : KpP) => [(191, ivA (e.k : Int))]) (fun e => [(4, .rw 3 1 (l.getD p.i default).c.keep.length e.f)]) (fun e => e.k ≤ (l.getD p.i default).c.keep.length) (fun e => (l.getD p.i default).c.keep.length - e.k) (KpP.mk 0 (intsF (l.getD p.i default).c.keep))
         all_goals first | exact Nat.zero_le _ | skip
         intro e j4 ihf
         refine To.R (h := ?_)
         refine To.Bd ((e.k : Int) < (l.getD p.i default).c.keep.length) (h := ?_) (g := ?_)
         · intro j5
           have j6 : e.k + 1 ≤ (l.getD p.i default).c.keep.length := by omega
           have j7 : (l.getD p.i default).c.keep.length - (e.k + 1) < (l.getD p.i default).c.keep.length - e.k := by omega
           refine To.R (k := 23) (C := ((0 : Int) ≤ e.k ∧ (e.k : Int) < (l.getD p.i default).c.keep.length) ∧ e.k < (l.getD p.i default).c.keep.length ∧ fits IntKind.i64 (e.k + 1)) (h := ?_)
           refine To.K (L := [LN.old 0, LN.old 1, LN.old 2, LN.old 3, LN.old 4]) (kp := [191, 190, 12, 10, 1, 0]) (ks := [[60, 56, 55, 51, 50, 7, 1]]) (ov := [(191, AV.sy (Value.int IntKind.i64 (KpP.mk (e.k + 1) (rwSet e.f e.k 0 [AV.v (Value.int IntKind.i64 99)])).k))]) (C := Same IntKind.i64 ∧ (↑e.k : Int) + 1 = (↑(e.k + 1) : Int)) (ihf (KpP.mk (e.k + 1) (rwSet e.f e.k 0 [.v (.int .i64 99)])) j6 j7)
         · intro j5
           have g1 : z.x.many = z.d.writes := hZG.goes.many
           have g2 : z.x.down = z.d.down := hZG.goes.down
           have g3 : rwaitsD z.x.toL = keysD z.d.waits := hZG.goes.waits hzF.ok
           have g4 : z.x.n = z.d.stays.length := by
             have := congrArg List.length hZG.goes.stays
             rw [show z.x.toL.stays.length = z.x.n from recsF_len _ _] at this
             exact this
           refine To.R (h := ?_)
           refine To.B (!z.x.down) (h := ?_) (g := ?_)
           · intro g5
             have g6 : (!z.d.down) = true := by rw [← g2]; exact g5
             have g7 : z.d.writes = z.x.many := g1.symm
             have g8 : keysD z.d.waits = rwaitsD z.x.toL := g3.symm
             have g9 : (z.d.stays.length : Int) = (z.x.n : Int) := by rw [g4]
             have g10 := keysD_len z.d.waits
             have g11 := hzF.ok.len
             have g12 : (id z.d).Fine := hzF
             have g13 : numsF (id z.d).waits.length (intsF (keysD (id z.d).waits)) = numsF (rwaitsD z.x.toL).length (intsF (rwaitsD z.x.toL)) := by
               show numsF z.d.waits.length (intsF (keysD z.d.waits)) = _
               rw [← g10, numsF_ints, numsF_ints, g3]
             have g14 : ∀ r, r < (id z.d).waits.length → intsF (keysD (id z.d).waits) r = intsF (numsF (id z.d).waits.length (intsF (keysD (id z.d).waits))) r := by
               show ∀ r, r < z.d.waits.length → intsF (keysD z.d.waits) r = intsF (numsF z.d.waits.length (intsF (keysD z.d.waits))) r
               rw [← g10, numsF_ints]; exact fun _ _ => rfl
             have g15 : ∀ r, r < (rwaitsD z.x.toL).length → intsF (rwaitsD z.x.toL) r = intsF (numsF (rwaitsD z.x.toL).length (intsF (rwaitsD z.x.toL))) r := by
               rw [numsF_ints]; exact fun _ _ => rfl
             have g16 : (numsF (id z.d).waits.length (intsF (keysD (id z.d).waits))).length ≤ 1000000 := by
               rw [numsF_len]; show z.d.waits.length ≤ 1000000; omega
             refine To.Y (!z.d.down) (C := z.d.Fine ∧ Same (AV.sy (Value.bool z.x.down))) (h := ?_)
             refine To.R (C := z.d.Fine ∧ Same (AV.sy (Value.int IntKind.i64 z.x.many))) (h := ?_)
             refine To.Yd ((fun x ↦ x.writes) z.d = z.x.many) (h := ?_)
             refine To.R (C := (id z.d).Fine ∧ (Same z.x.n ∧ Same z.x.n ∧ Same z.x.n) ∧ z.x.Ok ∧ True) (h := ?_)
             refine To.Yd (numsF (id z.d).waits.length (intsF (keysD (id z.d).waits)) = numsF (rwaitsD z.x.toL).length (intsF (rwaitsD z.x.toL))) (C := (∀ (r : Nat), r < (id z.d).waits.length → intsF (keysD (id z.d).waits) r = intsF (numsF (id z.d).waits.length (intsF (keysD (id z.d).waits))) r) ∧ (∀ (r : Nat), r < (rwaitsD z.x.toL).length → intsF (rwaitsD z.x.toL) r = intsF (numsF (rwaitsD z.x.toL).length (intsF (rwaitsD z.x.toL))) r) ∧ (numsF (id z.d).waits.length (intsF (keysD (id z.d).waits))).length ≤ 1000000) (h := ?_)
             refine To.R (C := True ∧ (id z.d).Fine ∧ Same (AV.ow 2 z.x.n)) (h := ?_)
             refine To.Yd ((fun d ↦ (d.stays.length : Int)) (id z.d) = z.x.n) (hp := ?_) (h := ?_)
             · exact g9
             refine To.R (k := 30) (C := fits IntKind.i64 (p.i + 1)) (h := ?_)
             refine To.K (L := [LN.old 0, LN.old 1, LN.old 2, LN.old 3]) (kp := [51, 50, 7, 5, 1]) (ov := [(51, AV.sy (Value.int IntKind.i64 (DkP.mk (p.i + 1) z.d z.x).i))]) (ob := [(0, AB.obj (Ob.disk (DkP.mk (p.i + 1) z.d z.x).d))]) (C := (Same IntKind.i64 ∧ (↑p.i : Int) + 1 = (↑(p.i + 1) : Int)) ∧ Ob.disk (id (id z.d)) = Ob.disk z.d) (hc := ?_) (ih (DkP.mk (p.i + 1) z.d z.x) ⟨hi1, hZ, hZG⟩ hi2)
             all_goals repeat' (first | exact trivial | exact rfl | exact fun _ _ => rfl | exact Int.natCast_succ _ | refine ⟨?_, ?_⟩)
           · intro g5
             have g6 : (!z.d.down) = false := by rw [← g2]; simpa using g5
             have g7 : z.d.writes = z.x.many := g1.symm
             have g8 : keysD z.d.waits = rwaitsD z.x.toL := g3.symm
             have g9 : (z.d.stays.length : Int) = (z.x.n : Int) := by rw [g4]
             have g10 := keysD_len z.d.waits
             have g11 := hzF.ok.len
             have g12 : (id z.d).Fine := hzF
             have g13 : numsF (id z.d).waits.length (intsF (keysD (id z.d).waits)) = numsF (rwaitsD z.x.toL).length (intsF (rwaitsD z.x.toL)) := by
               show numsF z.d.waits.length (intsF (keysD z.d.waits)) = _
               rw [← g10, numsF_ints, numsF_ints, g3]
             have g14 : ∀ r, r < (id z.d).waits.length → intsF (keysD (id z.d).waits) r = intsF (numsF (id z.d).waits.length (intsF (keysD (id z.d).waits))) r := by
               show ∀ r, r < z.d.waits.length → intsF (keysD z.d.waits) r = intsF (numsF z.d.waits.length (intsF (keysD z.d.waits))) r
               rw [← g10, numsF_ints]; exact fun _ _ => rfl
             have g15 : ∀ r, r < (rwaitsD z.x.toL).length → intsF (rwaitsD z.x.toL) r = intsF (numsF (rwaitsD z.x.toL).length (intsF (rwaitsD z.x.toL))) r := by
               rw [numsF_ints]; exact fun _ _ => rfl
             have g16 : (numsF (id z.d).waits.length (intsF (keysD (id z.d).waits))).length ≤ 1000000 := by
               rw [numsF_len]; show z.d.waits.length ≤ 1000000; omega
             refine To.N (!z.d.down) (C := z.d.Fine ∧ Same (AV.sy (Value.bool z.x.down))) (h := ?_)
             refine To.R (C := z.d.Fine ∧ Same (AV.sy (Value.int IntKind.i64 z.x.many))) (h := ?_)
             refine To.Yd ((fun x ↦ x.writes) z.d = z.x.many) (h := ?_)
             refine To.R (C := (id z.d).Fine ∧ (Same z.x.n ∧ Same z.x.n ∧ Same z.x.n) ∧ z.x.Ok ∧ True) (h := ?_)
             refine To.Yd (numsF (id z.d).waits.length (intsF (keysD (id z.d).waits)) = numsF (rwaitsD z.x.toL).length (intsF (rwaitsD z.x.toL))) (C := (∀ (r : Nat), r < (id z.d).waits.length → intsF (keysD (id z.d).waits) r = intsF (numsF (id z.d).waits.length (intsF (keysD (id z.d).waits))) r) ∧ (∀ (r : Nat), r < (rwaitsD z.x.toL).length → intsF (rwaitsD z.x.toL) r = intsF (numsF (rwaitsD z.x.toL).length (intsF (rwaitsD z.x.toL))) r) ∧ (numsF (id z.d).waits.length (intsF (keysD (id z.d).waits))).length ≤ 1000000) (h := ?_)
             refine To.R (C := True ∧ (id z.d).Fine ∧ Same (AV.ow 2 z.x.n)) (h := ?_)
             refine To.Yd ((fun d ↦ (d.stays.length : Int)) (id z.d) = z.x.n) (hp := ?_) (h := ?_)
             · exact g9
             refine To.R (k := 30) (C := fits IntKind.i64 (p.i + 1)) (h := ?_)
             refine To.K (L := [LN.old 0, LN.old 1, LN.old 2, LN.old 3]) (kp := [51, 50, 7, 5, 1]) (ov := [(51, AV.sy (Value.int IntKind.i64 (DkP.mk (p.i + 1) z.d z.x).i))]) (ob := [(0, AB.obj (Ob.disk (DkP.mk (p.i + 1) z.d z.x).d))]) (C := (Same IntKind.i64 ∧ (↑p.i : Int) + 1 = (↑(p.i + 1) : Int)) ∧ Ob.disk (id (id z.d)) = Ob.disk z.d) (hc := ?_) (ih (DkP.mk (p.i + 1) z.d z.x) ⟨hi1, hZ, hZG⟩ hi2)
             all_goals repeat' (first | exact trivial | exact rfl | exact fun _ _ => rfl | exact Int.natCast_succ _ | refine ⟨?_, ?_⟩)
     intro k5
     refine To.R (h := ?_)
     refine To.Bd ((l.getD p.i default).kind = 6) (h := ?_) (g := ?_)
     · intro k6
       have ha := hg.spoil hin (l.getD p.i default).at_ (l.getD p.i default).b
       have hb6 : 0 + ((l.getD p.i default).b.length - 0) ≤ ((l.getD p.i default).b ++ List.take 1 [UInt8.ofNat 7]).length := by simp
       refine To.R (C := (0 + ((l.getD p.i default).b.length - 0) ≤ ((l.getD p.i default).b ++ List.take 1 [UInt8.ofNat 7]).length ∧ p.d.Fine) ∧ Same (AV.by8 (l.getD p.i default).b) ∧ Same (AV.sy (Value.int IntKind.i64 (l.getD p.i default).at_)) ∧ (Same p.x.n ∧ Same p.x.n ∧ Same p.x.n) ∧ p.x.Ok ∧ (fun x ↦ True) p.x.toL ∧ (l.getD p.i default).b.length ≤ 1000000) (h := ?_)
       refine To.Yd ((spoilD p.d (l.getD p.i default).at_ (List.take ((l.getD p.i default).b.length - 0) (List.drop 0 ((l.getD p.i default).b ++ List.take 1 [UInt8.ofNat 7])))).snd = (rspoilW p.x (l.getD p.i default).at_ (l.getD p.i default).b).snd) (hp := ?_) (h := ?_)
       · rw [hB]; exact ha.2.symm
       have hZ : (spoilD p.d (l.getD p.i default).at_ (List.take ((l.getD p.i default).b.length - 0) (List.drop 0 ((l.getD p.i default).b ++ List.take 1 [UInt8.ofNat 7])))).1.In (2 * (p.i + 1)) := (hin.spoil _ _).more (by omega) (by omega)
       have hZG : GoesW (spoilD p.d (l.getD p.i default).at_ (List.take ((l.getD p.i default).b.length - 0) (List.drop 0 ((l.getD p.i default).b ++ List.take 1 [UInt8.ofNat 7])))).1 (rspoilW p.x (l.getD p.i default).at_ (l.getD p.i default).b).1 := by rw [hB]; exact ha.1
       refine To.R (k := 2) (h := ?_)
       refine To.L (L := [LN.old 0, LN.old 1, LN.old 2, LN.old 3, LN.old 4, LN.old 7, LN.old 9]) (kp := [12, 10, 8, 5, 1, 0]) (ks := [[60, 56, 55, 51, 50, 7, 1]]) (C := Ob.disk (spoilD p.d (l.getD p.i default).at_ (List.take ((l.getD p.i default).b.length - 0) (List.drop 0 ((l.getD p.i default).b ++ List.take 1 [UInt8.ofNat 7])))).fst = Ob.disk (spoilD p.d (l.getD p.i default).at_ (List.take ((l.getD p.i default).b.length - 0) (List.drop 0 ((l.getD p.i default).b ++ List.take 1 [UInt8.ofNat 7])))).fst ∧ (Same 58 ∧ (none : Option Nat) = none ∧ (Same 2 ∧ Same (rspoilW p.x (l.getD p.i default).at_ (l.getD p.i default).b).fst.n) ∧ (Same 3 ∧ Same (rspoilW p.x (l.getD p.i default).at_ (l.getD p.i default).b).fst.n) ∧ (Same IntKind.i64 ∧ Same (rspoilW p.x (l.getD p.i default).at_ (l.getD p.i default).b).fst.w) ∧ (Same 1 ∧ Same (rspoilW p.x (l.getD p.i default).at_ (l.getD p.i default).b).fst.kn ∧ (∀ (r : Nat), r < (rspoilW p.x (l.getD p.i default).at_ (l.getD p.i default).b).fst.kn → (rspoilW p.x (l.getD p.i default).at_ (l.getD p.i default).b).fst.kf r = (rspoilW p.x (l.getD p.i default).at_ (l.getD p.i default).b).fst.kf r)) ∧ (Same IntKind.i64 ∧ Same (rspoilW p.x (l.getD p.i default).at_ (l.getD p.i default).b).fst.torn) ∧ (Same IntKind.i64 ∧ Same (rspoilW p.x (l.getD p.i default).at_ (l.getD p.i default).b).fst.at_) ∧ (Same IntKind.i64 ∧ Same (rspoilW p.x (l.getD p.i default).at_ (l.getD p.i default).b).fst.many) ∧ Same (rspoilW p.x (l.getD p.i default).at_ (l.getD p.i default).b).fst.down ∧ True) ∧ (Same 36 ∧ Same 1 ∧ Same (rspoilW p.x (l.getD p.i default).at_ (l.getD p.i default).b).fst.n ∧ (∀ (r : Nat), r < (rspoilW p.x (l.getD p.i default).at_ (l.getD p.i default).b).fst.n → (rspoilW p.x (l.getD p.i default).at_ (l.getD p.i default).b).fst.sf r = (rspoilW p.x (l.getD p.i default).at_ (l.getD p.i default).b).fst.sf r)) ∧ Same 36 ∧ Same 1 ∧ Same (rspoilW p.x (l.getD p.i default).at_ (l.getD p.i default).b).fst.n ∧ (∀ (r : Nat), r < (rspoilW p.x (l.getD p.i default).at_ (l.getD p.i default).b).fst.n → (rspoilW p.x (l.getD p.i default).at_ (l.getD p.i default).b).fst.cf r = (rspoilW p.x (l.getD p.i default).at_ (l.getD p.i default).b).fst.cf r)) (st := fun (a : DtP) => (⟨(⟨16, 236, (slotT 236 [(0, AV.ptr 0 0), (1, AV.ptr 1 0), (5, AV.ptr 4 0), (8, AV.ow 5 ((l.getD p.i default).b.length + 1)), (10, AV.ow 6 (l.getD p.i default).c.keep.length), (12, AV.v (Value.bool true))]), ARg.no, [(AItem.inBlock 0), (AItem.code (subC (bodyC Try.prog 16) [1, 1, 1, 1, 1, 1, 1, 1]))], [], false, none, 7⟩ : AFr), [(⟨4, 104, (slotT 104 [(1, AV.im 7 l.length (opsF l)), (7, AV.ptr 1 0), (50, AV.sy (Value.int IntKind.i64 l.length)), (51, AV.sy (Value.int IntKind.i64 p.i)), (55, AV.ptr 0 0), (56, AV.ptr 1 0), (60, AV.agg [AV.sy (Value.int IntKind.i64 (l.getD p.i default).kind), AV.sy (Value.int IntKind.i64 (l.getD p.i default).at_), AV.by8 (l.getD p.i default).b, AV.sy (Value.int IntKind.i64 (l.getD p.i default).c.w), AV.im 1 (l.getD p.i default).c.keep.length (intsF (l.getD p.i default).c.keep), AV.sy (Value.int IntKind.i64 (l.getD p.i default).c.torn), AV.sy (Value.int IntKind.i64 (l.getD p.i default).c.at_)])]), (plC (subC (bodyC Try.prog 4) [1, 1, 1, 1, 1, 1, 0, 1, 0, 0, 1, 1, 0, 0, 1, 0]) 6), [(AItem.code (subC (bodyC Try.prog 4) [1, 1, 1, 1, 1, 1, 0, 1, 0, 0, 1, 1, 0, 0, 1, 1])), (AItem.inBlock 1), (AItem.code (subC (bodyC Try.prog 4) [1, 1, 1, 1, 1, 1, 0, 1, 0, 0, 1, 1, 1])), (AItem.inLoop (subC (bodyC Try.prog 4) [1, 1, 1, 1, 1, 1, 0, 1, 0, 0])), (AItem.inBlock 0), (AItem.code (subC (bodyC Try.prog 4) [1, 1, 1, 1, 1, 1, 1]))], [], false, none, 0⟩ : AFr)], memF [AB.obj (Ob.disk a.d), AB.mem 58 none [AV.ow 2 a.x.n, AV.ow 3 a.x.n, AV.sy (Value.int IntKind.i64 a.x.w), AV.im 1 a.x.kn a.x.kf, AV.sy (Value.int IntKind.i64 a.x.torn), AV.sy (Value.int IntKind.i64 a.x.at_), AV.sy (Value.int IntKind.i64 a.x.many), AV.sy (Value.bool a.x.down)], AB.rw 36 1 a.x.n a.x.sf, AB.rw 36 1 a.x.n a.x.cf, AB.mem 54 none [AV.sy (Value.int IntKind.i64 (l.getD p.i default).kind), AV.sy (Value.int IntKind.i64 (l.getD p.i default).at_), AV.by8 (l.getD p.i default).b, AV.sy (Value.int IntKind.i64 (l.getD p.i default).c.w), AV.im 1 (l.getD p.i default).c.keep.length (intsF (l.getD p.i default).c.keep), AV.sy (Value.int IntKind.i64 (l.getD p.i default).c.torn), AV.sy (Value.int IntKind.i64 (l.getD p.i default).c.at_)], AB.bb 5 ((l.getD p.i default).b ++ List.take 1 [UInt8.ofNat 7]), AB.rw 3 1 (l.getD p.i default).c.keep.length (intsF (l.getD p.i default).c.keep)] 0 Tr.e, 7⟩ : ASt)) (h := ?_) (fun (_ : DtP) => []) (fun z => [(0, .obj (.disk z.d)), (1, .mem 58 none [.ow 2 z.x.n, .ow 3 z.x.n, ivA z.x.w, .im 1 z.x.kn z.x.kf, ivA z.x.torn, ivA z.x.at_, ivA z.x.many, .sy (.bool z.x.down)]), (2, .rw 36 1 z.x.n z.x.sf), (3, .rw 36 1 z.x.n z.x.cf)]) (fun z => z.d.In (2 * (p.i + 1)) ∧ GoesW z.d z.x) (fun _ => 0) (DtP.mk ((spoilD p.d (l.getD p.i default).at_ (List.take ((l.getD p.i default).b.length - 0) (List.drop 0 ((l.getD p.i default).b ++ List.take 1 [UInt8.ofNat 7])))).1) ((rspoilW p.x (l.getD p.i default).at_ (l.getD p.i default).b).1))
       all_goals first | exact ⟨hZ, hZG⟩ | (and_intros <;> first | exact trivial | exact rfl | exact fun _ _ => rfl) | skip
       intro z ⟨hZ, hZG⟩ _
       have hT1 : (l.getD p.i default).b.length + 1 ≤ ((l.getD p.i default).b ++ List.take 1 [UInt8.ofNat 7]).length := by simp
       have hT3 : (List.take 1 [UInt8.ofNat 7]).length = 1 := rfl
       have hzF := hZ.fine
       have hzX := hZG.ok
       have hT2 : (str (l.getD p.i default).b).size + 1 ≤ 1000000000 := by
         have : (str (l.getD p.i default).b).size = (l.getD p.i default).b.length := by simp [str, ByteArray.size]
         omega
       refine To.R (C := (l.getD p.i default).b.length + 1 ≤ ((l.getD p.i default).b ++ List.take 1 [UInt8.ofNat 7]).length ∧ True ∧ (str (l.getD p.i default).b).size + 1 ≤ 1000000000) (h := ?_)
       refine To.Yd ((str (List.take ((l.getD p.i default).b.length + 1) ((l.getD p.i default).b ++ List.take 1 [UInt8.ofNat 7]))).data.toList = (str ((str (l.getD p.i default).b).data.toList ++ (ByteArray.mk #[7]).data.toList)).data.toList) (hp := ?_) (h := ?_)
       · exact own_str _
       refine To.R (h := ?_)
       refine To.Yd (numsF (l.getD p.i default).c.keep.length (intsF (l.getD p.i default).c.keep) = numsF (l.getD p.i default).c.keep.length (intsF (l.getD p.i default).c.keep)) (C := (Same (l.getD p.i default).c.keep.length ∧ (∀ (r : Nat), r < (l.getD p.i default).c.keep.length → intsF (l.getD p.i default).c.keep r = intsF (numsF (l.getD p.i default).c.keep.length (intsF (l.getD p.i default).c.keep)) r)) ∧ (∀ (r : Nat), r < (l.getD p.i default).c.keep.length → intsF (l.getD p.i default).c.keep r = intsF (numsF (l.getD p.i default).c.keep.length (intsF (l.getD p.i default).c.keep)) r) ∧ (numsF (l.getD p.i default).c.keep.length (intsF (l.getD p.i default).c.keep)).length ≤ 1000000) (h := ?_)
       refine To.R (k := 12) (h := ?_)
       refine To.L (L := [LN.old 0, LN.old 1, LN.old 2, LN.old 3, LN.old 5, LN.old 6]) (kp := [182, 181, 12, 10, 8, 1, 0]) (ks := [[60, 56, 55, 51, 50, 7, 1]]) (C := (Same IntKind.i64 ∧ (0 : Int) = (↑(0 : Nat) : Int)) ∧ 5 = 5 ∧ (l.getD p.i default).b ++ List.take 1 [UInt8.ofNat 7] = (l.getD p.i default).b ++ List.take 1 [UInt8.ofNat 7]) (st := fun (a : OwP) => (⟨(⟨16, 236, (slotT 236 [(0, AV.ptr 0 0), (1, AV.ptr 1 0), (8, AV.ow 4 ((l.getD p.i default).b.length + 1)), (10, AV.ow 5 (l.getD p.i default).c.keep.length), (12, AV.v (Value.bool true)), (181, AV.sy (Value.int IntKind.i64 (↑((l.getD p.i default).b.length + 1) : Int))), (182, AV.sy (Value.int IntKind.i64 a.k))]), ARg.no, [(AItem.code (subC (bodyC Try.prog 16) [1, 1, 1, 1, 1, 1, 1, 1, 1, 0, 1, 0, 0])), (AItem.inLoop (subC (bodyC Try.prog 16) [1, 1, 1, 1, 1, 1, 1, 1, 1, 0, 1, 0, 0])), (AItem.inBlock 3), (AItem.code (subC (bodyC Try.prog 16) [1, 1, 1, 1, 1, 1, 1, 1, 1, 1]))], [], false, none, 6⟩ : AFr), [(⟨4, 104, (slotT 104 [(1, AV.im 7 l.length (opsF l)), (7, AV.ptr 1 0), (50, AV.sy (Value.int IntKind.i64 l.length)), (51, AV.sy (Value.int IntKind.i64 p.i)), (55, AV.ptr 0 0), (56, AV.ptr 1 0), (60, AV.agg [AV.sy (Value.int IntKind.i64 (l.getD p.i default).kind), AV.sy (Value.int IntKind.i64 (l.getD p.i default).at_), AV.by8 (l.getD p.i default).b, AV.sy (Value.int IntKind.i64 (l.getD p.i default).c.w), AV.im 1 (l.getD p.i default).c.keep.length (intsF (l.getD p.i default).c.keep), AV.sy (Value.int IntKind.i64 (l.getD p.i default).c.torn), AV.sy (Value.int IntKind.i64 (l.getD p.i default).c.at_)])]), (plC (subC (bodyC Try.prog 4) [1, 1, 1, 1, 1, 1, 0, 1, 0, 0, 1, 1, 0, 0, 1, 0]) 6), [(AItem.code (subC (bodyC Try.prog 4) [1, 1, 1, 1, 1, 1, 0, 1, 0, 0, 1, 1, 0, 0, 1, 1])), (AItem.inBlock 1), (AItem.code (subC (bodyC Try.prog 4) [1, 1, 1, 1, 1, 1, 0, 1, 0, 0, 1, 1, 1])), (AItem.inLoop (subC (bodyC Try.prog 4) [1, 1, 1, 1, 1, 1, 0, 1, 0, 0])), (AItem.inBlock 0), (AItem.code (subC (bodyC Try.prog 4) [1, 1, 1, 1, 1, 1, 1]))], [], false, none, 0⟩ : AFr)], memF [AB.obj (Ob.disk z.d), AB.mem 58 none [AV.ow 2 z.x.n, AV.ow 3 z.x.n, AV.sy (Value.int IntKind.i64 z.x.w), AV.im 1 z.x.kn z.x.kf, AV.sy (Value.int IntKind.i64 z.x.torn), AV.sy (Value.int IntKind.i64 z.x.at_), AV.sy (Value.int IntKind.i64 z.x.many), AV.sy (Value.bool z.x.down)], AB.rw 36 1 z.x.n z.x.sf, AB.rw 36 1 z.x.n z.x.cf, AB.bb 5 a.bs, AB.rw 3 1 (l.getD p.i default).c.keep.length (intsF (l.getD p.i default).c.keep)] 0 Tr.e, 6⟩ : ASt)) (hI := ?_) (h := ?_) (fun (e : OwP) => [(182, ivA (e.k : Int))]) (fun e => [(4, .bb 5 e.bs)]) (fun e => e.k ≤ (l.getD p.i default).b.length + 1 ∧ e.bs.length = (l.getD p.i default).b.length + 1) (fun e => (l.getD p.i default).b.length + 1 - e.k) (OwP.mk 0 ((l.getD p.i default).b ++ List.take 1 [UInt8.ofNat 7]))
       all_goals first | exact ⟨Nat.zero_le _, by simp⟩ | skip
       intro e ⟨j1, j2⟩ ihe
       refine To.R (h := ?_)
       refine To.Bd ((↑e.k : Int) < (↑((l.getD p.i default).b.length + 1) : Int)) (h := ?_) (g := ?_)
       · intro j3
         have j4 : e.k + 1 ≤ (l.getD p.i default).b.length + 1 := by omega
         have j5 : (l.getD p.i default).b.length + 1 - (e.k + 1) < (l.getD p.i default).b.length + 1 - e.k := by omega
         have j6 : (e.bs.set e.k (UInt8.ofNat 99)).length = (l.getD p.i default).b.length + 1 := by rw [List.length_set]; exact j2
         refine To.R (k := 23) (C := ((0 : Int) ≤ e.k ∧ (↑e.k : Int) < (↑((l.getD p.i default).b.length + 1) : Int)) ∧ (e.k < e.bs.length ∧ (0 : Int) ≤ 99 ∧ (99 : Int) < 256) ∧ fits IntKind.i64 (e.k + 1)) (h := ?_)
         refine To.K (L := [LN.old 0, LN.old 1, LN.old 2, LN.old 3, LN.old 4, LN.old 5]) (kp := [182, 181, 12, 10, 8, 1, 0]) (ks := [[60, 56, 55, 51, 50, 7, 1]]) (ov := [(182, AV.sy (Value.int IntKind.i64 (OwP.mk (e.k + 1) (e.bs.set e.k (UInt8.ofNat 99))).k))]) (C := Same IntKind.i64 ∧ (↑e.k : Int) + 1 = (↑(e.k + 1) : Int)) (ihe (OwP.mk (e.k + 1) (e.bs.set e.k (UInt8.ofNat 99))) ⟨j4, j6⟩ j5)
       · intro j3
         refine To.R (k := 13) (h := ?_)
         refine To.L (L := [LN.old 0, LN.old 1, LN.old 2, LN.old 3, LN.old 5]) (kp := [191, 190, 12, 10, 1, 0]) (ks := [[60, 56, 55, 51, 50, 7, 1]]) (C := (Same IntKind.i64 ∧ (0 : Int) = (↑(0 : Nat) : Int)) ∧ 3 = 3 ∧ Same 1 ∧ Same (l.getD p.i default).c.keep.length ∧ (∀ (r : Nat), r < (l.getD p.i default).c.keep.length → intsF (l.getD p.i default).c.keep r = (KpP.mk 0 (intsF (l.getD p.i default).c.keep)).f r)) (st := fun (a : KpP) => (⟨(⟨16, 236, (slotT 236 [(0, AV.ptr 0 0), (1, AV.ptr 1 0), (10, AV.ow 4 (l.getD p.i default).c.keep.length), (12, AV.v (Value.bool true)), (190, AV.sy (Value.int IntKind.i64 (l.getD p.i default).c.keep.length)), (191, AV.sy (Value.int IntKind.i64 a.k))]), ARg.no, [(AItem.code (subC (bodyC Try.prog 16) [1, 1, 1, 1, 1, 1, 1, 1, 1, 1, 0, 1, 0, 0])), (AItem.inLoop (subC (bodyC Try.prog 16) [1, 1, 1, 1, 1, 1, 1, 1, 1, 1, 0, 1, 0, 0])), (AItem.inBlock 5), (AItem.code (subC (bodyC Try.prog 16) [1, 1, 1, 1, 1, 1, 1, 1, 1, 1, 1]))], [], false, none, 5⟩ : AFr), [(⟨4, 104, (slotT 104 [(1, AV.im 7 l.length (opsF l)), (7, AV.ptr 1 0), (50, AV.sy (Value.int IntKind.i64 l.length)), (51, AV.sy (Value.int IntKind.i64 p.i)), (55, AV.ptr 0 0), (56, AV.ptr 1 0), (60, AV.agg [AV.sy (Value.int IntKind.i64 (l.getD p.i default).kind), AV.sy (Value.int IntKind.i64 (l.getD p.i default).at_), AV.by8 (l.getD p.i default).b, AV.sy (Value.int IntKind.i64 (l.getD p.i default).c.w), AV.im 1 (l.getD p.i default).c.keep.length (intsF (l.getD p.i default).c.keep), AV.sy (Value.int IntKind.i64 (l.getD p.i default).c.torn), AV.sy (Value.int IntKind.i64 (l.getD p.i default).c.at_)])]), (plC (subC (bodyC Try.prog 4) [1, 1, 1, 1, 1, 1, 0, 1, 0, 0, 1, 1, 0, 0, 1, 0]) 6), [(AItem.code (subC (bodyC Try.prog 4) [1, 1, 1, 1, 1, 1, 0, 1, 0, 0, 1, 1, 0, 0, 1, 1])), (AItem.inBlock 1), (AItem.code (subC (bodyC Try.prog 4) [1, 1, 1, 1, 1, 1, 0, 1, 0, 0, 1, 1, 1])), (AItem.inLoop (subC (bodyC Try.prog 4) [1, 1, 1, 1, 1, 1, 0, 1, 0, 0])), (AItem.inBlock 0), (AItem.code (subC (bodyC Try.prog 4) [1, 1, 1, 1, 1, 1, 1]))], [], false, none, 0⟩ : AFr)], memF [AB.obj (Ob.disk z.d), AB.mem 58 none [AV.ow 2 z.x.n, AV.ow 3 z.x.n, AV.sy (Value.int IntKind.i64 z.x.w), AV.im 1 z.x.kn z.x.kf, AV.sy (Value.int IntKind.i64 z.x.torn), AV.sy (Value.int IntKind.i64 z.x.at_), AV.sy (Value.int IntKind.i64 z.x.many), AV.sy (Value.bool z.x.down)], AB.rw 36 1 z.x.n z.x.sf, AB.rw 36 1 z.x.n z.x.cf, AB.rw 3 1 (l.getD p.i default).c.keep.length a.f] 0 Tr.e, 5⟩ : ASt)) (hI := ?_) (h := ?_) (fun (e : KpP) => [(191, ivA (e.k : Int))]) (fun e => [(4, .rw 3 1 (l.getD p.i default).c.keep.length e.f)]) (fun e => e.k ≤ (l.getD p.i default).c.keep.length) (fun e => (l.getD p.i default).c.keep.length - e.k) (KpP.mk 0 (intsF (l.getD p.i default).c.keep))
         all_goals first | exact Nat.zero_le _ | skip
         intro e j4 ihf
         refine To.R (h := ?_)
         refine To.Bd ((e.k : Int) < (l.getD p.i default).c.keep.length) (h := ?_) (g := ?_)
         · intro j5
           have j6 : e.k + 1 ≤ (l.getD p.i default).c.keep.length := by omega
           have j7 : (l.getD p.i default).c.keep.length - (e.k + 1) < (l.getD p.i default).c.keep.length - e.k := by omega
           refine To.R (k := 23) (C := ((0 : Int) ≤ e.k ∧ (e.k : Int) < (l.getD p.i default).c.keep.length) ∧ e.k < (l.getD p.i default).c.keep.length ∧ fits IntKind.i64 (e.k + 1)) (h := ?_)
           refine To.K (L := [LN.old 0, LN.old 1, LN.old 2, LN.old 3, LN.old 4]) (kp := [191, 190, 12, 10, 1, 0]) (ks := [[60, 56, 55, 51, 50, 7, 1]]) (ov := [(191, AV.sy (Value.int IntKind.i64 (KpP.mk (e.k + 1) (rwSet e.f e.k 0 [AV.v (Value.int IntKind.i64 99)])).k))]) (C := Same IntKind.i64 ∧ (↑e.k : Int) + 1 = (↑(e.k + 1) : Int)) (ihf (KpP.mk (e.k + 1) (rwSet e.f e.k 0 [.v (.int .i64 99)])) j6 j7)
         · intro j5
           have g1 : z.x.many = z.d.writes := hZG.goes.many
           have g2 : z.x.down = z.d.down := hZG.goes.down
           have g3 : rwaitsD z.x.toL = keysD z.d.waits := hZG.goes.waits hzF.ok
           have g4 : z.x.n = z.d.stays.length := by
             have := congrArg List.length hZG.goes.stays
             rw [show z.x.toL.stays.length = z.x.n from recsF_len _ _] at this
             exact this
           refine To.R (h := ?_)
           refine To.B (!z.x.down) (h := ?_) (g := ?_)
           · intro g5
             have g6 : (!z.d.down) = true := by rw [← g2]; exact g5
             have g7 : z.d.writes = z.x.many := g1.symm
             have g8 : keysD z.d.waits = rwaitsD z.x.toL := g3.symm
             have g9 : (z.d.stays.length : Int) = (z.x.n : Int) := by rw [g4]
             have g10 := keysD_len z.d.waits
             have g11 := hzF.ok.len
             have g12 : (id z.d).Fine := hzF
             have g13 : numsF (id z.d).waits.length (intsF (keysD (id z.d).waits)) = numsF (rwaitsD z.x.toL).length (intsF (rwaitsD z.x.toL)) := by
               show numsF z.d.waits.length (intsF (keysD z.d.waits)) = _
               rw [← g10, numsF_ints, numsF_ints, g3]
             have g14 : ∀ r, r < (id z.d).waits.length → intsF (keysD (id z.d).waits) r = intsF (numsF (id z.d).waits.length (intsF (keysD (id z.d).waits))) r := by
               show ∀ r, r < z.d.waits.length → intsF (keysD z.d.waits) r = intsF (numsF z.d.waits.length (intsF (keysD z.d.waits))) r
               rw [← g10, numsF_ints]; exact fun _ _ => rfl
             have g15 : ∀ r, r < (rwaitsD z.x.toL).length → intsF (rwaitsD z.x.toL) r = intsF (numsF (rwaitsD z.x.toL).length (intsF (rwaitsD z.x.toL))) r := by
               rw [numsF_ints]; exact fun _ _ => rfl
             have g16 : (numsF (id z.d).waits.length (intsF (keysD (id z.d).waits))).length ≤ 1000000 := by
               rw [numsF_len]; show z.d.waits.length ≤ 1000000; omega
             refine To.Y (!z.d.down) (C := z.d.Fine ∧ Same (AV.sy (Value.bool z.x.down))) (h := ?_)
             refine To.R (C := z.d.Fine ∧ Same (AV.sy (Value.int IntKind.i64 z.x.many))) (h := ?_)
             refine To.Yd ((fun x ↦ x.writes) z.d = z.x.many) (h := ?_)
             refine To.R (C := (id z.d).Fine ∧ (Same z.x.n ∧ Same z.x.n ∧ Same z.x.n) ∧ z.x.Ok ∧ True) (h := ?_)
             refine To.Yd (numsF (id z.d).waits.length (intsF (keysD (id z.d).waits)) = numsF (rwaitsD z.x.toL).length (intsF (rwaitsD z.x.toL))) (C := (∀ (r : Nat), r < (id z.d).waits.length → intsF (keysD (id z.d).waits) r = intsF (numsF (id z.d).waits.length (intsF (keysD (id z.d).waits))) r) ∧ (∀ (r : Nat), r < (rwaitsD z.x.toL).length → intsF (rwaitsD z.x.toL) r = intsF (numsF (rwaitsD z.x.toL).length (intsF (rwaitsD z.x.toL))) r) ∧ (numsF (id z.d).waits.length (intsF (keysD (id z.d).waits))).length ≤ 1000000) (h := ?_)
             refine To.R (C := True ∧ (id z.d).Fine ∧ Same (AV.ow 2 z.x.n)) (h := ?_)
             refine To.Yd ((fun d ↦ (d.stays.length : Int)) (id z.d) = z.x.n) (hp := ?_) (h := ?_)
             · exact g9
             refine To.R (k := 30) (C := fits IntKind.i64 (p.i + 1)) (h := ?_)
             refine To.K (L := [LN.old 0, LN.old 1, LN.old 2, LN.old 3]) (kp := [51, 50, 7, 5, 1]) (ov := [(51, AV.sy (Value.int IntKind.i64 (DkP.mk (p.i + 1) z.d z.x).i))]) (ob := [(0, AB.obj (Ob.disk (DkP.mk (p.i + 1) z.d z.x).d))]) (C := (Same IntKind.i64 ∧ (↑p.i : Int) + 1 = (↑(p.i + 1) : Int)) ∧ Ob.disk (id (id z.d)) = Ob.disk z.d) (hc := ?_) (ih (DkP.mk (p.i + 1) z.d z.x) ⟨hi1, hZ, hZG⟩ hi2)
             all_goals repeat' (first | exact trivial | exact rfl | exact fun _ _ => rfl | exact Int.natCast_succ _ | refine ⟨?_, ?_⟩)
           · intro g5
             have g6 : (!z.d.down) = false := by rw [← g2]; simpa using g5
             have g7 : z.d.writes = z.x.many := g1.symm
             have g8 : keysD z.d.waits = rwaitsD z.x.toL := g3.symm
             have g9 : (z.d.stays.length : Int) = (z.x.n : Int) := by rw [g4]
             have g10 := keysD_len z.d.waits
             have g11 := hzF.ok.len
             have g12 : (id z.d).Fine := hzF
             have g13 : numsF (id z.d).waits.length (intsF (keysD (id z.d).waits)) = numsF (rwaitsD z.x.toL).length (intsF (rwaitsD z.x.toL)) := by
               show numsF z.d.waits.length (intsF (keysD z.d.waits)) = _
               rw [← g10, numsF_ints, numsF_ints, g3]
             have g14 : ∀ r, r < (id z.d).waits.length → intsF (keysD (id z.d).waits) r = intsF (numsF (id z.d).waits.length (intsF (keysD (id z.d).waits))) r := by
               show ∀ r, r < z.d.waits.length → intsF (keysD z.d.waits) r = intsF (numsF z.d.waits.length (intsF (keysD z.d.waits))) r
               rw [← g10, numsF_ints]; exact fun _ _ => rfl
             have g15 : ∀ r, r < (rwaitsD z.x.toL).length → intsF (rwaitsD z.x.toL) r = intsF (numsF (rwaitsD z.x.toL).length (intsF (rwaitsD z.x.toL))) r := by
               rw [numsF_ints]; exact fun _ _ => rfl
             have g16 : (numsF (id z.d).waits.length (intsF (keysD (id z.d).waits))).length ≤ 1000000 := by
               rw [numsF_len]; show z.d.waits.length ≤ 1000000; omega
             refine To.N (!z.d.down) (C := z.d.Fine ∧ Same (AV.sy (Value.bool z.x.down))) (h := ?_)
             refine To.R (C := z.d.Fine ∧ Same (AV.sy (Value.int IntKind.i64 z.x.many))) (h := ?_)
             refine To.Yd ((fun x ↦ x.writes) z.d = z.x.many) (h := ?_)
             refine To.R (C := (id z.d).Fine ∧ (Same z.x.n ∧ Same z.x.n ∧ Same z.x.n) ∧ z.x.Ok ∧ True) (h := ?_)
             refine To.Yd (numsF (id z.d).waits.length (intsF (keysD (id z.d).waits)) = numsF (rwaitsD z.x.toL).length (intsF (rwaitsD z.x.toL))) (C := (∀ (r : Nat), r < (id z.d).waits.length → intsF (keysD (id z.d).waits) r = intsF (numsF (id z.d).waits.length (intsF (keysD (id z.d).waits))) r) ∧ (∀ (r : Nat), r < (rwaitsD z.x.toL).length → intsF (rwaitsD z.x.toL) r = intsF (numsF (rwaitsD z.x.toL).length (intsF (rwaitsD z.x.toL))) r) ∧ (numsF (id z.d).waits.length (intsF (keysD (id z.d).waits))).length ≤ 1000000) (h := ?_)
             refine To.R (C := True ∧ (id z.d).Fine ∧ Same (AV.ow 2 z.x.n)) (h := ?_)
             refine To.Yd ((fun d ↦ (d.stays.length : Int)) (id z.d) = z.x.n) (hp := ?_) (h := ?_)
             · exact g9
             refine To.R (k := 30) (C := fits IntKind.i64 (p.i + 1)) (h := ?_)
             refine To.K (L := [LN.old 0, LN.old 1, LN.old 2, LN.old 3]) (kp := [51, 50, 7, 5, 1]) (ov := [(51, AV.sy (Value.int IntKind.i64 (DkP.mk (p.i + 1) z.d z.x).i))]) (ob := [(0, AB.obj (Ob.disk (DkP.mk (p.i + 1) z.d z.x).d))]) (C := (Same IntKind.i64 ∧ (↑p.i : Int) + 1 = (↑(p.i + 1) : Int)) ∧ Ob.disk (id (id z.d)) = Ob.disk z.d) (hc := ?_) (ih (DkP.mk (p.i + 1) z.d z.x) ⟨hi1, hZ, hZG⟩ hi2)
             all_goals repeat' (first | exact trivial | exact rfl | exact fun _ _ => rfl | exact Int.natCast_succ _ | refine ⟨?_, ?_⟩)
     intro k6
     refine To.R (h := ?_)
     refine To.Bd ((l.getD p.i default).kind = 7) (h := ?_) (g := ?_)
     · intro k7
       have c1 := hin.boot
       have c1F := c1.fine
       refine To.R (k := 2) (h := ?_)
       try any_goals (first | exact (c1.write hn _ _).fine | exact ((c1.write hn _ _).spoil _ _).fine | exact ((c1.write hn _ _).spoil _ _).flush.fine)
       refine To.R (k := 1) (h := ?_)
       try any_goals (first | exact (c1.write hn _ _).fine | exact ((c1.write hn _ _).spoil _ _).fine | exact ((c1.write hn _ _).spoil _ _).flush.fine)
       refine To.R (k := 1) (h := ?_)
       try any_goals (first | exact (c1.write hn _ _).fine | exact ((c1.write hn _ _).spoil _ _).fine | exact ((c1.write hn _ _).spoil _ _).flush.fine)
       refine To.R (k := 5) (C := p.d.Fine) (h := ?_)
       try any_goals (first | exact (c1.write hn _ _).fine | exact ((c1.write hn _ _).spoil _ _).fine | exact ((c1.write hn _ _).spoil _ _).flush.fine)
       refine To.R (k := 1) (h := ?_)
       try any_goals (first | exact (c1.write hn _ _).fine | exact ((c1.write hn _ _).spoil _ _).fine | exact ((c1.write hn _ _).spoil _ _).flush.fine)
       refine To.R (k := 4) (C := p.d.Fine) (h := ?_)
       try any_goals (first | exact (c1.write hn _ _).fine | exact ((c1.write hn _ _).spoil _ _).fine | exact ((c1.write hn _ _).spoil _ _).flush.fine)
       refine To.R (k := 1) (h := ?_)
       try any_goals (first | exact (c1.write hn _ _).fine | exact ((c1.write hn _ _).spoil _ _).fine | exact ((c1.write hn _ _).spoil _ _).flush.fine)
       refine To.R (k := 5) (C := (((0 : Int) ≤ 0 ∧ (0 : Int) < 256) ∧ ((0 : Int) ≤ 0 ∧ (0 : Int) < 256) ∧ ((0 : Int) ≤ 0 ∧ (0 : Int) < 256) ∧ ((0 : Int) ≤ 0 ∧ (0 : Int) < 256) ∧ ((0 : Int) ≤ 0 ∧ (0 : Int) < 256) ∧ ((0 : Int) ≤ 0 ∧ (0 : Int) < 256) ∧ ((0 : Int) ≤ 0 ∧ (0 : Int) < 256) ∧ ((0 : Int) ≤ 0 ∧ (0 : Int) < 256) ∧ ((0 : Int) ≤ 0 ∧ (0 : Int) < 256) ∧ ((0 : Int) ≤ 0 ∧ (0 : Int) < 256) ∧ ((0 : Int) ≤ 0 ∧ (0 : Int) < 256) ∧ ((0 : Int) ≤ 0 ∧ (0 : Int) < 256) ∧ ((0 : Int) ≤ 0 ∧ (0 : Int) < 256) ∧ ((0 : Int) ≤ 0 ∧ (0 : Int) < 256) ∧ ((0 : Int) ≤ 0 ∧ (0 : Int) < 256) ∧ ((0 : Int) ≤ 0 ∧ (0 : Int) < 256) ∧ ((0 : Int) ≤ 0 ∧ (0 : Int) < 256) ∧ ((0 : Int) ≤ 0 ∧ (0 : Int) < 256) ∧ ((0 : Int) ≤ 0 ∧ (0 : Int) < 256) ∧ ((0 : Int) ≤ 0 ∧ (0 : Int) < 256) ∧ ((0 : Int) ≤ 0 ∧ (0 : Int) < 256) ∧ ((0 : Int) ≤ 0 ∧ (0 : Int) < 256) ∧ ((0 : Int) ≤ 0 ∧ (0 : Int) < 256) ∧ ((0 : Int) ≤ 0 ∧ (0 : Int) < 256) ∧ ((0 : Int) ≤ 0 ∧ (0 : Int) < 256) ∧ ((0 : Int) ≤ 0 ∧ (0 : Int) < 256) ∧ ((0 : Int) ≤ 0 ∧ (0 : Int) < 256) ∧ ((0 : Int) ≤ 0 ∧ (0 : Int) < 256) ∧ ((0 : Int) ≤ 0 ∧ (0 : Int) < 256) ∧ ((0 : Int) ≤ 0 ∧ (0 : Int) < 256) ∧ ((0 : Int) ≤ 0 ∧ (0 : Int) < 256) ∧ ((0 : Int) ≤ 0 ∧ (0 : Int) < 256) ∧ ((0 : Int) ≤ 0 ∧ (0 : Int) < 256) ∧ ((0 : Int) ≤ 0 ∧ (0 : Int) < 256) ∧ ((0 : Int) ≤ 0 ∧ (0 : Int) < 256) ∧ ((0 : Int) ≤ 0 ∧ (0 : Int) < 256) ∧ ((0 : Int) ≤ 0 ∧ (0 : Int) < 256) ∧ ((0 : Int) ≤ 0 ∧ (0 : Int) < 256) ∧ ((0 : Int) ≤ 0 ∧ (0 : Int) < 256) ∧ ((0 : Int) ≤ 0 ∧ (0 : Int) < 256) ∧ ((0 : Int) ≤ 0 ∧ (0 : Int) < 256) ∧ ((0 : Int) ≤ 0 ∧ (0 : Int) < 256) ∧ ((0 : Int) ≤ 0 ∧ (0 : Int) < 256) ∧ ((0 : Int) ≤ 0 ∧ (0 : Int) < 256) ∧ ((0 : Int) ≤ 0 ∧ (0 : Int) < 256) ∧ ((0 : Int) ≤ 0 ∧ (0 : Int) < 256) ∧ ((0 : Int) ≤ 0 ∧ (0 : Int) < 256) ∧ ((0 : Int) ≤ 0 ∧ (0 : Int) < 256) ∧ ((0 : Int) ≤ 0 ∧ (0 : Int) < 256) ∧ ((0 : Int) ≤ 0 ∧ (0 : Int) < 256) ∧ ((0 : Int) ≤ 0 ∧ (0 : Int) < 256) ∧ ((0 : Int) ≤ 0 ∧ (0 : Int) < 256) ∧ ((0 : Int) ≤ 0 ∧ (0 : Int) < 256) ∧ ((0 : Int) ≤ 0 ∧ (0 : Int) < 256) ∧ ((0 : Int) ≤ 0 ∧ (0 : Int) < 256) ∧ ((0 : Int) ≤ 0 ∧ (0 : Int) < 256) ∧ ((0 : Int) ≤ 0 ∧ (0 : Int) < 256) ∧ ((0 : Int) ≤ 0 ∧ (0 : Int) < 256) ∧ ((0 : Int) ≤ 0 ∧ (0 : Int) < 256) ∧ ((0 : Int) ≤ 0 ∧ (0 : Int) < 256) ∧ ((0 : Int) ≤ 0 ∧ (0 : Int) < 256) ∧ ((0 : Int) ≤ 0 ∧ (0 : Int) < 256) ∧ ((0 : Int) ≤ 0 ∧ (0 : Int) < 256) ∧ ((0 : Int) ≤ 0 ∧ (0 : Int) < 256) ∧ ((0 : Int) ≤ 0 ∧ (0 : Int) < 256) ∧ ((0 : Int) ≤ 0 ∧ (0 : Int) < 256) ∧ ((0 : Int) ≤ 0 ∧ (0 : Int) < 256) ∧ ((0 : Int) ≤ 0 ∧ (0 : Int) < 256) ∧ ((0 : Int) ≤ 0 ∧ (0 : Int) < 256) ∧ ((0 : Int) ≤ 0 ∧ (0 : Int) < 256) ∧ ((0 : Int) ≤ 0 ∧ (0 : Int) < 256) ∧ ((0 : Int) ≤ 0 ∧ (0 : Int) < 256) ∧ ((0 : Int) ≤ 0 ∧ (0 : Int) < 256) ∧ ((0 : Int) ≤ 0 ∧ (0 : Int) < 256) ∧ ((0 : Int) ≤ 0 ∧ (0 : Int) < 256) ∧ ((0 : Int) ≤ 0 ∧ (0 : Int) < 256) ∧ ((0 : Int) ≤ 0 ∧ (0 : Int) < 256) ∧ ((0 : Int) ≤ 0 ∧ (0 : Int) < 256) ∧ ((0 : Int) ≤ 0 ∧ (0 : Int) < 256) ∧ ((0 : Int) ≤ 0 ∧ (0 : Int) < 256) ∧ ((0 : Int) ≤ 0 ∧ (0 : Int) < 256) ∧ ((0 : Int) ≤ 0 ∧ (0 : Int) < 256) ∧ ((0 : Int) ≤ 0 ∧ (0 : Int) < 256) ∧ ((0 : Int) ≤ 0 ∧ (0 : Int) < 256) ∧ ((0 : Int) ≤ 0 ∧ (0 : Int) < 256) ∧ ((0 : Int) ≤ 0 ∧ (0 : Int) < 256) ∧ ((0 : Int) ≤ 0 ∧ (0 : Int) < 256) ∧ ((0 : Int) ≤ 0 ∧ (0 : Int) < 256) ∧ ((0 : Int) ≤ 0 ∧ (0 : Int) < 256) ∧ ((0 : Int) ≤ 0 ∧ (0 : Int) < 256) ∧ ((0 : Int) ≤ 0 ∧ (0 : Int) < 256) ∧ ((0 : Int) ≤ 0 ∧ (0 : Int) < 256) ∧ ((0 : Int) ≤ 0 ∧ (0 : Int) < 256) ∧ ((0 : Int) ≤ 0 ∧ (0 : Int) < 256) ∧ ((0 : Int) ≤ 0 ∧ (0 : Int) < 256) ∧ ((0 : Int) ≤ 0 ∧ (0 : Int) < 256) ∧ ((0 : Int) ≤ 0 ∧ (0 : Int) < 256) ∧ ((0 : Int) ≤ 0 ∧ (0 : Int) < 256) ∧ ((0 : Int) ≤ 0 ∧ (0 : Int) < 256) ∧ ((0 : Int) ≤ 0 ∧ (0 : Int) < 256) ∧ ((0 : Int) ≤ 0 ∧ (0 : Int) < 256) ∧ ((0 : Int) ≤ 0 ∧ (0 : Int) < 256) ∧ ((0 : Int) ≤ 0 ∧ (0 : Int) < 256) ∧ ((0 : Int) ≤ 0 ∧ (0 : Int) < 256) ∧ ((0 : Int) ≤ 0 ∧ (0 : Int) < 256) ∧ ((0 : Int) ≤ 0 ∧ (0 : Int) < 256) ∧ ((0 : Int) ≤ 0 ∧ (0 : Int) < 256) ∧ ((0 : Int) ≤ 0 ∧ (0 : Int) < 256) ∧ ((0 : Int) ≤ 0 ∧ (0 : Int) < 256) ∧ ((0 : Int) ≤ 0 ∧ (0 : Int) < 256) ∧ ((0 : Int) ≤ 0 ∧ (0 : Int) < 256) ∧ ((0 : Int) ≤ 0 ∧ (0 : Int) < 256) ∧ ((0 : Int) ≤ 0 ∧ (0 : Int) < 256) ∧ ((0 : Int) ≤ 0 ∧ (0 : Int) < 256) ∧ ((0 : Int) ≤ 0 ∧ (0 : Int) < 256) ∧ ((0 : Int) ≤ 0 ∧ (0 : Int) < 256) ∧ ((0 : Int) ≤ 0 ∧ (0 : Int) < 256) ∧ ((0 : Int) ≤ 0 ∧ (0 : Int) < 256) ∧ ((0 : Int) ≤ 0 ∧ (0 : Int) < 256) ∧ ((0 : Int) ≤ 0 ∧ (0 : Int) < 256) ∧ ((0 : Int) ≤ 0 ∧ (0 : Int) < 256) ∧ ((0 : Int) ≤ 0 ∧ (0 : Int) < 256) ∧ ((0 : Int) ≤ 0 ∧ (0 : Int) < 256) ∧ ((0 : Int) ≤ 0 ∧ (0 : Int) < 256) ∧ ((0 : Int) ≤ 0 ∧ (0 : Int) < 256) ∧ ((0 : Int) ≤ 0 ∧ (0 : Int) < 256) ∧ ((0 : Int) ≤ 0 ∧ (0 : Int) < 256) ∧ ((0 : Int) ≤ 0 ∧ (0 : Int) < 256) ∧ True) ∧ (bootD p.d).Fine) (h := ?_)
       try any_goals (first | exact (c1.write hn _ _).fine | exact ((c1.write hn _ _).spoil _ _).fine | exact ((c1.write hn _ _).spoil _ _).flush.fine)
       refine To.R (k := 1) (h := ?_)
       try any_goals (first | exact (c1.write hn _ _).fine | exact ((c1.write hn _ _).spoil _ _).fine | exact ((c1.write hn _ _).spoil _ _).flush.fine)
       refine To.R (k := 5) (C := (((0 : Int) ≤ 0 ∧ (0 : Int) < 256) ∧ ((0 : Int) ≤ 0 ∧ (0 : Int) < 256) ∧ ((0 : Int) ≤ 0 ∧ (0 : Int) < 256) ∧ ((0 : Int) ≤ 0 ∧ (0 : Int) < 256) ∧ ((0 : Int) ≤ 0 ∧ (0 : Int) < 256) ∧ ((0 : Int) ≤ 0 ∧ (0 : Int) < 256) ∧ ((0 : Int) ≤ 0 ∧ (0 : Int) < 256) ∧ ((0 : Int) ≤ 0 ∧ (0 : Int) < 256) ∧ ((0 : Int) ≤ 0 ∧ (0 : Int) < 256) ∧ ((0 : Int) ≤ 0 ∧ (0 : Int) < 256) ∧ ((0 : Int) ≤ 0 ∧ (0 : Int) < 256) ∧ ((0 : Int) ≤ 0 ∧ (0 : Int) < 256) ∧ ((0 : Int) ≤ 0 ∧ (0 : Int) < 256) ∧ ((0 : Int) ≤ 0 ∧ (0 : Int) < 256) ∧ ((0 : Int) ≤ 0 ∧ (0 : Int) < 256) ∧ ((0 : Int) ≤ 0 ∧ (0 : Int) < 256) ∧ ((0 : Int) ≤ 0 ∧ (0 : Int) < 256) ∧ ((0 : Int) ≤ 0 ∧ (0 : Int) < 256) ∧ ((0 : Int) ≤ 0 ∧ (0 : Int) < 256) ∧ ((0 : Int) ≤ 0 ∧ (0 : Int) < 256) ∧ ((0 : Int) ≤ 0 ∧ (0 : Int) < 256) ∧ ((0 : Int) ≤ 0 ∧ (0 : Int) < 256) ∧ ((0 : Int) ≤ 0 ∧ (0 : Int) < 256) ∧ ((0 : Int) ≤ 0 ∧ (0 : Int) < 256) ∧ ((0 : Int) ≤ 0 ∧ (0 : Int) < 256) ∧ ((0 : Int) ≤ 0 ∧ (0 : Int) < 256) ∧ ((0 : Int) ≤ 0 ∧ (0 : Int) < 256) ∧ ((0 : Int) ≤ 0 ∧ (0 : Int) < 256) ∧ ((0 : Int) ≤ 0 ∧ (0 : Int) < 256) ∧ ((0 : Int) ≤ 0 ∧ (0 : Int) < 256) ∧ ((0 : Int) ≤ 0 ∧ (0 : Int) < 256) ∧ ((0 : Int) ≤ 0 ∧ (0 : Int) < 256) ∧ ((0 : Int) ≤ 0 ∧ (0 : Int) < 256) ∧ ((0 : Int) ≤ 0 ∧ (0 : Int) < 256) ∧ ((0 : Int) ≤ 0 ∧ (0 : Int) < 256) ∧ ((0 : Int) ≤ 0 ∧ (0 : Int) < 256) ∧ ((0 : Int) ≤ 0 ∧ (0 : Int) < 256) ∧ ((0 : Int) ≤ 0 ∧ (0 : Int) < 256) ∧ ((0 : Int) ≤ 0 ∧ (0 : Int) < 256) ∧ ((0 : Int) ≤ 0 ∧ (0 : Int) < 256) ∧ ((0 : Int) ≤ 0 ∧ (0 : Int) < 256) ∧ ((0 : Int) ≤ 0 ∧ (0 : Int) < 256) ∧ ((0 : Int) ≤ 0 ∧ (0 : Int) < 256) ∧ ((0 : Int) ≤ 0 ∧ (0 : Int) < 256) ∧ ((0 : Int) ≤ 0 ∧ (0 : Int) < 256) ∧ ((0 : Int) ≤ 0 ∧ (0 : Int) < 256) ∧ ((0 : Int) ≤ 0 ∧ (0 : Int) < 256) ∧ ((0 : Int) ≤ 0 ∧ (0 : Int) < 256) ∧ ((0 : Int) ≤ 0 ∧ (0 : Int) < 256) ∧ ((0 : Int) ≤ 0 ∧ (0 : Int) < 256) ∧ ((0 : Int) ≤ 0 ∧ (0 : Int) < 256) ∧ ((0 : Int) ≤ 0 ∧ (0 : Int) < 256) ∧ ((0 : Int) ≤ 0 ∧ (0 : Int) < 256) ∧ ((0 : Int) ≤ 0 ∧ (0 : Int) < 256) ∧ ((0 : Int) ≤ 0 ∧ (0 : Int) < 256) ∧ ((0 : Int) ≤ 0 ∧ (0 : Int) < 256) ∧ ((0 : Int) ≤ 0 ∧ (0 : Int) < 256) ∧ ((0 : Int) ≤ 0 ∧ (0 : Int) < 256) ∧ ((0 : Int) ≤ 0 ∧ (0 : Int) < 256) ∧ ((0 : Int) ≤ 0 ∧ (0 : Int) < 256) ∧ ((0 : Int) ≤ 0 ∧ (0 : Int) < 256) ∧ ((0 : Int) ≤ 0 ∧ (0 : Int) < 256) ∧ ((0 : Int) ≤ 0 ∧ (0 : Int) < 256) ∧ ((0 : Int) ≤ 0 ∧ (0 : Int) < 256) ∧ ((0 : Int) ≤ 0 ∧ (0 : Int) < 256) ∧ ((0 : Int) ≤ 0 ∧ (0 : Int) < 256) ∧ ((0 : Int) ≤ 0 ∧ (0 : Int) < 256) ∧ ((0 : Int) ≤ 0 ∧ (0 : Int) < 256) ∧ ((0 : Int) ≤ 0 ∧ (0 : Int) < 256) ∧ ((0 : Int) ≤ 0 ∧ (0 : Int) < 256) ∧ ((0 : Int) ≤ 0 ∧ (0 : Int) < 256) ∧ ((0 : Int) ≤ 0 ∧ (0 : Int) < 256) ∧ ((0 : Int) ≤ 0 ∧ (0 : Int) < 256) ∧ ((0 : Int) ≤ 0 ∧ (0 : Int) < 256) ∧ ((0 : Int) ≤ 0 ∧ (0 : Int) < 256) ∧ ((0 : Int) ≤ 0 ∧ (0 : Int) < 256) ∧ ((0 : Int) ≤ 0 ∧ (0 : Int) < 256) ∧ ((0 : Int) ≤ 0 ∧ (0 : Int) < 256) ∧ ((0 : Int) ≤ 0 ∧ (0 : Int) < 256) ∧ ((0 : Int) ≤ 0 ∧ (0 : Int) < 256) ∧ ((0 : Int) ≤ 0 ∧ (0 : Int) < 256) ∧ ((0 : Int) ≤ 0 ∧ (0 : Int) < 256) ∧ ((0 : Int) ≤ 0 ∧ (0 : Int) < 256) ∧ ((0 : Int) ≤ 0 ∧ (0 : Int) < 256) ∧ ((0 : Int) ≤ 0 ∧ (0 : Int) < 256) ∧ ((0 : Int) ≤ 0 ∧ (0 : Int) < 256) ∧ ((0 : Int) ≤ 0 ∧ (0 : Int) < 256) ∧ ((0 : Int) ≤ 0 ∧ (0 : Int) < 256) ∧ ((0 : Int) ≤ 0 ∧ (0 : Int) < 256) ∧ ((0 : Int) ≤ 0 ∧ (0 : Int) < 256) ∧ ((0 : Int) ≤ 0 ∧ (0 : Int) < 256) ∧ ((0 : Int) ≤ 0 ∧ (0 : Int) < 256) ∧ ((0 : Int) ≤ 0 ∧ (0 : Int) < 256) ∧ ((0 : Int) ≤ 0 ∧ (0 : Int) < 256) ∧ ((0 : Int) ≤ 0 ∧ (0 : Int) < 256) ∧ ((0 : Int) ≤ 0 ∧ (0 : Int) < 256) ∧ ((0 : Int) ≤ 0 ∧ (0 : Int) < 256) ∧ ((0 : Int) ≤ 0 ∧ (0 : Int) < 256) ∧ ((0 : Int) ≤ 0 ∧ (0 : Int) < 256) ∧ ((0 : Int) ≤ 0 ∧ (0 : Int) < 256) ∧ ((0 : Int) ≤ 0 ∧ (0 : Int) < 256) ∧ ((0 : Int) ≤ 0 ∧ (0 : Int) < 256) ∧ ((0 : Int) ≤ 0 ∧ (0 : Int) < 256) ∧ ((0 : Int) ≤ 0 ∧ (0 : Int) < 256) ∧ ((0 : Int) ≤ 0 ∧ (0 : Int) < 256) ∧ ((0 : Int) ≤ 0 ∧ (0 : Int) < 256) ∧ ((0 : Int) ≤ 0 ∧ (0 : Int) < 256) ∧ ((0 : Int) ≤ 0 ∧ (0 : Int) < 256) ∧ ((0 : Int) ≤ 0 ∧ (0 : Int) < 256) ∧ ((0 : Int) ≤ 0 ∧ (0 : Int) < 256) ∧ ((0 : Int) ≤ 0 ∧ (0 : Int) < 256) ∧ ((0 : Int) ≤ 0 ∧ (0 : Int) < 256) ∧ ((0 : Int) ≤ 0 ∧ (0 : Int) < 256) ∧ ((0 : Int) ≤ 0 ∧ (0 : Int) < 256) ∧ ((0 : Int) ≤ 0 ∧ (0 : Int) < 256) ∧ ((0 : Int) ≤ 0 ∧ (0 : Int) < 256) ∧ ((0 : Int) ≤ 0 ∧ (0 : Int) < 256) ∧ ((0 : Int) ≤ 0 ∧ (0 : Int) < 256) ∧ ((0 : Int) ≤ 0 ∧ (0 : Int) < 256) ∧ ((0 : Int) ≤ 0 ∧ (0 : Int) < 256) ∧ ((0 : Int) ≤ 0 ∧ (0 : Int) < 256) ∧ ((0 : Int) ≤ 0 ∧ (0 : Int) < 256) ∧ ((0 : Int) ≤ 0 ∧ (0 : Int) < 256) ∧ ((0 : Int) ≤ 0 ∧ (0 : Int) < 256) ∧ ((0 : Int) ≤ 0 ∧ (0 : Int) < 256) ∧ ((0 : Int) ≤ 0 ∧ (0 : Int) < 256) ∧ ((0 : Int) ≤ 0 ∧ (0 : Int) < 256) ∧ ((0 : Int) ≤ 0 ∧ (0 : Int) < 256) ∧ True) ∧ (writeD (bootD p.d) 0 [UInt8.ofNat 0, UInt8.ofNat 0, UInt8.ofNat 0, UInt8.ofNat 0, UInt8.ofNat 0, UInt8.ofNat 0, UInt8.ofNat 0, UInt8.ofNat 0, UInt8.ofNat 0, UInt8.ofNat 0, UInt8.ofNat 0, UInt8.ofNat 0, UInt8.ofNat 0, UInt8.ofNat 0, UInt8.ofNat 0, UInt8.ofNat 0, UInt8.ofNat 0, UInt8.ofNat 0, UInt8.ofNat 0, UInt8.ofNat 0, UInt8.ofNat 0, UInt8.ofNat 0, UInt8.ofNat 0, UInt8.ofNat 0, UInt8.ofNat 0, UInt8.ofNat 0, UInt8.ofNat 0, UInt8.ofNat 0, UInt8.ofNat 0, UInt8.ofNat 0, UInt8.ofNat 0, UInt8.ofNat 0, UInt8.ofNat 0, UInt8.ofNat 0, UInt8.ofNat 0, UInt8.ofNat 0, UInt8.ofNat 0, UInt8.ofNat 0, UInt8.ofNat 0, UInt8.ofNat 0, UInt8.ofNat 0, UInt8.ofNat 0, UInt8.ofNat 0, UInt8.ofNat 0, UInt8.ofNat 0, UInt8.ofNat 0, UInt8.ofNat 0, UInt8.ofNat 0, UInt8.ofNat 0, UInt8.ofNat 0, UInt8.ofNat 0, UInt8.ofNat 0, UInt8.ofNat 0, UInt8.ofNat 0, UInt8.ofNat 0, UInt8.ofNat 0, UInt8.ofNat 0, UInt8.ofNat 0, UInt8.ofNat 0, UInt8.ofNat 0, UInt8.ofNat 0, UInt8.ofNat 0, UInt8.ofNat 0, UInt8.ofNat 0, UInt8.ofNat 0, UInt8.ofNat 0, UInt8.ofNat 0, UInt8.ofNat 0, UInt8.ofNat 0, UInt8.ofNat 0, UInt8.ofNat 0, UInt8.ofNat 0, UInt8.ofNat 0, UInt8.ofNat 0, UInt8.ofNat 0, UInt8.ofNat 0, UInt8.ofNat 0, UInt8.ofNat 0, UInt8.ofNat 0, UInt8.ofNat 0, UInt8.ofNat 0, UInt8.ofNat 0, UInt8.ofNat 0, UInt8.ofNat 0, UInt8.ofNat 0, UInt8.ofNat 0, UInt8.ofNat 0, UInt8.ofNat 0, UInt8.ofNat 0, UInt8.ofNat 0, UInt8.ofNat 0, UInt8.ofNat 0, UInt8.ofNat 0, UInt8.ofNat 0, UInt8.ofNat 0, UInt8.ofNat 0, UInt8.ofNat 0, UInt8.ofNat 0, UInt8.ofNat 0, UInt8.ofNat 0, UInt8.ofNat 0, UInt8.ofNat 0, UInt8.ofNat 0, UInt8.ofNat 0, UInt8.ofNat 0, UInt8.ofNat 0, UInt8.ofNat 0, UInt8.ofNat 0, UInt8.ofNat 0, UInt8.ofNat 0, UInt8.ofNat 0, UInt8.ofNat 0, UInt8.ofNat 0, UInt8.ofNat 0, UInt8.ofNat 0, UInt8.ofNat 0, UInt8.ofNat 0, UInt8.ofNat 0, UInt8.ofNat 0, UInt8.ofNat 0, UInt8.ofNat 0, UInt8.ofNat 0, UInt8.ofNat 0, UInt8.ofNat 0, UInt8.ofNat 0, UInt8.ofNat 0, UInt8.ofNat 0, UInt8.ofNat 0]).fst.Fine) (hc := ?_) (h := ?_); (and_intros <;> try exact cl)
       try any_goals (first | exact (c1.write hn _ _).fine | exact ((c1.write hn _ _).spoil _ _).fine | exact ((c1.write hn _ _).spoil _ _).flush.fine)
       refine To.R (k := 1) (h := ?_)
       try any_goals (first | exact (c1.write hn _ _).fine | exact ((c1.write hn _ _).spoil _ _).fine | exact ((c1.write hn _ _).spoil _ _).flush.fine)
       refine To.R (k := 4) (C := (spoilD (writeD (bootD p.d) 0 [UInt8.ofNat 0, UInt8.ofNat 0, UInt8.ofNat 0, UInt8.ofNat 0, UInt8.ofNat 0, UInt8.ofNat 0, UInt8.ofNat 0, UInt8.ofNat 0, UInt8.ofNat 0, UInt8.ofNat 0, UInt8.ofNat 0, UInt8.ofNat 0, UInt8.ofNat 0, UInt8.ofNat 0, UInt8.ofNat 0, UInt8.ofNat 0, UInt8.ofNat 0, UInt8.ofNat 0, UInt8.ofNat 0, UInt8.ofNat 0, UInt8.ofNat 0, UInt8.ofNat 0, UInt8.ofNat 0, UInt8.ofNat 0, UInt8.ofNat 0, UInt8.ofNat 0, UInt8.ofNat 0, UInt8.ofNat 0, UInt8.ofNat 0, UInt8.ofNat 0, UInt8.ofNat 0, UInt8.ofNat 0, UInt8.ofNat 0, UInt8.ofNat 0, UInt8.ofNat 0, UInt8.ofNat 0, UInt8.ofNat 0, UInt8.ofNat 0, UInt8.ofNat 0, UInt8.ofNat 0, UInt8.ofNat 0, UInt8.ofNat 0, UInt8.ofNat 0, UInt8.ofNat 0, UInt8.ofNat 0, UInt8.ofNat 0, UInt8.ofNat 0, UInt8.ofNat 0, UInt8.ofNat 0, UInt8.ofNat 0, UInt8.ofNat 0, UInt8.ofNat 0, UInt8.ofNat 0, UInt8.ofNat 0, UInt8.ofNat 0, UInt8.ofNat 0, UInt8.ofNat 0, UInt8.ofNat 0, UInt8.ofNat 0, UInt8.ofNat 0, UInt8.ofNat 0, UInt8.ofNat 0, UInt8.ofNat 0, UInt8.ofNat 0, UInt8.ofNat 0, UInt8.ofNat 0, UInt8.ofNat 0, UInt8.ofNat 0, UInt8.ofNat 0, UInt8.ofNat 0, UInt8.ofNat 0, UInt8.ofNat 0, UInt8.ofNat 0, UInt8.ofNat 0, UInt8.ofNat 0, UInt8.ofNat 0, UInt8.ofNat 0, UInt8.ofNat 0, UInt8.ofNat 0, UInt8.ofNat 0, UInt8.ofNat 0, UInt8.ofNat 0, UInt8.ofNat 0, UInt8.ofNat 0, UInt8.ofNat 0, UInt8.ofNat 0, UInt8.ofNat 0, UInt8.ofNat 0, UInt8.ofNat 0, UInt8.ofNat 0, UInt8.ofNat 0, UInt8.ofNat 0, UInt8.ofNat 0, UInt8.ofNat 0, UInt8.ofNat 0, UInt8.ofNat 0, UInt8.ofNat 0, UInt8.ofNat 0, UInt8.ofNat 0, UInt8.ofNat 0, UInt8.ofNat 0, UInt8.ofNat 0, UInt8.ofNat 0, UInt8.ofNat 0, UInt8.ofNat 0, UInt8.ofNat 0, UInt8.ofNat 0, UInt8.ofNat 0, UInt8.ofNat 0, UInt8.ofNat 0, UInt8.ofNat 0, UInt8.ofNat 0, UInt8.ofNat 0, UInt8.ofNat 0, UInt8.ofNat 0, UInt8.ofNat 0, UInt8.ofNat 0, UInt8.ofNat 0, UInt8.ofNat 0, UInt8.ofNat 0, UInt8.ofNat 0, UInt8.ofNat 0, UInt8.ofNat 0, UInt8.ofNat 0, UInt8.ofNat 0, UInt8.ofNat 0, UInt8.ofNat 0, UInt8.ofNat 0]).fst 0 [UInt8.ofNat 0, UInt8.ofNat 0, UInt8.ofNat 0, UInt8.ofNat 0, UInt8.ofNat 0, UInt8.ofNat 0, UInt8.ofNat 0, UInt8.ofNat 0, UInt8.ofNat 0, UInt8.ofNat 0, UInt8.ofNat 0, UInt8.ofNat 0, UInt8.ofNat 0, UInt8.ofNat 0, UInt8.ofNat 0, UInt8.ofNat 0, UInt8.ofNat 0, UInt8.ofNat 0, UInt8.ofNat 0, UInt8.ofNat 0, UInt8.ofNat 0, UInt8.ofNat 0, UInt8.ofNat 0, UInt8.ofNat 0, UInt8.ofNat 0, UInt8.ofNat 0, UInt8.ofNat 0, UInt8.ofNat 0, UInt8.ofNat 0, UInt8.ofNat 0, UInt8.ofNat 0, UInt8.ofNat 0, UInt8.ofNat 0, UInt8.ofNat 0, UInt8.ofNat 0, UInt8.ofNat 0, UInt8.ofNat 0, UInt8.ofNat 0, UInt8.ofNat 0, UInt8.ofNat 0, UInt8.ofNat 0, UInt8.ofNat 0, UInt8.ofNat 0, UInt8.ofNat 0, UInt8.ofNat 0, UInt8.ofNat 0, UInt8.ofNat 0, UInt8.ofNat 0, UInt8.ofNat 0, UInt8.ofNat 0, UInt8.ofNat 0, UInt8.ofNat 0, UInt8.ofNat 0, UInt8.ofNat 0, UInt8.ofNat 0, UInt8.ofNat 0, UInt8.ofNat 0, UInt8.ofNat 0, UInt8.ofNat 0, UInt8.ofNat 0, UInt8.ofNat 0, UInt8.ofNat 0, UInt8.ofNat 0, UInt8.ofNat 0, UInt8.ofNat 0, UInt8.ofNat 0, UInt8.ofNat 0, UInt8.ofNat 0, UInt8.ofNat 0, UInt8.ofNat 0, UInt8.ofNat 0, UInt8.ofNat 0, UInt8.ofNat 0, UInt8.ofNat 0, UInt8.ofNat 0, UInt8.ofNat 0, UInt8.ofNat 0, UInt8.ofNat 0, UInt8.ofNat 0, UInt8.ofNat 0, UInt8.ofNat 0, UInt8.ofNat 0, UInt8.ofNat 0, UInt8.ofNat 0, UInt8.ofNat 0, UInt8.ofNat 0, UInt8.ofNat 0, UInt8.ofNat 0, UInt8.ofNat 0, UInt8.ofNat 0, UInt8.ofNat 0, UInt8.ofNat 0, UInt8.ofNat 0, UInt8.ofNat 0, UInt8.ofNat 0, UInt8.ofNat 0, UInt8.ofNat 0, UInt8.ofNat 0, UInt8.ofNat 0, UInt8.ofNat 0, UInt8.ofNat 0, UInt8.ofNat 0, UInt8.ofNat 0, UInt8.ofNat 0, UInt8.ofNat 0, UInt8.ofNat 0, UInt8.ofNat 0, UInt8.ofNat 0, UInt8.ofNat 0, UInt8.ofNat 0, UInt8.ofNat 0, UInt8.ofNat 0, UInt8.ofNat 0, UInt8.ofNat 0, UInt8.ofNat 0, UInt8.ofNat 0, UInt8.ofNat 0, UInt8.ofNat 0, UInt8.ofNat 0, UInt8.ofNat 0, UInt8.ofNat 0, UInt8.ofNat 0, UInt8.ofNat 0, UInt8.ofNat 0, UInt8.ofNat 0, UInt8.ofNat 0, UInt8.ofNat 0, UInt8.ofNat 0]).fst.Fine) (hc := ?_) (h := ?_); (and_intros <;> try exact cl)
       try any_goals (first | exact (c1.write hn _ _).fine | exact ((c1.write hn _ _).spoil _ _).fine | exact ((c1.write hn _ _).spoil _ _).flush.fine)
       refine To.R (k := 1) (h := ?_)
       try any_goals (first | exact (c1.write hn _ _).fine | exact ((c1.write hn _ _).spoil _ _).fine | exact ((c1.write hn _ _).spoil _ _).flush.fine)
       refine To.R (k := 5) (C := True ∧ ((fun d ↦ (flushD d).fst) (spoilD (writeD (bootD p.d) 0 [UInt8.ofNat 0, UInt8.ofNat 0, UInt8.ofNat 0, UInt8.ofNat 0, UInt8.ofNat 0, UInt8.ofNat 0, UInt8.ofNat 0, UInt8.ofNat 0, UInt8.ofNat 0, UInt8.ofNat 0, UInt8.ofNat 0, UInt8.ofNat 0, UInt8.ofNat 0, UInt8.ofNat 0, UInt8.ofNat 0, UInt8.ofNat 0, UInt8.ofNat 0, UInt8.ofNat 0, UInt8.ofNat 0, UInt8.ofNat 0, UInt8.ofNat 0, UInt8.ofNat 0, UInt8.ofNat 0, UInt8.ofNat 0, UInt8.ofNat 0, UInt8.ofNat 0, UInt8.ofNat 0, UInt8.ofNat 0, UInt8.ofNat 0, UInt8.ofNat 0, UInt8.ofNat 0, UInt8.ofNat 0, UInt8.ofNat 0, UInt8.ofNat 0, UInt8.ofNat 0, UInt8.ofNat 0, UInt8.ofNat 0, UInt8.ofNat 0, UInt8.ofNat 0, UInt8.ofNat 0, UInt8.ofNat 0, UInt8.ofNat 0, UInt8.ofNat 0, UInt8.ofNat 0, UInt8.ofNat 0, UInt8.ofNat 0, UInt8.ofNat 0, UInt8.ofNat 0, UInt8.ofNat 0, UInt8.ofNat 0, UInt8.ofNat 0, UInt8.ofNat 0, UInt8.ofNat 0, UInt8.ofNat 0, UInt8.ofNat 0, UInt8.ofNat 0, UInt8.ofNat 0, UInt8.ofNat 0, UInt8.ofNat 0, UInt8.ofNat 0, UInt8.ofNat 0, UInt8.ofNat 0, UInt8.ofNat 0, UInt8.ofNat 0, UInt8.ofNat 0, UInt8.ofNat 0, UInt8.ofNat 0, UInt8.ofNat 0, UInt8.ofNat 0, UInt8.ofNat 0, UInt8.ofNat 0, UInt8.ofNat 0, UInt8.ofNat 0, UInt8.ofNat 0, UInt8.ofNat 0, UInt8.ofNat 0, UInt8.ofNat 0, UInt8.ofNat 0, UInt8.ofNat 0, UInt8.ofNat 0, UInt8.ofNat 0, UInt8.ofNat 0, UInt8.ofNat 0, UInt8.ofNat 0, UInt8.ofNat 0, UInt8.ofNat 0, UInt8.ofNat 0, UInt8.ofNat 0, UInt8.ofNat 0, UInt8.ofNat 0, UInt8.ofNat 0, UInt8.ofNat 0, UInt8.ofNat 0, UInt8.ofNat 0, UInt8.ofNat 0, UInt8.ofNat 0, UInt8.ofNat 0, UInt8.ofNat 0, UInt8.ofNat 0, UInt8.ofNat 0, UInt8.ofNat 0, UInt8.ofNat 0, UInt8.ofNat 0, UInt8.ofNat 0, UInt8.ofNat 0, UInt8.ofNat 0, UInt8.ofNat 0, UInt8.ofNat 0, UInt8.ofNat 0, UInt8.ofNat 0, UInt8.ofNat 0, UInt8.ofNat 0, UInt8.ofNat 0, UInt8.ofNat 0, UInt8.ofNat 0, UInt8.ofNat 0, UInt8.ofNat 0, UInt8.ofNat 0, UInt8.ofNat 0, UInt8.ofNat 0, UInt8.ofNat 0, UInt8.ofNat 0, UInt8.ofNat 0, UInt8.ofNat 0, UInt8.ofNat 0, UInt8.ofNat 0, UInt8.ofNat 0, UInt8.ofNat 0]).fst 0 [UInt8.ofNat 0, UInt8.ofNat 0, UInt8.ofNat 0, UInt8.ofNat 0, UInt8.ofNat 0, UInt8.ofNat 0, UInt8.ofNat 0, UInt8.ofNat 0, UInt8.ofNat 0, UInt8.ofNat 0, UInt8.ofNat 0, UInt8.ofNat 0, UInt8.ofNat 0, UInt8.ofNat 0, UInt8.ofNat 0, UInt8.ofNat 0, UInt8.ofNat 0, UInt8.ofNat 0, UInt8.ofNat 0, UInt8.ofNat 0, UInt8.ofNat 0, UInt8.ofNat 0, UInt8.ofNat 0, UInt8.ofNat 0, UInt8.ofNat 0, UInt8.ofNat 0, UInt8.ofNat 0, UInt8.ofNat 0, UInt8.ofNat 0, UInt8.ofNat 0, UInt8.ofNat 0, UInt8.ofNat 0, UInt8.ofNat 0, UInt8.ofNat 0, UInt8.ofNat 0, UInt8.ofNat 0, UInt8.ofNat 0, UInt8.ofNat 0, UInt8.ofNat 0, UInt8.ofNat 0, UInt8.ofNat 0, UInt8.ofNat 0, UInt8.ofNat 0, UInt8.ofNat 0, UInt8.ofNat 0, UInt8.ofNat 0, UInt8.ofNat 0, UInt8.ofNat 0, UInt8.ofNat 0, UInt8.ofNat 0, UInt8.ofNat 0, UInt8.ofNat 0, UInt8.ofNat 0, UInt8.ofNat 0, UInt8.ofNat 0, UInt8.ofNat 0, UInt8.ofNat 0, UInt8.ofNat 0, UInt8.ofNat 0, UInt8.ofNat 0, UInt8.ofNat 0, UInt8.ofNat 0, UInt8.ofNat 0, UInt8.ofNat 0, UInt8.ofNat 0, UInt8.ofNat 0, UInt8.ofNat 0, UInt8.ofNat 0, UInt8.ofNat 0, UInt8.ofNat 0, UInt8.ofNat 0, UInt8.ofNat 0, UInt8.ofNat 0, UInt8.ofNat 0, UInt8.ofNat 0, UInt8.ofNat 0, UInt8.ofNat 0, UInt8.ofNat 0, UInt8.ofNat 0, UInt8.ofNat 0, UInt8.ofNat 0, UInt8.ofNat 0, UInt8.ofNat 0, UInt8.ofNat 0, UInt8.ofNat 0, UInt8.ofNat 0, UInt8.ofNat 0, UInt8.ofNat 0, UInt8.ofNat 0, UInt8.ofNat 0, UInt8.ofNat 0, UInt8.ofNat 0, UInt8.ofNat 0, UInt8.ofNat 0, UInt8.ofNat 0, UInt8.ofNat 0, UInt8.ofNat 0, UInt8.ofNat 0, UInt8.ofNat 0, UInt8.ofNat 0, UInt8.ofNat 0, UInt8.ofNat 0, UInt8.ofNat 0, UInt8.ofNat 0, UInt8.ofNat 0, UInt8.ofNat 0, UInt8.ofNat 0, UInt8.ofNat 0, UInt8.ofNat 0, UInt8.ofNat 0, UInt8.ofNat 0, UInt8.ofNat 0, UInt8.ofNat 0, UInt8.ofNat 0, UInt8.ofNat 0, UInt8.ofNat 0, UInt8.ofNat 0, UInt8.ofNat 0, UInt8.ofNat 0, UInt8.ofNat 0, UInt8.ofNat 0, UInt8.ofNat 0, UInt8.ofNat 0, UInt8.ofNat 0, UInt8.ofNat 0, UInt8.ofNat 0, UInt8.ofNat 0, UInt8.ofNat 0]).fst).Fine ∧ 0 ≤ 1000000 ∧ fits IntKind.i64 0) (hc := ?_) (h := ?_); (and_intros <;> try exact cl)
       try any_goals (first | exact (c1.write hn _ _).fine | exact ((c1.write hn _ _).spoil _ _).fine | exact ((c1.write hn _ _).spoil _ _).flush.fine)
       refine To.R (k := 4) (h := ?_)
       try any_goals (first | exact (c1.write hn _ _).fine | exact ((c1.write hn _ _).spoil _ _).fine | exact ((c1.write hn _ _).spoil _ _).flush.fine)
       have hZ : p.d.In (2 * (p.i + 1)) := hin.more (by omega) (by omega)
       have hZG : GoesW p.d p.x := hg
       refine To.R (k := 1) (h := ?_)
       refine To.L (L := [LN.old 0, LN.old 1, LN.old 2, LN.old 3, LN.old 4, LN.old 7, LN.old 9, LN.old 11]) (kp := [12, 10, 8, 5, 1, 0]) (ks := [[60, 56, 55, 51, 50, 7, 1]]) (C := Same (Ob.disk p.d) ∧ (Same 58 ∧ (none : Option Nat) = none ∧ (Same 2 ∧ Same p.x.n) ∧ (Same 3 ∧ Same p.x.n) ∧ (Same IntKind.i64 ∧ Same p.x.w) ∧ (Same 1 ∧ Same p.x.kn ∧ (∀ (r : Nat), r < p.x.kn → p.x.kf r = p.x.kf r)) ∧ (Same IntKind.i64 ∧ Same p.x.torn) ∧ (Same IntKind.i64 ∧ Same p.x.at_) ∧ (Same IntKind.i64 ∧ Same p.x.many) ∧ Same p.x.down ∧ True) ∧ (Same 36 ∧ Same 1 ∧ Same p.x.n ∧ (∀ (r : Nat), r < p.x.n → p.x.sf r = p.x.sf r)) ∧ Same 36 ∧ Same 1 ∧ Same p.x.n ∧ (∀ (r : Nat), r < p.x.n → p.x.cf r = p.x.cf r)) (st := fun (a : DtP) => (⟨(⟨16, 236, (slotT 236 [(0, AV.ptr 7 0), (1, AV.ptr 1 0), (5, AV.ptr 4 0), (8, AV.ow 5 ((l.getD p.i default).b.length + 1)), (10, AV.ow 6 (l.getD p.i default).c.keep.length), (12, AV.v (Value.bool true))]), ARg.no, [(AItem.code (subC (bodyC Try.prog 16) [1, 1, 1, 1, 1, 1, 1, 1]))], [], false, none, 8⟩ : AFr), [(⟨4, 104, (slotT 104 [(1, AV.im 7 l.length (opsF l)), (7, AV.ptr 1 0), (50, AV.sy (Value.int IntKind.i64 l.length)), (51, AV.sy (Value.int IntKind.i64 p.i)), (55, AV.ptr 0 0), (56, AV.ptr 1 0), (60, AV.agg [AV.sy (Value.int IntKind.i64 (l.getD p.i default).kind), AV.sy (Value.int IntKind.i64 (l.getD p.i default).at_), AV.by8 (l.getD p.i default).b, AV.sy (Value.int IntKind.i64 (l.getD p.i default).c.w), AV.im 1 (l.getD p.i default).c.keep.length (intsF (l.getD p.i default).c.keep), AV.sy (Value.int IntKind.i64 (l.getD p.i default).c.torn), AV.sy (Value.int IntKind.i64 (l.getD p.i default).c.at_)])]), (plC (subC (bodyC Try.prog 4) [1, 1, 1, 1, 1, 1, 0, 1, 0, 0, 1, 1, 0, 0, 1, 0]) 6), [(AItem.code (subC (bodyC Try.prog 4) [1, 1, 1, 1, 1, 1, 0, 1, 0, 0, 1, 1, 0, 0, 1, 1])), (AItem.inBlock 1), (AItem.code (subC (bodyC Try.prog 4) [1, 1, 1, 1, 1, 1, 0, 1, 0, 0, 1, 1, 1])), (AItem.inLoop (subC (bodyC Try.prog 4) [1, 1, 1, 1, 1, 1, 0, 1, 0, 0])), (AItem.inBlock 0), (AItem.code (subC (bodyC Try.prog 4) [1, 1, 1, 1, 1, 1, 1]))], [], false, none, 0⟩ : AFr)], memF [AB.obj (Ob.disk (downD (flushD (spoilD (writeD (bootD p.d) 0 [UInt8.ofNat 0, UInt8.ofNat 0, UInt8.ofNat 0, UInt8.ofNat 0, UInt8.ofNat 0, UInt8.ofNat 0, UInt8.ofNat 0, UInt8.ofNat 0, UInt8.ofNat 0, UInt8.ofNat 0, UInt8.ofNat 0, UInt8.ofNat 0, UInt8.ofNat 0, UInt8.ofNat 0, UInt8.ofNat 0, UInt8.ofNat 0, UInt8.ofNat 0, UInt8.ofNat 0, UInt8.ofNat 0, UInt8.ofNat 0, UInt8.ofNat 0, UInt8.ofNat 0, UInt8.ofNat 0, UInt8.ofNat 0, UInt8.ofNat 0, UInt8.ofNat 0, UInt8.ofNat 0, UInt8.ofNat 0, UInt8.ofNat 0, UInt8.ofNat 0, UInt8.ofNat 0, UInt8.ofNat 0, UInt8.ofNat 0, UInt8.ofNat 0, UInt8.ofNat 0, UInt8.ofNat 0, UInt8.ofNat 0, UInt8.ofNat 0, UInt8.ofNat 0, UInt8.ofNat 0, UInt8.ofNat 0, UInt8.ofNat 0, UInt8.ofNat 0, UInt8.ofNat 0, UInt8.ofNat 0, UInt8.ofNat 0, UInt8.ofNat 0, UInt8.ofNat 0, UInt8.ofNat 0, UInt8.ofNat 0, UInt8.ofNat 0, UInt8.ofNat 0, UInt8.ofNat 0, UInt8.ofNat 0, UInt8.ofNat 0, UInt8.ofNat 0, UInt8.ofNat 0, UInt8.ofNat 0, UInt8.ofNat 0, UInt8.ofNat 0, UInt8.ofNat 0, UInt8.ofNat 0, UInt8.ofNat 0, UInt8.ofNat 0, UInt8.ofNat 0, UInt8.ofNat 0, UInt8.ofNat 0, UInt8.ofNat 0, UInt8.ofNat 0, UInt8.ofNat 0, UInt8.ofNat 0, UInt8.ofNat 0, UInt8.ofNat 0, UInt8.ofNat 0, UInt8.ofNat 0, UInt8.ofNat 0, UInt8.ofNat 0, UInt8.ofNat 0, UInt8.ofNat 0, UInt8.ofNat 0, UInt8.ofNat 0, UInt8.ofNat 0, UInt8.ofNat 0, UInt8.ofNat 0, UInt8.ofNat 0, UInt8.ofNat 0, UInt8.ofNat 0, UInt8.ofNat 0, UInt8.ofNat 0, UInt8.ofNat 0, UInt8.ofNat 0, UInt8.ofNat 0, UInt8.ofNat 0, UInt8.ofNat 0, UInt8.ofNat 0, UInt8.ofNat 0, UInt8.ofNat 0, UInt8.ofNat 0, UInt8.ofNat 0, UInt8.ofNat 0, UInt8.ofNat 0, UInt8.ofNat 0, UInt8.ofNat 0, UInt8.ofNat 0, UInt8.ofNat 0, UInt8.ofNat 0, UInt8.ofNat 0, UInt8.ofNat 0, UInt8.ofNat 0, UInt8.ofNat 0, UInt8.ofNat 0, UInt8.ofNat 0, UInt8.ofNat 0, UInt8.ofNat 0, UInt8.ofNat 0, UInt8.ofNat 0, UInt8.ofNat 0, UInt8.ofNat 0, UInt8.ofNat 0, UInt8.ofNat 0, UInt8.ofNat 0, UInt8.ofNat 0, UInt8.ofNat 0, UInt8.ofNat 0, UInt8.ofNat 0, UInt8.ofNat 0, UInt8.ofNat 0, UInt8.ofNat 0]).fst 0 [UInt8.ofNat 0, UInt8.ofNat 0, UInt8.ofNat 0, UInt8.ofNat 0, UInt8.ofNat 0, UInt8.ofNat 0, UInt8.ofNat 0, UInt8.ofNat 0, UInt8.ofNat 0, UInt8.ofNat 0, UInt8.ofNat 0, UInt8.ofNat 0, UInt8.ofNat 0, UInt8.ofNat 0, UInt8.ofNat 0, UInt8.ofNat 0, UInt8.ofNat 0, UInt8.ofNat 0, UInt8.ofNat 0, UInt8.ofNat 0, UInt8.ofNat 0, UInt8.ofNat 0, UInt8.ofNat 0, UInt8.ofNat 0, UInt8.ofNat 0, UInt8.ofNat 0, UInt8.ofNat 0, UInt8.ofNat 0, UInt8.ofNat 0, UInt8.ofNat 0, UInt8.ofNat 0, UInt8.ofNat 0, UInt8.ofNat 0, UInt8.ofNat 0, UInt8.ofNat 0, UInt8.ofNat 0, UInt8.ofNat 0, UInt8.ofNat 0, UInt8.ofNat 0, UInt8.ofNat 0, UInt8.ofNat 0, UInt8.ofNat 0, UInt8.ofNat 0, UInt8.ofNat 0, UInt8.ofNat 0, UInt8.ofNat 0, UInt8.ofNat 0, UInt8.ofNat 0, UInt8.ofNat 0, UInt8.ofNat 0, UInt8.ofNat 0, UInt8.ofNat 0, UInt8.ofNat 0, UInt8.ofNat 0, UInt8.ofNat 0, UInt8.ofNat 0, UInt8.ofNat 0, UInt8.ofNat 0, UInt8.ofNat 0, UInt8.ofNat 0, UInt8.ofNat 0, UInt8.ofNat 0, UInt8.ofNat 0, UInt8.ofNat 0, UInt8.ofNat 0, UInt8.ofNat 0, UInt8.ofNat 0, UInt8.ofNat 0, UInt8.ofNat 0, UInt8.ofNat 0, UInt8.ofNat 0, UInt8.ofNat 0, UInt8.ofNat 0, UInt8.ofNat 0, UInt8.ofNat 0, UInt8.ofNat 0, UInt8.ofNat 0, UInt8.ofNat 0, UInt8.ofNat 0, UInt8.ofNat 0, UInt8.ofNat 0, UInt8.ofNat 0, UInt8.ofNat 0, UInt8.ofNat 0, UInt8.ofNat 0, UInt8.ofNat 0, UInt8.ofNat 0, UInt8.ofNat 0, UInt8.ofNat 0, UInt8.ofNat 0, UInt8.ofNat 0, UInt8.ofNat 0, UInt8.ofNat 0, UInt8.ofNat 0, UInt8.ofNat 0, UInt8.ofNat 0, UInt8.ofNat 0, UInt8.ofNat 0, UInt8.ofNat 0, UInt8.ofNat 0, UInt8.ofNat 0, UInt8.ofNat 0, UInt8.ofNat 0, UInt8.ofNat 0, UInt8.ofNat 0, UInt8.ofNat 0, UInt8.ofNat 0, UInt8.ofNat 0, UInt8.ofNat 0, UInt8.ofNat 0, UInt8.ofNat 0, UInt8.ofNat 0, UInt8.ofNat 0, UInt8.ofNat 0, UInt8.ofNat 0, UInt8.ofNat 0, UInt8.ofNat 0, UInt8.ofNat 0, UInt8.ofNat 0, UInt8.ofNat 0, UInt8.ofNat 0, UInt8.ofNat 0, UInt8.ofNat 0, UInt8.ofNat 0, UInt8.ofNat 0, UInt8.ofNat 0, UInt8.ofNat 0, UInt8.ofNat 0]).fst).fst (CrashD.mk 0 [] 0 0)).fst), AB.mem 58 none [AV.ow 2 a.x.n, AV.ow 3 a.x.n, AV.sy (Value.int IntKind.i64 a.x.w), AV.im 1 a.x.kn a.x.kf, AV.sy (Value.int IntKind.i64 a.x.torn), AV.sy (Value.int IntKind.i64 a.x.at_), AV.sy (Value.int IntKind.i64 a.x.many), AV.sy (Value.bool a.x.down)], AB.rw 36 1 a.x.n a.x.sf, AB.rw 36 1 a.x.n a.x.cf, AB.mem 54 none [AV.sy (Value.int IntKind.i64 (l.getD p.i default).kind), AV.sy (Value.int IntKind.i64 (l.getD p.i default).at_), AV.by8 (l.getD p.i default).b, AV.sy (Value.int IntKind.i64 (l.getD p.i default).c.w), AV.im 1 (l.getD p.i default).c.keep.length (intsF (l.getD p.i default).c.keep), AV.sy (Value.int IntKind.i64 (l.getD p.i default).c.torn), AV.sy (Value.int IntKind.i64 (l.getD p.i default).c.at_)], AB.bb 5 ((l.getD p.i default).b ++ List.take 1 [UInt8.ofNat 7]), AB.rw 3 1 (l.getD p.i default).c.keep.length (intsF (l.getD p.i default).c.keep), AB.obj (Ob.disk a.d)] 0 Tr.e, 8⟩ : ASt)) (h := ?_) (fun (_ : DtP) => []) (fun z => [(7, .obj (.disk z.d)), (1, .mem 58 none [.ow 2 z.x.n, .ow 3 z.x.n, ivA z.x.w, .im 1 z.x.kn z.x.kf, ivA z.x.torn, ivA z.x.at_, ivA z.x.many, .sy (.bool z.x.down)]), (2, .rw 36 1 z.x.n z.x.sf), (3, .rw 36 1 z.x.n z.x.cf)]) (fun z => z.d.In (2 * (p.i + 1)) ∧ GoesW z.d z.x) (fun _ => 0) (DtP.mk (p.d) (p.x))
       all_goals first | exact ⟨hZ, hZG⟩ | (and_intros <;> first | exact trivial | exact rfl | exact fun _ _ => rfl) | skip
       intro z ⟨hZ, hZG⟩ _
       have hT1 : (l.getD p.i default).b.length + 1 ≤ ((l.getD p.i default).b ++ List.take 1 [UInt8.ofNat 7]).length := by simp
       have hT3 : (List.take 1 [UInt8.ofNat 7]).length = 1 := rfl
       have hzF := hZ.fine
       have hzX := hZG.ok
       have hT2 : (str (l.getD p.i default).b).size + 1 ≤ 1000000000 := by
         have : (str (l.getD p.i default).b).size = (l.getD p.i default).b.length := by simp [str, ByteArray.size]
         omega
       refine To.R (C := (l.getD p.i default).b.length + 1 ≤ ((l.getD p.i default).b ++ List.take 1 [UInt8.ofNat 7]).length ∧ True ∧ (str (l.getD p.i default).b).size + 1 ≤ 1000000000) (h := ?_)
       refine To.Yd ((str (List.take ((l.getD p.i default).b.length + 1) ((l.getD p.i default).b ++ List.take 1 [UInt8.ofNat 7]))).data.toList = (str ((str (l.getD p.i default).b).data.toList ++ (ByteArray.mk #[7]).data.toList)).data.toList) (hp := ?_) (h := ?_)
       · exact own_str _
       refine To.R (h := ?_)
       refine To.Yd (numsF (l.getD p.i default).c.keep.length (intsF (l.getD p.i default).c.keep) = numsF (l.getD p.i default).c.keep.length (intsF (l.getD p.i default).c.keep)) (C := (Same (l.getD p.i default).c.keep.length ∧ (∀ (r : Nat), r < (l.getD p.i default).c.keep.length → intsF (l.getD p.i default).c.keep r = intsF (numsF (l.getD p.i default).c.keep.length (intsF (l.getD p.i default).c.keep)) r)) ∧ (∀ (r : Nat), r < (l.getD p.i default).c.keep.length → intsF (l.getD p.i default).c.keep r = intsF (numsF (l.getD p.i default).c.keep.length (intsF (l.getD p.i default).c.keep)) r) ∧ (numsF (l.getD p.i default).c.keep.length (intsF (l.getD p.i default).c.keep)).length ≤ 1000000) (h := ?_)
       refine To.R (k := 12) (h := ?_)
       refine To.L (L := [LN.old 0, LN.old 1, LN.old 2, LN.old 3, LN.old 5, LN.old 6, LN.old 7]) (kp := [182, 181, 12, 10, 8, 1, 0]) (ks := [[60, 56, 55, 51, 50, 7, 1]]) (C := (Same IntKind.i64 ∧ (0 : Int) = (↑(0 : Nat) : Int)) ∧ 5 = 5 ∧ (l.getD p.i default).b ++ List.take 1 [UInt8.ofNat 7] = (l.getD p.i default).b ++ List.take 1 [UInt8.ofNat 7]) (st := fun (a : OwP) => (⟨(⟨16, 236, (slotT 236 [(0, AV.ptr 6 0), (1, AV.ptr 1 0), (8, AV.ow 4 ((l.getD p.i default).b.length + 1)), (10, AV.ow 5 (l.getD p.i default).c.keep.length), (12, AV.v (Value.bool true)), (181, AV.sy (Value.int IntKind.i64 (↑((l.getD p.i default).b.length + 1) : Int))), (182, AV.sy (Value.int IntKind.i64 a.k))]), ARg.no, [(AItem.code (subC (bodyC Try.prog 16) [1, 1, 1, 1, 1, 1, 1, 1, 1, 0, 1, 0, 0])), (AItem.inLoop (subC (bodyC Try.prog 16) [1, 1, 1, 1, 1, 1, 1, 1, 1, 0, 1, 0, 0])), (AItem.inBlock 3), (AItem.code (subC (bodyC Try.prog 16) [1, 1, 1, 1, 1, 1, 1, 1, 1, 1]))], [], false, none, 7⟩ : AFr), [(⟨4, 104, (slotT 104 [(1, AV.im 7 l.length (opsF l)), (7, AV.ptr 1 0), (50, AV.sy (Value.int IntKind.i64 l.length)), (51, AV.sy (Value.int IntKind.i64 p.i)), (55, AV.ptr 0 0), (56, AV.ptr 1 0), (60, AV.agg [AV.sy (Value.int IntKind.i64 (l.getD p.i default).kind), AV.sy (Value.int IntKind.i64 (l.getD p.i default).at_), AV.by8 (l.getD p.i default).b, AV.sy (Value.int IntKind.i64 (l.getD p.i default).c.w), AV.im 1 (l.getD p.i default).c.keep.length (intsF (l.getD p.i default).c.keep), AV.sy (Value.int IntKind.i64 (l.getD p.i default).c.torn), AV.sy (Value.int IntKind.i64 (l.getD p.i default).c.at_)])]), (plC (subC (bodyC Try.prog 4) [1, 1, 1, 1, 1, 1, 0, 1, 0, 0, 1, 1, 0, 0, 1, 0]) 6), [(AItem.code (subC (bodyC Try.prog 4) [1, 1, 1, 1, 1, 1, 0, 1, 0, 0, 1, 1, 0, 0, 1, 1])), (AItem.inBlock 1), (AItem.code (subC (bodyC Try.prog 4) [1, 1, 1, 1, 1, 1, 0, 1, 0, 0, 1, 1, 1])), (AItem.inLoop (subC (bodyC Try.prog 4) [1, 1, 1, 1, 1, 1, 0, 1, 0, 0])), (AItem.inBlock 0), (AItem.code (subC (bodyC Try.prog 4) [1, 1, 1, 1, 1, 1, 1]))], [], false, none, 0⟩ : AFr)], memF [AB.obj (Ob.disk (downD (flushD (spoilD (writeD (bootD p.d) 0 [UInt8.ofNat 0, UInt8.ofNat 0, UInt8.ofNat 0, UInt8.ofNat 0, UInt8.ofNat 0, UInt8.ofNat 0, UInt8.ofNat 0, UInt8.ofNat 0, UInt8.ofNat 0, UInt8.ofNat 0, UInt8.ofNat 0, UInt8.ofNat 0, UInt8.ofNat 0, UInt8.ofNat 0, UInt8.ofNat 0, UInt8.ofNat 0, UInt8.ofNat 0, UInt8.ofNat 0, UInt8.ofNat 0, UInt8.ofNat 0, UInt8.ofNat 0, UInt8.ofNat 0, UInt8.ofNat 0, UInt8.ofNat 0, UInt8.ofNat 0, UInt8.ofNat 0, UInt8.ofNat 0, UInt8.ofNat 0, UInt8.ofNat 0, UInt8.ofNat 0, UInt8.ofNat 0, UInt8.ofNat 0, UInt8.ofNat 0, UInt8.ofNat 0, UInt8.ofNat 0, UInt8.ofNat 0, UInt8.ofNat 0, UInt8.ofNat 0, UInt8.ofNat 0, UInt8.ofNat 0, UInt8.ofNat 0, UInt8.ofNat 0, UInt8.ofNat 0, UInt8.ofNat 0, UInt8.ofNat 0, UInt8.ofNat 0, UInt8.ofNat 0, UInt8.ofNat 0, UInt8.ofNat 0, UInt8.ofNat 0, UInt8.ofNat 0, UInt8.ofNat 0, UInt8.ofNat 0, UInt8.ofNat 0, UInt8.ofNat 0, UInt8.ofNat 0, UInt8.ofNat 0, UInt8.ofNat 0, UInt8.ofNat 0, UInt8.ofNat 0, UInt8.ofNat 0, UInt8.ofNat 0, UInt8.ofNat 0, UInt8.ofNat 0, UInt8.ofNat 0, UInt8.ofNat 0, UInt8.ofNat 0, UInt8.ofNat 0, UInt8.ofNat 0, UInt8.ofNat 0, UInt8.ofNat 0, UInt8.ofNat 0, UInt8.ofNat 0, UInt8.ofNat 0, UInt8.ofNat 0, UInt8.ofNat 0, UInt8.ofNat 0, UInt8.ofNat 0, UInt8.ofNat 0, UInt8.ofNat 0, UInt8.ofNat 0, UInt8.ofNat 0, UInt8.ofNat 0, UInt8.ofNat 0, UInt8.ofNat 0, UInt8.ofNat 0, UInt8.ofNat 0, UInt8.ofNat 0, UInt8.ofNat 0, UInt8.ofNat 0, UInt8.ofNat 0, UInt8.ofNat 0, UInt8.ofNat 0, UInt8.ofNat 0, UInt8.ofNat 0, UInt8.ofNat 0, UInt8.ofNat 0, UInt8.ofNat 0, UInt8.ofNat 0, UInt8.ofNat 0, UInt8.ofNat 0, UInt8.ofNat 0, UInt8.ofNat 0, UInt8.ofNat 0, UInt8.ofNat 0, UInt8.ofNat 0, UInt8.ofNat 0, UInt8.ofNat 0, UInt8.ofNat 0, UInt8.ofNat 0, UInt8.ofNat 0, UInt8.ofNat 0, UInt8.ofNat 0, UInt8.ofNat 0, UInt8.ofNat 0, UInt8.ofNat 0, UInt8.ofNat 0, UInt8.ofNat 0, UInt8.ofNat 0, UInt8.ofNat 0, UInt8.ofNat 0, UInt8.ofNat 0, UInt8.ofNat 0, UInt8.ofNat 0, UInt8.ofNat 0, UInt8.ofNat 0, UInt8.ofNat 0, UInt8.ofNat 0]).fst 0 [UInt8.ofNat 0, UInt8.ofNat 0, UInt8.ofNat 0, UInt8.ofNat 0, UInt8.ofNat 0, UInt8.ofNat 0, UInt8.ofNat 0, UInt8.ofNat 0, UInt8.ofNat 0, UInt8.ofNat 0, UInt8.ofNat 0, UInt8.ofNat 0, UInt8.ofNat 0, UInt8.ofNat 0, UInt8.ofNat 0, UInt8.ofNat 0, UInt8.ofNat 0, UInt8.ofNat 0, UInt8.ofNat 0, UInt8.ofNat 0, UInt8.ofNat 0, UInt8.ofNat 0, UInt8.ofNat 0, UInt8.ofNat 0, UInt8.ofNat 0, UInt8.ofNat 0, UInt8.ofNat 0, UInt8.ofNat 0, UInt8.ofNat 0, UInt8.ofNat 0, UInt8.ofNat 0, UInt8.ofNat 0, UInt8.ofNat 0, UInt8.ofNat 0, UInt8.ofNat 0, UInt8.ofNat 0, UInt8.ofNat 0, UInt8.ofNat 0, UInt8.ofNat 0, UInt8.ofNat 0, UInt8.ofNat 0, UInt8.ofNat 0, UInt8.ofNat 0, UInt8.ofNat 0, UInt8.ofNat 0, UInt8.ofNat 0, UInt8.ofNat 0, UInt8.ofNat 0, UInt8.ofNat 0, UInt8.ofNat 0, UInt8.ofNat 0, UInt8.ofNat 0, UInt8.ofNat 0, UInt8.ofNat 0, UInt8.ofNat 0, UInt8.ofNat 0, UInt8.ofNat 0, UInt8.ofNat 0, UInt8.ofNat 0, UInt8.ofNat 0, UInt8.ofNat 0, UInt8.ofNat 0, UInt8.ofNat 0, UInt8.ofNat 0, UInt8.ofNat 0, UInt8.ofNat 0, UInt8.ofNat 0, UInt8.ofNat 0, UInt8.ofNat 0, UInt8.ofNat 0, UInt8.ofNat 0, UInt8.ofNat 0, UInt8.ofNat 0, UInt8.ofNat 0, UInt8.ofNat 0, UInt8.ofNat 0, UInt8.ofNat 0, UInt8.ofNat 0, UInt8.ofNat 0, UInt8.ofNat 0, UInt8.ofNat 0, UInt8.ofNat 0, UInt8.ofNat 0, UInt8.ofNat 0, UInt8.ofNat 0, UInt8.ofNat 0, UInt8.ofNat 0, UInt8.ofNat 0, UInt8.ofNat 0, UInt8.ofNat 0, UInt8.ofNat 0, UInt8.ofNat 0, UInt8.ofNat 0, UInt8.ofNat 0, UInt8.ofNat 0, UInt8.ofNat 0, UInt8.ofNat 0, UInt8.ofNat 0, UInt8.ofNat 0, UInt8.ofNat 0, UInt8.ofNat 0, UInt8.ofNat 0, UInt8.ofNat 0, UInt8.ofNat 0, UInt8.ofNat 0, UInt8.ofNat 0, UInt8.ofNat 0, UInt8.ofNat 0, UInt8.ofNat 0, UInt8.ofNat 0, UInt8.ofNat 0, UInt8.ofNat 0, UInt8.ofNat 0, UInt8.ofNat 0, UInt8.ofNat 0, UInt8.ofNat 0, UInt8.ofNat 0, UInt8.ofNat 0, UInt8.ofNat 0, UInt8.ofNat 0, UInt8.ofNat 0, UInt8.ofNat 0, UInt8.ofNat 0, UInt8.ofNat 0, UInt8.ofNat 0, UInt8.ofNat 0, UInt8.ofNat 0, UInt8.ofNat 0]).fst).fst (CrashD.mk 0 [] 0 0)).fst), AB.mem 58 none [AV.ow 2 z.x.n, AV.ow 3 z.x.n, AV.sy (Value.int IntKind.i64 z.x.w), AV.im 1 z.x.kn z.x.kf, AV.sy (Value.int IntKind.i64 z.x.torn), AV.sy (Value.int IntKind.i64 z.x.at_), AV.sy (Value.int IntKind.i64 z.x.many), AV.sy (Value.bool z.x.down)], AB.rw 36 1 z.x.n z.x.sf, AB.rw 36 1 z.x.n z.x.cf, AB.bb 5 a.bs, AB.rw 3 1 (l.getD p.i default).c.keep.length (intsF (l.getD p.i default).c.keep), AB.obj (Ob.disk z.d)] 0 Tr.e, 7⟩ : ASt)) (hI := ?_) (h := ?_) (fun (e : OwP) => [(182, ivA (e.k : Int))]) (fun e => [(4, .bb 5 e.bs)]) (fun e => e.k ≤ (l.getD p.i default).b.length + 1 ∧ e.bs.length = (l.getD p.i default).b.length + 1) (fun e => (l.getD p.i default).b.length + 1 - e.k) (OwP.mk 0 ((l.getD p.i default).b ++ List.take 1 [UInt8.ofNat 7]))
       all_goals first | exact ⟨Nat.zero_le _, by simp⟩ | skip
       intro e ⟨j1, j2⟩ ihe
       refine To.R (h := ?_)
       refine To.Bd ((↑e.k : Int) < (↑((l.getD p.i default).b.length + 1) : Int)) (h := ?_) (g := ?_)
       · intro j3
         have j4 : e.k + 1 ≤ (l.getD p.i default).b.length + 1 := by omega
         have j5 : (l.getD p.i default).b.length + 1 - (e.k + 1) < (l.getD p.i default).b.length + 1 - e.k := by omega
         have j6 : (e.bs.set e.k (UInt8.ofNat 99)).length = (l.getD p.i default).b.length + 1 := by rw [List.length_set]; exact j2
         refine To.R (k := 23) (C := ((0 : Int) ≤ e.k ∧ (↑e.k : Int) < (↑((l.getD p.i default).b.length + 1) : Int)) ∧ (e.k < e.bs.length ∧ (0 : Int) ≤ 99 ∧ (99 : Int) < 256) ∧ fits IntKind.i64 (e.k + 1)) (h := ?_)
         refine To.K (L := [LN.old 0, LN.old 1, LN.old 2, LN.old 3, LN.old 4, LN.old 5, LN.old 6]) (kp := [182, 181, 12, 10, 8, 1, 0]) (ks := [[60, 56, 55, 51, 50, 7, 1]]) (ov := [(182, AV.sy (Value.int IntKind.i64 (OwP.mk (e.k + 1) (e.bs.set e.k (UInt8.ofNat 99))).k))]) (C := Same IntKind.i64 ∧ (↑e.k : Int) + 1 = (↑(e.k + 1) : Int)) (ihe (OwP.mk (e.k + 1) (e.bs.set e.k (UInt8.ofNat 99))) ⟨j4, j6⟩ j5)
       · intro j3
         refine To.R (k := 13) (h := ?_)
         refine To.L (L := [LN.old 0, LN.old 1, LN.old 2, LN.old 3, LN.old 5, LN.old 6]) (kp := [191, 190, 12, 10, 1, 0]) (ks := [[60, 56, 55, 51, 50, 7, 1]]) (C := (Same IntKind.i64 ∧ (0 : Int) = (↑(0 : Nat) : Int)) ∧ 3 = 3 ∧ Same 1 ∧ Same (l.getD p.i default).c.keep.length ∧ (∀ (r : Nat), r < (l.getD p.i default).c.keep.length → intsF (l.getD p.i default).c.keep r = (KpP.mk 0 (intsF (l.getD p.i default).c.keep)).f r)) (st := fun (a : KpP) => (⟨(⟨16, 236, (slotT 236 [(0, AV.ptr 5 0), (1, AV.ptr 1 0), (10, AV.ow 4 (l.getD p.i default).c.keep.length), (12, AV.v (Value.bool true)), (190, AV.sy (Value.int IntKind.i64 (l.getD p.i default).c.keep.length)), (191, AV.sy (Value.int IntKind.i64 a.k))]), ARg.no, [(AItem.code (subC (bodyC Try.prog 16) [1, 1, 1, 1, 1, 1, 1, 1, 1, 1, 0, 1, 0, 0])), (AItem.inLoop (subC (bodyC Try.prog 16) [1, 1, 1, 1, 1, 1, 1, 1, 1, 1, 0, 1, 0, 0])), (AItem.inBlock 5), (AItem.code (subC (bodyC Try.prog 16) [1, 1, 1, 1, 1, 1, 1, 1, 1, 1, 1]))], [], false, none, 6⟩ : AFr), [(⟨4, 104, (slotT 104 [(1, AV.im 7 l.length (opsF l)), (7, AV.ptr 1 0), (50, AV.sy (Value.int IntKind.i64 l.length)), (51, AV.sy (Value.int IntKind.i64 p.i)), (55, AV.ptr 0 0), (56, AV.ptr 1 0), (60, AV.agg [AV.sy (Value.int IntKind.i64 (l.getD p.i default).kind), AV.sy (Value.int IntKind.i64 (l.getD p.i default).at_), AV.by8 (l.getD p.i default).b, AV.sy (Value.int IntKind.i64 (l.getD p.i default).c.w), AV.im 1 (l.getD p.i default).c.keep.length (intsF (l.getD p.i default).c.keep), AV.sy (Value.int IntKind.i64 (l.getD p.i default).c.torn), AV.sy (Value.int IntKind.i64 (l.getD p.i default).c.at_)])]), (plC (subC (bodyC Try.prog 4) [1, 1, 1, 1, 1, 1, 0, 1, 0, 0, 1, 1, 0, 0, 1, 0]) 6), [(AItem.code (subC (bodyC Try.prog 4) [1, 1, 1, 1, 1, 1, 0, 1, 0, 0, 1, 1, 0, 0, 1, 1])), (AItem.inBlock 1), (AItem.code (subC (bodyC Try.prog 4) [1, 1, 1, 1, 1, 1, 0, 1, 0, 0, 1, 1, 1])), (AItem.inLoop (subC (bodyC Try.prog 4) [1, 1, 1, 1, 1, 1, 0, 1, 0, 0])), (AItem.inBlock 0), (AItem.code (subC (bodyC Try.prog 4) [1, 1, 1, 1, 1, 1, 1]))], [], false, none, 0⟩ : AFr)], memF [AB.obj (Ob.disk (downD (flushD (spoilD (writeD (bootD p.d) 0 [UInt8.ofNat 0, UInt8.ofNat 0, UInt8.ofNat 0, UInt8.ofNat 0, UInt8.ofNat 0, UInt8.ofNat 0, UInt8.ofNat 0, UInt8.ofNat 0, UInt8.ofNat 0, UInt8.ofNat 0, UInt8.ofNat 0, UInt8.ofNat 0, UInt8.ofNat 0, UInt8.ofNat 0, UInt8.ofNat 0, UInt8.ofNat 0, UInt8.ofNat 0, UInt8.ofNat 0, UInt8.ofNat 0, UInt8.ofNat 0, UInt8.ofNat 0, UInt8.ofNat 0, UInt8.ofNat 0, UInt8.ofNat 0, UInt8.ofNat 0, UInt8.ofNat 0, UInt8.ofNat 0, UInt8.ofNat 0, UInt8.ofNat 0, UInt8.ofNat 0, UInt8.ofNat 0, UInt8.ofNat 0, UInt8.ofNat 0, UInt8.ofNat 0, UInt8.ofNat 0, UInt8.ofNat 0, UInt8.ofNat 0, UInt8.ofNat 0, UInt8.ofNat 0, UInt8.ofNat 0, UInt8.ofNat 0, UInt8.ofNat 0, UInt8.ofNat 0, UInt8.ofNat 0, UInt8.ofNat 0, UInt8.ofNat 0, UInt8.ofNat 0, UInt8.ofNat 0, UInt8.ofNat 0, UInt8.ofNat 0, UInt8.ofNat 0, UInt8.ofNat 0, UInt8.ofNat 0, UInt8.ofNat 0, UInt8.ofNat 0, UInt8.ofNat 0, UInt8.ofNat 0, UInt8.ofNat 0, UInt8.ofNat 0, UInt8.ofNat 0, UInt8.ofNat 0, UInt8.ofNat 0, UInt8.ofNat 0, UInt8.ofNat 0, UInt8.ofNat 0, UInt8.ofNat 0, UInt8.ofNat 0, UInt8.ofNat 0, UInt8.ofNat 0, UInt8.ofNat 0, UInt8.ofNat 0, UInt8.ofNat 0, UInt8.ofNat 0, UInt8.ofNat 0, UInt8.ofNat 0, UInt8.ofNat 0, UInt8.ofNat 0, UInt8.ofNat 0, UInt8.ofNat 0, UInt8.ofNat 0, UInt8.ofNat 0, UInt8.ofNat 0, UInt8.ofNat 0, UInt8.ofNat 0, UInt8.ofNat 0, UInt8.ofNat 0, UInt8.ofNat 0, UInt8.ofNat 0, UInt8.ofNat 0, UInt8.ofNat 0, UInt8.ofNat 0, UInt8.ofNat 0, UInt8.ofNat 0, UInt8.ofNat 0, UInt8.ofNat 0, UInt8.ofNat 0, UInt8.ofNat 0, UInt8.ofNat 0, UInt8.ofNat 0, UInt8.ofNat 0, UInt8.ofNat 0, UInt8.ofNat 0, UInt8.ofNat 0, UInt8.ofNat 0, UInt8.ofNat 0, UInt8.ofNat 0, UInt8.ofNat 0, UInt8.ofNat 0, UInt8.ofNat 0, UInt8.ofNat 0, UInt8.ofNat 0, UInt8.ofNat 0, UInt8.ofNat 0, UInt8.ofNat 0, UInt8.ofNat 0, UInt8.ofNat 0, UInt8.ofNat 0, UInt8.ofNat 0, UInt8.ofNat 0, UInt8.ofNat 0, UInt8.ofNat 0, UInt8.ofNat 0, UInt8.ofNat 0, UInt8.ofNat 0, UInt8.ofNat 0, UInt8.ofNat 0, UInt8.ofNat 0, UInt8.ofNat 0]).fst 0 [UInt8.ofNat 0, UInt8.ofNat 0, UInt8.ofNat 0, UInt8.ofNat 0, UInt8.ofNat 0, UInt8.ofNat 0, UInt8.ofNat 0, UInt8.ofNat 0, UInt8.ofNat 0, UInt8.ofNat 0, UInt8.ofNat 0, UInt8.ofNat 0, UInt8.ofNat 0, UInt8.ofNat 0, UInt8.ofNat 0, UInt8.ofNat 0, UInt8.ofNat 0, UInt8.ofNat 0, UInt8.ofNat 0, UInt8.ofNat 0, UInt8.ofNat 0, UInt8.ofNat 0, UInt8.ofNat 0, UInt8.ofNat 0, UInt8.ofNat 0, UInt8.ofNat 0, UInt8.ofNat 0, UInt8.ofNat 0, UInt8.ofNat 0, UInt8.ofNat 0, UInt8.ofNat 0, UInt8.ofNat 0, UInt8.ofNat 0, UInt8.ofNat 0, UInt8.ofNat 0, UInt8.ofNat 0, UInt8.ofNat 0, UInt8.ofNat 0, UInt8.ofNat 0, UInt8.ofNat 0, UInt8.ofNat 0, UInt8.ofNat 0, UInt8.ofNat 0, UInt8.ofNat 0, UInt8.ofNat 0, UInt8.ofNat 0, UInt8.ofNat 0, UInt8.ofNat 0, UInt8.ofNat 0, UInt8.ofNat 0, UInt8.ofNat 0, UInt8.ofNat 0, UInt8.ofNat 0, UInt8.ofNat 0, UInt8.ofNat 0, UInt8.ofNat 0, UInt8.ofNat 0, UInt8.ofNat 0, UInt8.ofNat 0, UInt8.ofNat 0, UInt8.ofNat 0, UInt8.ofNat 0, UInt8.ofNat 0, UInt8.ofNat 0, UInt8.ofNat 0, UInt8.ofNat 0, UInt8.ofNat 0, UInt8.ofNat 0, UInt8.ofNat 0, UInt8.ofNat 0, UInt8.ofNat 0, UInt8.ofNat 0, UInt8.ofNat 0, UInt8.ofNat 0, UInt8.ofNat 0, UInt8.ofNat 0, UInt8.ofNat 0, UInt8.ofNat 0, UInt8.ofNat 0, UInt8.ofNat 0, UInt8.ofNat 0, UInt8.ofNat 0, UInt8.ofNat 0, UInt8.ofNat 0, UInt8.ofNat 0, UInt8.ofNat 0, UInt8.ofNat 0, UInt8.ofNat 0, UInt8.ofNat 0, UInt8.ofNat 0, UInt8.ofNat 0, UInt8.ofNat 0, UInt8.ofNat 0, UInt8.ofNat 0, UInt8.ofNat 0, UInt8.ofNat 0, UInt8.ofNat 0, UInt8.ofNat 0, UInt8.ofNat 0, UInt8.ofNat 0, UInt8.ofNat 0, UInt8.ofNat 0, UInt8.ofNat 0, UInt8.ofNat 0, UInt8.ofNat 0, UInt8.ofNat 0, UInt8.ofNat 0, UInt8.ofNat 0, UInt8.ofNat 0, UInt8.ofNat 0, UInt8.ofNat 0, UInt8.ofNat 0, UInt8.ofNat 0, UInt8.ofNat 0, UInt8.ofNat 0, UInt8.ofNat 0, UInt8.ofNat 0, UInt8.ofNat 0, UInt8.ofNat 0, UInt8.ofNat 0, UInt8.ofNat 0, UInt8.ofNat 0, UInt8.ofNat 0, UInt8.ofNat 0, UInt8.ofNat 0, UInt8.ofNat 0, UInt8.ofNat 0, UInt8.ofNat 0]).fst).fst (CrashD.mk 0 [] 0 0)).fst), AB.mem 58 none [AV.ow 2 z.x.n, AV.ow 3 z.x.n, AV.sy (Value.int IntKind.i64 z.x.w), AV.im 1 z.x.kn z.x.kf, AV.sy (Value.int IntKind.i64 z.x.torn), AV.sy (Value.int IntKind.i64 z.x.at_), AV.sy (Value.int IntKind.i64 z.x.many), AV.sy (Value.bool z.x.down)], AB.rw 36 1 z.x.n z.x.sf, AB.rw 36 1 z.x.n z.x.cf, AB.rw 3 1 (l.getD p.i default).c.keep.length a.f, AB.obj (Ob.disk z.d)] 0 Tr.e, 6⟩ : ASt)) (hI := ?_) (h := ?_) (fun (e : KpP) => [(191, ivA (e.k : Int))]) (fun e => [(4, .rw 3 1 (l.getD p.i default).c.keep.length e.f)]) (fun e => e.k ≤ (l.getD p.i default).c.keep.length) (fun e => (l.getD p.i default).c.keep.length - e.k) (KpP.mk 0 (intsF (l.getD p.i default).c.keep))
         all_goals first | exact Nat.zero_le _ | skip
         intro e j4 ihf
         refine To.R (h := ?_)
         refine To.Bd ((e.k : Int) < (l.getD p.i default).c.keep.length) (h := ?_) (g := ?_)
         · intro j5
           have j6 : e.k + 1 ≤ (l.getD p.i default).c.keep.length := by omega
           have j7 : (l.getD p.i default).c.keep.length - (e.k + 1) < (l.getD p.i default).c.keep.length - e.k := by omega
           refine To.R (k := 23) (C := ((0 : Int) ≤ e.k ∧ (e.k : Int) < (l.getD p.i default).c.keep.length) ∧ e.k < (l.getD p.i default).c.keep.length ∧ fits IntKind.i64 (e.k + 1)) (h := ?_)
           refine To.K (L := [LN.old 0, LN.old 1, LN.old 2, LN.old 3, LN.old 4, LN.old 5]) (kp := [191, 190, 12, 10, 1, 0]) (ks := [[60, 56, 55, 51, 50, 7, 1]]) (ov := [(191, AV.sy (Value.int IntKind.i64 (KpP.mk (e.k + 1) (rwSet e.f e.k 0 [AV.v (Value.int IntKind.i64 99)])).k))]) (C := Same IntKind.i64 ∧ (↑e.k : Int) + 1 = (↑(e.k + 1) : Int)) (ihf (KpP.mk (e.k + 1) (rwSet e.f e.k 0 [.v (.int .i64 99)])) j6 j7)
         · intro j5
           have g1 : z.x.many = z.d.writes := hZG.goes.many
           have g2 : z.x.down = z.d.down := hZG.goes.down
           have g3 : rwaitsD z.x.toL = keysD z.d.waits := hZG.goes.waits hzF.ok
           have g4 : z.x.n = z.d.stays.length := by
             have := congrArg List.length hZG.goes.stays
             rw [show z.x.toL.stays.length = z.x.n from recsF_len _ _] at this
             exact this
           refine To.R (h := ?_)
           refine To.B (!z.x.down) (h := ?_) (g := ?_)
           · intro g5
             have g6 : (!z.d.down) = true := by rw [← g2]; exact g5
             have g7 : z.d.writes = z.x.many := g1.symm
             have g8 : keysD z.d.waits = rwaitsD z.x.toL := g3.symm
             have g9 : (z.d.stays.length : Int) = (z.x.n : Int) := by rw [g4]
             have g10 := keysD_len z.d.waits
             have g11 := hzF.ok.len
             have g12 : (id z.d).Fine := hzF
             have g13 : numsF (id z.d).waits.length (intsF (keysD (id z.d).waits)) = numsF (rwaitsD z.x.toL).length (intsF (rwaitsD z.x.toL)) := by
               show numsF z.d.waits.length (intsF (keysD z.d.waits)) = _
               rw [← g10, numsF_ints, numsF_ints, g3]
             have g14 : ∀ r, r < (id z.d).waits.length → intsF (keysD (id z.d).waits) r = intsF (numsF (id z.d).waits.length (intsF (keysD (id z.d).waits))) r := by
               show ∀ r, r < z.d.waits.length → intsF (keysD z.d.waits) r = intsF (numsF z.d.waits.length (intsF (keysD z.d.waits))) r
               rw [← g10, numsF_ints]; exact fun _ _ => rfl
             have g15 : ∀ r, r < (rwaitsD z.x.toL).length → intsF (rwaitsD z.x.toL) r = intsF (numsF (rwaitsD z.x.toL).length (intsF (rwaitsD z.x.toL))) r := by
               rw [numsF_ints]; exact fun _ _ => rfl
             have g16 : (numsF (id z.d).waits.length (intsF (keysD (id z.d).waits))).length ≤ 1000000 := by
               rw [numsF_len]; show z.d.waits.length ≤ 1000000; omega
             refine To.Y (!z.d.down) (C := z.d.Fine ∧ Same (AV.sy (Value.bool z.x.down))) (h := ?_)
             refine To.R (C := z.d.Fine ∧ Same (AV.sy (Value.int IntKind.i64 z.x.many))) (h := ?_)
             refine To.Yd ((fun x ↦ x.writes) z.d = z.x.many) (h := ?_)
             refine To.R (C := (id z.d).Fine ∧ (Same z.x.n ∧ Same z.x.n ∧ Same z.x.n) ∧ z.x.Ok ∧ True) (h := ?_)
             refine To.Yd (numsF (id z.d).waits.length (intsF (keysD (id z.d).waits)) = numsF (rwaitsD z.x.toL).length (intsF (rwaitsD z.x.toL))) (C := (∀ (r : Nat), r < (id z.d).waits.length → intsF (keysD (id z.d).waits) r = intsF (numsF (id z.d).waits.length (intsF (keysD (id z.d).waits))) r) ∧ (∀ (r : Nat), r < (rwaitsD z.x.toL).length → intsF (rwaitsD z.x.toL) r = intsF (numsF (rwaitsD z.x.toL).length (intsF (rwaitsD z.x.toL))) r) ∧ (numsF (id z.d).waits.length (intsF (keysD (id z.d).waits))).length ≤ 1000000) (h := ?_)
             refine To.R (C := True ∧ (id z.d).Fine ∧ Same (AV.ow 2 z.x.n)) (h := ?_)
             refine To.Yd ((fun d ↦ (d.stays.length : Int)) (id z.d) = z.x.n) (hp := ?_) (h := ?_)
             · exact g9
             refine To.R (k := 30) (C := fits IntKind.i64 (p.i + 1)) (h := ?_)
             refine To.K (L := [LN.old 5, LN.old 1, LN.old 2, LN.old 3]) (kp := [51, 50, 7, 5, 1]) (ov := [(51, AV.sy (Value.int IntKind.i64 (DkP.mk (p.i + 1) z.d z.x).i))]) (ob := [(0, AB.obj (Ob.disk (DkP.mk (p.i + 1) z.d z.x).d))]) (C := (Same IntKind.i64 ∧ (↑p.i : Int) + 1 = (↑(p.i + 1) : Int)) ∧ Ob.disk (id (id z.d)) = Ob.disk z.d) (hc := ?_) (ih (DkP.mk (p.i + 1) z.d z.x) ⟨hi1, hZ, hZG⟩ hi2)
             all_goals repeat' (first | exact trivial | exact rfl | exact fun _ _ => rfl | exact Int.natCast_succ _ | refine ⟨?_, ?_⟩)
           · intro g5
             have g6 : (!z.d.down) = false := by rw [← g2]; simpa using g5
             have g7 : z.d.writes = z.x.many := g1.symm
             have g8 : keysD z.d.waits = rwaitsD z.x.toL := g3.symm
             have g9 : (z.d.stays.length : Int) = (z.x.n : Int) := by rw [g4]
             have g10 := keysD_len z.d.waits
             have g11 := hzF.ok.len
             have g12 : (id z.d).Fine := hzF
             have g13 : numsF (id z.d).waits.length (intsF (keysD (id z.d).waits)) = numsF (rwaitsD z.x.toL).length (intsF (rwaitsD z.x.toL)) := by
               show numsF z.d.waits.length (intsF (keysD z.d.waits)) = _
               rw [← g10, numsF_ints, numsF_ints, g3]
             have g14 : ∀ r, r < (id z.d).waits.length → intsF (keysD (id z.d).waits) r = intsF (numsF (id z.d).waits.length (intsF (keysD (id z.d).waits))) r := by
               show ∀ r, r < z.d.waits.length → intsF (keysD z.d.waits) r = intsF (numsF z.d.waits.length (intsF (keysD z.d.waits))) r
               rw [← g10, numsF_ints]; exact fun _ _ => rfl
             have g15 : ∀ r, r < (rwaitsD z.x.toL).length → intsF (rwaitsD z.x.toL) r = intsF (numsF (rwaitsD z.x.toL).length (intsF (rwaitsD z.x.toL))) r := by
               rw [numsF_ints]; exact fun _ _ => rfl
             have g16 : (numsF (id z.d).waits.length (intsF (keysD (id z.d).waits))).length ≤ 1000000 := by
               rw [numsF_len]; show z.d.waits.length ≤ 1000000; omega
             refine To.N (!z.d.down) (C := z.d.Fine ∧ Same (AV.sy (Value.bool z.x.down))) (h := ?_)
             refine To.R (C := z.d.Fine ∧ Same (AV.sy (Value.int IntKind.i64 z.x.many))) (h := ?_)
             refine To.Yd ((fun x ↦ x.writes) z.d = z.x.many) (h := ?_)
             refine To.R (C := (id z.d).Fine ∧ (Same z.x.n ∧ Same z.x.n ∧ Same z.x.n) ∧ z.x.Ok ∧ True) (h := ?_)
             refine To.Yd (numsF (id z.d).waits.length (intsF (keysD (id z.d).waits)) = numsF (rwaitsD z.x.toL).length (intsF (rwaitsD z.x.toL))) (C := (∀ (r : Nat), r < (id z.d).waits.length → intsF (keysD (id z.d).waits) r = intsF (numsF (id z.d).waits.length (intsF (keysD (id z.d).waits))) r) ∧ (∀ (r : Nat), r < (rwaitsD z.x.toL).length → intsF (rwaitsD z.x.toL) r = intsF (numsF (rwaitsD z.x.toL).length (intsF (rwaitsD z.x.toL))) r) ∧ (numsF (id z.d).waits.length (intsF (keysD (id z.d).waits))).length ≤ 1000000) (h := ?_)
             refine To.R (C := True ∧ (id z.d).Fine ∧ Same (AV.ow 2 z.x.n)) (h := ?_)
             refine To.Yd ((fun d ↦ (d.stays.length : Int)) (id z.d) = z.x.n) (hp := ?_) (h := ?_)
             · exact g9
             refine To.R (k := 30) (C := fits IntKind.i64 (p.i + 1)) (h := ?_)
             refine To.K (L := [LN.old 5, LN.old 1, LN.old 2, LN.old 3]) (kp := [51, 50, 7, 5, 1]) (ov := [(51, AV.sy (Value.int IntKind.i64 (DkP.mk (p.i + 1) z.d z.x).i))]) (ob := [(0, AB.obj (Ob.disk (DkP.mk (p.i + 1) z.d z.x).d))]) (C := (Same IntKind.i64 ∧ (↑p.i : Int) + 1 = (↑(p.i + 1) : Int)) ∧ Ob.disk (id (id z.d)) = Ob.disk z.d) (hc := ?_) (ih (DkP.mk (p.i + 1) z.d z.x) ⟨hi1, hZ, hZG⟩ hi2)
             all_goals repeat' (first | exact trivial | exact rfl | exact fun _ _ => rfl | exact Int.natCast_succ _ | refine ⟨?_, ?_⟩)
     intro k7
     have hZ : p.d.In (2 * (p.i + 1)) := hin.more (by omega) (by omega)
     have hZG : GoesW p.d p.x := hg
     refine To.R (k := 2) (h := ?_)
     refine To.L (L := [LN.old 0, LN.old 1, LN.old 2, LN.old 3, LN.old 4, LN.old 7, LN.old 9]) (kp := [145, 12, 10, 8, 5, 1, 0]) (ks := [[60, 56, 55, 51, 50, 7, 1]]) (C := Same (Ob.disk p.d) ∧ (Same 58 ∧ (none : Option Nat) = none ∧ (Same 2 ∧ Same p.x.n) ∧ (Same 3 ∧ Same p.x.n) ∧ (Same IntKind.i64 ∧ Same p.x.w) ∧ (Same 1 ∧ Same p.x.kn ∧ (∀ (r : Nat), r < p.x.kn → p.x.kf r = p.x.kf r)) ∧ (Same IntKind.i64 ∧ Same p.x.torn) ∧ (Same IntKind.i64 ∧ Same p.x.at_) ∧ (Same IntKind.i64 ∧ Same p.x.many) ∧ Same p.x.down ∧ True) ∧ (Same 36 ∧ Same 1 ∧ Same p.x.n ∧ (∀ (r : Nat), r < p.x.n → p.x.sf r = p.x.sf r)) ∧ Same 36 ∧ Same 1 ∧ Same p.x.n ∧ (∀ (r : Nat), r < p.x.n → p.x.cf r = p.x.cf r)) (st := fun (a : DtP) => (⟨(⟨16, 236, (slotT 236 [(0, AV.ptr 0 0), (1, AV.ptr 1 0), (5, AV.ptr 4 0), (8, AV.ow 5 ((l.getD p.i default).b.length + 1)), (10, AV.ow 6 (l.getD p.i default).c.keep.length), (12, AV.v (Value.bool true)), (145, AV.v (Value.bool false))]), ARg.no, [(AItem.code (subC (bodyC Try.prog 16) [1, 1, 1, 1, 1, 1, 1, 0, 1, 0, 1, 1, 1, 1, 1, 1, 1, 1, 1, 1, 1, 1, 1, 1, 1])), (AItem.inBlock 0), (AItem.code (subC (bodyC Try.prog 16) [1, 1, 1, 1, 1, 1, 1, 1]))], [], false, none, 7⟩ : AFr), [(⟨4, 104, (slotT 104 [(1, AV.im 7 l.length (opsF l)), (7, AV.ptr 1 0), (50, AV.sy (Value.int IntKind.i64 l.length)), (51, AV.sy (Value.int IntKind.i64 p.i)), (55, AV.ptr 0 0), (56, AV.ptr 1 0), (60, AV.agg [AV.sy (Value.int IntKind.i64 (l.getD p.i default).kind), AV.sy (Value.int IntKind.i64 (l.getD p.i default).at_), AV.by8 (l.getD p.i default).b, AV.sy (Value.int IntKind.i64 (l.getD p.i default).c.w), AV.im 1 (l.getD p.i default).c.keep.length (intsF (l.getD p.i default).c.keep), AV.sy (Value.int IntKind.i64 (l.getD p.i default).c.torn), AV.sy (Value.int IntKind.i64 (l.getD p.i default).c.at_)])]), (plC (subC (bodyC Try.prog 4) [1, 1, 1, 1, 1, 1, 0, 1, 0, 0, 1, 1, 0, 0, 1, 0]) 6), [(AItem.code (subC (bodyC Try.prog 4) [1, 1, 1, 1, 1, 1, 0, 1, 0, 0, 1, 1, 0, 0, 1, 1])), (AItem.inBlock 1), (AItem.code (subC (bodyC Try.prog 4) [1, 1, 1, 1, 1, 1, 0, 1, 0, 0, 1, 1, 1])), (AItem.inLoop (subC (bodyC Try.prog 4) [1, 1, 1, 1, 1, 1, 0, 1, 0, 0])), (AItem.inBlock 0), (AItem.code (subC (bodyC Try.prog 4) [1, 1, 1, 1, 1, 1, 1]))], [], false, none, 0⟩ : AFr)], memF [AB.obj (Ob.disk a.d), AB.mem 58 none [AV.ow 2 a.x.n, AV.ow 3 a.x.n, AV.sy (Value.int IntKind.i64 a.x.w), AV.im 1 a.x.kn a.x.kf, AV.sy (Value.int IntKind.i64 a.x.torn), AV.sy (Value.int IntKind.i64 a.x.at_), AV.sy (Value.int IntKind.i64 a.x.many), AV.sy (Value.bool a.x.down)], AB.rw 36 1 a.x.n a.x.sf, AB.rw 36 1 a.x.n a.x.cf, AB.mem 54 none [AV.sy (Value.int IntKind.i64 (l.getD p.i default).kind), AV.sy (Value.int IntKind.i64 (l.getD p.i default).at_), AV.by8 (l.getD p.i default).b, AV.sy (Value.int IntKind.i64 (l.getD p.i default).c.w), AV.im 1 (l.getD p.i default).c.keep.length (intsF (l.getD p.i default).c.keep), AV.sy (Value.int IntKind.i64 (l.getD p.i default).c.torn), AV.sy (Value.int IntKind.i64 (l.getD p.i default).c.at_)], AB.bb 5 ((l.getD p.i default).b ++ List.take 1 [UInt8.ofNat 7]), AB.rw 3 1 (l.getD p.i default).c.keep.length (intsF (l.getD p.i default).c.keep)] 0 Tr.e, 7⟩ : ASt)) (h := ?_) (fun (_ : DtP) => []) (fun z => [(0, .obj (.disk z.d)), (1, .mem 58 none [.ow 2 z.x.n, .ow 3 z.x.n, ivA z.x.w, .im 1 z.x.kn z.x.kf, ivA z.x.torn, ivA z.x.at_, ivA z.x.many, .sy (.bool z.x.down)]), (2, .rw 36 1 z.x.n z.x.sf), (3, .rw 36 1 z.x.n z.x.cf)]) (fun z => z.d.In (2 * (p.i + 1)) ∧ GoesW z.d z.x) (fun _ => 0) (DtP.mk (p.d) (p.x))
     all_goals first | exact ⟨hZ, hZG⟩ | (and_intros <;> first | exact trivial | exact rfl | exact fun _ _ => rfl) | skip
     intro z ⟨hZ, hZG⟩ _
     have hT1 : (l.getD p.i default).b.length + 1 ≤ ((l.getD p.i default).b ++ List.take 1 [UInt8.ofNat 7]).length := by simp
     have hT3 : (List.take 1 [UInt8.ofNat 7]).length = 1 := rfl
     have hzF := hZ.fine
     have hzX := hZG.ok
     have hT2 : (str (l.getD p.i default).b).size + 1 ≤ 1000000000 := by
       have : (str (l.getD p.i default).b).size = (l.getD p.i default).b.length := by simp [str, ByteArray.size]
       omega
     refine To.R (C := (l.getD p.i default).b.length + 1 ≤ ((l.getD p.i default).b ++ List.take 1 [UInt8.ofNat 7]).length ∧ True ∧ (str (l.getD p.i default).b).size + 1 ≤ 1000000000) (h := ?_)
     refine To.Yd ((str (List.take ((l.getD p.i default).b.length + 1) ((l.getD p.i default).b ++ List.take 1 [UInt8.ofNat 7]))).data.toList = (str ((str (l.getD p.i default).b).data.toList ++ (ByteArray.mk #[7]).data.toList)).data.toList) (hp := ?_) (h := ?_)
     · exact own_str _
     refine To.R (h := ?_)
     refine To.Yd (numsF (l.getD p.i default).c.keep.length (intsF (l.getD p.i default).c.keep) = numsF (l.getD p.i default).c.keep.length (intsF (l.getD p.i default).c.keep)) (C := (Same (l.getD p.i default).c.keep.length ∧ (∀ (r : Nat), r < (l.getD p.i default).c.keep.length → intsF (l.getD p.i default).c.keep r = intsF (numsF (l.getD p.i default).c.keep.length (intsF (l.getD p.i default).c.keep)) r)) ∧ (∀ (r : Nat), r < (l.getD p.i default).c.keep.length → intsF (l.getD p.i default).c.keep r = intsF (numsF (l.getD p.i default).c.keep.length (intsF (l.getD p.i default).c.keep)) r) ∧ (numsF (l.getD p.i default).c.keep.length (intsF (l.getD p.i default).c.keep)).length ≤ 1000000) (h := ?_)
     refine To.R (k := 12) (h := ?_)
     refine To.L (L := [LN.old 0, LN.old 1, LN.old 2, LN.old 3, LN.old 5, LN.old 6]) (kp := [182, 181, 12, 10, 8, 1, 0]) (ks := [[60, 56, 55, 51, 50, 7, 1]]) (C := (Same IntKind.i64 ∧ (0 : Int) = (↑(0 : Nat) : Int)) ∧ 5 = 5 ∧ (l.getD p.i default).b ++ List.take 1 [UInt8.ofNat 7] = (l.getD p.i default).b ++ List.take 1 [UInt8.ofNat 7]) (st := fun (a : OwP) => (⟨(⟨16, 236, (slotT 236 [(0, AV.ptr 0 0), (1, AV.ptr 1 0), (8, AV.ow 4 ((l.getD p.i default).b.length + 1)), (10, AV.ow 5 (l.getD p.i default).c.keep.length), (12, AV.v (Value.bool true)), (181, AV.sy (Value.int IntKind.i64 (↑((l.getD p.i default).b.length + 1) : Int))), (182, AV.sy (Value.int IntKind.i64 a.k))]), ARg.no, [(AItem.code (subC (bodyC Try.prog 16) [1, 1, 1, 1, 1, 1, 1, 1, 1, 0, 1, 0, 0])), (AItem.inLoop (subC (bodyC Try.prog 16) [1, 1, 1, 1, 1, 1, 1, 1, 1, 0, 1, 0, 0])), (AItem.inBlock 3), (AItem.code (subC (bodyC Try.prog 16) [1, 1, 1, 1, 1, 1, 1, 1, 1, 1]))], [], false, none, 6⟩ : AFr), [(⟨4, 104, (slotT 104 [(1, AV.im 7 l.length (opsF l)), (7, AV.ptr 1 0), (50, AV.sy (Value.int IntKind.i64 l.length)), (51, AV.sy (Value.int IntKind.i64 p.i)), (55, AV.ptr 0 0), (56, AV.ptr 1 0), (60, AV.agg [AV.sy (Value.int IntKind.i64 (l.getD p.i default).kind), AV.sy (Value.int IntKind.i64 (l.getD p.i default).at_), AV.by8 (l.getD p.i default).b, AV.sy (Value.int IntKind.i64 (l.getD p.i default).c.w), AV.im 1 (l.getD p.i default).c.keep.length (intsF (l.getD p.i default).c.keep), AV.sy (Value.int IntKind.i64 (l.getD p.i default).c.torn), AV.sy (Value.int IntKind.i64 (l.getD p.i default).c.at_)])]), (plC (subC (bodyC Try.prog 4) [1, 1, 1, 1, 1, 1, 0, 1, 0, 0, 1, 1, 0, 0, 1, 0]) 6), [(AItem.code (subC (bodyC Try.prog 4) [1, 1, 1, 1, 1, 1, 0, 1, 0, 0, 1, 1, 0, 0, 1, 1])), (AItem.inBlock 1), (AItem.code (subC (bodyC Try.prog 4) [1, 1, 1, 1, 1, 1, 0, 1, 0, 0, 1, 1, 1])), (AItem.inLoop (subC (bodyC Try.prog 4) [1, 1, 1, 1, 1, 1, 0, 1, 0, 0])), (AItem.inBlock 0), (AItem.code (subC (bodyC Try.prog 4) [1, 1, 1, 1, 1, 1, 1]))], [], false, none, 0⟩ : AFr)], memF [AB.obj (Ob.disk z.d), AB.mem 58 none [AV.ow 2 z.x.n, AV.ow 3 z.x.n, AV.sy (Value.int IntKind.i64 z.x.w), AV.im 1 z.x.kn z.x.kf, AV.sy (Value.int IntKind.i64 z.x.torn), AV.sy (Value.int IntKind.i64 z.x.at_), AV.sy (Value.int IntKind.i64 z.x.many), AV.sy (Value.bool z.x.down)], AB.rw 36 1 z.x.n z.x.sf, AB.rw 36 1 z.x.n z.x.cf, AB.bb 5 a.bs, AB.rw 3 1 (l.getD p.i default).c.keep.length (intsF (l.getD p.i default).c.keep)] 0 Tr.e, 6⟩ : ASt)) (hI := ?_) (h := ?_) (fun (e : OwP) => [(182, ivA (e.k : Int))]) (fun e => [(4, .bb 5 e.bs)]) (fun e => e.k ≤ (l.getD p.i default).b.length + 1 ∧ e.bs.length = (l.getD p.i default).b.length + 1) (fun e => (l.getD p.i default).b.length + 1 - e.k) (OwP.mk 0 ((l.getD p.i default).b ++ List.take 1 [UInt8.ofNat 7]))
     all_goals first | exact ⟨Nat.zero_le _, by simp⟩ | skip
     intro e ⟨j1, j2⟩ ihe
     refine To.R (h := ?_)
     refine To.Bd ((↑e.k : Int) < (↑((l.getD p.i default).b.length + 1) : Int)) (h := ?_) (g := ?_)
     · intro j3
       have j4 : e.k + 1 ≤ (l.getD p.i default).b.length + 1 := by omega
       have j5 : (l.getD p.i default).b.length + 1 - (e.k + 1) < (l.getD p.i default).b.length + 1 - e.k := by omega
       have j6 : (e.bs.set e.k (UInt8.ofNat 99)).length = (l.getD p.i default).b.length + 1 := by rw [List.length_set]; exact j2
       refine To.R (k := 23) (C := ((0 : Int) ≤ e.k ∧ (↑e.k : Int) < (↑((l.getD p.i default).b.length + 1) : Int)) ∧ (e.k < e.bs.length ∧ (0 : Int) ≤ 99 ∧ (99 : Int) < 256) ∧ fits IntKind.i64 (e.k + 1)) (h := ?_)
       refine To.K (L := [LN.old 0, LN.old 1, LN.old 2, LN.old 3, LN.old 4, LN.old 5]) (kp := [182, 181, 12, 10, 8, 1, 0]) (ks := [[60, 56, 55, 51, 50, 7, 1]]) (ov := [(182, AV.sy (Value.int IntKind.i64 (OwP.mk (e.k + 1) (e.bs.set e.k (UInt8.ofNat 99))).k))]) (C := Same IntKind.i64 ∧ (↑e.k : Int) + 1 = (↑(e.k + 1) : Int)) (ihe (OwP.mk (e.k + 1) (e.bs.set e.k (UInt8.ofNat 99))) ⟨j4, j6⟩ j5)
     · intro j3
       refine To.R (k := 13) (h := ?_)
       refine To.L (L := [LN.old 0, LN.old 1, LN.old 2, LN.old 3, LN.old 5]) (kp := [191, 190, 12, 10, 1, 0]) (ks := [[60, 56, 55, 51, 50, 7, 1]]) (C := (Same IntKind.i64 ∧ (0 : Int) = (↑(0 : Nat) : Int)) ∧ 3 = 3 ∧ Same 1 ∧ Same (l.getD p.i default).c.keep.length ∧ (∀ (r : Nat), r < (l.getD p.i default).c.keep.length → intsF (l.getD p.i default).c.keep r = (KpP.mk 0 (intsF (l.getD p.i default).c.keep)).f r)) (st := fun (a : KpP) => (⟨(⟨16, 236, (slotT 236 [(0, AV.ptr 0 0), (1, AV.ptr 1 0), (10, AV.ow 4 (l.getD p.i default).c.keep.length), (12, AV.v (Value.bool true)), (190, AV.sy (Value.int IntKind.i64 (l.getD p.i default).c.keep.length)), (191, AV.sy (Value.int IntKind.i64 a.k))]), ARg.no, [(AItem.code (subC (bodyC Try.prog 16) [1, 1, 1, 1, 1, 1, 1, 1, 1, 1, 0, 1, 0, 0])), (AItem.inLoop (subC (bodyC Try.prog 16) [1, 1, 1, 1, 1, 1, 1, 1, 1, 1, 0, 1, 0, 0])), (AItem.inBlock 5), (AItem.code (subC (bodyC Try.prog 16) [1, 1, 1, 1, 1, 1, 1, 1, 1, 1, 1]))], [], false, none, 5⟩ : AFr), [(⟨4, 104, (slotT 104 [(1, AV.im 7 l.length (opsF l)), (7, AV.ptr 1 0), (50, AV.sy (Value.int IntKind.i64 l.length)), (51, AV.sy (Value.int IntKind.i64 p.i)), (55, AV.ptr 0 0), (56, AV.ptr 1 0), (60, AV.agg [AV.sy (Value.int IntKind.i64 (l.getD p.i default).kind), AV.sy (Value.int IntKind.i64 (l.getD p.i default).at_), AV.by8 (l.getD p.i default).b, AV.sy (Value.int IntKind.i64 (l.getD p.i default).c.w), AV.im 1 (l.getD p.i default).c.keep.length (intsF (l.getD p.i default).c.keep), AV.sy (Value.int IntKind.i64 (l.getD p.i default).c.torn), AV.sy (Value.int IntKind.i64 (l.getD p.i default).c.at_)])]), (plC (subC (bodyC Try.prog 4) [1, 1, 1, 1, 1, 1, 0, 1, 0, 0, 1, 1, 0, 0, 1, 0]) 6), [(AItem.code (subC (bodyC Try.prog 4) [1, 1, 1, 1, 1, 1, 0, 1, 0, 0, 1, 1, 0, 0, 1, 1])), (AItem.inBlock 1), (AItem.code (subC (bodyC Try.prog 4) [1, 1, 1, 1, 1, 1, 0, 1, 0, 0, 1, 1, 1])), (AItem.inLoop (subC (bodyC Try.prog 4) [1, 1, 1, 1, 1, 1, 0, 1, 0, 0])), (AItem.inBlock 0), (AItem.code (subC (bodyC Try.prog 4) [1, 1, 1, 1, 1, 1, 1]))], [], false, none, 0⟩ : AFr)], memF [AB.obj (Ob.disk z.d), AB.mem 58 none [AV.ow 2 z.x.n, AV.ow 3 z.x.n, AV.sy (Value.int IntKind.i64 z.x.w), AV.im 1 z.x.kn z.x.kf, AV.sy (Value.int IntKind.i64 z.x.torn), AV.sy (Value.int IntKind.i64 z.x.at_), AV.sy (Value.int IntKind.i64 z.x.many), AV.sy (Value.bool z.x.down)], AB.rw 36 1 z.x.n z.x.sf, AB.rw 36 1 z.x.n z.x.cf, AB.rw 3 1 (l.getD p.i default).c.keep.length a.f] 0 Tr.e, 5⟩ : ASt)) (hI := ?_) (h := ?_) (fun (e : KpP) => [(191, ivA (e.k : Int))]) (fun e => [(4, .rw 3 1 (l.getD p.i default).c.keep.length e.f)]) (fun e => e.k ≤ (l.getD p.i default).c.keep.length) (fun e => (l.getD p.i default).c.keep.length - e.k) (KpP.mk 0 (intsF (l.getD p.i default).c.keep))
       all_goals first | exact Nat.zero_le _ | skip
       intro e j4 ihf
       refine To.R (h := ?_)
       refine To.Bd ((e.k : Int) < (l.getD p.i default).c.keep.length) (h := ?_) (g := ?_)
       · intro j5
         have j6 : e.k + 1 ≤ (l.getD p.i default).c.keep.length := by omega
         have j7 : (l.getD p.i default).c.keep.length - (e.k + 1) < (l.getD p.i default).c.keep.length - e.k := by omega
         refine To.R (k := 23) (C := ((0 : Int) ≤ e.k ∧ (e.k : Int) < (l.getD p.i default).c.keep.length) ∧ e.k < (l.getD p.i default).c.keep.length ∧ fits IntKind.i64 (e.k + 1)) (h := ?_)
         refine To.K (L := [LN.old 0, LN.old 1, LN.old 2, LN.old 3, LN.old 4]) (kp := [191, 190, 12, 10, 1, 0]) (ks := [[60, 56, 55, 51, 50, 7, 1]]) (ov := [(191, AV.sy (Value.int IntKind.i64 (KpP.mk (e.k + 1) (rwSet e.f e.k 0 [AV.v (Value.int IntKind.i64 99)])).k))]) (C := Same IntKind.i64 ∧ (↑e.k : Int) + 1 = (↑(e.k + 1) : Int)) (ihf (KpP.mk (e.k + 1) (rwSet e.f e.k 0 [.v (.int .i64 99)])) j6 j7)
       · intro j5
         have g1 : z.x.many = z.d.writes := hZG.goes.many
         have g2 : z.x.down = z.d.down := hZG.goes.down
         have g3 : rwaitsD z.x.toL = keysD z.d.waits := hZG.goes.waits hzF.ok
         have g4 : z.x.n = z.d.stays.length := by
           have := congrArg List.length hZG.goes.stays
           rw [show z.x.toL.stays.length = z.x.n from recsF_len _ _] at this
           exact this
         refine To.R (h := ?_)
         refine To.B (!z.x.down) (h := ?_) (g := ?_)
         · intro g5
           have g6 : (!z.d.down) = true := by rw [← g2]; exact g5
           have g7 : z.d.writes = z.x.many := g1.symm
           have g8 : keysD z.d.waits = rwaitsD z.x.toL := g3.symm
           have g9 : (z.d.stays.length : Int) = (z.x.n : Int) := by rw [g4]
           have g10 := keysD_len z.d.waits
           have g11 := hzF.ok.len
           have g12 : (id z.d).Fine := hzF
           have g13 : numsF (id z.d).waits.length (intsF (keysD (id z.d).waits)) = numsF (rwaitsD z.x.toL).length (intsF (rwaitsD z.x.toL)) := by
             show numsF z.d.waits.length (intsF (keysD z.d.waits)) = _
             rw [← g10, numsF_ints, numsF_ints, g3]
           have g14 : ∀ r, r < (id z.d).waits.length → intsF (keysD (id z.d).waits) r = intsF (numsF (id z.d).waits.length (intsF (keysD (id z.d).waits))) r := by
             show ∀ r, r < z.d.waits.length → intsF (keysD z.d.waits) r = intsF (numsF z.d.waits.length (intsF (keysD z.d.waits))) r
             rw [← g10, numsF_ints]; exact fun _ _ => rfl
           have g15 : ∀ r, r < (rwaitsD z.x.toL).length → intsF (rwaitsD z.x.toL) r = intsF (numsF (rwaitsD z.x.toL).length (intsF (rwaitsD z.x.toL))) r := by
             rw [numsF_ints]; exact fun _ _ => rfl
           have g16 : (numsF (id z.d).waits.length (intsF (keysD (id z.d).waits))).length ≤ 1000000 := by
             rw [numsF_len]; show z.d.waits.length ≤ 1000000; omega
           refine To.Y (!z.d.down) (C := z.d.Fine ∧ Same (AV.sy (Value.bool z.x.down))) (h := ?_)
           refine To.R (C := z.d.Fine ∧ Same (AV.sy (Value.int IntKind.i64 z.x.many))) (h := ?_)
           refine To.Yd ((fun x ↦ x.writes) z.d = z.x.many) (h := ?_)
           refine To.R (C := (id z.d).Fine ∧ (Same z.x.n ∧ Same z.x.n ∧ Same z.x.n) ∧ z.x.Ok ∧ True) (h := ?_)
           refine To.Yd (numsF (id z.d).waits.length (intsF (keysD (id z.d).waits)) = numsF (rwaitsD z.x.toL).length (intsF (rwaitsD z.x.toL))) (C := (∀ (r : Nat), r < (id z.d).waits.length → intsF (keysD (id z.d).waits) r = intsF (numsF (id z.d).waits.length (intsF (keysD (id z.d).waits))) r) ∧ (∀ (r : Nat), r < (rwaitsD z.x.toL).length → intsF (rwaitsD z.x.toL) r = intsF (numsF (rwaitsD z.x.toL).length (intsF (rwaitsD z.x.toL))) r) ∧ (numsF (id z.d).waits.length (intsF (keysD (id z.d).waits))).length ≤ 1000000) (h := ?_)
           refine To.R (C := True ∧ (id z.d).Fine ∧ Same (AV.ow 2 z.x.n)) (h := ?_)
           refine To.Yd ((fun d ↦ (d.stays.length : Int)) (id z.d) = z.x.n) (hp := ?_) (h := ?_)
           · exact g9
           refine To.R (k := 30) (C := fits IntKind.i64 (p.i + 1)) (h := ?_)
           refine To.K (L := [LN.old 0, LN.old 1, LN.old 2, LN.old 3]) (kp := [51, 50, 7, 5, 1]) (ov := [(51, AV.sy (Value.int IntKind.i64 (DkP.mk (p.i + 1) z.d z.x).i))]) (ob := [(0, AB.obj (Ob.disk (DkP.mk (p.i + 1) z.d z.x).d))]) (C := (Same IntKind.i64 ∧ (↑p.i : Int) + 1 = (↑(p.i + 1) : Int)) ∧ Ob.disk (id (id z.d)) = Ob.disk z.d) (hc := ?_) (ih (DkP.mk (p.i + 1) z.d z.x) ⟨hi1, hZ, hZG⟩ hi2)
           all_goals repeat' (first | exact trivial | exact rfl | exact fun _ _ => rfl | exact Int.natCast_succ _ | refine ⟨?_, ?_⟩)
         · intro g5
           have g6 : (!z.d.down) = false := by rw [← g2]; simpa using g5
           have g7 : z.d.writes = z.x.many := g1.symm
           have g8 : keysD z.d.waits = rwaitsD z.x.toL := g3.symm
           have g9 : (z.d.stays.length : Int) = (z.x.n : Int) := by rw [g4]
           have g10 := keysD_len z.d.waits
           have g11 := hzF.ok.len
           have g12 : (id z.d).Fine := hzF
           have g13 : numsF (id z.d).waits.length (intsF (keysD (id z.d).waits)) = numsF (rwaitsD z.x.toL).length (intsF (rwaitsD z.x.toL)) := by
             show numsF z.d.waits.length (intsF (keysD z.d.waits)) = _
             rw [← g10, numsF_ints, numsF_ints, g3]
           have g14 : ∀ r, r < (id z.d).waits.length → intsF (keysD (id z.d).waits) r = intsF (numsF (id z.d).waits.length (intsF (keysD (id z.d).waits))) r := by
             show ∀ r, r < z.d.waits.length → intsF (keysD z.d.waits) r = intsF (numsF z.d.waits.length (intsF (keysD z.d.waits))) r
             rw [← g10, numsF_ints]; exact fun _ _ => rfl
           have g15 : ∀ r, r < (rwaitsD z.x.toL).length → intsF (rwaitsD z.x.toL) r = intsF (numsF (rwaitsD z.x.toL).length (intsF (rwaitsD z.x.toL))) r := by
             rw [numsF_ints]; exact fun _ _ => rfl
           have g16 : (numsF (id z.d).waits.length (intsF (keysD (id z.d).waits))).length ≤ 1000000 := by
             rw [numsF_len]; show z.d.waits.length ≤ 1000000; omega
           refine To.N (!z.d.down) (C := z.d.Fine ∧ Same (AV.sy (Value.bool z.x.down))) (h := ?_)
           refine To.R (C := z.d.Fine ∧ Same (AV.sy (Value.int IntKind.i64 z.x.many))) (h := ?_)
           refine To.Yd ((fun x ↦ x.writes) z.d = z.x.many) (h := ?_)
           refine To.R (C := (id z.d).Fine ∧ (Same z.x.n ∧ Same z.x.n ∧ Same z.x.n) ∧ z.x.Ok ∧ True) (h := ?_)
           refine To.Yd (numsF (id z.d).waits.length (intsF (keysD (id z.d).waits)) = numsF (rwaitsD z.x.toL).length (intsF (rwaitsD z.x.toL))) (C := (∀ (r : Nat), r < (id z.d).waits.length → intsF (keysD (id z.d).waits) r = intsF (numsF (id z.d).waits.length (intsF (keysD (id z.d).waits))) r) ∧ (∀ (r : Nat), r < (rwaitsD z.x.toL).length → intsF (rwaitsD z.x.toL) r = intsF (numsF (rwaitsD z.x.toL).length (intsF (rwaitsD z.x.toL))) r) ∧ (numsF (id z.d).waits.length (intsF (keysD (id z.d).waits))).length ≤ 1000000) (h := ?_)
           refine To.R (C := True ∧ (id z.d).Fine ∧ Same (AV.ow 2 z.x.n)) (h := ?_)
           refine To.Yd ((fun d ↦ (d.stays.length : Int)) (id z.d) = z.x.n) (hp := ?_) (h := ?_)
           · exact g9
           refine To.R (k := 30) (C := fits IntKind.i64 (p.i + 1)) (h := ?_)
           refine To.K (L := [LN.old 0, LN.old 1, LN.old 2, LN.old 3]) (kp := [51, 50, 7, 5, 1]) (ov := [(51, AV.sy (Value.int IntKind.i64 (DkP.mk (p.i + 1) z.d z.x).i))]) (ob := [(0, AB.obj (Ob.disk (DkP.mk (p.i + 1) z.d z.x).d))]) (C := (Same IntKind.i64 ∧ (↑p.i : Int) + 1 = (↑(p.i + 1) : Int)) ∧ Ob.disk (id (id z.d)) = Ob.disk z.d) (hc := ?_) (ih (DkP.mk (p.i + 1) z.d z.x) ⟨hi1, hZ, hZG⟩ hi2)
           all_goals repeat' (first | exact trivial | exact rfl | exact fun _ _ => rfl | exact Int.natCast_succ _ | refine ⟨?_, ?_⟩)
   · intro h2
     have hb := hg.boot
     have hbf := hin.boot.fine
     have hff := hin.fine
     have hxo := hb.ok
     have hxn : p.x.n ≤ 4096 := by
       have := hg.ok.ok.le
       rw [show p.x.toL.stays.length = p.x.n from recsF_len _ _] at this
       exact this
     refine To.R (k := 28) (C := p.d.Fine ∧ True) (h := ?_)
     refine To.L (L := [LN.old 0, LN.old 1, LN.old 2, LN.old 3]) (kp := [78, 77, 7, 5]) (C := Same IntKind.i64 ∧ (0 : Int) = (↑(0 : Nat) : Int)) (st := fun (a : Nat) => (⟨(⟨4, 104, (slotT 104 [(5, AV.ptr 0 0), (7, AV.ptr 1 0), (77, AV.sy (Value.int IntKind.i64 p.x.n)), (78, AV.sy (Value.int IntKind.i64 a))]), ARg.no, [(AItem.code (subC (bodyC Try.prog 4) [1, 1, 1, 1, 1, 1, 1, 1, 1, 0, 1, 0, 0])), (AItem.inLoop (subC (bodyC Try.prog 4) [1, 1, 1, 1, 1, 1, 1, 1, 1, 0, 1, 0, 0])), (AItem.inBlock 2), (AItem.code (subC (bodyC Try.prog 4) [1, 1, 1, 1, 1, 1, 1, 1, 1, 1]))], [], false, none, 0⟩ : AFr), [], memF [AB.obj (Ob.disk (bootD p.d)), AB.mem 58 none [AV.ow 2 p.x.n, AV.ow 3 p.x.n, AV.sy (Value.int IntKind.i64 p.x.w), AV.im 1 p.x.kn p.x.kf, AV.sy (Value.int IntKind.i64 p.x.torn), AV.sy (Value.int IntKind.i64 p.x.at_), AV.sy (Value.int IntKind.i64 p.x.many), AV.v (Value.bool false)], AB.rw 36 1 p.x.n p.x.sf, AB.rw 36 1 p.x.n p.x.cf] 0 Tr.e, 4⟩ : ASt)) (h := ?_) (fun (t : Nat) => [(78, ivA (t : Int))]) (fun _ => []) (fun t => t ≤ p.x.n) (fun t => p.x.n - t) (0)
     all_goals first | exact Nat.zero_le _ | skip
     intro t ht iht
     have ha : rreadW (⟨p.x.n, p.x.sf, p.x.cf, p.x.w, p.x.kn, p.x.kf, p.x.torn, p.x.at_, p.x.many, false⟩ : RW) (t : Int) = ((readD (bootD p.d) (t : Int)).1.getD [], (readD (bootD p.d) (t : Int)).2) := hb.read hbf.ok (t : Int)
     refine To.R (h := ?_)
     refine To.Bd ((t : Int) < p.x.n) (h := ?_) (g := ?_)
     · intro k0
       have k1 : t + 1 ≤ p.x.n := by omega
       have k2 : p.x.n - (t + 1) < p.x.n - t := by omega
       refine To.R (h := ?_)
       refine To.B ((readD (bootD p.d) t).fst.isSome) (C := (bootD p.d).Fine) (h := ?_) (g := ?_)
       · intro q1
         have hrl : ((readD (bootD p.d) (t : Int)).1.getD []).length = 128 := by
           obtain ⟨⟨a, e⟩, _⟩ := rdJ_some q1
           rw [e]; exact readD_len hbf e
         have hr0 : (str (List.take ((readD (bootD p.d) (t : Int)).1.getD []).length ((readD (bootD p.d) (t : Int)).1.getD []))).data.toList = (str (rreadW (⟨p.x.n, p.x.sf, p.x.cf, p.x.w, p.x.kn, p.x.kf, p.x.torn, p.x.at_, p.x.many, false⟩ : RW) (t : Int)).1).data.toList := by
           rw [ha, List.take_length]
         have hr1 : (0 : Int) = (rreadW (⟨p.x.n, p.x.sf, p.x.cf, p.x.w, p.x.kn, p.x.kf, p.x.torn, p.x.at_, p.x.many, false⟩ : RW) (t : Int)).2 := by
           rw [ha]
           exact (read_some q1).symm
         refine To.R (C := ((Same p.x.n ∧ Same p.x.n ∧ Same p.x.n) ∧ (RW.mk p.x.n p.x.sf p.x.cf p.x.w p.x.kn p.x.kf p.x.torn p.x.at_ p.x.many false).Ok ∧ True) ∧ ((readD (bootD p.d) t).fst.getD []).length ≤ ((readD (bootD p.d) t).fst.getD []).length ∧ True) (h := ?_)
         refine To.Nn ((str (List.take ((readD (bootD p.d) t).fst.getD []).length ((readD (bootD p.d) t).fst.getD []))).data.toList = (str (rreadW (RW.mk p.x.n p.x.sf p.x.cf p.x.w p.x.kn p.x.kf p.x.torn p.x.at_ p.x.many false) t).fst).data.toList) (h := ?_)
         refine To.R (h := ?_)
         refine To.Nn (0 = (rreadW (RW.mk p.x.n p.x.sf p.x.cf p.x.w p.x.kn p.x.kf p.x.torn p.x.at_ p.x.many false) t).snd) (h := ?_)
         refine To.R (k := 10) (C := fits IntKind.i64 (t + 1)) (h := ?_)
         refine To.K (L := [LN.old 0, LN.old 1, LN.old 2, LN.old 3]) (kp := [78, 77, 7, 5]) (ov := [(78, AV.sy (Value.int IntKind.i64 (↑(t + 1) : Int)))]) (ob := [(1, AB.mem 58 none [AV.ow 2 p.x.n, AV.ow 3 p.x.n, AV.sy (Value.int IntKind.i64 p.x.w), AV.im 1 p.x.kn p.x.kf, AV.sy (Value.int IntKind.i64 p.x.torn), AV.sy (Value.int IntKind.i64 p.x.at_), AV.sy (Value.int IntKind.i64 p.x.many), AV.v (Value.bool false)])]) (C := (Same IntKind.i64 ∧ (↑t : Int) + 1 = (↑(t + 1) : Int)) ∧ 58 = 58 ∧ (none : Option Nat) = none ∧ (Same 2 ∧ Same p.x.n) ∧ (Same 3 ∧ Same p.x.n) ∧ (Same IntKind.i64 ∧ Same p.x.w) ∧ (Same 1 ∧ Same p.x.kn ∧ (∀ (r : Nat), r < p.x.kn → p.x.kf r = p.x.kf r)) ∧ (Same IntKind.i64 ∧ Same p.x.torn) ∧ (Same IntKind.i64 ∧ Same p.x.at_) ∧ (Same IntKind.i64 ∧ Same p.x.many) ∧ Same (Value.bool false) ∧ True) (iht (t + 1) k1 k2)
         all_goals repeat' (first | exact trivial | exact rfl | exact fun _ _ => rfl | exact Int.natCast_succ _ | refine ⟨?_, ?_⟩)
       · intro q1
         have hr0 : ByteArray.empty.data.toList = (str (rreadW (⟨p.x.n, p.x.sf, p.x.cf, p.x.w, p.x.kn, p.x.kf, p.x.torn, p.x.at_, p.x.many, false⟩ : RW) (t : Int)).1).data.toList := by
           rw [ha]
           simp only [read_none q1]
           rfl
         have hr1 : (readD (bootD p.d) (t : Int)).2 = (rreadW (⟨p.x.n, p.x.sf, p.x.cf, p.x.w, p.x.kn, p.x.kf, p.x.torn, p.x.at_, p.x.many, false⟩ : RW) (t : Int)).2 := by rw [ha]
         refine To.R (C := ((Same p.x.n ∧ Same p.x.n ∧ Same p.x.n) ∧ (RW.mk p.x.n p.x.sf p.x.cf p.x.w p.x.kn p.x.kf p.x.torn p.x.at_ p.x.many false).Ok ∧ True) ∧ True) (h := ?_)
         refine To.Nn (ByteArray.empty.data.toList = (str (rreadW (RW.mk p.x.n p.x.sf p.x.cf p.x.w p.x.kn p.x.kf p.x.torn p.x.at_ p.x.many false) t).fst).data.toList) (h := ?_)
         refine To.R (h := ?_)
         refine To.Nn ((readD (bootD p.d) t).snd = (rreadW (RW.mk p.x.n p.x.sf p.x.cf p.x.w p.x.kn p.x.kf p.x.torn p.x.at_ p.x.many false) t).snd) (h := ?_)
         refine To.R (k := 10) (C := fits IntKind.i64 (t + 1)) (h := ?_)
         refine To.K (L := [LN.old 0, LN.old 1, LN.old 2, LN.old 3]) (kp := [78, 77, 7, 5]) (ov := [(78, AV.sy (Value.int IntKind.i64 (↑(t + 1) : Int)))]) (ob := [(1, AB.mem 58 none [AV.ow 2 p.x.n, AV.ow 3 p.x.n, AV.sy (Value.int IntKind.i64 p.x.w), AV.im 1 p.x.kn p.x.kf, AV.sy (Value.int IntKind.i64 p.x.torn), AV.sy (Value.int IntKind.i64 p.x.at_), AV.sy (Value.int IntKind.i64 p.x.many), AV.v (Value.bool false)])]) (C := (Same IntKind.i64 ∧ (↑t : Int) + 1 = (↑(t + 1) : Int)) ∧ 58 = 58 ∧ (none : Option Nat) = none ∧ (Same 2 ∧ Same p.x.n) ∧ (Same 3 ∧ Same p.x.n) ∧ (Same IntKind.i64 ∧ Same p.x.w) ∧ (Same 1 ∧ Same p.x.kn ∧ (∀ (r : Nat), r < p.x.kn → p.x.kf r = p.x.kf r)) ∧ (Same IntKind.i64 ∧ Same p.x.torn) ∧ (Same IntKind.i64 ∧ Same p.x.at_) ∧ (Same IntKind.i64 ∧ Same p.x.many) ∧ Same (Value.bool false) ∧ True) (iht (t + 1) k1 k2)
         all_goals repeat' (first | exact trivial | exact rfl | exact fun _ _ => rfl | exact Int.natCast_succ _ | refine ⟨?_, ?_⟩)
     · intro k0
       refine To.R (h := ?_)
       refine To.E (AV.v (Value.bool true)) (hq := ?_)
       rfl
 · intro h3
   refine To.R (h := ?_)
   refine To.Nd (1 ≤ s ∧ s ≤ 4096) (h := ?_)
   refine To.R (h := ?_)
   refine To.E (AV.v (Value.bool true)) (hq := ?_)
   rfl
end Go.Proofs.Ytnfdknnbaebagaa.Sm
