/-
  Texts of this claim, laid together: Mf, Mg.
-/
import Derived.Test.YtnkjhicokcmmpaaGreatQf
import Derived.Test.YtnkjhicokcmmpaaGreatQd

namespace Go.Proofs.YtnkjhicokcmmpaaGreat.Sm
open Go Go.RowKit
def rootsF : CF := orF saveF (orF loadF (orF bothF (orF downF (orF armF (orF bootF (orF flushF (orF writeF spoilF)))))))
def rootsR : CF := orF rsaveF (orF rloadF (orF rbothF (orF rdownF (orF rarmF (orF rflushF (orF rwriteF rspoilF))))))
theorem rootsF_ok : FOk Tryz.prog rootsF := orF_ok saveF_ok (orF_ok loadF_ok (orF_ok bothF_ok (orF_ok downF_ok (orF_ok armF_ok (orF_ok bootF_ok (orF_ok flushF_ok (orF_ok writeF_ok spoilF_ok)))))))
theorem rootsR_ok : FOk Tryz.prog rootsR := orF_ok rsaveF_ok (orF_ok rloadF_ok (orF_ok rbothF_ok (orF_ok rdownF_ok (orF_ok rarmF_ok (orF_ok rflushF_ok (orF_ok rwriteF_ok rspoilF_ok))))))
noncomputable abbrev S21 : Sy := sym Tryz.prog (orF (orF rootsF rootsR) (orF sectorF same6F)) (orG newG (orG rnewG greatRG))
theorem s21_ok : S21.Ok Tryz.prog := sym_ok (orF_ok (orF_ok rootsF_ok rootsR_ok) (orF_ok sectorF_ok same6F_ok)) (orG_ok newG_ok (orG_ok rnewG_ok greatRG_ok)) tab mix
structure RtP where
 i : Nat
 d : DiskD
 x : RW
set_option maxHeartbeats 4000000 in
set_option maxRecDepth 100000 in
theorem plays6_to (hok : S21.Ok Tryz.prog) (s : Nat) (hs : s < 256) (l : List OpR) (hl : ∀ o ∈ l, o.Wf) :
   To S21 Tryz.prog 3 (startOf Tryz.prog 3 [.sy (.int .u8 (s : Int)), .im 10 l.length (opsRF l)] .e 0) (fun x _ _ => x = .v (.bool true)) := by
 have e1 := opsRof_ops l
 refine To.R (h := ?_)
 refine To.B (greatR (opsRof l.length (opsRF l))) (C := (∀ (r : Nat), r < l.length → opsRF l r = opsRF (opsRof l.length (opsRF l)) r)) (hc := ?_) (h := ?_) (g := ?_); (and_intros <;> try exact cl)
 · rw [e1]; exact fun r hr => rfl
 · intro h1
   refine To.R (h := ?_)
   refine To.E (AV.v (Value.bool true)) (hq := ?_)
   rfl
 intro h1
 rw [e1] at h1
 obtain ⟨hl1, hl2⟩ := great6_small h1
 refine To.R (C := fits IntKind.i64 s ∧ ((0 : Int) ≤ s ∧ (0 : Int) < 4) ∧ fits IntKind.i64 (1 + s % 4)) (h := ?_)
 refine To.Yd (1 ≤ 1 + (↑s : Int) % 4 ∧ 1 + (↑s : Int) % 4 ≤ 4096) (h := ?_)
 refine To.R (C := fits IntKind.i64 s ∧ ((0 : Int) ≤ s ∧ (0 : Int) < 4) ∧ fits IntKind.i64 (1 + s % 4)) (h := ?_)
 refine To.Yd (1 ≤ 1 + (↑s : Int) % 4 ∧ 1 + (↑s : Int) % 4 ≤ 4096) (h := ?_)
 refine To.R (h := ?_)
 refine To.Nn ((0 : Int) = 0) (h := ?_)
 refine To.R (k := 13) (h := ?_)
 have hk1 : 1 ≤ (1 + (s : Int) % 4).toNat := by omega
 have hk2 : (1 + (s : Int) % 4).toNat ≤ 4096 := by omega
 refine To.L (L := [LN.old 0, LN.old 1, LN.old 2, LN.old 3]) (kp := [37, 36, 7, 5, 1]) (C := (Same IntKind.i64 ∧ (0 : Int) = (↑(0 : Nat) : Int)) ∧ Same (Ob.disk (newD ((1 : Int) + s % 4).toNat)) ∧ (Same 45 ∧ (none : Option Nat) = none ∧ (Same 2 ∧ Same (rnewD ((1 : Int) + s % 4).toNat).raw.n) ∧ (Same 3 ∧ Same (rnewD ((1 : Int) + s % 4).toNat).raw.n) ∧ (Same IntKind.i64 ∧ Same (rnewD ((1 : Int) + s % 4).toNat).raw.w) ∧ (Same 1 ∧ Same 0 ∧ (∀ (r : Nat), r < (rnewD (1 + (↑s : Int) % 4).toNat).raw.kn → (rnewD (1 + (↑s : Int) % 4).toNat).raw.kf r = (rnewD (1 + (↑s : Int) % 4).toNat).raw.kf r)) ∧ (Same IntKind.i64 ∧ Same (rnewD ((1 : Int) + s % 4).toNat).raw.torn) ∧ (Same IntKind.i64 ∧ Same (rnewD ((1 : Int) + s % 4).toNat).raw.at_) ∧ (Same IntKind.i64 ∧ Same (rnewD ((1 : Int) + s % 4).toNat).raw.many) ∧ Same (rnewD ((1 : Int) + s % 4).toNat).raw.down ∧ True) ∧ (Same 36 ∧ Same 1 ∧ Same (rnewD ((1 : Int) + s % 4).toNat).raw.n ∧ (∀ (r : Nat), r < (rnewD (1 + (↑s : Int) % 4).toNat).raw.n → (rnewD (1 + (↑s : Int) % 4).toNat).raw.sf r = (rnewD (1 + (↑s : Int) % 4).toNat).raw.sf r)) ∧ Same 36 ∧ Same 1 ∧ Same (rnewD ((1 : Int) + s % 4).toNat).raw.n ∧ (∀ (r : Nat), r < (rnewD (1 + (↑s : Int) % 4).toNat).raw.n → (rnewD (1 + (↑s : Int) % 4).toNat).raw.cf r = (rnewD (1 + (↑s : Int) % 4).toNat).raw.cf r)) (st := fun (a : RtP) => (⟨(⟨3, 58, (slotT 58 [(1, AV.im 10 l.length (opsRF l)), (5, AV.ptr 0 0), (7, AV.ptr 1 0), (36, AV.sy (Value.int IntKind.i64 l.length)), (37, AV.sy (Value.int IntKind.i64 a.i))]), ARg.no, [(AItem.code (subC (bodyC Tryz.prog 3) [1, 1, 1, 1, 1, 0, 1, 0, 0])), (AItem.inLoop (subC (bodyC Tryz.prog 3) [1, 1, 1, 1, 1, 0, 1, 0, 0])), (AItem.inBlock 0), (AItem.code (subC (bodyC Tryz.prog 3) [1, 1, 1, 1, 1, 1]))], [], false, none, 0⟩ : AFr), [], memF [AB.obj (Ob.disk a.d), AB.mem 45 none [AV.ow 2 a.x.n, AV.ow 3 a.x.n, AV.sy (Value.int IntKind.i64 a.x.w), AV.im 1 a.x.kn a.x.kf, AV.sy (Value.int IntKind.i64 a.x.torn), AV.sy (Value.int IntKind.i64 a.x.at_), AV.sy (Value.int IntKind.i64 a.x.many), AV.sy (Value.bool a.x.down)], AB.rw 36 1 a.x.n a.x.sf, AB.rw 36 1 a.x.n a.x.cf] 0 Tr.e, 4⟩ : ASt)) (hI := ?_) (h := ?_) (fun (p : RtP) => [(37, ivA (p.i : Int))]) (fun p => [(0, .obj (.disk p.d)), (1, .mem 45 none [.ow 2 p.x.n, .ow 3 p.x.n, ivA p.x.w, .im 1 p.x.kn p.x.kf, ivA p.x.torn, ivA p.x.at_, ivA p.x.many, .sy (.bool p.x.down)]), (2, .rw 36 1 p.x.n p.x.sf), (3, .rw 36 1 p.x.n p.x.cf)]) (fun p => p.i ≤ l.length ∧ p.d.In p.i ∧ GoesW p.d p.x) (fun p => l.length - p.i) (RtP.mk 0 (newD (1 + (s : Int) % 4).toNat) (rnewD (1 + (s : Int) % 4).toNat).raw)
 · exact ⟨Nat.zero_le _, newD_in hk1 hk2, goesW_new hk1 hk2⟩
 intro p ⟨hp, hin, hg⟩ ih
 refine To.R (h := ?_)
 refine To.Bd ((p.i : Int) < l.length) (h := ?_) (g := ?_)
 · intro h2
   have hlt : p.i < l.length := by omega
   have hi1 : p.i + 1 ≤ l.length := by omega
   have hi2 : l.length - (p.i + 1) < l.length - p.i := by omega
   have hmem : l.getD p.i default ∈ l := by rw [List.getD_eq_getElem?_getD, List.getElem?_eq_getElem hlt]; simp
   have hwf := hl _ hmem
   have hsm := hl2 _ hmem
   have hfF := hin.fine
   have hxo := hg.ok
   have hn : p.i < 1000000000 := by omega
   have hn' : p.i ≤ p.i + 1 := Nat.le_succ _
   have hM : p.i + 1 ≤ 1000000000 := by omega
   refine To.R (C := ((0 : Int) ≤ p.i ∧ (p.i : Int) < l.length) ∧ True) (h := ?_)
   refine To.Bd ((l.getD p.i default).kind = 0) (h := ?_) (g := ?_)
   · intro h3
     have hr1 : ((l.getD p.i default).r.n : Int) < 18446744073709551616 := by have := hwf.r.n; omega
     have hr2 : ((l.getD p.i default).r.sum : Int) < 4294967296 := by have := hwf.r.sum; omega
     obtain ⟨hs1, hs2⟩ := hin.self
     have hs3 : p.d.writes.toNat < 1000000000 := by omega
     have hs4 : ∃ d n, GoesW d p.x ∧ d.In n ∧ n < 1000000000 := ⟨p.d, p.i, hg, hin, hn⟩
     have ha := hg.save hin hn (l.getD p.i default).r
     refine To.R (C := ((((0 : Int) ≤ (l.getD p.i default).r.n ∧ (l.getD p.i default).r.n < (18446744073709551616 : Int)) ∧ (0 : Int) ≤ (l.getD p.i default).r.sum ∧ (l.getD p.i default).r.sum < (4294967296 : Int)) ∧ p.d.In p.d.writes.toNat ∧ p.d.writes.toNat < 1000000000) ∧ Same (AV.agg [AV.sy (Value.int IntKind.u64 (l.getD p.i default).r.n), AV.sy (Value.int IntKind.i64 (l.getD p.i default).r.len), AV.sy (Value.int IntKind.u32 (l.getD p.i default).r.sum)]) ∧ (Same p.x.n ∧ Same p.x.n ∧ Same p.x.n) ∧ (((0 : Int) ≤ (l.getD p.i default).r.n ∧ (l.getD p.i default).r.n < (18446744073709551616 : Int)) ∧ (0 : Int) ≤ (l.getD p.i default).r.sum ∧ (l.getD p.i default).r.sum < (4294967296 : Int)) ∧ (∃ d n, GoesW d p.x ∧ d.In n ∧ n < 1000000000)) (h := ?_)
     refine To.Yd ((saveD p.d (l.getD p.i default).r).snd = (rsaveW p.x (l.getD p.i default).r).snd) (h := ?_)
     refine To.R (k := 19) (C := fits IntKind.i64 (p.i + 1)) (h := ?_)
     refine To.K (L := [LN.old 0, LN.old 1, LN.old 2, LN.old 3]) (kp := [37, 36, 7, 5, 1]) (ov := [(37, AV.sy (Value.int IntKind.i64 (RtP.mk (p.i + 1) (saveD p.d (l.getD p.i default).r).fst (rsaveW p.x (l.getD p.i default).r).fst).i))]) (C := Same IntKind.i64 ∧ (↑p.i : Int) + 1 = (↑(p.i + 1) : Int)) (ih (RtP.mk (p.i + 1) (saveD p.d (l.getD p.i default).r).1 (rsaveW p.x (l.getD p.i default).r).1) ⟨hi1, hin.save hn _, ha.1⟩ hi2)
     all_goals repeat' (first | exact trivial | exact rfl | exact fun _ _ => rfl | exact Int.natCast_succ _ | refine ⟨?_, ?_⟩)
   intro h3
   refine To.R (h := ?_)
   refine To.Bd ((l.getD p.i default).kind = 1) (h := ?_) (g := ?_)
   · intro h4
     have hll := hg.load hfF.ok
     have hbb := hg.both hfF.ok
     have h2l := both_two p.d
     have hbl : (bothD p.d).1.length = (rbothW p.x).1.length := by rw [hbb]
     have hb1 : ∀ r, r < (bothD p.d).1.length → rowsOf rootAV (bothD p.d).1 r = rowsOf rootAV (rootsQ (bothD p.d).1.length (rowsOf rootAV (bothD p.d).1)) r := by rw [rootsQ_rows]; exact fun _ _ => rfl
     have hb2 : ∀ r, r < (rbothW p.x).1.length → rowsOf rootAV (rbothW p.x).1 r = rowsOf rootAV (bothD p.d).1 r := by rw [hbb]; exact fun _ _ => rfl
     refine To.R (C := p.d.Fine ∧ ((Same p.x.n ∧ Same p.x.n ∧ Same p.x.n) ∧ p.x.Ok) ∧ p.d.Fine ∧ (Same p.x.n ∧ Same p.x.n ∧ Same p.x.n) ∧ p.x.Ok) (h := ?_)
     refine To.Yd ([(↑(loadD p.d).fst.n : Int), (loadD p.d).fst.len, (↑(loadD p.d).fst.sum : Int)] = [(↑(rloadW p.x).fst.n : Int), (rloadW p.x).fst.len, (↑(rloadW p.x).fst.sum : Int)]) (hp := ?_) (h := ?_)
     · rw [hll]
     refine To.R (h := ?_)
     refine To.Yd ((loadD p.d).snd = (rloadW p.x).snd) (hp := ?_) (h := ?_)
     · rw [hll]
     refine To.R (C := (bothD p.d).fst.length ≤ 2 ∧ (bothD p.d).fst.length = (rbothW p.x).fst.length ∧ (∀ (r : Nat), r < (bothD p.d).fst.length → rowsOf rootAV (bothD p.d).fst r = rowsOf rootAV (rootsQ (bothD p.d).fst.length (rowsOf rootAV (bothD p.d).fst)) r) ∧ (∀ (r : Nat), r < (rbothW p.x).fst.length → rowsOf rootAV (rbothW p.x).fst r = rowsOf rootAV (bothD p.d).fst r)) (h := ?_)
     refine To.Yd ((bothD p.d).snd = (rbothW p.x).snd) (hp := ?_) (h := ?_)
     · rw [hbb]
     refine To.R (k := 24) (C := fits IntKind.i64 (p.i + 1)) (h := ?_)
     refine To.K (L := [LN.old 0, LN.old 1, LN.old 2, LN.old 3]) (kp := [37, 36, 7, 5, 1]) (ov := [(37, AV.sy (Value.int IntKind.i64 (RtP.mk (p.i + 1) p.d p.x).i))]) (C := Same IntKind.i64 ∧ (↑p.i : Int) + 1 = (↑(p.i + 1) : Int)) (ih (RtP.mk (p.i + 1) p.d p.x) ⟨hi1, hin.more hn' hM, hg⟩ hi2)
     all_goals repeat' (first | exact trivial | exact rfl | exact fun _ _ => rfl | exact Int.natCast_succ _ | refine ⟨?_, ?_⟩)
   have hq1 := numsF_ints (l.getD p.i default).c.keep
   have hq2 : ∀ r, r < (l.getD p.i default).c.keep.length → intsF (l.getD p.i default).c.keep r = intsF (numsF (l.getD p.i default).c.keep.length (intsF (l.getD p.i default).c.keep)) r := by rw [hq1]; exact fun _ _ => rfl
   have hq3 : (numsF (l.getD p.i default).c.keep.length (intsF (l.getD p.i default).c.keep)).length ≤ 1000000 := by rw [hq1]; omega
   have hq4 : (l.getD p.i default).c.keep.length ≤ 1000000 := by omega
   have hq5 := hwf.c.at_
   have hq6 := hwf.c.w
   have hq7 := hwf.c.torn
   intro h4
   refine To.R (h := ?_)
   refine To.Bd ((l.getD p.i default).kind = 2) (h := ?_) (g := ?_)
   · intro h5
     have ha := hg.down hin ⟨(l.getD p.i default).c.w, numsF (l.getD p.i default).c.keep.length (intsF (l.getD p.i default).c.keep), (l.getD p.i default).c.torn, (l.getD p.i default).c.at_⟩
     refine To.R (C := ((∀ (r : Nat), r < (l.getD p.i default).c.keep.length → intsF (l.getD p.i default).c.keep r = intsF (numsF (l.getD p.i default).c.keep.length (intsF (l.getD p.i default).c.keep)) r) ∧ p.d.Fine ∧ (numsF (l.getD p.i default).c.keep.length (intsF (l.getD p.i default).c.keep)).length ≤ 1000000 ∧ fits IntKind.i64 (l.getD p.i default).c.at_) ∧ Same (AV.agg [AV.sy (Value.int IntKind.i64 (l.getD p.i default).c.w), AV.im 1 (l.getD p.i default).c.keep.length (intsF (l.getD p.i default).c.keep), AV.sy (Value.int IntKind.i64 (l.getD p.i default).c.torn), AV.sy (Value.int IntKind.i64 (l.getD p.i default).c.at_)]) ∧ (Same p.x.n ∧ Same p.x.n ∧ Same p.x.n) ∧ p.x.Ok ∧ (∀ (q : Nat), q < (l.getD p.i default).c.keep.length → (CW.mk (l.getD p.i default).c.w (l.getD p.i default).c.keep.length (intsF (l.getD p.i default).c.keep) (l.getD p.i default).c.torn (l.getD p.i default).c.at_).kf q = intsF (numsF (l.getD p.i default).c.keep.length (intsF (l.getD p.i default).c.keep)) q) ∧ (l.getD p.i default).c.keep.length ≤ 1000000) (h := ?_)
     refine To.Yd ((downD p.d (CrashD.mk (l.getD p.i default).c.w (numsF (l.getD p.i default).c.keep.length (intsF (l.getD p.i default).c.keep)) (l.getD p.i default).c.torn (l.getD p.i default).c.at_)).snd = (rdownW p.x (CW.mk (l.getD p.i default).c.w (l.getD p.i default).c.keep.length (intsF (l.getD p.i default).c.keep) (l.getD p.i default).c.torn (l.getD p.i default).c.at_).toL).snd) (hp := ?_) (h := ?_)
     · exact ha.2.symm
     refine To.R (k := 19) (C := fits IntKind.i64 (p.i + 1)) (h := ?_)
     refine To.K (L := [LN.old 0, LN.old 1, LN.old 2, LN.old 3]) (kp := [37, 36, 7, 5, 1]) (ov := [(37, AV.sy (Value.int IntKind.i64 (RtP.mk (p.i + 1) (downD p.d (CrashD.mk (l.getD p.i default).c.w (numsF (l.getD p.i default).c.keep.length (intsF (l.getD p.i default).c.keep)) (l.getD p.i default).c.torn (l.getD p.i default).c.at_)).fst (rdownW p.x (CrashD.mk (l.getD p.i default).c.w (numsF (l.getD p.i default).c.keep.length (intsF (l.getD p.i default).c.keep)) (l.getD p.i default).c.torn (l.getD p.i default).c.at_)).fst).i))]) (ob := [(1, AB.mem 45 none [AV.ow 2 (RtP.mk (p.i + 1) (downD p.d (CrashD.mk (l.getD p.i default).c.w (numsF (l.getD p.i default).c.keep.length (intsF (l.getD p.i default).c.keep)) (l.getD p.i default).c.torn (l.getD p.i default).c.at_)).fst (rdownW p.x (CrashD.mk (l.getD p.i default).c.w (numsF (l.getD p.i default).c.keep.length (intsF (l.getD p.i default).c.keep)) (l.getD p.i default).c.torn (l.getD p.i default).c.at_)).fst).x.n, AV.ow 3 (RtP.mk (p.i + 1) (downD p.d (CrashD.mk (l.getD p.i default).c.w (numsF (l.getD p.i default).c.keep.length (intsF (l.getD p.i default).c.keep)) (l.getD p.i default).c.torn (l.getD p.i default).c.at_)).fst (rdownW p.x (CrashD.mk (l.getD p.i default).c.w (numsF (l.getD p.i default).c.keep.length (intsF (l.getD p.i default).c.keep)) (l.getD p.i default).c.torn (l.getD p.i default).c.at_)).fst).x.n, AV.sy (Value.int IntKind.i64 (RtP.mk (p.i + 1) (downD p.d (CrashD.mk (l.getD p.i default).c.w (numsF (l.getD p.i default).c.keep.length (intsF (l.getD p.i default).c.keep)) (l.getD p.i default).c.torn (l.getD p.i default).c.at_)).fst (rdownW p.x (CrashD.mk (l.getD p.i default).c.w (numsF (l.getD p.i default).c.keep.length (intsF (l.getD p.i default).c.keep)) (l.getD p.i default).c.torn (l.getD p.i default).c.at_)).fst).x.w), AV.im 1 (RtP.mk (p.i + 1) (downD p.d (CrashD.mk (l.getD p.i default).c.w (numsF (l.getD p.i default).c.keep.length (intsF (l.getD p.i default).c.keep)) (l.getD p.i default).c.torn (l.getD p.i default).c.at_)).fst (rdownW p.x (CrashD.mk (l.getD p.i default).c.w (numsF (l.getD p.i default).c.keep.length (intsF (l.getD p.i default).c.keep)) (l.getD p.i default).c.torn (l.getD p.i default).c.at_)).fst).x.kn (RtP.mk (p.i + 1) (downD p.d (CrashD.mk (l.getD p.i default).c.w (numsF (l.getD p.i default).c.keep.length (intsF (l.getD p.i default).c.keep)) (l.getD p.i default).c.torn (l.getD p.i default).c.at_)).fst (rdownW p.x (CrashD.mk (l.getD p.i default).c.w (numsF (l.getD p.i default).c.keep.length (intsF (l.getD p.i default).c.keep)) (l.getD p.i default).c.torn (l.getD p.i default).c.at_)).fst).x.kf, AV.sy (Value.int IntKind.i64 (RtP.mk (p.i + 1) (downD p.d (CrashD.mk (l.getD p.i default).c.w (numsF (l.getD p.i default).c.keep.length (intsF (l.getD p.i default).c.keep)) (l.getD p.i default).c.torn (l.getD p.i default).c.at_)).fst (rdownW p.x (CrashD.mk (l.getD p.i default).c.w (numsF (l.getD p.i default).c.keep.length (intsF (l.getD p.i default).c.keep)) (l.getD p.i default).c.torn (l.getD p.i default).c.at_)).fst).x.torn), AV.sy (Value.int IntKind.i64 (RtP.mk (p.i + 1) (downD p.d (CrashD.mk (l.getD p.i default).c.w (numsF (l.getD p.i default).c.keep.length (intsF (l.getD p.i default).c.keep)) (l.getD p.i default).c.torn (l.getD p.i default).c.at_)).fst (rdownW p.x (CrashD.mk (l.getD p.i default).c.w (numsF (l.getD p.i default).c.keep.length (intsF (l.getD p.i default).c.keep)) (l.getD p.i default).c.torn (l.getD p.i default).c.at_)).fst).x.at_), AV.sy (Value.int IntKind.i64 (RtP.mk (p.i + 1) (downD p.d (CrashD.mk (l.getD p.i default).c.w (numsF (l.getD p.i default).c.keep.length (intsF (l.getD p.i default).c.keep)) (l.getD p.i default).c.torn (l.getD p.i default).c.at_)).fst (rdownW p.x (CrashD.mk (l.getD p.i default).c.w (numsF (l.getD p.i default).c.keep.length (intsF (l.getD p.i default).c.keep)) (l.getD p.i default).c.torn (l.getD p.i default).c.at_)).fst).x.many), AV.sy (Value.bool (RtP.mk (p.i + 1) (downD p.d (CrashD.mk (l.getD p.i default).c.w (numsF (l.getD p.i default).c.keep.length (intsF (l.getD p.i default).c.keep)) (l.getD p.i default).c.torn (l.getD p.i default).c.at_)).fst (rdownW p.x (CrashD.mk (l.getD p.i default).c.w (numsF (l.getD p.i default).c.keep.length (intsF (l.getD p.i default).c.keep)) (l.getD p.i default).c.torn (l.getD p.i default).c.at_)).fst).x.down)]), (2, AB.rw 36 1 (RtP.mk (p.i + 1) (downD p.d (CrashD.mk (l.getD p.i default).c.w (numsF (l.getD p.i default).c.keep.length (intsF (l.getD p.i default).c.keep)) (l.getD p.i default).c.torn (l.getD p.i default).c.at_)).fst (rdownW p.x (CrashD.mk (l.getD p.i default).c.w (numsF (l.getD p.i default).c.keep.length (intsF (l.getD p.i default).c.keep)) (l.getD p.i default).c.torn (l.getD p.i default).c.at_)).fst).x.n (RtP.mk (p.i + 1) (downD p.d (CrashD.mk (l.getD p.i default).c.w (numsF (l.getD p.i default).c.keep.length (intsF (l.getD p.i default).c.keep)) (l.getD p.i default).c.torn (l.getD p.i default).c.at_)).fst (rdownW p.x (CrashD.mk (l.getD p.i default).c.w (numsF (l.getD p.i default).c.keep.length (intsF (l.getD p.i default).c.keep)) (l.getD p.i default).c.torn (l.getD p.i default).c.at_)).fst).x.sf), (3, AB.rw 36 1 (RtP.mk (p.i + 1) (downD p.d (CrashD.mk (l.getD p.i default).c.w (numsF (l.getD p.i default).c.keep.length (intsF (l.getD p.i default).c.keep)) (l.getD p.i default).c.torn (l.getD p.i default).c.at_)).fst (rdownW p.x (CrashD.mk (l.getD p.i default).c.w (numsF (l.getD p.i default).c.keep.length (intsF (l.getD p.i default).c.keep)) (l.getD p.i default).c.torn (l.getD p.i default).c.at_)).fst).x.n (RtP.mk (p.i + 1) (downD p.d (CrashD.mk (l.getD p.i default).c.w (numsF (l.getD p.i default).c.keep.length (intsF (l.getD p.i default).c.keep)) (l.getD p.i default).c.torn (l.getD p.i default).c.at_)).fst (rdownW p.x (CrashD.mk (l.getD p.i default).c.w (numsF (l.getD p.i default).c.keep.length (intsF (l.getD p.i default).c.keep)) (l.getD p.i default).c.torn (l.getD p.i default).c.at_)).fst).x.cf)]) (C := (Same IntKind.i64 ∧ (↑p.i : Int) + 1 = (↑(p.i + 1) : Int)) ∧ (45 = 45 ∧ (none : Option Nat) = none ∧ (Same 2 ∧ (rdownW p.x (CW.mk (l.getD p.i default).c.w (l.getD p.i default).c.keep.length (intsF (l.getD p.i default).c.keep) (l.getD p.i default).c.torn (l.getD p.i default).c.at_).toL).fst.n = (rdownW p.x (CrashD.mk (l.getD p.i default).c.w (numsF (l.getD p.i default).c.keep.length (intsF (l.getD p.i default).c.keep)) (l.getD p.i default).c.torn (l.getD p.i default).c.at_)).fst.n) ∧ (Same 3 ∧ (rdownW p.x (CW.mk (l.getD p.i default).c.w (l.getD p.i default).c.keep.length (intsF (l.getD p.i default).c.keep) (l.getD p.i default).c.torn (l.getD p.i default).c.at_).toL).fst.n = (rdownW p.x (CrashD.mk (l.getD p.i default).c.w (numsF (l.getD p.i default).c.keep.length (intsF (l.getD p.i default).c.keep)) (l.getD p.i default).c.torn (l.getD p.i default).c.at_)).fst.n) ∧ (Same IntKind.i64 ∧ (rdownW p.x (CW.mk (l.getD p.i default).c.w (l.getD p.i default).c.keep.length (intsF (l.getD p.i default).c.keep) (l.getD p.i default).c.torn (l.getD p.i default).c.at_).toL).fst.w = (rdownW p.x (CrashD.mk (l.getD p.i default).c.w (numsF (l.getD p.i default).c.keep.length (intsF (l.getD p.i default).c.keep)) (l.getD p.i default).c.torn (l.getD p.i default).c.at_)).fst.w) ∧ (Same 1 ∧ (rdownW p.x (CW.mk (l.getD p.i default).c.w (l.getD p.i default).c.keep.length (intsF (l.getD p.i default).c.keep) (l.getD p.i default).c.torn (l.getD p.i default).c.at_).toL).fst.kn = (rdownW p.x (CrashD.mk (l.getD p.i default).c.w (numsF (l.getD p.i default).c.keep.length (intsF (l.getD p.i default).c.keep)) (l.getD p.i default).c.torn (l.getD p.i default).c.at_)).fst.kn ∧ (∀ (r : Nat), r < (rdownW p.x (CW.mk (l.getD p.i default).c.w (l.getD p.i default).c.keep.length (intsF (l.getD p.i default).c.keep) (l.getD p.i default).c.torn (l.getD p.i default).c.at_).toL).fst.kn → (rdownW p.x (CW.mk (l.getD p.i default).c.w (l.getD p.i default).c.keep.length (intsF (l.getD p.i default).c.keep) (l.getD p.i default).c.torn (l.getD p.i default).c.at_).toL).fst.kf r = (rdownW p.x (CrashD.mk (l.getD p.i default).c.w (numsF (l.getD p.i default).c.keep.length (intsF (l.getD p.i default).c.keep)) (l.getD p.i default).c.torn (l.getD p.i default).c.at_)).fst.kf r)) ∧ (Same IntKind.i64 ∧ (rdownW p.x (CW.mk (l.getD p.i default).c.w (l.getD p.i default).c.keep.length (intsF (l.getD p.i default).c.keep) (l.getD p.i default).c.torn (l.getD p.i default).c.at_).toL).fst.torn = (rdownW p.x (CrashD.mk (l.getD p.i default).c.w (numsF (l.getD p.i default).c.keep.length (intsF (l.getD p.i default).c.keep)) (l.getD p.i default).c.torn (l.getD p.i default).c.at_)).fst.torn) ∧ (Same IntKind.i64 ∧ (rdownW p.x (CW.mk (l.getD p.i default).c.w (l.getD p.i default).c.keep.length (intsF (l.getD p.i default).c.keep) (l.getD p.i default).c.torn (l.getD p.i default).c.at_).toL).fst.at_ = (rdownW p.x (CrashD.mk (l.getD p.i default).c.w (numsF (l.getD p.i default).c.keep.length (intsF (l.getD p.i default).c.keep)) (l.getD p.i default).c.torn (l.getD p.i default).c.at_)).fst.at_) ∧ (Same IntKind.i64 ∧ (rdownW p.x (CW.mk (l.getD p.i default).c.w (l.getD p.i default).c.keep.length (intsF (l.getD p.i default).c.keep) (l.getD p.i default).c.torn (l.getD p.i default).c.at_).toL).fst.many = (rdownW p.x (CrashD.mk (l.getD p.i default).c.w (numsF (l.getD p.i default).c.keep.length (intsF (l.getD p.i default).c.keep)) (l.getD p.i default).c.torn (l.getD p.i default).c.at_)).fst.many) ∧ (rdownW p.x (CW.mk (l.getD p.i default).c.w (l.getD p.i default).c.keep.length (intsF (l.getD p.i default).c.keep) (l.getD p.i default).c.torn (l.getD p.i default).c.at_).toL).fst.down = (rdownW p.x (CrashD.mk (l.getD p.i default).c.w (numsF (l.getD p.i default).c.keep.length (intsF (l.getD p.i default).c.keep)) (l.getD p.i default).c.torn (l.getD p.i default).c.at_)).fst.down ∧ True) ∧ (36 = 36 ∧ Same 1 ∧ (rdownW p.x (CW.mk (l.getD p.i default).c.w (l.getD p.i default).c.keep.length (intsF (l.getD p.i default).c.keep) (l.getD p.i default).c.torn (l.getD p.i default).c.at_).toL).fst.n = (rdownW p.x (CrashD.mk (l.getD p.i default).c.w (numsF (l.getD p.i default).c.keep.length (intsF (l.getD p.i default).c.keep)) (l.getD p.i default).c.torn (l.getD p.i default).c.at_)).fst.n ∧ (∀ (r : Nat), r < (rdownW p.x (CW.mk (l.getD p.i default).c.w (l.getD p.i default).c.keep.length (intsF (l.getD p.i default).c.keep) (l.getD p.i default).c.torn (l.getD p.i default).c.at_).toL).fst.n → (rdownW p.x (CW.mk (l.getD p.i default).c.w (l.getD p.i default).c.keep.length (intsF (l.getD p.i default).c.keep) (l.getD p.i default).c.torn (l.getD p.i default).c.at_).toL).fst.sf r = (rdownW p.x (CrashD.mk (l.getD p.i default).c.w (numsF (l.getD p.i default).c.keep.length (intsF (l.getD p.i default).c.keep)) (l.getD p.i default).c.torn (l.getD p.i default).c.at_)).fst.sf r)) ∧ 36 = 36 ∧ Same 1 ∧ (rdownW p.x (CW.mk (l.getD p.i default).c.w (l.getD p.i default).c.keep.length (intsF (l.getD p.i default).c.keep) (l.getD p.i default).c.torn (l.getD p.i default).c.at_).toL).fst.n = (rdownW p.x (CrashD.mk (l.getD p.i default).c.w (numsF (l.getD p.i default).c.keep.length (intsF (l.getD p.i default).c.keep)) (l.getD p.i default).c.torn (l.getD p.i default).c.at_)).fst.n ∧ (∀ (r : Nat), r < (rdownW p.x (CW.mk (l.getD p.i default).c.w (l.getD p.i default).c.keep.length (intsF (l.getD p.i default).c.keep) (l.getD p.i default).c.torn (l.getD p.i default).c.at_).toL).fst.n → (rdownW p.x (CW.mk (l.getD p.i default).c.w (l.getD p.i default).c.keep.length (intsF (l.getD p.i default).c.keep) (l.getD p.i default).c.torn (l.getD p.i default).c.at_).toL).fst.cf r = (rdownW p.x (CrashD.mk (l.getD p.i default).c.w (numsF (l.getD p.i default).c.keep.length (intsF (l.getD p.i default).c.keep)) (l.getD p.i default).c.torn (l.getD p.i default).c.at_)).fst.cf r)) (hc := ?_) (ih (RtP.mk (p.i + 1) (downD p.d ⟨(l.getD p.i default).c.w, numsF (l.getD p.i default).c.keep.length (intsF (l.getD p.i default).c.keep), (l.getD p.i default).c.torn, (l.getD p.i default).c.at_⟩).1 (rdownW p.x ⟨(l.getD p.i default).c.w, numsF (l.getD p.i default).c.keep.length (intsF (l.getD p.i default).c.keep), (l.getD p.i default).c.torn, (l.getD p.i default).c.at_⟩).1) ⟨hi1, (hin.down _).more hn' hM, ha.1⟩ hi2)
     all_goals repeat' (first | exact trivial | exact rfl | exact fun _ _ => rfl | exact Int.natCast_succ _ | refine ⟨?_, ?_⟩)
   intro h5
   refine To.R (h := ?_)
   refine To.Bd ((l.getD p.i default).kind = 3) (h := ?_) (g := ?_)
   · intro h6
     have ha := hg.arm hin (c := ⟨(l.getD p.i default).c.w, numsF (l.getD p.i default).c.keep.length (intsF (l.getD p.i default).c.keep), (l.getD p.i default).c.torn, (l.getD p.i default).c.at_⟩) ⟨hq6, hq7, hq5⟩ hq3
     refine To.R (C := ((∀ (r : Nat), r < (l.getD p.i default).c.keep.length → intsF (l.getD p.i default).c.keep r = intsF (numsF (l.getD p.i default).c.keep.length (intsF (l.getD p.i default).c.keep)) r) ∧ p.d.Fine ∧ (numsF (l.getD p.i default).c.keep.length (intsF (l.getD p.i default).c.keep)).length ≤ 1000000 ∧ fits IntKind.i64 (l.getD p.i default).c.at_) ∧ Same (AV.agg [AV.sy (Value.int IntKind.i64 (l.getD p.i default).c.w), AV.im 1 (l.getD p.i default).c.keep.length (intsF (l.getD p.i default).c.keep), AV.sy (Value.int IntKind.i64 (l.getD p.i default).c.torn), AV.sy (Value.int IntKind.i64 (l.getD p.i default).c.at_)]) ∧ (Same p.x.n ∧ Same p.x.n ∧ Same p.x.n) ∧ p.x.Ok ∧ (∀ (q : Nat), q < (l.getD p.i default).c.keep.length → (CW.mk (l.getD p.i default).c.w (l.getD p.i default).c.keep.length (intsF (l.getD p.i default).c.keep) (l.getD p.i default).c.torn (l.getD p.i default).c.at_).kf q = intsF (numsF (l.getD p.i default).c.keep.length (intsF (l.getD p.i default).c.keep)) q) ∧ (l.getD p.i default).c.keep.length ≤ 1000000) (h := ?_)
     refine To.Yd ((armD p.d (CrashD.mk (l.getD p.i default).c.w (numsF (l.getD p.i default).c.keep.length (intsF (l.getD p.i default).c.keep)) (l.getD p.i default).c.torn (l.getD p.i default).c.at_)).snd = (rarmW p.x (CW.mk (l.getD p.i default).c.w (l.getD p.i default).c.keep.length (intsF (l.getD p.i default).c.keep) (l.getD p.i default).c.torn (l.getD p.i default).c.at_).toL).snd) (hp := ?_) (h := ?_)
     · exact ha.2.symm
     refine To.R (k := 19) (C := fits IntKind.i64 (p.i + 1)) (h := ?_)
     refine To.K (L := [LN.old 0, LN.old 1, LN.old 2, LN.old 3]) (kp := [37, 36, 7, 5, 1]) (ov := [(37, AV.sy (Value.int IntKind.i64 (RtP.mk (p.i + 1) (armD p.d (CrashD.mk (l.getD p.i default).c.w (numsF (l.getD p.i default).c.keep.length (intsF (l.getD p.i default).c.keep)) (l.getD p.i default).c.torn (l.getD p.i default).c.at_)).fst (rarmW p.x (CrashD.mk (l.getD p.i default).c.w (numsF (l.getD p.i default).c.keep.length (intsF (l.getD p.i default).c.keep)) (l.getD p.i default).c.torn (l.getD p.i default).c.at_)).fst).i))]) (ob := [(1, AB.mem 45 none [AV.ow 2 (RtP.mk (p.i + 1) (armD p.d (CrashD.mk (l.getD p.i default).c.w (numsF (l.getD p.i default).c.keep.length (intsF (l.getD p.i default).c.keep)) (l.getD p.i default).c.torn (l.getD p.i default).c.at_)).fst (rarmW p.x (CrashD.mk (l.getD p.i default).c.w (numsF (l.getD p.i default).c.keep.length (intsF (l.getD p.i default).c.keep)) (l.getD p.i default).c.torn (l.getD p.i default).c.at_)).fst).x.n, AV.ow 3 (RtP.mk (p.i + 1) (armD p.d (CrashD.mk (l.getD p.i default).c.w (numsF (l.getD p.i default).c.keep.length (intsF (l.getD p.i default).c.keep)) (l.getD p.i default).c.torn (l.getD p.i default).c.at_)).fst (rarmW p.x (CrashD.mk (l.getD p.i default).c.w (numsF (l.getD p.i default).c.keep.length (intsF (l.getD p.i default).c.keep)) (l.getD p.i default).c.torn (l.getD p.i default).c.at_)).fst).x.n, AV.sy (Value.int IntKind.i64 (RtP.mk (p.i + 1) (armD p.d (CrashD.mk (l.getD p.i default).c.w (numsF (l.getD p.i default).c.keep.length (intsF (l.getD p.i default).c.keep)) (l.getD p.i default).c.torn (l.getD p.i default).c.at_)).fst (rarmW p.x (CrashD.mk (l.getD p.i default).c.w (numsF (l.getD p.i default).c.keep.length (intsF (l.getD p.i default).c.keep)) (l.getD p.i default).c.torn (l.getD p.i default).c.at_)).fst).x.w), AV.im 1 (RtP.mk (p.i + 1) (armD p.d (CrashD.mk (l.getD p.i default).c.w (numsF (l.getD p.i default).c.keep.length (intsF (l.getD p.i default).c.keep)) (l.getD p.i default).c.torn (l.getD p.i default).c.at_)).fst (rarmW p.x (CrashD.mk (l.getD p.i default).c.w (numsF (l.getD p.i default).c.keep.length (intsF (l.getD p.i default).c.keep)) (l.getD p.i default).c.torn (l.getD p.i default).c.at_)).fst).x.kn (RtP.mk (p.i + 1) (armD p.d (CrashD.mk (l.getD p.i default).c.w (numsF (l.getD p.i default).c.keep.length (intsF (l.getD p.i default).c.keep)) (l.getD p.i default).c.torn (l.getD p.i default).c.at_)).fst (rarmW p.x (CrashD.mk (l.getD p.i default).c.w (numsF (l.getD p.i default).c.keep.length (intsF (l.getD p.i default).c.keep)) (l.getD p.i default).c.torn (l.getD p.i default).c.at_)).fst).x.kf, AV.sy (Value.int IntKind.i64 (RtP.mk (p.i + 1) (armD p.d (CrashD.mk (l.getD p.i default).c.w (numsF (l.getD p.i default).c.keep.length (intsF (l.getD p.i default).c.keep)) (l.getD p.i default).c.torn (l.getD p.i default).c.at_)).fst (rarmW p.x (CrashD.mk (l.getD p.i default).c.w (numsF (l.getD p.i default).c.keep.length (intsF (l.getD p.i default).c.keep)) (l.getD p.i default).c.torn (l.getD p.i default).c.at_)).fst).x.torn), AV.sy (Value.int IntKind.i64 (RtP.mk (p.i + 1) (armD p.d (CrashD.mk (l.getD p.i default).c.w (numsF (l.getD p.i default).c.keep.length (intsF (l.getD p.i default).c.keep)) (l.getD p.i default).c.torn (l.getD p.i default).c.at_)).fst (rarmW p.x (CrashD.mk (l.getD p.i default).c.w (numsF (l.getD p.i default).c.keep.length (intsF (l.getD p.i default).c.keep)) (l.getD p.i default).c.torn (l.getD p.i default).c.at_)).fst).x.at_), AV.sy (Value.int IntKind.i64 (RtP.mk (p.i + 1) (armD p.d (CrashD.mk (l.getD p.i default).c.w (numsF (l.getD p.i default).c.keep.length (intsF (l.getD p.i default).c.keep)) (l.getD p.i default).c.torn (l.getD p.i default).c.at_)).fst (rarmW p.x (CrashD.mk (l.getD p.i default).c.w (numsF (l.getD p.i default).c.keep.length (intsF (l.getD p.i default).c.keep)) (l.getD p.i default).c.torn (l.getD p.i default).c.at_)).fst).x.many), AV.sy (Value.bool (RtP.mk (p.i + 1) (armD p.d (CrashD.mk (l.getD p.i default).c.w (numsF (l.getD p.i default).c.keep.length (intsF (l.getD p.i default).c.keep)) (l.getD p.i default).c.torn (l.getD p.i default).c.at_)).fst (rarmW p.x (CrashD.mk (l.getD p.i default).c.w (numsF (l.getD p.i default).c.keep.length (intsF (l.getD p.i default).c.keep)) (l.getD p.i default).c.torn (l.getD p.i default).c.at_)).fst).x.down)]), (2, AB.rw 36 1 (RtP.mk (p.i + 1) (armD p.d (CrashD.mk (l.getD p.i default).c.w (numsF (l.getD p.i default).c.keep.length (intsF (l.getD p.i default).c.keep)) (l.getD p.i default).c.torn (l.getD p.i default).c.at_)).fst (rarmW p.x (CrashD.mk (l.getD p.i default).c.w (numsF (l.getD p.i default).c.keep.length (intsF (l.getD p.i default).c.keep)) (l.getD p.i default).c.torn (l.getD p.i default).c.at_)).fst).x.n (RtP.mk (p.i + 1) (armD p.d (CrashD.mk (l.getD p.i default).c.w (numsF (l.getD p.i default).c.keep.length (intsF (l.getD p.i default).c.keep)) (l.getD p.i default).c.torn (l.getD p.i default).c.at_)).fst (rarmW p.x (CrashD.mk (l.getD p.i default).c.w (numsF (l.getD p.i default).c.keep.length (intsF (l.getD p.i default).c.keep)) (l.getD p.i default).c.torn (l.getD p.i default).c.at_)).fst).x.sf), (3, AB.rw 36 1 (RtP.mk (p.i + 1) (armD p.d (CrashD.mk (l.getD p.i default).c.w (numsF (l.getD p.i default).c.keep.length (intsF (l.getD p.i default).c.keep)) (l.getD p.i default).c.torn (l.getD p.i default).c.at_)).fst (rarmW p.x (CrashD.mk (l.getD p.i default).c.w (numsF (l.getD p.i default).c.keep.length (intsF (l.getD p.i default).c.keep)) (l.getD p.i default).c.torn (l.getD p.i default).c.at_)).fst).x.n (RtP.mk (p.i + 1) (armD p.d (CrashD.mk (l.getD p.i default).c.w (numsF (l.getD p.i default).c.keep.length (intsF (l.getD p.i default).c.keep)) (l.getD p.i default).c.torn (l.getD p.i default).c.at_)).fst (rarmW p.x (CrashD.mk (l.getD p.i default).c.w (numsF (l.getD p.i default).c.keep.length (intsF (l.getD p.i default).c.keep)) (l.getD p.i default).c.torn (l.getD p.i default).c.at_)).fst).x.cf)]) (C := (Same IntKind.i64 ∧ (↑p.i : Int) + 1 = (↑(p.i + 1) : Int)) ∧ (45 = 45 ∧ (none : Option Nat) = none ∧ (Same 2 ∧ (rarmW p.x (CW.mk (l.getD p.i default).c.w (l.getD p.i default).c.keep.length (intsF (l.getD p.i default).c.keep) (l.getD p.i default).c.torn (l.getD p.i default).c.at_).toL).fst.n = (rarmW p.x (CrashD.mk (l.getD p.i default).c.w (numsF (l.getD p.i default).c.keep.length (intsF (l.getD p.i default).c.keep)) (l.getD p.i default).c.torn (l.getD p.i default).c.at_)).fst.n) ∧ (Same 3 ∧ (rarmW p.x (CW.mk (l.getD p.i default).c.w (l.getD p.i default).c.keep.length (intsF (l.getD p.i default).c.keep) (l.getD p.i default).c.torn (l.getD p.i default).c.at_).toL).fst.n = (rarmW p.x (CrashD.mk (l.getD p.i default).c.w (numsF (l.getD p.i default).c.keep.length (intsF (l.getD p.i default).c.keep)) (l.getD p.i default).c.torn (l.getD p.i default).c.at_)).fst.n) ∧ (Same IntKind.i64 ∧ (rarmW p.x (CW.mk (l.getD p.i default).c.w (l.getD p.i default).c.keep.length (intsF (l.getD p.i default).c.keep) (l.getD p.i default).c.torn (l.getD p.i default).c.at_).toL).fst.w = (rarmW p.x (CrashD.mk (l.getD p.i default).c.w (numsF (l.getD p.i default).c.keep.length (intsF (l.getD p.i default).c.keep)) (l.getD p.i default).c.torn (l.getD p.i default).c.at_)).fst.w) ∧ (Same 1 ∧ (rarmW p.x (CW.mk (l.getD p.i default).c.w (l.getD p.i default).c.keep.length (intsF (l.getD p.i default).c.keep) (l.getD p.i default).c.torn (l.getD p.i default).c.at_).toL).fst.kn = (rarmW p.x (CrashD.mk (l.getD p.i default).c.w (numsF (l.getD p.i default).c.keep.length (intsF (l.getD p.i default).c.keep)) (l.getD p.i default).c.torn (l.getD p.i default).c.at_)).fst.kn ∧ (∀ (r : Nat), r < (rarmW p.x (CW.mk (l.getD p.i default).c.w (l.getD p.i default).c.keep.length (intsF (l.getD p.i default).c.keep) (l.getD p.i default).c.torn (l.getD p.i default).c.at_).toL).fst.kn → (rarmW p.x (CW.mk (l.getD p.i default).c.w (l.getD p.i default).c.keep.length (intsF (l.getD p.i default).c.keep) (l.getD p.i default).c.torn (l.getD p.i default).c.at_).toL).fst.kf r = (rarmW p.x (CrashD.mk (l.getD p.i default).c.w (numsF (l.getD p.i default).c.keep.length (intsF (l.getD p.i default).c.keep)) (l.getD p.i default).c.torn (l.getD p.i default).c.at_)).fst.kf r)) ∧ (Same IntKind.i64 ∧ (rarmW p.x (CW.mk (l.getD p.i default).c.w (l.getD p.i default).c.keep.length (intsF (l.getD p.i default).c.keep) (l.getD p.i default).c.torn (l.getD p.i default).c.at_).toL).fst.torn = (rarmW p.x (CrashD.mk (l.getD p.i default).c.w (numsF (l.getD p.i default).c.keep.length (intsF (l.getD p.i default).c.keep)) (l.getD p.i default).c.torn (l.getD p.i default).c.at_)).fst.torn) ∧ (Same IntKind.i64 ∧ (rarmW p.x (CW.mk (l.getD p.i default).c.w (l.getD p.i default).c.keep.length (intsF (l.getD p.i default).c.keep) (l.getD p.i default).c.torn (l.getD p.i default).c.at_).toL).fst.at_ = (rarmW p.x (CrashD.mk (l.getD p.i default).c.w (numsF (l.getD p.i default).c.keep.length (intsF (l.getD p.i default).c.keep)) (l.getD p.i default).c.torn (l.getD p.i default).c.at_)).fst.at_) ∧ (Same IntKind.i64 ∧ (rarmW p.x (CW.mk (l.getD p.i default).c.w (l.getD p.i default).c.keep.length (intsF (l.getD p.i default).c.keep) (l.getD p.i default).c.torn (l.getD p.i default).c.at_).toL).fst.many = (rarmW p.x (CrashD.mk (l.getD p.i default).c.w (numsF (l.getD p.i default).c.keep.length (intsF (l.getD p.i default).c.keep)) (l.getD p.i default).c.torn (l.getD p.i default).c.at_)).fst.many) ∧ (rarmW p.x (CW.mk (l.getD p.i default).c.w (l.getD p.i default).c.keep.length (intsF (l.getD p.i default).c.keep) (l.getD p.i default).c.torn (l.getD p.i default).c.at_).toL).fst.down = (rarmW p.x (CrashD.mk (l.getD p.i default).c.w (numsF (l.getD p.i default).c.keep.length (intsF (l.getD p.i default).c.keep)) (l.getD p.i default).c.torn (l.getD p.i default).c.at_)).fst.down ∧ True) ∧ (36 = 36 ∧ Same 1 ∧ (rarmW p.x (CW.mk (l.getD p.i default).c.w (l.getD p.i default).c.keep.length (intsF (l.getD p.i default).c.keep) (l.getD p.i default).c.torn (l.getD p.i default).c.at_).toL).fst.n = (rarmW p.x (CrashD.mk (l.getD p.i default).c.w (numsF (l.getD p.i default).c.keep.length (intsF (l.getD p.i default).c.keep)) (l.getD p.i default).c.torn (l.getD p.i default).c.at_)).fst.n ∧ (∀ (r : Nat), r < (rarmW p.x (CW.mk (l.getD p.i default).c.w (l.getD p.i default).c.keep.length (intsF (l.getD p.i default).c.keep) (l.getD p.i default).c.torn (l.getD p.i default).c.at_).toL).fst.n → (rarmW p.x (CW.mk (l.getD p.i default).c.w (l.getD p.i default).c.keep.length (intsF (l.getD p.i default).c.keep) (l.getD p.i default).c.torn (l.getD p.i default).c.at_).toL).fst.sf r = (rarmW p.x (CrashD.mk (l.getD p.i default).c.w (numsF (l.getD p.i default).c.keep.length (intsF (l.getD p.i default).c.keep)) (l.getD p.i default).c.torn (l.getD p.i default).c.at_)).fst.sf r)) ∧ 36 = 36 ∧ Same 1 ∧ (rarmW p.x (CW.mk (l.getD p.i default).c.w (l.getD p.i default).c.keep.length (intsF (l.getD p.i default).c.keep) (l.getD p.i default).c.torn (l.getD p.i default).c.at_).toL).fst.n = (rarmW p.x (CrashD.mk (l.getD p.i default).c.w (numsF (l.getD p.i default).c.keep.length (intsF (l.getD p.i default).c.keep)) (l.getD p.i default).c.torn (l.getD p.i default).c.at_)).fst.n ∧ (∀ (r : Nat), r < (rarmW p.x (CW.mk (l.getD p.i default).c.w (l.getD p.i default).c.keep.length (intsF (l.getD p.i default).c.keep) (l.getD p.i default).c.torn (l.getD p.i default).c.at_).toL).fst.n → (rarmW p.x (CW.mk (l.getD p.i default).c.w (l.getD p.i default).c.keep.length (intsF (l.getD p.i default).c.keep) (l.getD p.i default).c.torn (l.getD p.i default).c.at_).toL).fst.cf r = (rarmW p.x (CrashD.mk (l.getD p.i default).c.w (numsF (l.getD p.i default).c.keep.length (intsF (l.getD p.i default).c.keep)) (l.getD p.i default).c.torn (l.getD p.i default).c.at_)).fst.cf r)) (hc := ?_) (ih (RtP.mk (p.i + 1) (armD p.d ⟨(l.getD p.i default).c.w, numsF (l.getD p.i default).c.keep.length (intsF (l.getD p.i default).c.keep), (l.getD p.i default).c.torn, (l.getD p.i default).c.at_⟩).1 (rarmW p.x ⟨(l.getD p.i default).c.w, numsF (l.getD p.i default).c.keep.length (intsF (l.getD p.i default).c.keep), (l.getD p.i default).c.torn, (l.getD p.i default).c.at_⟩).1) ⟨hi1, (hin.arm (c := ⟨(l.getD p.i default).c.w, numsF (l.getD p.i default).c.keep.length (intsF (l.getD p.i default).c.keep), (l.getD p.i default).c.torn, (l.getD p.i default).c.at_⟩) ⟨hq6, hq7, hq5⟩ hq3).more hn' hM, ha.1⟩ hi2)
     all_goals repeat' (first | exact trivial | exact rfl | exact fun _ _ => rfl | exact Int.natCast_succ _ | refine ⟨?_, ?_⟩)
   intro h6
   refine To.R (h := ?_)
   refine To.Bd ((l.getD p.i default).kind = 4) (h := ?_) (g := ?_)
   · intro h7
     have ha := hg.boot
     refine To.R (C := p.d.Fine) (h := ?_)
     refine To.Yd ((fun x ↦ (0 : Int)) p.d = 0) (h := ?_)
     refine To.R (k := 19) (C := fits IntKind.i64 (p.i + 1)) (h := ?_)
     refine To.K (L := [LN.old 0, LN.old 1, LN.old 2, LN.old 3]) (kp := [37, 36, 7, 5, 1]) (ov := [(37,
   AV.sy
     (Value.int IntKind.i64
       (↑(RtP.mk (p.i + 1) (bootD p.d)
               (let __src := p.x;
               RW.mk __src.n __src.sf __src.cf __src.w __src.kn __src.kf __src.torn __src.at_ __src.many false)).i :
         Int)))]) (ob := [(1,
   AB.mem 45 none
     [AV.ow 2
         (RtP.mk (p.i + 1) (bootD p.d)
               (let __src := p.x;
               RW.mk __src.n __src.sf __src.cf __src.w __src.kn __src.kf __src.torn __src.at_ __src.many false)).x.n,
       AV.ow 3
         (RtP.mk (p.i + 1) (bootD p.d)
               (let __src := p.x;
               RW.mk __src.n __src.sf __src.cf __src.w __src.kn __src.kf __src.torn __src.at_ __src.many false)).x.n,
       AV.sy
         (Value.int IntKind.i64
           (RtP.mk (p.i + 1) (bootD p.d)
                 (let __src := p.x;
                 RW.mk __src.n __src.sf __src.cf __src.w __src.kn __src.kf __src.torn __src.at_ __src.many false)).x.w),
       AV.im 1
         (RtP.mk (p.i + 1) (bootD p.d)
               (let __src := p.x;
               RW.mk __src.n __src.sf __src.cf __src.w __src.kn __src.kf __src.torn __src.at_ __src.many false)).x.kn
         (RtP.mk (p.i + 1) (bootD p.d)
               (let __src := p.x;
               RW.mk __src.n __src.sf __src.cf __src.w __src.kn __src.kf __src.torn __src.at_ __src.many false)).x.kf,
       AV.sy
         (Value.int IntKind.i64
           (RtP.mk (p.i + 1) (bootD p.d)
                 (let __src := p.x;
                 RW.mk __src.n __src.sf __src.cf __src.w __src.kn __src.kf __src.torn __src.at_ __src.many false)).x.torn),
       AV.sy
         (Value.int IntKind.i64
           (RtP.mk (p.i + 1) (bootD p.d)
                 (let __src := p.x;
                 RW.mk __src.n __src.sf __src.cf __src.w __src.kn __src.kf __src.torn __src.at_ __src.many false)).x.at_),
       AV.sy
         (Value.int IntKind.i64
           (RtP.mk (p.i + 1) (bootD p.d)
                 (let __src := p.x;
                 RW.mk __src.n __src.sf __src.cf __src.w __src.kn __src.kf __src.torn __src.at_ __src.many false)).x.many),
       AV.sy
         (Value.bool
           (RtP.mk (p.i + 1) (bootD p.d)
                 (let __src := p.x;
                 RW.mk __src.n __src.sf __src.cf __src.w __src.kn __src.kf __src.torn __src.at_ __src.many false)).x.down)])]) (C := (Same IntKind.i64 ∧ (↑p.i : Int) + 1 = (↑(p.i + 1) : Int)) ∧ 45 = 45 ∧ (none : Option Nat) = none ∧ (Same 2 ∧ p.x.n =
 (let __src := p.x;
   RW.mk __src.n __src.sf __src.cf __src.w __src.kn __src.kf __src.torn __src.at_ __src.many false).n) ∧ (Same 3 ∧ p.x.n =
 (let __src := p.x;
   RW.mk __src.n __src.sf __src.cf __src.w __src.kn __src.kf __src.torn __src.at_ __src.many false).n) ∧ (Same IntKind.i64 ∧ p.x.w =
 (let __src := p.x;
   RW.mk __src.n __src.sf __src.cf __src.w __src.kn __src.kf __src.torn __src.at_ __src.many false).w) ∧ (Same 1 ∧ p.x.kn =
 (let __src := p.x;
   RW.mk __src.n __src.sf __src.cf __src.w __src.kn __src.kf __src.torn __src.at_ __src.many false).kn ∧ (∀ (r : Nat),
 r < p.x.kn →
   p.x.kf r =
     (let __src := p.x;
         RW.mk __src.n __src.sf __src.cf __src.w __src.kn __src.kf __src.torn __src.at_ __src.many false).kf
       r)) ∧ (Same IntKind.i64 ∧ p.x.torn =
 (let __src := p.x;
   RW.mk __src.n __src.sf __src.cf __src.w __src.kn __src.kf __src.torn __src.at_ __src.many false).torn) ∧ (Same IntKind.i64 ∧ p.x.at_ =
 (let __src := p.x;
   RW.mk __src.n __src.sf __src.cf __src.w __src.kn __src.kf __src.torn __src.at_ __src.many false).at_) ∧ (Same IntKind.i64 ∧ p.x.many =
 (let __src := p.x;
   RW.mk __src.n __src.sf __src.cf __src.w __src.kn __src.kf __src.torn __src.at_ __src.many false).many) ∧ false =
 (let __src := p.x;
   RW.mk __src.n __src.sf __src.cf __src.w __src.kn __src.kf __src.torn __src.at_ __src.many false).down ∧ True) (ih (RtP.mk (p.i + 1) (bootD p.d) { p.x with down := false }) ⟨hi1, hin.boot.more hn' hM, ha⟩ hi2)
     all_goals repeat' (first | exact trivial | exact rfl | exact fun _ _ => rfl | exact Int.natCast_succ _ | refine ⟨?_, ?_⟩)
   intro h7
   refine To.R (h := ?_)
   refine To.Bd ((l.getD p.i default).kind = 5) (h := ?_) (g := ?_)
   · intro h8
     have ha := hg.spoil hin (l.getD p.i default).at_ (secB (l.getD p.i default).b)
     have hsl : (secB (l.getD p.i default).b).length ≤ 1000000 := by rw [secB_len]; omega
     refine To.R (C := (l.getD p.i default).b.length ≤ 1000000 ∧ Same (AV.by8 (l.getD p.i default).b) ∧ Same (AV.sy (Value.int IntKind.i64 (l.getD p.i default).at_)) ∧ Same (AV.sy (Value.int IntKind.i64 (l.getD p.i default).at_)) ∧ (True ∧ p.d.Fine) ∧ Same (AV.by8 (l.getD p.i default).b) ∧ Same (AV.sy (Value.int IntKind.i64 (l.getD p.i default).at_)) ∧ (l.getD p.i default).b.length ≤ 1000000 ∧ Same (AV.sy (Value.int IntKind.i64 (l.getD p.i default).at_)) ∧ (Same p.x.n ∧ Same p.x.n ∧ Same p.x.n) ∧ p.x.Ok ∧ (fun x ↦ True) p.x.toL ∧ (secB (l.getD p.i default).b).length ≤ 1000000) (h := ?_)
     refine To.Yd ((spoilD p.d (l.getD p.i default).at_ (secB (l.getD p.i default).b)).snd = (rspoilW p.x (l.getD p.i default).at_ (secB (l.getD p.i default).b)).snd) (h := ?_)
     refine To.R (k := 19) (C := fits IntKind.i64 (p.i + 1)) (h := ?_)
     refine To.K (L := [LN.old 0, LN.old 1, LN.old 2, LN.old 3]) (kp := [37, 36, 7, 5, 1]) (ov := [(37, AV.sy (Value.int IntKind.i64 (RtP.mk (p.i + 1) (spoilD p.d (l.getD p.i default).at_ (secB (l.getD p.i default).b)).fst (rspoilW p.x (l.getD p.i default).at_ (secB (l.getD p.i default).b)).fst).i))]) (C := Same IntKind.i64 ∧ (↑p.i : Int) + 1 = (↑(p.i + 1) : Int)) (ih (RtP.mk (p.i + 1) (spoilD p.d (l.getD p.i default).at_ (secB (l.getD p.i default).b)).1 (rspoilW p.x (l.getD p.i default).at_ (secB (l.getD p.i default).b)).1) ⟨hi1, (hin.spoil _ _).more hn' hM, ha.1⟩ hi2)
     all_goals repeat' (first | exact trivial | exact rfl | exact fun _ _ => rfl | exact Int.natCast_succ _ | refine ⟨?_, ?_⟩)
   intro h8
   refine To.R (h := ?_)
   refine To.Bd ((l.getD p.i default).kind = 6) (h := ?_) (g := ?_)
   · intro h9
     have hmany : (fun r : RD => r.many < 4000000000000000000) p.x.toL := by
       show p.x.toL.many < _
       rw [hg.goes.many]
       have := hin.wr
       omega
     have ha := hg.write hin hn (l.getD p.i default).at_ (secB (l.getD p.i default).b)
     have hsl : (secB (l.getD p.i default).b).length ≤ 1000000 := by rw [secB_len]; omega
     refine To.R (C := (l.getD p.i default).b.length ≤ 1000000 ∧ Same (AV.by8 (l.getD p.i default).b) ∧ Same (AV.sy (Value.int IntKind.i64 (l.getD p.i default).at_)) ∧ Same (AV.sy (Value.int IntKind.i64 (l.getD p.i default).at_)) ∧ (True ∧ p.d.Fine) ∧ Same (AV.by8 (l.getD p.i default).b) ∧ Same (AV.sy (Value.int IntKind.i64 (l.getD p.i default).at_)) ∧ (l.getD p.i default).b.length ≤ 1000000 ∧ Same (AV.sy (Value.int IntKind.i64 (l.getD p.i default).at_)) ∧ (Same p.x.n ∧ Same p.x.n ∧ Same p.x.n) ∧ p.x.Ok ∧ (fun r ↦ r.many < 4000000000000000000) p.x.toL ∧ (secB (l.getD p.i default).b).length ≤ 1000000) (h := ?_)
     refine To.Yd ((writeD p.d (l.getD p.i default).at_ (secB (l.getD p.i default).b)).snd = (rwriteW p.x (l.getD p.i default).at_ (secB (l.getD p.i default).b)).snd) (h := ?_)
     refine To.R (k := 19) (C := fits IntKind.i64 (p.i + 1)) (h := ?_)
     refine To.K (L := [LN.old 0, LN.old 1, LN.old 2, LN.old 3]) (kp := [37, 36, 7, 5, 1]) (ov := [(37, AV.sy (Value.int IntKind.i64 (RtP.mk (p.i + 1) (writeD p.d (l.getD p.i default).at_ (secB (l.getD p.i default).b)).fst (rwriteW p.x (l.getD p.i default).at_ (secB (l.getD p.i default).b)).fst).i))]) (C := Same IntKind.i64 ∧ (↑p.i : Int) + 1 = (↑(p.i + 1) : Int)) (ih (RtP.mk (p.i + 1) (writeD p.d (l.getD p.i default).at_ (secB (l.getD p.i default).b)).1 (rwriteW p.x (l.getD p.i default).at_ (secB (l.getD p.i default).b)).1) ⟨hi1, hin.write hn _ _, ha.1⟩ hi2)
     all_goals repeat' (first | exact trivial | exact rfl | exact fun _ _ => rfl | exact Int.natCast_succ _ | refine ⟨?_, ?_⟩)
   intro h9
   have ha := hg.flush hin
   refine To.R (C := p.d.Fine ∧ (Same p.x.n ∧ Same p.x.n ∧ Same p.x.n) ∧ p.x.Ok ∧ True) (h := ?_)
   refine To.Yd ((fun d ↦ (flushD d).snd) p.d = (rflushW p.x).snd) (hp := ?_) (h := ?_)
   · exact ha.2.symm
   refine To.R (k := 19) (C := fits IntKind.i64 (p.i + 1)) (h := ?_)
   refine To.K (L := [LN.old 0, LN.old 1, LN.old 2, LN.old 3]) (kp := [37, 36, 7, 5, 1]) (ov := [(37, AV.sy (Value.int IntKind.i64 (RtP.mk (p.i + 1) (flushD p.d).fst (rflushW p.x).fst).i))]) (C := Same IntKind.i64 ∧ (↑p.i : Int) + 1 = (↑(p.i + 1) : Int)) (ih (RtP.mk (p.i + 1) (flushD p.d).1 (rflushW p.x).1) ⟨hi1, hin.flush.more hn' hM, ha.1⟩ hi2)
   all_goals repeat' (first | exact trivial | exact rfl | exact fun _ _ => rfl | exact Int.natCast_succ _ | refine ⟨?_, ?_⟩)
 · intro h2
   have hb := hg.boot
   have hbf := hin.boot.fine
   have hff := hin.fine
   have hxo := hb.ok
   have hll := hb.load hbf.ok
   have hbb := hb.both hbf.ok
   have h2l := both_two (bootD p.d)
   have hbl : (bothD (bootD p.d)).1.length = (rbothW { p.x with down := false }).1.length := by rw [hbb]
   have hb1 : ∀ r, r < (bothD (bootD p.d)).1.length → rowsOf rootAV (bothD (bootD p.d)).1 r = rowsOf rootAV (rootsQ (bothD (bootD p.d)).1.length (rowsOf rootAV (bothD (bootD p.d)).1)) r := by rw [rootsQ_rows]; exact fun _ _ => rfl
   have hb2 : ∀ r, r < (rbothW { p.x with down := false }).1.length → rowsOf rootAV (rbothW { p.x with down := false }).1 r = rowsOf rootAV (bothD (bootD p.d)).1 r := by rw [hbb]; exact fun _ _ => rfl
   refine To.R (C := p.d.Fine ∧ (bootD p.d).Fine ∧ ((Same p.x.n ∧ Same p.x.n ∧ Same p.x.n) ∧ (RW.mk p.x.n p.x.sf p.x.cf p.x.w p.x.kn p.x.kf p.x.torn p.x.at_ p.x.many false).Ok) ∧ (bootD p.d).Fine ∧ (Same p.x.n ∧ Same p.x.n ∧ Same p.x.n) ∧ (RW.mk p.x.n p.x.sf p.x.cf p.x.w p.x.kn p.x.kf p.x.torn p.x.at_ p.x.many false).Ok) (h := ?_)
   refine To.Yd ([(↑(loadD (bootD p.d)).fst.n : Int), (loadD (bootD p.d)).fst.len, (↑(loadD (bootD p.d)).fst.sum : Int)] = [(↑(rloadW (RW.mk p.x.n p.x.sf p.x.cf p.x.w p.x.kn p.x.kf p.x.torn p.x.at_ p.x.many false)).fst.n : Int), (rloadW (RW.mk p.x.n p.x.sf p.x.cf p.x.w p.x.kn p.x.kf p.x.torn p.x.at_ p.x.many false)).fst.len, (↑(rloadW (RW.mk p.x.n p.x.sf p.x.cf p.x.w p.x.kn p.x.kf p.x.torn p.x.at_ p.x.many false)).fst.sum : Int)]) (hp := ?_) (h := ?_)
   · rw [hll]
   refine To.R (h := ?_)
   refine To.Yd ((loadD (bootD p.d)).snd = (rloadW (RW.mk p.x.n p.x.sf p.x.cf p.x.w p.x.kn p.x.kf p.x.torn p.x.at_ p.x.many false)).snd) (hp := ?_) (h := ?_)
   · rw [hll]
   refine To.R (C := (bothD (bootD p.d)).fst.length ≤ 2 ∧ (bothD (bootD p.d)).fst.length = (rbothW (RW.mk p.x.n p.x.sf p.x.cf p.x.w p.x.kn p.x.kf p.x.torn p.x.at_ p.x.many false)).fst.length ∧ (∀ (r : Nat), r < (bothD (bootD p.d)).fst.length → rowsOf rootAV (bothD (bootD p.d)).fst r = rowsOf rootAV (rootsQ (bothD (bootD p.d)).fst.length (rowsOf rootAV (bothD (bootD p.d)).fst)) r) ∧ (∀ (r : Nat), r < (rbothW (RW.mk p.x.n p.x.sf p.x.cf p.x.w p.x.kn p.x.kf p.x.torn p.x.at_ p.x.many false)).fst.length → rowsOf rootAV (rbothW (RW.mk p.x.n p.x.sf p.x.cf p.x.w p.x.kn p.x.kf p.x.torn p.x.at_ p.x.many false)).fst r = rowsOf rootAV (bothD (bootD p.d)).fst r)) (h := ?_)
   refine To.Yd ((bothD (bootD p.d)).snd = (rbothW (RW.mk p.x.n p.x.sf p.x.cf p.x.w p.x.kn p.x.kf p.x.torn p.x.at_ p.x.many false)).snd) (hp := ?_) (h := ?_)
   · rw [hbb]
   refine To.R (h := ?_)
   refine To.E (AV.v (Value.bool true)) (hq := ?_)
   rfl
theorem plays6_walk (s : Nat) (hs : s < 256) (l : List OpR) (hl : ∀ o ∈ l, o.Wf) {w : World} {v : Value} (hv : VR0 (imOf w) (.im 10 l.length (opsRF l)) v) :
   Calls Tryz.prog 3 #[.int .u8 s, v] w (fun e w' => e = .returned (.bool true) ∧ Fr No w w') :=
 law_calls (args := [.sy (.int .u8 (s : Int)), .im 10 l.length (opsRF l)]) s21_ok (by kernel_rfl) (plays6_to s21_ok s hs l hl) (.cons (.sy _) (.cons (bare_VR (ρ := envOf w) hv) .nil))
end Go.Proofs.YtnkjhicokcmmpaaGreat.Sm
namespace Go.Proofs.YtnkjhicokcmmpaaGreat.RRootPlays
open Go.ChangeShapes Go.WideShapes Go.ChangeAt Go.RowKit
set_option maxRecDepth 100000 in
theorem root_open {w : World} {cs : List Value} (h : Rd Tryz.prog w 35 cs) : ∃ r : RootD, Sm.VRs0 (Sm.imOf w) (Sm.rootAV r) cs ∧ r.Fits := by
 obtain ⟨hl, hf⟩ := h.struct (l := [(0, 32), (1, 3), (2, 33)]) (by kernel_rfl)
 have hl' : cs.length = 3 := hl.trans (by kernel_rfl)
 match cs, hl' with
 | [x, y, z], _ =>
   have c0 : Tryz.prog.cellsOf 32 = 1 := by kernel_rfl
   have c1 : Tryz.prog.cellsOf 3 = 1 := by kernel_rfl
   have c2 : Tryz.prog.cellsOf 33 = 1 := by kernel_rfl
   have h0 := hf 0 0 32 rfl
   have h1 := hf 1 1 3 rfl
   have h2 := hf 2 2 33 rfl
   rw [c0] at h0
   rw [c1] at h1
   rw [c2] at h2
   obtain ⟨n, e0, w0⟩ := h0.int Tryz.underlying32
   obtain ⟨l, e1, w1⟩ := h1.int Tryz.underlying3
   obtain ⟨s, e2, w2⟩ := h2.int Tryz.underlying33
   have b0 := u64_bd w0
   have b2 := u32_bd w2
   simp at e0 e1 e2
   subst e0 e1 e2
   obtain ⟨n', rfl⟩ : ∃ q : Nat, n = (q : Int) := ⟨n.toNat, by omega⟩
   obtain ⟨s', rfl⟩ : ∃ q : Nat, s = (q : Int) := ⟨s.toNat, by omega⟩
   exact ⟨⟨n', l, s'⟩, .cons (.sy _) (.cons (.sy _) (.cons (.sy _) .nil)), ⟨by show n' < _; omega, by show s' < _; omega⟩⟩
theorem VRs0_app {I : Sm.Im} : ∀ {l m : List Sm.AV} {us vs : List Value}, Sm.VRs0 I l us → Sm.VRs0 I m vs → Sm.VRs0 I (l ++ m) (us ++ vs)
 | _, _, _, _, .nil, h => h
 | _, _, _, _, .cons e t, h => .cons e (VRs0_app t h)
set_option maxRecDepth 100000 in
theorem op_open {w : World} {cs : List Value} (h : Rd Tryz.prog w 41 cs) : ∃ o : Sm.OpR, Sm.VRs0 (Sm.imOf w) (Sm.opRF o) cs ∧ o.Wf := by
 obtain ⟨hl, hf⟩ := h.struct (l := [(0, 3), (1, 35), (4, 3), (5, 36), (6, 39)]) (by kernel_rfl)
 have hl' : cs.length = 10 := hl.trans (by kernel_rfl)
 match cs, hl' with
 | [a, b, b1, b2, c, d, e, e1, e2, e3], _ =>
   have c1 : Tryz.prog.cellsOf 3 = 1 := by kernel_rfl
   have c2 : Tryz.prog.cellsOf 36 = 1 := by kernel_rfl
   have c3 : Tryz.prog.cellsOf 39 = 4 := by kernel_rfl
   have c4 : Tryz.prog.cellsOf 35 = 3 := by kernel_rfl
   have f0 := hf 0 0 3 rfl
   have f1 := hf 1 1 35 rfl
   have f2 := hf 2 4 3 rfl
   have f3 := hf 3 5 36 rfl
   have f4 := hf 4 6 39 rfl
   rw [c1] at f0 f2
   rw [c2] at f3
   rw [c3] at f4
   rw [c4] at f1
   obtain ⟨z0, e0, w0⟩ := Sm.int_open f0
   obtain ⟨r, v1, w1⟩ := root_open f1
   obtain ⟨z2, e2', w2⟩ := Sm.int_open f2
   obtain ⟨bs, ba, bn, bc, e3', v3⟩ := Sm.by8_open f3
   obtain ⟨cr, v4, w4⟩ := Sm.crash_open f4
   simp at e0 e2' e3'
   subst e0 e2' e3'
   have h5 := VRs0_app v1 (.cons (.sy (Sm.iv z2)) (.cons v3 v4))
   exact ⟨⟨z0, r, z2, bs, cr⟩, .cons (.sy _) h5, ⟨w0, w1, w2, w4⟩⟩
theorem own : ownKnob Tryz.prog.godebug = none := by kernel_rfl
theorem laidOut : laidOutB Tryz.prog = true := by kernel_rfl
theorem readable : (Tryz.f3.params.toList.all fun t => Tryz.prog.readableRec t && decide (t < Tryz.prog.types.size)) = true := by kernel_rfl
set_option maxHeartbeats 800000 in
set_option maxRecDepth 100000 in
theorem lifted (os : Os) (started : os.Started) (H : Type) (enc : TypeId × Value → H) :
   ReturnsInHanded {} Tryz.checked os 3 .any (Rows.rootPlaysSpec.pre6 enc Tryz.prog Tryz.f3 Rows.rootPlaysRow.domain false) (Rows.rootPlaysSpec.post enc Tryz.prog Tryz.f3 false true false false) := by
 refine returnsInHanded_of_change (C := Tryz.checked) own started (by kernel_rfl) Tryz.func3
   (ChangeSpec.witness6 (enc := enc) (C := Tryz.checked) false ⟨#[], #[.int .u8 0, .slice none 0 0], []⟩ 8 (by kernel_rfl) (by kernel_rfl) (by kernel_rfl) (by kernel_rfl)) ?_
 intro W base args ds gs before hval0 hW _ _
 have hval : ∀ (j : Nat) t v, Tryz.f3.params[j]? = some t → args[j]? = some v → Value.okWide Tryz.prog W .any base t v := hval0
 have hW' := hW
 obtain ⟨p, q, hA0, hV, rfl, _, _⟩ := hW
 have hA : DataW.TrodAll enc Tryz.prog W 0 (fun _ => true) true Tryz.f3.params.toList args.toList ds p := hA0
 have hlt : ∀ x ∈ p, x.block < W.heap.size := fun x hx => by simpa using hW'.lt x (by simpa using List.mem_append.2 (.inl hx))
 have hall := fun W' (hb : Below W.heap.size W W') => again_all laidOut hb readable hA hlt
 obtain ⟨rfl, rfl⟩ := trodVars_none hV
 rw [Tryz.params3] at hval
 have hA' := hA
 rw [Tryz.params3] at hA'
 obtain ⟨v0, vs0, d0, ds0, p0, q0, e0, rfl, rfl, h0, r0⟩ := trodAll_cons hA'
 obtain ⟨v1, vs1, d1, ds1, p1, q1, e1, rfl, rfl, h1, r1⟩ := trodAll_cons r0
 obtain ⟨en, rfl, rfl⟩ := trodAll_nil r1
 obtain rfl : args = #[v0, v1] := by
   apply Array.ext'
   rw [e0]
   try rw [e1]
   rw [en]
 clear hA' e0 e1 en
 obtain ⟨a0, rfl, w0⟩ := arg_int Tryz.underlying5 (hval 0 5 v0 rfl rfl) h0
 obtain ⟨a1, n1, c1, rfl⟩ := arg_slice Tryz.underlying22 (hval 1 22 v1 rfl rfl)
 simp only [List.append_nil] at hW'
 obtain ⟨s, rfl⟩ : ∃ q : Nat, a0 = (q : Int) := ⟨a0.toNat, by have := u8_bd w0; omega⟩
 obtain ⟨l, hn, hl1, hl2⟩ := Sm.rows_open (k := 10) (by decide) Sm.opRF Sm.OpR.Wf Tryz.underlying22 (by kernel_rfl) (fun {cs} h => op_open h) (Rd.of h1)
 have hwalk := Sm.plays6_walk s (by have := u8_bd w0; omega) l hl2 hl1
 refine hwalk.mono fun e W' ⟨he, hf⟩ => ?_
 subst he
 have hbel : Below W.heap.size W W' := hf.below
 refine ⟨_, rfl, _, _, _, [], _, [], hW', ?_, hall W' hbel, rfl, hbel.frame _, fun h => by cases h⟩
 exact trodAll_mk1 (shut_bool Tryz.underlying4 _)
theorem said : Rows.RootPlaysSaid :=
 OpenClaim.holds_of_wide 3 Tryz.f3 rfl rfl rfl rfl rfl rfl rfl ⟨rfl, rfl, rfl, rfl, rfl⟩ rfl rfl rfl rfl rfl (by kernel_rfl) Tryz.func3 (by kernel_rfl)
   (of_decide_eq_true (by kernel_rfl)) (by unfold Func.isWrapper; first | (rw [if_pos (by decide +kernel)]; kernel_rfl) | (rw [if_neg (by decide +kernel)]; exact ⟨rfl, rfl⟩))
   (fun os started H enc _ => lifted os started H enc)
#print axioms said
end Go.Proofs.YtnkjhicokcmmpaaGreat.RRootPlays
