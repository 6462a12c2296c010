/-
  Texts of this claim, laid together: Kd, Ke, Kf, Ma, Mb, Mc, Md, Me.
-/
import Derived.Test.YtnkjhicokcmmpaaGreatQe

namespace Go.Proofs.YtnkjhicokcmmpaaGreat.Sm
open Go Go.RowKit
def twin8F : CF := oneF 34 fun args H n => match args with
 | [p] => match bsrcM p H with
   | some b => some ((.by8 b.1, H, n), b.2 ∧ b.1.length ≤ 1000000)
   | none => none
 | _ => none
theorem twin8F_ok : FOk Tryz.prog twin8F := by
 refine oneF_ok tab Tryz.func34 (by kernel_rfl) ?_
 intro args H n r h hc w0 ρ w vs hr hvs
 split at h
 · rename_i ap
   split at h
   · rename_i b hp
     cases h
     cases hvs with
     | cons e1 t1 =>
     cases t1
     obtain ⟨bs, B⟩ := b
     obtain ⟨hc1, hc2⟩ : B ∧ bs.length ≤ 1000000 := hc
     obtain ⟨⟨a, c, rfl, hw⟩, _⟩ := bsrcM_sound hr hp hc1 e1
     simp only at hw
     refine (twin_any a bs.length c bs w hw hc2).mono ?_
     rintro o w' ⟨v, rfl, hown, hnew, _, hfr⟩
     rcases hown.cases with ⟨rfl, _, e⟩ | ⟨g, cg, rfl⟩
     · have hp0 : bs = [] := by simpa using e
       subst hp0
       exact ⟨ρ, _, rfl, by8_nil ρ, hr.old hfr, Ext.refl _ _ _⟩
     · obtain ⟨ρ', r1, r2, r3⟩ := hr.newBy hfr (hnew g rfl) hown
       exact ⟨ρ', _, rfl, r3, r1, r2⟩
   · cases h
 · cases h
def rfallF : CF := oneX 47 (rK fun r rest => match rest with
 | [x] => match crashA x with
   | some c => some (([.agg (crashF c.1)], .tup [], rfallD r c.1), r.Ok ∧ c.2 ∧ c.1.keep.length ≤ 1000000)
   | none => none
 | _ => none)
theorem rfallF_ok : FOk Tryz.prog rfallF := rX_ok s0_ok Tryz.func47 (by kernel_rfl) fun {r rest ys x r' C} h hC => by
 split at h
 · split at h
   · rename_i c hc
     cases h
     obtain ⟨h1, h2, h3⟩ : r.Ok ∧ c.2 ∧ c.1.keep.length ≤ 1000000 := hC
     refine ⟨fun σ => ?_, by kernel_rfl, rfall_to s0_ok r c.1 h1 h3⟩
     simp only [renL]
     exact ⟨crashA_le hc h2 σ, trivial⟩
   · cases h
 · cases h
noncomputable abbrev S16 : Sy := sym Tryz.prog (orF twin8F rfallF) noG
theorem s16_ok : S16.Ok Tryz.prog := sym_ok (orF_ok twin8F_ok rfallF_ok) (noG_ok _) tab mix
theorem bysF_set (l : List (List UInt8)) (z : Nat) (b : List UInt8) (r : Nat) (hr : r < l.length) : rwSet (bysF l) z 0 [.by8 b] r = bysF (l.set z b) r := by
 rw [rwSet_bys, bysF_get]
 by_cases e : r = z
 · subst e; simp [List.getD_eq_getElem?_getD, hr]
 · have : ¬ z = r := fun h => e h.symm
   simp [e, List.getD_eq_getElem?_getD, List.getElem?_set, this]
theorem RD.Ok.put {r : RD} (h : r.Ok) {z : Int} {b : List UInt8} (hb : b.length = 128) (hm : r.many < 4000000000000000000) : (r.put z b).Ok := by
 refine ⟨?_, h.le, h.st, fun k hk => ?_, h.cw, h.keep, ?_⟩
 · show (r.cache.set _ _).length = _
   rw [List.length_set]; exact h.len
 · show (r.cache.set z.toNat b).getD k [] = [] ∨ ((r.cache.set z.toNat b).getD k []).length = 128
   have hk' : k < r.cache.length := by rw [h.len]; exact hk
   by_cases e : z.toNat = k
   · right; subst e; simp [List.getD_eq_getElem?_getD, hk', hb]
   · have := h.ca k hk
     simpa [List.getD_eq_getElem?_getD, List.getElem?_set, e] using this
 · have := h.many
   show 0 ≤ r.many + 1 ∧ r.many + 1 ≤ 4000000000000000000
   omega
theorem i64max : IntKind.i64.max = 9223372036854775807 := rfl
theorem RD.Ok.tick {r : RD} (h : r.Ok) (hw : r.c.w ≠ 0) : r.tick.Ok := by
 have h1 := h.cw
 have h2 := h1.2.hi
 rw [i64max] at h2
 exact ⟨h.len, h.le, h.st, h.ca, ⟨by show 0 ≤ r.c.w - 1; omega, fits_i64 (by show (-9223372036854775808 : Int) ≤ r.c.w - 1; omega) (by show r.c.w - 1 ≤ (9223372036854775807 : Int); omega)⟩, h.keep, h.many⟩
set_option maxHeartbeats 4000000 in
set_option maxRecDepth 100000 in
theorem rwrite_to (hok : S16.Ok Tryz.prog) (r : RD) (z : Int) (b : List UInt8) (hr : r.Ok) (hmm : r.many < 4000000000000000000) (hb : b.length ≤ 1000000) :
   To S16 Tryz.prog 24 (startOf Tryz.prog 24 [.ptr 0 0, ivA z, .by8 b] (memF (rblk r) 0 .e) 3)
     (fun x H' _ => leA x (ivA (rwriteD r z b).2) ∧ endL (rblk (rwriteD r z b).1) 0 H') := by
 have hlen := hr.len
 have hle := hr.le
 have hcw := hr.cw
 have hm := hr.many
 refine To.R (h := ?_)
 refine To.bool2 11 (r.down) (by kernel_rfl) (by kernel_rfl) ?_ ?_
 · intro h1
   have hw : rwriteD r z b = (r, 31) := by unfold rwriteD; rw [if_pos h1]
   refine To.R (h := ?_)
   refine To.E (AV.v (Value.int IntKind.i64 31)) (hq := ?_)
   rw [hw]
   refine ⟨(of_eqP (C := Same IntKind.i64 ∧ Same (31 : Int)) (by kernel_rfl) (by (and_intros <;> try exact cl))), (endL_cons (B0 := AB.mem 45 none [AV.ow 1 r.stays.length, AV.ow 2 r.cache.length, AV.sy (Value.int IntKind.i64 r.c.w), AV.im 1 r.c.keep.length (intsF r.c.keep), AV.sy (Value.int IntKind.i64 r.c.torn), AV.sy (Value.int IntKind.i64 r.c.at_), AV.sy (Value.int IntKind.i64 r.many), AV.sy (Value.bool r.down)]) (by kernel_rfl) (of_eqP (C := 45 = 45 ∧ (none : Option Nat) = none ∧ (Same 1 ∧ Same r.stays.length) ∧ (Same 2 ∧ Same r.cache.length) ∧ (Same IntKind.i64 ∧ Same r.c.w) ∧ (Same 1 ∧ Same r.c.keep.length ∧ (∀ (r_1 : Nat), r_1 < r.c.keep.length → intsF r.c.keep r_1 = intsF r.c.keep r_1)) ∧ (Same IntKind.i64 ∧ Same r.c.torn) ∧ (Same IntKind.i64 ∧ Same r.c.at_) ∧ (Same IntKind.i64 ∧ Same r.many) ∧ Same r.down ∧ True) (by kernel_rfl) (by (and_intros <;> try exact cl))) (endL_cons (B0 := AB.rw 36 1 r.stays.length (bysF r.stays)) (by kernel_rfl) (of_eqP (C := 36 = 36 ∧ Same 1 ∧ Same r.stays.length ∧ (∀ (r_1 : Nat), r_1 < r.stays.length → bysF r.stays r_1 = bysF r.stays r_1)) (by kernel_rfl) (by (and_intros <;> try exact cl))) (endL_cons (B0 := AB.rw 36 1 r.cache.length (bysF r.cache)) (by kernel_rfl) (of_eqP (C := 36 = 36 ∧ Same 1 ∧ Same r.cache.length ∧ (∀ (r_1 : Nat), r_1 < r.cache.length → bysF r.cache r_1 = bysF r.cache r_1)) (by kernel_rfl) (by (and_intros <;> try exact cl))) endL_nil)))⟩
 intro h1
 refine To.R (h := ?_)
 refine To.Bd (0 ≤ z) (h := ?_) (g := ?_)
 · intro h2
   refine To.R (h := ?_)
   refine To.Bd (z < r.stays.length) (h := ?_) (g := ?_)
   · intro h3
     refine To.R (h := ?_)
     refine To.Bn (b.length = (128 : Int)) (h := ?_) (g := ?_)
     · intro h4
       have hw : rwriteD r z b = (r, 30) := by unfold rwriteD; rw [if_neg (by simp [h1]), if_neg (by omega), if_neg (by omega), if_pos (by omega)]
       refine To.R (h := ?_)
       refine To.E (AV.v (Value.int IntKind.i64 30)) (hq := ?_)
       rw [hw]
       refine ⟨(of_eqP (C := Same IntKind.i64 ∧ Same (30 : Int)) (by kernel_rfl) (by (and_intros <;> try exact cl))), (endL_cons (B0 := AB.mem 45 none [AV.ow 1 r.stays.length, AV.ow 2 r.cache.length, AV.sy (Value.int IntKind.i64 r.c.w), AV.im 1 r.c.keep.length (intsF r.c.keep), AV.sy (Value.int IntKind.i64 r.c.torn), AV.sy (Value.int IntKind.i64 r.c.at_), AV.sy (Value.int IntKind.i64 r.many), AV.sy (Value.bool r.down)]) (by kernel_rfl) (of_eqP (C := 45 = 45 ∧ (none : Option Nat) = none ∧ (Same 1 ∧ Same r.stays.length) ∧ (Same 2 ∧ Same r.cache.length) ∧ (Same IntKind.i64 ∧ Same r.c.w) ∧ (Same 1 ∧ Same r.c.keep.length ∧ (∀ (r_1 : Nat), r_1 < r.c.keep.length → intsF r.c.keep r_1 = intsF r.c.keep r_1)) ∧ (Same IntKind.i64 ∧ Same r.c.torn) ∧ (Same IntKind.i64 ∧ Same r.c.at_) ∧ (Same IntKind.i64 ∧ Same r.many) ∧ Same r.down ∧ True) (by kernel_rfl) (by (and_intros <;> try exact cl))) (endL_cons (B0 := AB.rw 36 1 r.stays.length (bysF r.stays)) (by kernel_rfl) (of_eqP (C := 36 = 36 ∧ Same 1 ∧ Same r.stays.length ∧ (∀ (r_1 : Nat), r_1 < r.stays.length → bysF r.stays r_1 = bysF r.stays r_1)) (by kernel_rfl) (by (and_intros <;> try exact cl))) (endL_cons (B0 := AB.rw 36 1 r.cache.length (bysF r.cache)) (by kernel_rfl) (of_eqP (C := 36 = 36 ∧ Same 1 ∧ Same r.cache.length ∧ (∀ (r_1 : Nat), r_1 < r.cache.length → bysF r.cache r_1 = bysF r.cache r_1)) (by kernel_rfl) (by (and_intros <;> try exact cl))) endL_nil)))⟩
     · intro h4
       have hb1 : b.length = 128 := by omega
       have hzl : z.toNat < r.cache.length := by omega
       have hset : ∀ q, q < r.cache.length → rwSet (bysF r.cache) z.toNat 0 [.by8 b] q = bysF (r.put z b).cache q := fun q hq => bysF_set r.cache z.toNat b q hq
       have hpl : r.cache.length = (r.put z b).cache.length := (List.length_set ..).symm
       refine To.R (C := (True ∧ b.length ≤ 1000000) ∧ Same (AV.ow 2 r.cache.length) ∧ (0 ≤ z ∧ z < r.cache.length) ∧ z.toNat < r.cache.length ∧ fits IntKind.i64 (r.many + 1)) (h := ?_)
       refine To.Bd (r.c.w = 0) (h := ?_) (g := ?_)
       · intro h5
         have hw : rwriteD r z b = (r.put z b, 0) := by unfold rwriteD; rw [if_neg (by simp [h1]), if_neg (by omega), if_neg (by omega), if_neg (by omega), if_pos h5]
         refine To.R (h := ?_)
         refine To.E (AV.v (Value.int IntKind.i64 0)) (hq := ?_)
         rw [hw]
         refine ⟨(of_eqP (C := Same IntKind.i64 ∧ Same (0 : Int)) (by kernel_rfl) (by (and_intros <;> try exact cl))), (endL_cons (B0 := AB.mem 45 none [AV.ow 1 r.stays.length, AV.ow 2 r.cache.length, AV.sy (Value.int IntKind.i64 r.c.w), AV.im 1 r.c.keep.length (intsF r.c.keep), AV.sy (Value.int IntKind.i64 r.c.torn), AV.sy (Value.int IntKind.i64 r.c.at_), AV.sy (Value.int IntKind.i64 (r.many + 1)), AV.sy (Value.bool r.down)]) (by kernel_rfl) (of_eqP (C := 45 = 45 ∧ (none : Option Nat) = none ∧ (Same 1 ∧ r.stays.length = (r.put z b).stays.length) ∧ (Same 2 ∧ r.cache.length = (r.put z b).cache.length) ∧ (Same IntKind.i64 ∧ r.c.w = (r.put z b).c.w) ∧ (Same 1 ∧ r.c.keep.length = (r.put z b).c.keep.length ∧ (∀ (r_1 : Nat), r_1 < r.c.keep.length → intsF r.c.keep r_1 = intsF (r.put z b).c.keep r_1)) ∧ (Same IntKind.i64 ∧ r.c.torn = (r.put z b).c.torn) ∧ (Same IntKind.i64 ∧ r.c.at_ = (r.put z b).c.at_) ∧ (Same IntKind.i64 ∧ r.many + 1 = (r.put z b).many) ∧ r.down = (r.put z b).down ∧ True) (by kernel_rfl) ?_) (endL_cons (B0 := AB.rw 36 1 r.stays.length (bysF r.stays)) (by kernel_rfl) (of_eqP (C := 36 = 36 ∧ Same 1 ∧ r.stays.length = (r.put z b).stays.length ∧ (∀ (r_1 : Nat), r_1 < r.stays.length → bysF r.stays r_1 = bysF (r.put z b).stays r_1)) (by kernel_rfl) ?_) (endL_cons (B0 := AB.rw 36 1 r.cache.length (rwSet (bysF r.cache) z.toNat 0 [AV.by8 b])) (by kernel_rfl) (of_eqP (C := 36 = 36 ∧ Same 1 ∧ r.cache.length = (r.put z b).cache.length ∧ (∀ (r_1 : Nat), r_1 < r.cache.length → rwSet (bysF r.cache) z.toNat 0 [AV.by8 b] r_1 = bysF (r.put z b).cache r_1)) (by kernel_rfl) (by (and_intros <;> try exact cl))) endL_nil)))⟩
         · exact ⟨rfl, rfl, ⟨rfl, rfl⟩, ⟨rfl, hpl⟩, ⟨rfl, rfl⟩, ⟨rfl, rfl, fun _ _ => rfl⟩, ⟨rfl, rfl⟩, ⟨rfl, rfl⟩, ⟨rfl, rfl⟩, rfl, trivial⟩
         · exact ⟨rfl, rfl, rfl, fun _ _ => rfl⟩
       · intro h5
         have hf1 : fits .i64 (r.c.w - 1) := fits_i64 (by omega) (by have h7 := hcw.2.hi; rw [i64max] at h7; omega)
         refine To.R (C := fits IntKind.i64 (r.c.w - 1)) (h := ?_)
         refine To.Bd (0 < r.c.w - 1) (h := ?_) (g := ?_)
         · intro h6
           have hw : rwriteD r z b = ((r.put z b).tick, 0) := by unfold rwriteD; rw [if_neg (by simp [h1]), if_neg (by omega), if_neg (by omega), if_neg (by omega), if_neg h5, if_pos h6]
           refine To.R (h := ?_)
           refine To.E (AV.v (Value.int IntKind.i64 0)) (hq := ?_)
           rw [hw]
           refine ⟨(of_eqP (C := Same IntKind.i64 ∧ Same (0 : Int)) (by kernel_rfl) (by (and_intros <;> try exact cl))), (endL_cons (B0 := AB.mem 45 none [AV.ow 1 r.stays.length, AV.ow 2 r.cache.length, AV.sy (Value.int IntKind.i64 (r.c.w - 1)), AV.im 1 r.c.keep.length (intsF r.c.keep), AV.sy (Value.int IntKind.i64 r.c.torn), AV.sy (Value.int IntKind.i64 r.c.at_), AV.sy (Value.int IntKind.i64 (r.many + 1)), AV.sy (Value.bool r.down)]) (by kernel_rfl) (of_eqP (C := 45 = 45 ∧ (none : Option Nat) = none ∧ (Same 1 ∧ r.stays.length = (r.put z b).tick.stays.length) ∧ (Same 2 ∧ r.cache.length = (r.put z b).tick.cache.length) ∧ (Same IntKind.i64 ∧ r.c.w - 1 = (r.put z b).tick.c.w) ∧ (Same 1 ∧ r.c.keep.length = (r.put z b).tick.c.keep.length ∧ (∀ (r_1 : Nat), r_1 < r.c.keep.length → intsF r.c.keep r_1 = intsF (r.put z b).tick.c.keep r_1)) ∧ (Same IntKind.i64 ∧ r.c.torn = (r.put z b).tick.c.torn) ∧ (Same IntKind.i64 ∧ r.c.at_ = (r.put z b).tick.c.at_) ∧ (Same IntKind.i64 ∧ r.many + 1 = (r.put z b).tick.many) ∧ r.down = (r.put z b).tick.down ∧ True) (by kernel_rfl) ?_) (endL_cons (B0 := AB.rw 36 1 r.stays.length (bysF r.stays)) (by kernel_rfl) (of_eqP (C := 36 = 36 ∧ Same 1 ∧ r.stays.length = (r.put z b).tick.stays.length ∧ (∀ (r_1 : Nat), r_1 < r.stays.length → bysF r.stays r_1 = bysF (r.put z b).tick.stays r_1)) (by kernel_rfl) ?_) (endL_cons (B0 := AB.rw 36 1 r.cache.length (rwSet (bysF r.cache) z.toNat 0 [AV.by8 b])) (by kernel_rfl) (of_eqP (C := 36 = 36 ∧ Same 1 ∧ r.cache.length = (r.put z b).tick.cache.length ∧ (∀ (r_1 : Nat), r_1 < r.cache.length → rwSet (bysF r.cache) z.toNat 0 [AV.by8 b] r_1 = bysF (r.put z b).tick.cache r_1)) (by kernel_rfl) ?_) endL_nil)))⟩
           · exact ⟨rfl, rfl, ⟨rfl, rfl⟩, ⟨rfl, hpl⟩, ⟨rfl, rfl⟩, ⟨rfl, rfl, fun _ _ => rfl⟩, ⟨rfl, rfl⟩, ⟨rfl, rfl⟩, ⟨rfl, rfl⟩, rfl, trivial⟩
           · exact ⟨rfl, rfl, rfl, fun _ _ => rfl⟩
           · exact ⟨rfl, rfl, hpl, hset⟩
         · intro h6
           have hw : rwriteD r z b = (rfallD (r.put z b).tick (r.put z b).tick.c, 31) := by unfold rwriteD; rw [if_neg (by simp [h1]), if_neg (by omega), if_neg (by omega), if_neg (by omega), if_neg h5, if_neg h6]
           have e1 := recs_bys r.stays
           have e2 : recsF r.cache.length (rwSet (bysF r.cache) z.toNat 0 [.by8 b]) = (r.put z b).cache := by
             refine Eq.trans ?_ (recs_bys (r.put z b).cache)
             rw [← hpl]
             exact List.map_congr_left fun q hq => by rw [hset q (List.mem_range.1 hq)]
           have e3 := numsF_ints r.c.keep
           have hX : (⟨recsF r.stays.length (bysF r.stays), recsF r.cache.length (rwSet (bysF r.cache) z.toNat 0 [.by8 b]), ⟨r.c.w - 1, numsF r.c.keep.length (intsF r.c.keep), r.c.torn, r.c.at_⟩, r.many + 1, r.down⟩ : RD) = (r.put z b).tick := by
             rw [e1, e2, e3]; rfl
           have hY : (⟨r.c.w - 1, numsF r.c.keep.length (intsF r.c.keep), r.c.torn, r.c.at_⟩ : CrashD) = (r.put z b).tick.c := by
             rw [e3]; rfl
           have hZ := (hr.put (z := z) hb1 hmm).tick h5
           refine To.R (C := (Same r.stays.length ∧ Same r.cache.length ∧ (∀ (r_1 : Nat), r_1 < r.stays.length → bysF r.stays r_1 = bysF (recsF r.stays.length (bysF r.stays)) r_1) ∧ (∀ (r_1 : Nat), r_1 < r.cache.length → rwSet (bysF r.cache) z.toNat 0 [AV.by8 b] r_1 = bysF (recsF r.cache.length (rwSet (bysF r.cache) z.toNat 0 [AV.by8 b])) r_1) ∧ (∀ (r_1 : Nat), r_1 < r.c.keep.length → intsF r.c.keep r_1 = intsF (numsF r.c.keep.length (intsF r.c.keep)) r_1)) ∧ (RD.mk (recsF r.stays.length (bysF r.stays)) (recsF r.cache.length (rwSet (bysF r.cache) z.toNat 0 [AV.by8 b])) (CrashD.mk (r.c.w - 1) (numsF r.c.keep.length (intsF r.c.keep)) r.c.torn r.c.at_) (r.many + 1) r.down).Ok ∧ (∀ (r_1 : Nat), r_1 < r.c.keep.length → intsF r.c.keep r_1 = intsF (numsF r.c.keep.length (intsF r.c.keep)) r_1) ∧ (numsF r.c.keep.length (intsF r.c.keep)).length ≤ 1000000) (hc := ?_) (h := ?_); (and_intros <;> try exact cl)
           · rw [e1]; exact fun _ _ => rfl
           · rw [e2]; exact hset
           · rw [e3]; exact fun _ _ => rfl
           · rw [hX]; exact hZ
           · rw [e3]; exact fun _ _ => rfl
           · rw [e3]; exact hZ.keep
           refine To.R (h := ?_)
           refine To.E (AV.v (Value.int IntKind.i64 31)) (hq := ?_)
           rw [hw, ← hX]
           refine ⟨(of_eqP (C := Same IntKind.i64 ∧ Same (31 : Int)) (by kernel_rfl) (by (and_intros <;> try exact cl))), (endL_cons (B0 := AB.mem 45 none [AV.ow 1 (rfallD (RD.mk (recsF r.stays.length (bysF r.stays)) (recsF r.cache.length (rwSet (bysF r.cache) z.toNat 0 [AV.by8 b])) (CrashD.mk (r.c.w - 1) (numsF r.c.keep.length (intsF r.c.keep)) r.c.torn r.c.at_) (r.many + 1) r.down) (CrashD.mk (r.c.w - 1) (numsF r.c.keep.length (intsF r.c.keep)) r.c.torn r.c.at_)).stays.length, AV.ow 2 (rfallD (RD.mk (recsF r.stays.length (bysF r.stays)) (recsF r.cache.length (rwSet (bysF r.cache) z.toNat 0 [AV.by8 b])) (CrashD.mk (r.c.w - 1) (numsF r.c.keep.length (intsF r.c.keep)) r.c.torn r.c.at_) (r.many + 1) r.down) (CrashD.mk (r.c.w - 1) (numsF r.c.keep.length (intsF r.c.keep)) r.c.torn r.c.at_)).cache.length, AV.sy (Value.int IntKind.i64 (rfallD (RD.mk (recsF r.stays.length (bysF r.stays)) (recsF r.cache.length (rwSet (bysF r.cache) z.toNat 0 [AV.by8 b])) (CrashD.mk (r.c.w - 1) (numsF r.c.keep.length (intsF r.c.keep)) r.c.torn r.c.at_) (r.many + 1) r.down) (CrashD.mk (r.c.w - 1) (numsF r.c.keep.length (intsF r.c.keep)) r.c.torn r.c.at_)).c.w), AV.im 1 0 (intsF (rfallD (RD.mk (recsF r.stays.length (bysF r.stays)) (recsF r.cache.length (rwSet (bysF r.cache) z.toNat 0 [AV.by8 b])) (CrashD.mk (r.c.w - 1) (numsF r.c.keep.length (intsF r.c.keep)) r.c.torn r.c.at_) (r.many + 1) r.down) (CrashD.mk (r.c.w - 1) (numsF r.c.keep.length (intsF r.c.keep)) r.c.torn r.c.at_)).c.keep), AV.sy (Value.int IntKind.i64 (rfallD (RD.mk (recsF r.stays.length (bysF r.stays)) (recsF r.cache.length (rwSet (bysF r.cache) z.toNat 0 [AV.by8 b])) (CrashD.mk (r.c.w - 1) (numsF r.c.keep.length (intsF r.c.keep)) r.c.torn r.c.at_) (r.many + 1) r.down) (CrashD.mk (r.c.w - 1) (numsF r.c.keep.length (intsF r.c.keep)) r.c.torn r.c.at_)).c.torn), AV.sy (Value.int IntKind.i64 (rfallD (RD.mk (recsF r.stays.length (bysF r.stays)) (recsF r.cache.length (rwSet (bysF r.cache) z.toNat 0 [AV.by8 b])) (CrashD.mk (r.c.w - 1) (numsF r.c.keep.length (intsF r.c.keep)) r.c.torn r.c.at_) (r.many + 1) r.down) (CrashD.mk (r.c.w - 1) (numsF r.c.keep.length (intsF r.c.keep)) r.c.torn r.c.at_)).c.at_), AV.sy (Value.int IntKind.i64 (rfallD (RD.mk (recsF r.stays.length (bysF r.stays)) (recsF r.cache.length (rwSet (bysF r.cache) z.toNat 0 [AV.by8 b])) (CrashD.mk (r.c.w - 1) (numsF r.c.keep.length (intsF r.c.keep)) r.c.torn r.c.at_) (r.many + 1) r.down) (CrashD.mk (r.c.w - 1) (numsF r.c.keep.length (intsF r.c.keep)) r.c.torn r.c.at_)).many), AV.sy (Value.bool (rfallD (RD.mk (recsF r.stays.length (bysF r.stays)) (recsF r.cache.length (rwSet (bysF r.cache) z.toNat 0 [AV.by8 b])) (CrashD.mk (r.c.w - 1) (numsF r.c.keep.length (intsF r.c.keep)) r.c.torn r.c.at_) (r.many + 1) r.down) (CrashD.mk (r.c.w - 1) (numsF r.c.keep.length (intsF r.c.keep)) r.c.torn r.c.at_)).down)]) (by kernel_rfl) (of_eqP (C := 45 = 45 ∧ (none : Option Nat) = none ∧ (Same 1 ∧ Same (rfallD (RD.mk (recsF r.stays.length (bysF r.stays)) (recsF r.cache.length (rwSet (bysF r.cache) z.toNat 0 [AV.by8 b])) (CrashD.mk (r.c.w - 1) (numsF r.c.keep.length (intsF r.c.keep)) r.c.torn r.c.at_) (r.many + 1) r.down) (CrashD.mk (r.c.w - 1) (numsF r.c.keep.length (intsF r.c.keep)) r.c.torn r.c.at_)).stays.length) ∧ (Same 2 ∧ Same (rfallD (RD.mk (recsF r.stays.length (bysF r.stays)) (recsF r.cache.length (rwSet (bysF r.cache) z.toNat 0 [AV.by8 b])) (CrashD.mk (r.c.w - 1) (numsF r.c.keep.length (intsF r.c.keep)) r.c.torn r.c.at_) (r.many + 1) r.down) (CrashD.mk (r.c.w - 1) (numsF r.c.keep.length (intsF r.c.keep)) r.c.torn r.c.at_)).cache.length) ∧ (Same IntKind.i64 ∧ Same (rfallD (RD.mk (recsF r.stays.length (bysF r.stays)) (recsF r.cache.length (rwSet (bysF r.cache) z.toNat 0 [AV.by8 b])) (CrashD.mk (r.c.w - 1) (numsF r.c.keep.length (intsF r.c.keep)) r.c.torn r.c.at_) (r.many + 1) r.down) (CrashD.mk (r.c.w - 1) (numsF r.c.keep.length (intsF r.c.keep)) r.c.torn r.c.at_)).c.w) ∧ (Same 1 ∧ Same 0 ∧ (∀ (r_1 : Nat), r_1 < 0 → intsF (rfallD (RD.mk (recsF r.stays.length (bysF r.stays)) (recsF r.cache.length (rwSet (bysF r.cache) z.toNat 0 [AV.by8 b])) (CrashD.mk (r.c.w - 1) (numsF r.c.keep.length (intsF r.c.keep)) r.c.torn r.c.at_) (r.many + 1) r.down) (CrashD.mk (r.c.w - 1) (numsF r.c.keep.length (intsF r.c.keep)) r.c.torn r.c.at_)).c.keep r_1 = intsF (rfallD (RD.mk (recsF r.stays.length (bysF r.stays)) (recsF r.cache.length (rwSet (bysF r.cache) z.toNat 0 [AV.by8 b])) (CrashD.mk (r.c.w - 1) (numsF r.c.keep.length (intsF r.c.keep)) r.c.torn r.c.at_) (r.many + 1) r.down) (CrashD.mk (r.c.w - 1) (numsF r.c.keep.length (intsF r.c.keep)) r.c.torn r.c.at_)).c.keep r_1)) ∧ (Same IntKind.i64 ∧ Same (rfallD (RD.mk (recsF r.stays.length (bysF r.stays)) (recsF r.cache.length (rwSet (bysF r.cache) z.toNat 0 [AV.by8 b])) (CrashD.mk (r.c.w - 1) (numsF r.c.keep.length (intsF r.c.keep)) r.c.torn r.c.at_) (r.many + 1) r.down) (CrashD.mk (r.c.w - 1) (numsF r.c.keep.length (intsF r.c.keep)) r.c.torn r.c.at_)).c.torn) ∧ (Same IntKind.i64 ∧ Same (rfallD (RD.mk (recsF r.stays.length (bysF r.stays)) (recsF r.cache.length (rwSet (bysF r.cache) z.toNat 0 [AV.by8 b])) (CrashD.mk (r.c.w - 1) (numsF r.c.keep.length (intsF r.c.keep)) r.c.torn r.c.at_) (r.many + 1) r.down) (CrashD.mk (r.c.w - 1) (numsF r.c.keep.length (intsF r.c.keep)) r.c.torn r.c.at_)).c.at_) ∧ (Same IntKind.i64 ∧ Same (rfallD (RD.mk (recsF r.stays.length (bysF r.stays)) (recsF r.cache.length (rwSet (bysF r.cache) z.toNat 0 [AV.by8 b])) (CrashD.mk (r.c.w - 1) (numsF r.c.keep.length (intsF r.c.keep)) r.c.torn r.c.at_) (r.many + 1) r.down) (CrashD.mk (r.c.w - 1) (numsF r.c.keep.length (intsF r.c.keep)) r.c.torn r.c.at_)).many) ∧ Same (rfallD (RD.mk (recsF r.stays.length (bysF r.stays)) (recsF r.cache.length (rwSet (bysF r.cache) z.toNat 0 [AV.by8 b])) (CrashD.mk (r.c.w - 1) (numsF r.c.keep.length (intsF r.c.keep)) r.c.torn r.c.at_) (r.many + 1) r.down) (CrashD.mk (r.c.w - 1) (numsF r.c.keep.length (intsF r.c.keep)) r.c.torn r.c.at_)).down ∧ True) (by kernel_rfl) (by (and_intros <;> try exact cl))) (endL_cons (B0 := AB.rw 36 1 (rfallD (RD.mk (recsF r.stays.length (bysF r.stays)) (recsF r.cache.length (rwSet (bysF r.cache) z.toNat 0 [AV.by8 b])) (CrashD.mk (r.c.w - 1) (numsF r.c.keep.length (intsF r.c.keep)) r.c.torn r.c.at_) (r.many + 1) r.down) (CrashD.mk (r.c.w - 1) (numsF r.c.keep.length (intsF r.c.keep)) r.c.torn r.c.at_)).stays.length (bysF (rfallD (RD.mk (recsF r.stays.length (bysF r.stays)) (recsF r.cache.length (rwSet (bysF r.cache) z.toNat 0 [AV.by8 b])) (CrashD.mk (r.c.w - 1) (numsF r.c.keep.length (intsF r.c.keep)) r.c.torn r.c.at_) (r.many + 1) r.down) (CrashD.mk (r.c.w - 1) (numsF r.c.keep.length (intsF r.c.keep)) r.c.torn r.c.at_)).stays)) (by kernel_rfl) (of_eqP (C := 36 = 36 ∧ Same 1 ∧ Same (rfallD (RD.mk (recsF r.stays.length (bysF r.stays)) (recsF r.cache.length (rwSet (bysF r.cache) z.toNat 0 [AV.by8 b])) (CrashD.mk (r.c.w - 1) (numsF r.c.keep.length (intsF r.c.keep)) r.c.torn r.c.at_) (r.many + 1) r.down) (CrashD.mk (r.c.w - 1) (numsF r.c.keep.length (intsF r.c.keep)) r.c.torn r.c.at_)).stays.length ∧ (∀ (r_1 : Nat), r_1 < (rfallD (RD.mk (recsF r.stays.length (bysF r.stays)) (recsF r.cache.length (rwSet (bysF r.cache) z.toNat 0 [AV.by8 b])) (CrashD.mk (r.c.w - 1) (numsF r.c.keep.length (intsF r.c.keep)) r.c.torn r.c.at_) (r.many + 1) r.down) (CrashD.mk (r.c.w - 1) (numsF r.c.keep.length (intsF r.c.keep)) r.c.torn r.c.at_)).stays.length → bysF (rfallD (RD.mk (recsF r.stays.length (bysF r.stays)) (recsF r.cache.length (rwSet (bysF r.cache) z.toNat 0 [AV.by8 b])) (CrashD.mk (r.c.w - 1) (numsF r.c.keep.length (intsF r.c.keep)) r.c.torn r.c.at_) (r.many + 1) r.down) (CrashD.mk (r.c.w - 1) (numsF r.c.keep.length (intsF r.c.keep)) r.c.torn r.c.at_)).stays r_1 = bysF (rfallD (RD.mk (recsF r.stays.length (bysF r.stays)) (recsF r.cache.length (rwSet (bysF r.cache) z.toNat 0 [AV.by8 b])) (CrashD.mk (r.c.w - 1) (numsF r.c.keep.length (intsF r.c.keep)) r.c.torn r.c.at_) (r.many + 1) r.down) (CrashD.mk (r.c.w - 1) (numsF r.c.keep.length (intsF r.c.keep)) r.c.torn r.c.at_)).stays r_1)) (by kernel_rfl) (by (and_intros <;> try exact cl))) (endL_cons (B0 := AB.rw 36 1 (rfallD (RD.mk (recsF r.stays.length (bysF r.stays)) (recsF r.cache.length (rwSet (bysF r.cache) z.toNat 0 [AV.by8 b])) (CrashD.mk (r.c.w - 1) (numsF r.c.keep.length (intsF r.c.keep)) r.c.torn r.c.at_) (r.many + 1) r.down) (CrashD.mk (r.c.w - 1) (numsF r.c.keep.length (intsF r.c.keep)) r.c.torn r.c.at_)).cache.length (bysF (rfallD (RD.mk (recsF r.stays.length (bysF r.stays)) (recsF r.cache.length (rwSet (bysF r.cache) z.toNat 0 [AV.by8 b])) (CrashD.mk (r.c.w - 1) (numsF r.c.keep.length (intsF r.c.keep)) r.c.torn r.c.at_) (r.many + 1) r.down) (CrashD.mk (r.c.w - 1) (numsF r.c.keep.length (intsF r.c.keep)) r.c.torn r.c.at_)).cache)) (by kernel_rfl) (of_eqP (C := 36 = 36 ∧ Same 1 ∧ Same (rfallD (RD.mk (recsF r.stays.length (bysF r.stays)) (recsF r.cache.length (rwSet (bysF r.cache) z.toNat 0 [AV.by8 b])) (CrashD.mk (r.c.w - 1) (numsF r.c.keep.length (intsF r.c.keep)) r.c.torn r.c.at_) (r.many + 1) r.down) (CrashD.mk (r.c.w - 1) (numsF r.c.keep.length (intsF r.c.keep)) r.c.torn r.c.at_)).cache.length ∧ (∀ (r_1 : Nat), r_1 < (rfallD (RD.mk (recsF r.stays.length (bysF r.stays)) (recsF r.cache.length (rwSet (bysF r.cache) z.toNat 0 [AV.by8 b])) (CrashD.mk (r.c.w - 1) (numsF r.c.keep.length (intsF r.c.keep)) r.c.torn r.c.at_) (r.many + 1) r.down) (CrashD.mk (r.c.w - 1) (numsF r.c.keep.length (intsF r.c.keep)) r.c.torn r.c.at_)).cache.length → bysF (rfallD (RD.mk (recsF r.stays.length (bysF r.stays)) (recsF r.cache.length (rwSet (bysF r.cache) z.toNat 0 [AV.by8 b])) (CrashD.mk (r.c.w - 1) (numsF r.c.keep.length (intsF r.c.keep)) r.c.torn r.c.at_) (r.many + 1) r.down) (CrashD.mk (r.c.w - 1) (numsF r.c.keep.length (intsF r.c.keep)) r.c.torn r.c.at_)).cache r_1 = bysF (rfallD (RD.mk (recsF r.stays.length (bysF r.stays)) (recsF r.cache.length (rwSet (bysF r.cache) z.toNat 0 [AV.by8 b])) (CrashD.mk (r.c.w - 1) (numsF r.c.keep.length (intsF r.c.keep)) r.c.torn r.c.at_) (r.many + 1) r.down) (CrashD.mk (r.c.w - 1) (numsF r.c.keep.length (intsF r.c.keep)) r.c.torn r.c.at_)).cache r_1)) (by kernel_rfl) (by (and_intros <;> try exact cl))) endL_nil)))⟩
   · intro h3
     have hw : rwriteD r z b = (r, 30) := by unfold rwriteD; rw [if_neg (by simp [h1]), if_neg (by omega), if_pos (by omega)]
     refine To.R (h := ?_)
     refine To.E (AV.v (Value.int IntKind.i64 30)) (hq := ?_)
     rw [hw]
     refine ⟨(of_eqP (C := Same IntKind.i64 ∧ Same (30 : Int)) (by kernel_rfl) (by (and_intros <;> try exact cl))), (endL_cons (B0 := AB.mem 45 none [AV.ow 1 r.stays.length, AV.ow 2 r.cache.length, AV.sy (Value.int IntKind.i64 r.c.w), AV.im 1 r.c.keep.length (intsF r.c.keep), AV.sy (Value.int IntKind.i64 r.c.torn), AV.sy (Value.int IntKind.i64 r.c.at_), AV.sy (Value.int IntKind.i64 r.many), AV.sy (Value.bool r.down)]) (by kernel_rfl) (of_eqP (C := 45 = 45 ∧ (none : Option Nat) = none ∧ (Same 1 ∧ Same r.stays.length) ∧ (Same 2 ∧ Same r.cache.length) ∧ (Same IntKind.i64 ∧ Same r.c.w) ∧ (Same 1 ∧ Same r.c.keep.length ∧ (∀ (r_1 : Nat), r_1 < r.c.keep.length → intsF r.c.keep r_1 = intsF r.c.keep r_1)) ∧ (Same IntKind.i64 ∧ Same r.c.torn) ∧ (Same IntKind.i64 ∧ Same r.c.at_) ∧ (Same IntKind.i64 ∧ Same r.many) ∧ Same r.down ∧ True) (by kernel_rfl) (by (and_intros <;> try exact cl))) (endL_cons (B0 := AB.rw 36 1 r.stays.length (bysF r.stays)) (by kernel_rfl) (of_eqP (C := 36 = 36 ∧ Same 1 ∧ Same r.stays.length ∧ (∀ (r_1 : Nat), r_1 < r.stays.length → bysF r.stays r_1 = bysF r.stays r_1)) (by kernel_rfl) (by (and_intros <;> try exact cl))) (endL_cons (B0 := AB.rw 36 1 r.cache.length (bysF r.cache)) (by kernel_rfl) (of_eqP (C := 36 = 36 ∧ Same 1 ∧ Same r.cache.length ∧ (∀ (r_1 : Nat), r_1 < r.cache.length → bysF r.cache r_1 = bysF r.cache r_1)) (by kernel_rfl) (by (and_intros <;> try exact cl))) endL_nil)))⟩
 · intro h2
   have hw : rwriteD r z b = (r, 30) := by unfold rwriteD; rw [if_neg (by simp [h1]), if_pos (by omega)]
   refine To.R (h := ?_)
   refine To.E (AV.v (Value.int IntKind.i64 30)) (hq := ?_)
   rw [hw]
   refine ⟨(of_eqP (C := Same IntKind.i64 ∧ Same (30 : Int)) (by kernel_rfl) (by (and_intros <;> try exact cl))), (endL_cons (B0 := AB.mem 45 none [AV.ow 1 r.stays.length, AV.ow 2 r.cache.length, AV.sy (Value.int IntKind.i64 r.c.w), AV.im 1 r.c.keep.length (intsF r.c.keep), AV.sy (Value.int IntKind.i64 r.c.torn), AV.sy (Value.int IntKind.i64 r.c.at_), AV.sy (Value.int IntKind.i64 r.many), AV.sy (Value.bool r.down)]) (by kernel_rfl) (of_eqP (C := 45 = 45 ∧ (none : Option Nat) = none ∧ (Same 1 ∧ Same r.stays.length) ∧ (Same 2 ∧ Same r.cache.length) ∧ (Same IntKind.i64 ∧ Same r.c.w) ∧ (Same 1 ∧ Same r.c.keep.length ∧ (∀ (r_1 : Nat), r_1 < r.c.keep.length → intsF r.c.keep r_1 = intsF r.c.keep r_1)) ∧ (Same IntKind.i64 ∧ Same r.c.torn) ∧ (Same IntKind.i64 ∧ Same r.c.at_) ∧ (Same IntKind.i64 ∧ Same r.many) ∧ Same r.down ∧ True) (by kernel_rfl) (by (and_intros <;> try exact cl))) (endL_cons (B0 := AB.rw 36 1 r.stays.length (bysF r.stays)) (by kernel_rfl) (of_eqP (C := 36 = 36 ∧ Same 1 ∧ Same r.stays.length ∧ (∀ (r_1 : Nat), r_1 < r.stays.length → bysF r.stays r_1 = bysF r.stays r_1)) (by kernel_rfl) (by (and_intros <;> try exact cl))) (endL_cons (B0 := AB.rw 36 1 r.cache.length (bysF r.cache)) (by kernel_rfl) (of_eqP (C := 36 = 36 ∧ Same 1 ∧ Same r.cache.length ∧ (∀ (r_1 : Nat), r_1 < r.cache.length → bysF r.cache r_1 = bysF r.cache r_1)) (by kernel_rfl) (by (and_intros <;> try exact cl))) endL_nil)))⟩
def rflS (r : RD) (a : Nat) : List (List UInt8) := (List.range r.stays.length).map fun k => if k < a ∧ r.cache.getD k [] ≠ [] then r.cache.getD k [] else r.stays.getD k []
theorem rflS_at {r : RD} {a k : Nat} (h : k < r.stays.length) : (rflS r a).getD k [] = if k < a ∧ r.cache.getD k [] ≠ [] then r.cache.getD k [] else r.stays.getD k [] := by
 unfold rflS
 rw [List.getD_eq_getElem?_getD, List.getElem?_map, List.getElem?_range h]; rfl
set_option maxHeartbeats 4000000 in
set_option maxRecDepth 100000 in
theorem rread_to (hok : S16.Ok Tryz.prog) (r : RD) (z : Int) (hr : r.Ok) :
   To S16 Tryz.prog 57 (startOf Tryz.prog 57 [.ptr 0 0, ivA z] (memF (rblk r) 0 .e) 3)
     (fun x H' _ => leA x (.tup [.by8 (rreadD r z).1, ivA (rreadD r z).2]) ∧ endL (rblk r) 0 H') := by
 have hlen := hr.len
 have hle := hr.le
 refine To.R (h := ?_)
 refine To.bool2 10 (r.down) (by kernel_rfl) (by kernel_rfl) ?_ ?_
 · intro h1
   have hw : rreadD r z = ([], 31) := by unfold rreadD; rw [if_pos h1]
   refine To.R (h := ?_)
   refine To.E (AV.tup [AV.v (Value.slice none 0 0), AV.v (Value.int IntKind.i64 31)]) (hq := ?_)
   rw [hw]
   refine ⟨(of_eqP (C := ([] : List UInt8) = [] ∧ (Same IntKind.i64 ∧ Same (31 : Int)) ∧ True) (by kernel_rfl) (by (and_intros <;> try exact cl))), (endL_cons (B0 := AB.mem 45 none [AV.ow 1 r.stays.length, AV.ow 2 r.cache.length, AV.sy (Value.int IntKind.i64 r.c.w), AV.im 1 r.c.keep.length (intsF r.c.keep), AV.sy (Value.int IntKind.i64 r.c.torn), AV.sy (Value.int IntKind.i64 r.c.at_), AV.sy (Value.int IntKind.i64 r.many), AV.sy (Value.bool r.down)]) (by kernel_rfl) (of_eqP (C := 45 = 45 ∧ (none : Option Nat) = none ∧ (Same 1 ∧ Same r.stays.length) ∧ (Same 2 ∧ Same r.cache.length) ∧ (Same IntKind.i64 ∧ Same r.c.w) ∧ (Same 1 ∧ Same r.c.keep.length ∧ (∀ (r_1 : Nat), r_1 < r.c.keep.length → intsF r.c.keep r_1 = intsF r.c.keep r_1)) ∧ (Same IntKind.i64 ∧ Same r.c.torn) ∧ (Same IntKind.i64 ∧ Same r.c.at_) ∧ (Same IntKind.i64 ∧ Same r.many) ∧ Same r.down ∧ True) (by kernel_rfl) (by (and_intros <;> try exact cl))) (endL_cons (B0 := AB.rw 36 1 r.stays.length (bysF r.stays)) (by kernel_rfl) (of_eqP (C := 36 = 36 ∧ Same 1 ∧ Same r.stays.length ∧ (∀ (r_1 : Nat), r_1 < r.stays.length → bysF r.stays r_1 = bysF r.stays r_1)) (by kernel_rfl) (by (and_intros <;> try exact cl))) (endL_cons (B0 := AB.rw 36 1 r.cache.length (bysF r.cache)) (by kernel_rfl) (of_eqP (C := 36 = 36 ∧ Same 1 ∧ Same r.cache.length ∧ (∀ (r_1 : Nat), r_1 < r.cache.length → bysF r.cache r_1 = bysF r.cache r_1)) (by kernel_rfl) (by (and_intros <;> try exact cl))) endL_nil)))⟩
 intro h1
 refine To.R (h := ?_)
 refine To.Bd (0 ≤ z) (h := ?_) (g := ?_)
 · intro h2
   refine To.R (h := ?_)
   refine To.Bd (z < r.stays.length) (h := ?_) (g := ?_)
   · intro h3
     have hzl : z.toNat < r.cache.length := by omega
     have hzl' : z.toNat < r.stays.length := by omega
     have l1 : (r.cache.getD z.toNat default).length ≤ 1000000 := by
       show (r.cache.getD z.toNat []).length ≤ 1000000
       rcases hr.ca _ hzl' with e | e
       · rw [e]; exact Nat.zero_le _
       · rw [e]; decide
     have l2 : (r.stays.getD z.toNat default).length ≤ 1000000 := by
       show (r.stays.getD z.toNat []).length ≤ 1000000
       rw [hr.st _ hzl']; decide
     refine To.R (C := (0 ≤ z ∧ z < r.cache.length) ∧ z.toNat < r.cache.length ∧ True) (h := ?_)
     refine To.Bd ((0 : Int) < (r.cache.getD z.toNat default).length) (h := ?_) (g := ?_)
     · intro h4
       have h4' : r.cache.getD z.toNat [] ≠ [] := fun e => by rw [show r.cache.getD z.toNat default = [] from e] at h4; exact absurd h4 (by decide)
       have hw : rreadD r z = (r.cache.getD z.toNat [], 0) := by unfold rreadD; rw [if_neg (by simp [h1]), if_neg (by omega), if_neg (by omega), if_neg h4']
       refine To.R (C := (0 ≤ z ∧ z < r.cache.length) ∧ z.toNat < r.cache.length ∧ True ∧ (r.cache.getD z.toNat default).length ≤ 1000000) (h := ?_)
       refine To.E (AV.tup [AV.by8 (r.cache.getD z.toNat default), AV.v (Value.int IntKind.i64 0)]) (hq := ?_)
       rw [hw]
       refine ⟨(of_eqP (C := r.cache.getD z.toNat default = r.cache.getD z.toNat [] ∧ (Same IntKind.i64 ∧ Same (0 : Int)) ∧ True) (by kernel_rfl) ?_), (endL_cons (B0 := AB.mem 45 none [AV.ow 1 r.stays.length, AV.ow 2 r.cache.length, AV.sy (Value.int IntKind.i64 r.c.w), AV.im 1 r.c.keep.length (intsF r.c.keep), AV.sy (Value.int IntKind.i64 r.c.torn), AV.sy (Value.int IntKind.i64 r.c.at_), AV.sy (Value.int IntKind.i64 r.many), AV.sy (Value.bool r.down)]) (by kernel_rfl) (of_eqP (C := 45 = 45 ∧ (none : Option Nat) = none ∧ (Same 1 ∧ Same r.stays.length) ∧ (Same 2 ∧ Same r.cache.length) ∧ (Same IntKind.i64 ∧ Same r.c.w) ∧ (Same 1 ∧ Same r.c.keep.length ∧ (∀ (r_1 : Nat), r_1 < r.c.keep.length → intsF r.c.keep r_1 = intsF r.c.keep r_1)) ∧ (Same IntKind.i64 ∧ Same r.c.torn) ∧ (Same IntKind.i64 ∧ Same r.c.at_) ∧ (Same IntKind.i64 ∧ Same r.many) ∧ Same r.down ∧ True) (by kernel_rfl) (by (and_intros <;> try exact cl))) (endL_cons (B0 := AB.rw 36 1 r.stays.length (bysF r.stays)) (by kernel_rfl) (of_eqP (C := 36 = 36 ∧ Same 1 ∧ Same r.stays.length ∧ (∀ (r_1 : Nat), r_1 < r.stays.length → bysF r.stays r_1 = bysF r.stays r_1)) (by kernel_rfl) (by (and_intros <;> try exact cl))) (endL_cons (B0 := AB.rw 36 1 r.cache.length (bysF r.cache)) (by kernel_rfl) (of_eqP (C := 36 = 36 ∧ Same 1 ∧ Same r.cache.length ∧ (∀ (r_1 : Nat), r_1 < r.cache.length → bysF r.cache r_1 = bysF r.cache r_1)) (by kernel_rfl) (by (and_intros <;> try exact cl))) endL_nil)))⟩
       exact ⟨rfl, ⟨rfl, rfl⟩, trivial⟩
     · intro h4
       have h4' : r.cache.getD z.toNat [] = [] := List.eq_nil_of_length_eq_zero (by have : ¬ (0 : Int) < ((r.cache.getD z.toNat []).length : Int) := h4; omega)
       have hw : rreadD r z = (r.stays.getD z.toNat [], 0) := by unfold rreadD; rw [if_neg (by simp [h1]), if_neg (by omega), if_neg (by omega), if_pos h4']
       refine To.R (C := (0 ≤ z ∧ z < r.stays.length) ∧ z.toNat < r.stays.length ∧ True ∧ (r.stays.getD z.toNat default).length ≤ 1000000) (h := ?_)
       refine To.E (AV.tup [AV.by8 (r.stays.getD z.toNat default), AV.v (Value.int IntKind.i64 0)]) (hq := ?_)
       rw [hw]
       refine ⟨(of_eqP (C := r.stays.getD z.toNat default = r.stays.getD z.toNat [] ∧ (Same IntKind.i64 ∧ Same (0 : Int)) ∧ True) (by kernel_rfl) ?_), (endL_cons (B0 := AB.mem 45 none [AV.ow 1 r.stays.length, AV.ow 2 r.cache.length, AV.sy (Value.int IntKind.i64 r.c.w), AV.im 1 r.c.keep.length (intsF r.c.keep), AV.sy (Value.int IntKind.i64 r.c.torn), AV.sy (Value.int IntKind.i64 r.c.at_), AV.sy (Value.int IntKind.i64 r.many), AV.sy (Value.bool r.down)]) (by kernel_rfl) (of_eqP (C := 45 = 45 ∧ (none : Option Nat) = none ∧ (Same 1 ∧ Same r.stays.length) ∧ (Same 2 ∧ Same r.cache.length) ∧ (Same IntKind.i64 ∧ Same r.c.w) ∧ (Same 1 ∧ Same r.c.keep.length ∧ (∀ (r_1 : Nat), r_1 < r.c.keep.length → intsF r.c.keep r_1 = intsF r.c.keep r_1)) ∧ (Same IntKind.i64 ∧ Same r.c.torn) ∧ (Same IntKind.i64 ∧ Same r.c.at_) ∧ (Same IntKind.i64 ∧ Same r.many) ∧ Same r.down ∧ True) (by kernel_rfl) (by (and_intros <;> try exact cl))) (endL_cons (B0 := AB.rw 36 1 r.stays.length (bysF r.stays)) (by kernel_rfl) (of_eqP (C := 36 = 36 ∧ Same 1 ∧ Same r.stays.length ∧ (∀ (r_1 : Nat), r_1 < r.stays.length → bysF r.stays r_1 = bysF r.stays r_1)) (by kernel_rfl) (by (and_intros <;> try exact cl))) (endL_cons (B0 := AB.rw 36 1 r.cache.length (bysF r.cache)) (by kernel_rfl) (of_eqP (C := 36 = 36 ∧ Same 1 ∧ Same r.cache.length ∧ (∀ (r_1 : Nat), r_1 < r.cache.length → bysF r.cache r_1 = bysF r.cache r_1)) (by kernel_rfl) (by (and_intros <;> try exact cl))) endL_nil)))⟩
       exact ⟨rfl, ⟨rfl, rfl⟩, trivial⟩
   · intro h3
     have hw : rreadD r z = ([], 30) := by unfold rreadD; rw [if_neg (by simp [h1]), if_neg (by omega), if_pos (by omega)]
     refine To.R (h := ?_)
     refine To.E (AV.tup [AV.v (Value.slice none 0 0), AV.v (Value.int IntKind.i64 30)]) (hq := ?_)
     rw [hw]
     refine ⟨(of_eqP (C := ([] : List UInt8) = [] ∧ (Same IntKind.i64 ∧ Same (30 : Int)) ∧ True) (by kernel_rfl) (by (and_intros <;> try exact cl))), (endL_cons (B0 := AB.mem 45 none [AV.ow 1 r.stays.length, AV.ow 2 r.cache.length, AV.sy (Value.int IntKind.i64 r.c.w), AV.im 1 r.c.keep.length (intsF r.c.keep), AV.sy (Value.int IntKind.i64 r.c.torn), AV.sy (Value.int IntKind.i64 r.c.at_), AV.sy (Value.int IntKind.i64 r.many), AV.sy (Value.bool r.down)]) (by kernel_rfl) (of_eqP (C := 45 = 45 ∧ (none : Option Nat) = none ∧ (Same 1 ∧ Same r.stays.length) ∧ (Same 2 ∧ Same r.cache.length) ∧ (Same IntKind.i64 ∧ Same r.c.w) ∧ (Same 1 ∧ Same r.c.keep.length ∧ (∀ (r_1 : Nat), r_1 < r.c.keep.length → intsF r.c.keep r_1 = intsF r.c.keep r_1)) ∧ (Same IntKind.i64 ∧ Same r.c.torn) ∧ (Same IntKind.i64 ∧ Same r.c.at_) ∧ (Same IntKind.i64 ∧ Same r.many) ∧ Same r.down ∧ True) (by kernel_rfl) (by (and_intros <;> try exact cl))) (endL_cons (B0 := AB.rw 36 1 r.stays.length (bysF r.stays)) (by kernel_rfl) (of_eqP (C := 36 = 36 ∧ Same 1 ∧ Same r.stays.length ∧ (∀ (r_1 : Nat), r_1 < r.stays.length → bysF r.stays r_1 = bysF r.stays r_1)) (by kernel_rfl) (by (and_intros <;> try exact cl))) (endL_cons (B0 := AB.rw 36 1 r.cache.length (bysF r.cache)) (by kernel_rfl) (of_eqP (C := 36 = 36 ∧ Same 1 ∧ Same r.cache.length ∧ (∀ (r_1 : Nat), r_1 < r.cache.length → bysF r.cache r_1 = bysF r.cache r_1)) (by kernel_rfl) (by (and_intros <;> try exact cl))) endL_nil)))⟩
 · intro h2
   have hw : rreadD r z = ([], 30) := by unfold rreadD; rw [if_neg (by simp [h1]), if_pos (by omega)]
   refine To.R (h := ?_)
   refine To.E (AV.tup [AV.v (Value.slice none 0 0), AV.v (Value.int IntKind.i64 30)]) (hq := ?_)
   rw [hw]
   refine ⟨(of_eqP (C := ([] : List UInt8) = [] ∧ (Same IntKind.i64 ∧ Same (30 : Int)) ∧ True) (by kernel_rfl) (by (and_intros <;> try exact cl))), (endL_cons (B0 := AB.mem 45 none [AV.ow 1 r.stays.length, AV.ow 2 r.cache.length, AV.sy (Value.int IntKind.i64 r.c.w), AV.im 1 r.c.keep.length (intsF r.c.keep), AV.sy (Value.int IntKind.i64 r.c.torn), AV.sy (Value.int IntKind.i64 r.c.at_), AV.sy (Value.int IntKind.i64 r.many), AV.sy (Value.bool r.down)]) (by kernel_rfl) (of_eqP (C := 45 = 45 ∧ (none : Option Nat) = none ∧ (Same 1 ∧ Same r.stays.length) ∧ (Same 2 ∧ Same r.cache.length) ∧ (Same IntKind.i64 ∧ Same r.c.w) ∧ (Same 1 ∧ Same r.c.keep.length ∧ (∀ (r_1 : Nat), r_1 < r.c.keep.length → intsF r.c.keep r_1 = intsF r.c.keep r_1)) ∧ (Same IntKind.i64 ∧ Same r.c.torn) ∧ (Same IntKind.i64 ∧ Same r.c.at_) ∧ (Same IntKind.i64 ∧ Same r.many) ∧ Same r.down ∧ True) (by kernel_rfl) (by (and_intros <;> try exact cl))) (endL_cons (B0 := AB.rw 36 1 r.stays.length (bysF r.stays)) (by kernel_rfl) (of_eqP (C := 36 = 36 ∧ Same 1 ∧ Same r.stays.length ∧ (∀ (r_1 : Nat), r_1 < r.stays.length → bysF r.stays r_1 = bysF r.stays r_1)) (by kernel_rfl) (by (and_intros <;> try exact cl))) (endL_cons (B0 := AB.rw 36 1 r.cache.length (bysF r.cache)) (by kernel_rfl) (of_eqP (C := 36 = 36 ∧ Same 1 ∧ Same r.cache.length ∧ (∀ (r_1 : Nat), r_1 < r.cache.length → bysF r.cache r_1 = bysF r.cache r_1)) (by kernel_rfl) (by (and_intros <;> try exact cl))) endL_nil)))⟩
set_option maxHeartbeats 4000000 in
set_option maxRecDepth 100000 in
theorem rflush_to (hok : S16.Ok Tryz.prog) (r : RD) (hr : r.Ok) :
   To S16 Tryz.prog 26 (startOf Tryz.prog 26 [.ptr 0 0] (memF (rblk r) 0 .e) 3)
     (fun x H' _ => leA x (ivA (rflushD r).2) ∧ endL (rblk (rflushD r).1) 0 H') := by
 have hlen := hr.len
 have hle := hr.le
 refine To.R (h := ?_)
 refine To.bool2 7 (r.down) (by kernel_rfl) (by kernel_rfl) ?_ ?_
 · intro h1
   have hw : rflushD r = (r, 31) := by unfold rflushD; rw [if_pos h1]
   refine To.R (h := ?_)
   refine To.E (AV.v (Value.int IntKind.i64 31)) (hq := ?_)
   rw [hw]
   refine ⟨(of_eqP (C := Same IntKind.i64 ∧ Same (31 : Int)) (by kernel_rfl) (by (and_intros <;> try exact cl))), (endL_cons (B0 := AB.mem 45 none [AV.ow 1 r.stays.length, AV.ow 2 r.cache.length, AV.sy (Value.int IntKind.i64 r.c.w), AV.im 1 r.c.keep.length (intsF r.c.keep), AV.sy (Value.int IntKind.i64 r.c.torn), AV.sy (Value.int IntKind.i64 r.c.at_), AV.sy (Value.int IntKind.i64 r.many), AV.sy (Value.bool r.down)]) (by kernel_rfl) (of_eqP (C := 45 = 45 ∧ (none : Option Nat) = none ∧ (Same 1 ∧ Same r.stays.length) ∧ (Same 2 ∧ Same r.cache.length) ∧ (Same IntKind.i64 ∧ Same r.c.w) ∧ (Same 1 ∧ Same r.c.keep.length ∧ (∀ (r_1 : Nat), r_1 < r.c.keep.length → intsF r.c.keep r_1 = intsF r.c.keep r_1)) ∧ (Same IntKind.i64 ∧ Same r.c.torn) ∧ (Same IntKind.i64 ∧ Same r.c.at_) ∧ (Same IntKind.i64 ∧ Same r.many) ∧ Same r.down ∧ True) (by kernel_rfl) (by (and_intros <;> try exact cl))) (endL_cons (B0 := AB.rw 36 1 r.stays.length (bysF r.stays)) (by kernel_rfl) (of_eqP (C := 36 = 36 ∧ Same 1 ∧ Same r.stays.length ∧ (∀ (r_1 : Nat), r_1 < r.stays.length → bysF r.stays r_1 = bysF r.stays r_1)) (by kernel_rfl) (by (and_intros <;> try exact cl))) (endL_cons (B0 := AB.rw 36 1 r.cache.length (bysF r.cache)) (by kernel_rfl) (of_eqP (C := 36 = 36 ∧ Same 1 ∧ Same r.cache.length ∧ (∀ (r_1 : Nat), r_1 < r.cache.length → bysF r.cache r_1 = bysF r.cache r_1)) (by kernel_rfl) (by (and_intros <;> try exact cl))) endL_nil)))⟩
 intro h1
 refine To.R (k := 9) (h := ?_)
 refine To.L (L := []) (kp := [3, 0]) (C := (Same IntKind.i64 ∧ (0 : Int) = (↑(0 : Nat) : Int)) ∧ (Same 36 ∧ Same 1 ∧ Same r.stays.length ∧ (∀ (r_1 : Nat), r_1 < r.stays.length → bysF r.stays r_1 = bysF (rflS r 0) r_1)) ∧ Same 36 ∧ Same 1 ∧ Same r.cache.length ∧ (∀ (r_1 : Nat), r_1 < r.cache.length → bysF r.cache r_1 = bysF (rfallC r 0) r_1)) (st := fun (a : Nat) => (⟨(⟨26, 45, (slotT 45 [(0, AV.ptr 0 0), (3, AV.sy (Value.int IntKind.i64 a))]), ARg.no, [(AItem.code (subC (bodyC Tryz.prog 26) [1, 1, 0, 1, 0, 0])), (AItem.inLoop (subC (bodyC Tryz.prog 26) [1, 1, 0, 1, 0, 0])), (AItem.inBlock 0), (AItem.code (subC (bodyC Tryz.prog 26) [1, 1, 1]))], [], false, none, 3⟩ : AFr), [], memF [AB.mem 45 none [AV.ow 1 r.stays.length, AV.ow 2 r.cache.length, AV.sy (Value.int IntKind.i64 r.c.w), AV.im 1 r.c.keep.length (intsF r.c.keep), AV.sy (Value.int IntKind.i64 r.c.torn), AV.sy (Value.int IntKind.i64 r.c.at_), AV.sy (Value.int IntKind.i64 r.many), AV.sy (Value.bool r.down)], AB.rw 36 1 r.stays.length (bysF (rflS r a)), AB.rw 36 1 r.cache.length (bysF (rfallC r a))] 0 Tr.e, 3⟩ : ASt)) (hc := ?_) (h := ?_) (fun (a : Nat) => [(3, ivA (a : Int))]) (fun a => [(1, .rw 36 1 r.stays.length (bysF (rflS r a))), (2, .rw 36 1 r.cache.length (bysF (rfallC r a)))]) (fun a => a ≤ r.cache.length) (fun a => r.cache.length - a) (0)
 · refine ⟨⟨rfl, rfl⟩, ⟨rfl, rfl, rfl, fun k hk => ?_⟩, rfl, rfl, rfl, fun k hk => ?_⟩
   · rw [bysF_get, bysF_get, rflS_at hk]; rfl
   · rw [bysF_get, bysF_get, rfallC_at hk]; rfl
 intro t ha ih
 refine To.R (h := ?_)
 refine To.Bd ((t : Int) < r.cache.length) (h := ?_) (g := ?_)
 · intro h2
   have hac : t < r.cache.length := by omega
   have has : t < r.stays.length := by omega
   have hv := rfallC_at (a := t) hac
   rw [if_neg (by omega)] at hv
   have hi1 : t + 1 ≤ r.cache.length := hac
   have hi2 : r.cache.length - (t + 1) < r.cache.length - t := by omega
   refine To.R (C := ((0 : Int) ≤ t ∧ (t : Int) < r.cache.length) ∧ t < r.cache.length ∧ True) (h := ?_)
   refine To.Bd ((0 : Int) < ((rfallC r t).getD t default).length) (h := ?_) (g := ?_)
   · intro h3
     have hne : r.cache.getD t [] ≠ [] := fun e => by
       rw [← hv] at e
       rw [show (rfallC r t).getD t default = [] from e] at h3; exact absurd h3 (by decide)
     refine To.R (k := 35) (C := ((0 : Int) ≤ t ∧ (t : Int) < r.cache.length) ∧ t < r.cache.length ∧ ((0 : Int) ≤ t ∧ (t : Int) < r.stays.length) ∧ t < r.stays.length ∧ ((0 : Int) ≤ t ∧ (t : Int) < r.cache.length) ∧ t < r.cache.length ∧ fits IntKind.i64 (t + 1)) (h := ?_)
     refine To.rows 2 (bysF (rfallC r (t + 1))) (by kernel_rfl) (C := (∀ (r_1 : Nat), r_1 < r.cache.length → leL (rwSet (bysF (rfallC r t)) t 0 [AV.v (Value.slice none 0 0)] r_1) (bysF (rfallC r (t + 1)) r_1) ∧ bareL (bysF (rfallC r (t + 1)) r_1) = true)) (by kernel_rfl) ?_ ?_
     · intro q hq
       rw [bysF_get, ← rfallC_next hq]
       unfold rwSet
       rw [beq_dec]
       by_cases e : q = t
       · subst e; simp only [decide_true, cond_true, if_true]; exact ⟨⟨rfl, trivial⟩, rfl⟩
       · simp only [e, decide_false, cond_false, if_false]; exact ⟨leL_refl _, rfl⟩
     refine To.K (L := []) (kp := [3, 0]) (ov := [(3, AV.sy (Value.int IntKind.i64 (↑(t + 1) : Int)))]) (ob := [(1, AB.rw 36 1 r.stays.length (bysF (rflS r (t + 1))))]) (C := (Same IntKind.i64 ∧ (↑t : Int) + 1 = (↑(t + 1) : Int)) ∧ 36 = 36 ∧ Same 1 ∧ Same r.stays.length ∧ (∀ (r_1 : Nat), r_1 < r.stays.length → rwSet (bysF (rflS r t)) t 0 [AV.by8 ((rfallC r t).getD t default)] r_1 = bysF (rflS r (t + 1)) r_1)) (hc := ?_) (ih (t + 1) hi1 hi2)
     refine ⟨⟨rfl, Int.natCast_succ _⟩, rfl, rfl, rfl, fun q hq => ?_⟩
     rw [rwSet_bys, bysF_get, rflS_at hq, rflS_at hq]
     by_cases e : q = t
     · subst e
       rw [if_pos rfl, if_pos ⟨by omega, hne⟩]
       exact congrArg (fun x => [AV.by8 x]) hv
     · rw [if_neg e]
       by_cases q1 : q < t
       · simp only [q1, show q < t + 1 by omega]
       · simp only [q1, show ¬ q < t + 1 by omega]
   · intro h3
     have he : r.cache.getD t [] = [] := by
       rw [← hv]
       exact List.eq_nil_of_length_eq_zero (by have : ¬ (0 : Int) < (((rfallC r t).getD t []).length : Int) := h3; omega)
     refine To.R (k := 10) (C := fits IntKind.i64 (t + 1)) (h := ?_)
     refine To.K (L := []) (kp := [3, 0]) (ov := [(3, AV.sy (Value.int IntKind.i64 (↑(t + 1) : Int)))]) (ob := [(1, AB.rw 36 1 r.stays.length (bysF (rflS r (t + 1)))), (2, AB.rw 36 1 r.cache.length (bysF (rfallC r (t + 1))))]) (C := (Same IntKind.i64 ∧ (↑t : Int) + 1 = (↑(t + 1) : Int)) ∧ (36 = 36 ∧ Same 1 ∧ Same r.stays.length ∧ (∀ (r_1 : Nat), r_1 < r.stays.length → bysF (rflS r t) r_1 = bysF (rflS r (t + 1)) r_1)) ∧ 36 = 36 ∧ Same 1 ∧ Same r.cache.length ∧ (∀ (r_1 : Nat), r_1 < r.cache.length → bysF (rfallC r t) r_1 = bysF (rfallC r (t + 1)) r_1)) (hc := ?_) (ih (t + 1) hi1 hi2)
     refine ⟨⟨rfl, Int.natCast_succ _⟩, ⟨rfl, rfl, rfl, fun k hk => ?_⟩, rfl, rfl, rfl, fun k hk => ?_⟩
     · rw [bysF_get, bysF_get, rflS_at hk, rflS_at hk]
       by_cases q1 : k < t
       · simp only [q1, show k < t + 1 by omega]
       · by_cases q2 : k = t
         · subst q2; rw [if_neg (fun h => h.2 he), if_neg (fun h => h.2 he)]
         · simp only [q1, show ¬ k < t + 1 by omega]
     · rw [bysF_get, bysF_get, rfallC_same hk he]
 · intro h2
   have hw : rflushD r = ({ r with stays := rflS r t, cache := rfallC r t }, 0) := by
     unfold rflushD
     rw [if_neg (by simp [h1])]
     have e1 : rflushL r = rflS r t := by
       refine rows_ext (by simp [rflushL, rflS]) fun k hk => ?_
       have hk' : k < r.stays.length := by simpa [rflushL] using hk
       rw [rflS_at hk']
       unfold rflushL
       rw [List.getD_eq_getElem?_getD, List.getElem?_map, List.getElem?_range hk']
       simp only [Option.map_some, Option.getD_some]
       by_cases e : r.cache.getD k [] = []
       · rw [if_pos e, if_neg (fun h => h.2 e)]
       · rw [if_neg e, if_pos ⟨by omega, e⟩]
     have e2 : List.replicate r.cache.length ([] : List UInt8) = rfallC r t := by
       refine rows_ext (by simp [rfallC]) fun k hk => ?_
       have hk' : k < r.cache.length := by simpa using hk
       rw [rfallC_at hk', if_pos (by omega), List.getD_eq_getElem?_getD, List.getElem?_replicate, if_pos hk']; rfl
     rw [e1, e2]
   have e3 : (rflS r t).length = r.stays.length := by simp [rflS]
   have e4 := rfallC_len r t
   refine To.R (h := ?_)
   refine To.E (AV.v (Value.int IntKind.i64 0)) (hq := ?_)
   rw [hw]
   refine ⟨(of_eqP (C := Same IntKind.i64 ∧ Same (0 : Int)) (by kernel_rfl) (by (and_intros <;> try exact cl))), (endL_cons (B0 := AB.mem 45 none [AV.ow 1 r.stays.length, AV.ow 2 r.cache.length, AV.sy (Value.int IntKind.i64 r.c.w), AV.im 1 r.c.keep.length (intsF r.c.keep), AV.sy (Value.int IntKind.i64 r.c.torn), AV.sy (Value.int IntKind.i64 r.c.at_), AV.sy (Value.int IntKind.i64 r.many), AV.sy (Value.bool r.down)]) (by kernel_rfl) (of_eqP (C := 45 = 45 ∧ (none : Option Nat) = none ∧ (Same 1 ∧ r.stays.length = (rflS r t).length) ∧ (Same 2 ∧ r.cache.length = (rfallC r t).length) ∧ (Same IntKind.i64 ∧ Same r.c.w) ∧ (Same 1 ∧ Same r.c.keep.length ∧ (∀ (r_1 : Nat), r_1 < r.c.keep.length → intsF r.c.keep r_1 = intsF r.c.keep r_1)) ∧ (Same IntKind.i64 ∧ Same r.c.torn) ∧ (Same IntKind.i64 ∧ Same r.c.at_) ∧ (Same IntKind.i64 ∧ Same r.many) ∧ Same r.down ∧ True) (by kernel_rfl) (by (and_intros <;> try exact cl))) (endL_cons (B0 := AB.rw 36 1 r.stays.length (bysF (rflS r t))) (by kernel_rfl) (of_eqP (C := 36 = 36 ∧ Same 1 ∧ r.stays.length = (rflS r t).length ∧ (∀ (r_1 : Nat), r_1 < r.stays.length → bysF (rflS r t) r_1 = bysF (rflS r t) r_1)) (by kernel_rfl) (by (and_intros <;> try exact cl))) (endL_cons (B0 := AB.rw 36 1 r.cache.length (bysF (rfallC r t))) (by kernel_rfl) (of_eqP (C := 36 = 36 ∧ Same 1 ∧ r.cache.length = (rfallC r t).length ∧ (∀ (r_1 : Nat), r_1 < r.cache.length → bysF (rfallC r t) r_1 = bysF (rfallC r t) r_1)) (by kernel_rfl) (by (and_intros <;> try exact cl))) endL_nil)))⟩
   all_goals first | exact ⟨rfl, rfl, ⟨rfl, e3.symm⟩, ⟨rfl, e4.symm⟩, ⟨rfl, rfl⟩, ⟨rfl, rfl, fun _ _ => rfl⟩, ⟨rfl, rfl⟩, ⟨rfl, rfl⟩, ⟨rfl, rfl⟩, rfl, trivial⟩ | exact ⟨rfl, rfl, e3.symm, fun _ _ => rfl⟩ | exact ⟨rfl, rfl, e4.symm, fun _ _ => rfl⟩
set_option maxHeartbeats 4000000 in
set_option maxRecDepth 100000 in
theorem rarm_to (hok : S16.Ok Tryz.prog) (r : RD) (c : CrashD) (hr : r.Ok) (hk : c.keep.length ≤ 1000000) :
   To S16 Tryz.prog 19 (startOf Tryz.prog 19 [.ptr 0 0, .agg (crashF c)] (memF (rblk r) 0 .e) 3)
     (fun x H' _ => leA x (ivA (rarmD r c).2) ∧ endL (rblk (rarmD r c).1) 0 H') := by
 have hone : ∀ r, r < c.keep.length → (intsF c.keep r).all oneA = true := fun _ _ => rfl
 refine To.R (h := ?_)
 refine To.Bd (c.w < 1) (h := ?_) (g := ?_)
 · intro h1
   have hw : rarmD r c = (r, 2) := by unfold rarmD; rw [if_pos h1]
   refine To.R (h := ?_)
   refine To.E (AV.v (Value.int IntKind.i64 2)) (hq := ?_)
   rw [hw]
   refine ⟨(of_eqP (C := Same IntKind.i64 ∧ Same (2 : Int)) (by kernel_rfl) (by (and_intros <;> try exact cl))), (endL_cons (B0 := AB.mem 45 none [AV.ow 1 r.stays.length, AV.ow 2 r.cache.length, AV.sy (Value.int IntKind.i64 r.c.w), AV.im 1 r.c.keep.length (intsF r.c.keep), AV.sy (Value.int IntKind.i64 r.c.torn), AV.sy (Value.int IntKind.i64 r.c.at_), AV.sy (Value.int IntKind.i64 r.many), AV.sy (Value.bool r.down)]) (by kernel_rfl) (of_eqP (C := 45 = 45 ∧ (none : Option Nat) = none ∧ (Same 1 ∧ Same r.stays.length) ∧ (Same 2 ∧ Same r.cache.length) ∧ (Same IntKind.i64 ∧ Same r.c.w) ∧ (Same 1 ∧ Same r.c.keep.length ∧ (∀ (r_1 : Nat), r_1 < r.c.keep.length → intsF r.c.keep r_1 = intsF r.c.keep r_1)) ∧ (Same IntKind.i64 ∧ Same r.c.torn) ∧ (Same IntKind.i64 ∧ Same r.c.at_) ∧ (Same IntKind.i64 ∧ Same r.many) ∧ Same r.down ∧ True) (by kernel_rfl) (by (and_intros <;> try exact cl))) (endL_cons (B0 := AB.rw 36 1 r.stays.length (bysF r.stays)) (by kernel_rfl) (of_eqP (C := 36 = 36 ∧ Same 1 ∧ Same r.stays.length ∧ (∀ (r_1 : Nat), r_1 < r.stays.length → bysF r.stays r_1 = bysF r.stays r_1)) (by kernel_rfl) (by (and_intros <;> try exact cl))) (endL_cons (B0 := AB.rw 36 1 r.cache.length (bysF r.cache)) (by kernel_rfl) (of_eqP (C := 36 = 36 ∧ Same 1 ∧ Same r.cache.length ∧ (∀ (r_1 : Nat), r_1 < r.cache.length → bysF r.cache r_1 = bysF r.cache r_1)) (by kernel_rfl) (by (and_intros <;> try exact cl))) endL_nil)))⟩
 · intro h1
   have hw : rarmD r c = ({ r with c := c }, 0) := by unfold rarmD; rw [if_neg h1]
   refine To.R (C := True ∧ c.keep.length ≤ 1073741824 ∧ (∀ (r : Nat), r < c.keep.length → (intsF c.keep r).all oneA = true)) (h := ?_)
   refine To.frz 4 false [4] (by kernel_rfl) (C := c.keep.length ≤ c.keep.length) (by kernel_rfl) cl ?_
   refine To.E (AV.v (Value.int IntKind.i64 0)) (hq := ?_)
   rw [hw]
   refine ⟨(of_eqP (C := Same IntKind.i64 ∧ Same (0 : Int)) (by kernel_rfl) (by (and_intros <;> try exact cl))), (endL_cons (B0 := AB.mem 45 none [AV.ow 1 r.stays.length, AV.ow 2 r.cache.length, AV.sy (Value.int IntKind.i64 c.w), AV.im 1 c.keep.length (intsF c.keep), AV.sy (Value.int IntKind.i64 c.torn), AV.sy (Value.int IntKind.i64 c.at_), AV.sy (Value.int IntKind.i64 r.many), AV.sy (Value.bool r.down)]) (by kernel_rfl) (of_eqP (C := 45 = 45 ∧ (none : Option Nat) = none ∧ (Same 1 ∧ Same r.stays.length) ∧ (Same 2 ∧ Same r.cache.length) ∧ (Same IntKind.i64 ∧ Same c.w) ∧ (Same 1 ∧ Same c.keep.length ∧ (∀ (r : Nat), r < c.keep.length → intsF c.keep r = intsF c.keep r)) ∧ (Same IntKind.i64 ∧ Same c.torn) ∧ (Same IntKind.i64 ∧ Same c.at_) ∧ (Same IntKind.i64 ∧ Same r.many) ∧ Same r.down ∧ True) (by kernel_rfl) (by (and_intros <;> try exact cl))) (endL_cons (B0 := AB.rw 36 1 r.stays.length (bysF r.stays)) (by kernel_rfl) (of_eqP (C := 36 = 36 ∧ Same 1 ∧ Same r.stays.length ∧ (∀ (r_1 : Nat), r_1 < r.stays.length → bysF r.stays r_1 = bysF r.stays r_1)) (by kernel_rfl) (by (and_intros <;> try exact cl))) (endL_cons (B0 := AB.rw 36 1 r.cache.length (bysF r.cache)) (by kernel_rfl) (of_eqP (C := 36 = 36 ∧ Same 1 ∧ Same r.cache.length ∧ (∀ (r_1 : Nat), r_1 < r.cache.length → bysF r.cache r_1 = bysF r.cache r_1)) (by kernel_rfl) (by (and_intros <;> try exact cl))) endL_nil)))⟩
set_option maxHeartbeats 4000000 in
set_option maxRecDepth 100000 in
theorem rdown_to (hok : S16.Ok Tryz.prog) (r : RD) (c : CrashD) (hr : r.Ok) (hk : c.keep.length ≤ 1000000) :
   To S16 Tryz.prog 17 (startOf Tryz.prog 17 [.ptr 0 0, .agg (crashF c)] (memF (rblk r) 0 .e) 3)
     (fun x H' _ => leA x (ivA (rdownD r c).2) ∧ endL (rblk (rdownD r c).1) 0 H') := by
 have e1 := recs_bys r.stays
 have e2 := recs_bys r.cache
 have e3 := numsF_ints r.c.keep
 have e4 := numsF_ints c.keep
 refine To.R (h := ?_)
 refine To.bool2 8 (r.down) (by kernel_rfl) (by kernel_rfl) ?_ ?_
 · intro h1
   have hw : rdownD r c = (r, 31) := by unfold rdownD; rw [if_pos h1]
   refine To.R (h := ?_)
   refine To.E (AV.v (Value.int IntKind.i64 31)) (hq := ?_)
   rw [hw]
   refine ⟨(of_eqP (C := Same IntKind.i64 ∧ Same (31 : Int)) (by kernel_rfl) (by (and_intros <;> try exact cl))), (endL_cons (B0 := AB.mem 45 none [AV.ow 1 r.stays.length, AV.ow 2 r.cache.length, AV.sy (Value.int IntKind.i64 r.c.w), AV.im 1 r.c.keep.length (intsF r.c.keep), AV.sy (Value.int IntKind.i64 r.c.torn), AV.sy (Value.int IntKind.i64 r.c.at_), AV.sy (Value.int IntKind.i64 r.many), AV.sy (Value.bool r.down)]) (by kernel_rfl) (of_eqP (C := 45 = 45 ∧ (none : Option Nat) = none ∧ (Same 1 ∧ Same r.stays.length) ∧ (Same 2 ∧ Same r.cache.length) ∧ (Same IntKind.i64 ∧ Same r.c.w) ∧ (Same 1 ∧ Same r.c.keep.length ∧ (∀ (r_1 : Nat), r_1 < r.c.keep.length → intsF r.c.keep r_1 = intsF r.c.keep r_1)) ∧ (Same IntKind.i64 ∧ Same r.c.torn) ∧ (Same IntKind.i64 ∧ Same r.c.at_) ∧ (Same IntKind.i64 ∧ Same r.many) ∧ Same r.down ∧ True) (by kernel_rfl) (by (and_intros <;> try exact cl))) (endL_cons (B0 := AB.rw 36 1 r.stays.length (bysF r.stays)) (by kernel_rfl) (of_eqP (C := 36 = 36 ∧ Same 1 ∧ Same r.stays.length ∧ (∀ (r_1 : Nat), r_1 < r.stays.length → bysF r.stays r_1 = bysF r.stays r_1)) (by kernel_rfl) (by (and_intros <;> try exact cl))) (endL_cons (B0 := AB.rw 36 1 r.cache.length (bysF r.cache)) (by kernel_rfl) (of_eqP (C := 36 = 36 ∧ Same 1 ∧ Same r.cache.length ∧ (∀ (r_1 : Nat), r_1 < r.cache.length → bysF r.cache r_1 = bysF r.cache r_1)) (by kernel_rfl) (by (and_intros <;> try exact cl))) endL_nil)))⟩
 · intro h1
   have hX : (⟨recsF r.stays.length (bysF r.stays), recsF r.cache.length (bysF r.cache), ⟨r.c.w, numsF r.c.keep.length (intsF r.c.keep), r.c.torn, r.c.at_⟩, r.many, r.down⟩ : RD) = r := by
     rw [e1, e2, e3]
   have hY : (⟨c.w, numsF c.keep.length (intsF c.keep), c.torn, c.at_⟩ : CrashD) = c := by
     rw [e4]
   have hw : rdownD r c = (rfallD ⟨recsF r.stays.length (bysF r.stays), recsF r.cache.length (bysF r.cache), ⟨r.c.w, numsF r.c.keep.length (intsF r.c.keep), r.c.torn, r.c.at_⟩, r.many, r.down⟩ ⟨c.w, numsF c.keep.length (intsF c.keep), c.torn, c.at_⟩, 0) := by
     rw [hX, hY]
     unfold rdownD; rw [if_neg (by simp [h1])]
   refine To.R (C := (Same r.stays.length ∧ Same r.cache.length ∧ (∀ (r_1 : Nat), r_1 < r.stays.length → bysF r.stays r_1 = bysF (recsF r.stays.length (bysF r.stays)) r_1) ∧ (∀ (r_1 : Nat), r_1 < r.cache.length → bysF r.cache r_1 = bysF (recsF r.cache.length (bysF r.cache)) r_1) ∧ (∀ (r_1 : Nat), r_1 < r.c.keep.length → intsF r.c.keep r_1 = intsF (numsF r.c.keep.length (intsF r.c.keep)) r_1)) ∧ (RD.mk (recsF r.stays.length (bysF r.stays)) (recsF r.cache.length (bysF r.cache)) (CrashD.mk r.c.w (numsF r.c.keep.length (intsF r.c.keep)) r.c.torn r.c.at_) r.many r.down).Ok ∧ (∀ (r : Nat), r < c.keep.length → intsF c.keep r = intsF (numsF c.keep.length (intsF c.keep)) r) ∧ (numsF c.keep.length (intsF c.keep)).length ≤ 1000000) (hc := ?_) (h := ?_); (and_intros <;> try exact cl)
   · rw [e1]; exact fun _ _ => rfl
   · rw [e2]; exact fun _ _ => rfl
   · rw [e3]; exact fun _ _ => rfl
   · rw [hX]; exact hr
   · rw [e4]; exact fun _ _ => rfl
   · rw [e4]; exact hk
   refine To.R (h := ?_)
   refine To.E (AV.v (Value.int IntKind.i64 0)) (hq := ?_)
   rw [hw]
   refine ⟨(of_eqP (C := Same IntKind.i64 ∧ Same (0 : Int)) (by kernel_rfl) (by (and_intros <;> try exact cl))), (endL_cons (B0 := AB.mem 45 none [AV.ow 1 (rfallD (RD.mk (recsF r.stays.length (bysF r.stays)) (recsF r.cache.length (bysF r.cache)) (CrashD.mk r.c.w (numsF r.c.keep.length (intsF r.c.keep)) r.c.torn r.c.at_) r.many r.down) (CrashD.mk c.w (numsF c.keep.length (intsF c.keep)) c.torn c.at_)).stays.length, AV.ow 2 (rfallD (RD.mk (recsF r.stays.length (bysF r.stays)) (recsF r.cache.length (bysF r.cache)) (CrashD.mk r.c.w (numsF r.c.keep.length (intsF r.c.keep)) r.c.torn r.c.at_) r.many r.down) (CrashD.mk c.w (numsF c.keep.length (intsF c.keep)) c.torn c.at_)).cache.length, AV.sy (Value.int IntKind.i64 (rfallD (RD.mk (recsF r.stays.length (bysF r.stays)) (recsF r.cache.length (bysF r.cache)) (CrashD.mk r.c.w (numsF r.c.keep.length (intsF r.c.keep)) r.c.torn r.c.at_) r.many r.down) (CrashD.mk c.w (numsF c.keep.length (intsF c.keep)) c.torn c.at_)).c.w), AV.im 1 0 (intsF (rfallD (RD.mk (recsF r.stays.length (bysF r.stays)) (recsF r.cache.length (bysF r.cache)) (CrashD.mk r.c.w (numsF r.c.keep.length (intsF r.c.keep)) r.c.torn r.c.at_) r.many r.down) (CrashD.mk c.w (numsF c.keep.length (intsF c.keep)) c.torn c.at_)).c.keep), AV.sy (Value.int IntKind.i64 (rfallD (RD.mk (recsF r.stays.length (bysF r.stays)) (recsF r.cache.length (bysF r.cache)) (CrashD.mk r.c.w (numsF r.c.keep.length (intsF r.c.keep)) r.c.torn r.c.at_) r.many r.down) (CrashD.mk c.w (numsF c.keep.length (intsF c.keep)) c.torn c.at_)).c.torn), AV.sy (Value.int IntKind.i64 (rfallD (RD.mk (recsF r.stays.length (bysF r.stays)) (recsF r.cache.length (bysF r.cache)) (CrashD.mk r.c.w (numsF r.c.keep.length (intsF r.c.keep)) r.c.torn r.c.at_) r.many r.down) (CrashD.mk c.w (numsF c.keep.length (intsF c.keep)) c.torn c.at_)).c.at_), AV.sy (Value.int IntKind.i64 (rfallD (RD.mk (recsF r.stays.length (bysF r.stays)) (recsF r.cache.length (bysF r.cache)) (CrashD.mk r.c.w (numsF r.c.keep.length (intsF r.c.keep)) r.c.torn r.c.at_) r.many r.down) (CrashD.mk c.w (numsF c.keep.length (intsF c.keep)) c.torn c.at_)).many), AV.sy (Value.bool (rfallD (RD.mk (recsF r.stays.length (bysF r.stays)) (recsF r.cache.length (bysF r.cache)) (CrashD.mk r.c.w (numsF r.c.keep.length (intsF r.c.keep)) r.c.torn r.c.at_) r.many r.down) (CrashD.mk c.w (numsF c.keep.length (intsF c.keep)) c.torn c.at_)).down)]) (by kernel_rfl) (of_eqP (C := 45 = 45 ∧ (none : Option Nat) = none ∧ (Same 1 ∧ Same (rfallD (RD.mk (recsF r.stays.length (bysF r.stays)) (recsF r.cache.length (bysF r.cache)) (CrashD.mk r.c.w (numsF r.c.keep.length (intsF r.c.keep)) r.c.torn r.c.at_) r.many r.down) (CrashD.mk c.w (numsF c.keep.length (intsF c.keep)) c.torn c.at_)).stays.length) ∧ (Same 2 ∧ Same (rfallD (RD.mk (recsF r.stays.length (bysF r.stays)) (recsF r.cache.length (bysF r.cache)) (CrashD.mk r.c.w (numsF r.c.keep.length (intsF r.c.keep)) r.c.torn r.c.at_) r.many r.down) (CrashD.mk c.w (numsF c.keep.length (intsF c.keep)) c.torn c.at_)).cache.length) ∧ (Same IntKind.i64 ∧ Same (rfallD (RD.mk (recsF r.stays.length (bysF r.stays)) (recsF r.cache.length (bysF r.cache)) (CrashD.mk r.c.w (numsF r.c.keep.length (intsF r.c.keep)) r.c.torn r.c.at_) r.many r.down) (CrashD.mk c.w (numsF c.keep.length (intsF c.keep)) c.torn c.at_)).c.w) ∧ (Same 1 ∧ Same 0 ∧ (∀ (r_1 : Nat), r_1 < 0 → intsF (rfallD (RD.mk (recsF r.stays.length (bysF r.stays)) (recsF r.cache.length (bysF r.cache)) (CrashD.mk r.c.w (numsF r.c.keep.length (intsF r.c.keep)) r.c.torn r.c.at_) r.many r.down) (CrashD.mk c.w (numsF c.keep.length (intsF c.keep)) c.torn c.at_)).c.keep r_1 = intsF (rfallD (RD.mk (recsF r.stays.length (bysF r.stays)) (recsF r.cache.length (bysF r.cache)) (CrashD.mk r.c.w (numsF r.c.keep.length (intsF r.c.keep)) r.c.torn r.c.at_) r.many r.down) (CrashD.mk c.w (numsF c.keep.length (intsF c.keep)) c.torn c.at_)).c.keep r_1)) ∧ (Same IntKind.i64 ∧ Same (rfallD (RD.mk (recsF r.stays.length (bysF r.stays)) (recsF r.cache.length (bysF r.cache)) (CrashD.mk r.c.w (numsF r.c.keep.length (intsF r.c.keep)) r.c.torn r.c.at_) r.many r.down) (CrashD.mk c.w (numsF c.keep.length (intsF c.keep)) c.torn c.at_)).c.torn) ∧ (Same IntKind.i64 ∧ Same (rfallD (RD.mk (recsF r.stays.length (bysF r.stays)) (recsF r.cache.length (bysF r.cache)) (CrashD.mk r.c.w (numsF r.c.keep.length (intsF r.c.keep)) r.c.torn r.c.at_) r.many r.down) (CrashD.mk c.w (numsF c.keep.length (intsF c.keep)) c.torn c.at_)).c.at_) ∧ (Same IntKind.i64 ∧ Same (rfallD (RD.mk (recsF r.stays.length (bysF r.stays)) (recsF r.cache.length (bysF r.cache)) (CrashD.mk r.c.w (numsF r.c.keep.length (intsF r.c.keep)) r.c.torn r.c.at_) r.many r.down) (CrashD.mk c.w (numsF c.keep.length (intsF c.keep)) c.torn c.at_)).many) ∧ Same (rfallD (RD.mk (recsF r.stays.length (bysF r.stays)) (recsF r.cache.length (bysF r.cache)) (CrashD.mk r.c.w (numsF r.c.keep.length (intsF r.c.keep)) r.c.torn r.c.at_) r.many r.down) (CrashD.mk c.w (numsF c.keep.length (intsF c.keep)) c.torn c.at_)).down ∧ True) (by kernel_rfl) (by (and_intros <;> try exact cl))) (endL_cons (B0 := AB.rw 36 1 (rfallD (RD.mk (recsF r.stays.length (bysF r.stays)) (recsF r.cache.length (bysF r.cache)) (CrashD.mk r.c.w (numsF r.c.keep.length (intsF r.c.keep)) r.c.torn r.c.at_) r.many r.down) (CrashD.mk c.w (numsF c.keep.length (intsF c.keep)) c.torn c.at_)).stays.length (bysF (rfallD (RD.mk (recsF r.stays.length (bysF r.stays)) (recsF r.cache.length (bysF r.cache)) (CrashD.mk r.c.w (numsF r.c.keep.length (intsF r.c.keep)) r.c.torn r.c.at_) r.many r.down) (CrashD.mk c.w (numsF c.keep.length (intsF c.keep)) c.torn c.at_)).stays)) (by kernel_rfl) (of_eqP (C := 36 = 36 ∧ Same 1 ∧ Same (rfallD (RD.mk (recsF r.stays.length (bysF r.stays)) (recsF r.cache.length (bysF r.cache)) (CrashD.mk r.c.w (numsF r.c.keep.length (intsF r.c.keep)) r.c.torn r.c.at_) r.many r.down) (CrashD.mk c.w (numsF c.keep.length (intsF c.keep)) c.torn c.at_)).stays.length ∧ (∀ (r_1 : Nat), r_1 < (rfallD (RD.mk (recsF r.stays.length (bysF r.stays)) (recsF r.cache.length (bysF r.cache)) (CrashD.mk r.c.w (numsF r.c.keep.length (intsF r.c.keep)) r.c.torn r.c.at_) r.many r.down) (CrashD.mk c.w (numsF c.keep.length (intsF c.keep)) c.torn c.at_)).stays.length → bysF (rfallD (RD.mk (recsF r.stays.length (bysF r.stays)) (recsF r.cache.length (bysF r.cache)) (CrashD.mk r.c.w (numsF r.c.keep.length (intsF r.c.keep)) r.c.torn r.c.at_) r.many r.down) (CrashD.mk c.w (numsF c.keep.length (intsF c.keep)) c.torn c.at_)).stays r_1 = bysF (rfallD (RD.mk (recsF r.stays.length (bysF r.stays)) (recsF r.cache.length (bysF r.cache)) (CrashD.mk r.c.w (numsF r.c.keep.length (intsF r.c.keep)) r.c.torn r.c.at_) r.many r.down) (CrashD.mk c.w (numsF c.keep.length (intsF c.keep)) c.torn c.at_)).stays r_1)) (by kernel_rfl) (by (and_intros <;> try exact cl))) (endL_cons (B0 := AB.rw 36 1 (rfallD (RD.mk (recsF r.stays.length (bysF r.stays)) (recsF r.cache.length (bysF r.cache)) (CrashD.mk r.c.w (numsF r.c.keep.length (intsF r.c.keep)) r.c.torn r.c.at_) r.many r.down) (CrashD.mk c.w (numsF c.keep.length (intsF c.keep)) c.torn c.at_)).cache.length (bysF (rfallD (RD.mk (recsF r.stays.length (bysF r.stays)) (recsF r.cache.length (bysF r.cache)) (CrashD.mk r.c.w (numsF r.c.keep.length (intsF r.c.keep)) r.c.torn r.c.at_) r.many r.down) (CrashD.mk c.w (numsF c.keep.length (intsF c.keep)) c.torn c.at_)).cache)) (by kernel_rfl) (of_eqP (C := 36 = 36 ∧ Same 1 ∧ Same (rfallD (RD.mk (recsF r.stays.length (bysF r.stays)) (recsF r.cache.length (bysF r.cache)) (CrashD.mk r.c.w (numsF r.c.keep.length (intsF r.c.keep)) r.c.torn r.c.at_) r.many r.down) (CrashD.mk c.w (numsF c.keep.length (intsF c.keep)) c.torn c.at_)).cache.length ∧ (∀ (r_1 : Nat), r_1 < (rfallD (RD.mk (recsF r.stays.length (bysF r.stays)) (recsF r.cache.length (bysF r.cache)) (CrashD.mk r.c.w (numsF r.c.keep.length (intsF r.c.keep)) r.c.torn r.c.at_) r.many r.down) (CrashD.mk c.w (numsF c.keep.length (intsF c.keep)) c.torn c.at_)).cache.length → bysF (rfallD (RD.mk (recsF r.stays.length (bysF r.stays)) (recsF r.cache.length (bysF r.cache)) (CrashD.mk r.c.w (numsF r.c.keep.length (intsF r.c.keep)) r.c.torn r.c.at_) r.many r.down) (CrashD.mk c.w (numsF c.keep.length (intsF c.keep)) c.torn c.at_)).cache r_1 = bysF (rfallD (RD.mk (recsF r.stays.length (bysF r.stays)) (recsF r.cache.length (bysF r.cache)) (CrashD.mk r.c.w (numsF r.c.keep.length (intsF r.c.keep)) r.c.torn r.c.at_) r.many r.down) (CrashD.mk c.w (numsF c.keep.length (intsF c.keep)) c.torn c.at_)).cache r_1)) (by kernel_rfl) (by (and_intros <;> try exact cl))) endL_nil)))⟩
set_option maxHeartbeats 4000000 in
set_option maxRecDepth 100000 in
theorem rspoil_to (hok : S16.Ok Tryz.prog) (r : RD) (z : Int) (b : List UInt8) (hr : r.Ok) (hb : b.length ≤ 1000000) :
   To S16 Tryz.prog 22 (startOf Tryz.prog 22 [.ptr 0 0, ivA z, .by8 b] (memF (rblk r) 0 .e) 3)
     (fun x H' _ => leA x (ivA (rspoilD r z b).2) ∧ endL (rblk (rspoilD r z b).1) 0 H') := by
 have hle := hr.le
 refine To.R (h := ?_)
 refine To.Bd (0 ≤ z) (h := ?_) (g := ?_)
 · intro h2
   refine To.R (h := ?_)
   refine To.Bd (z < r.stays.length) (h := ?_) (g := ?_)
   · intro h3
     refine To.R (h := ?_)
     refine To.Bn (b.length = (128 : Int)) (h := ?_) (g := ?_)
     · intro h4
       have hw : rspoilD r z b = (r, 30) := by unfold rspoilD; rw [if_neg (by omega), if_neg (by omega), if_pos (by omega)]
       refine To.R (h := ?_)
       refine To.E (AV.v (Value.int IntKind.i64 30)) (hq := ?_)
       rw [hw]
       refine ⟨(of_eqP (C := Same IntKind.i64 ∧ Same (30 : Int)) (by kernel_rfl) (by (and_intros <;> try exact cl))), (endL_cons (B0 := AB.mem 45 none [AV.ow 1 r.stays.length, AV.ow 2 r.cache.length, AV.sy (Value.int IntKind.i64 r.c.w), AV.im 1 r.c.keep.length (intsF r.c.keep), AV.sy (Value.int IntKind.i64 r.c.torn), AV.sy (Value.int IntKind.i64 r.c.at_), AV.sy (Value.int IntKind.i64 r.many), AV.sy (Value.bool r.down)]) (by kernel_rfl) (of_eqP (C := 45 = 45 ∧ (none : Option Nat) = none ∧ (Same 1 ∧ Same r.stays.length) ∧ (Same 2 ∧ Same r.cache.length) ∧ (Same IntKind.i64 ∧ Same r.c.w) ∧ (Same 1 ∧ Same r.c.keep.length ∧ (∀ (r_1 : Nat), r_1 < r.c.keep.length → intsF r.c.keep r_1 = intsF r.c.keep r_1)) ∧ (Same IntKind.i64 ∧ Same r.c.torn) ∧ (Same IntKind.i64 ∧ Same r.c.at_) ∧ (Same IntKind.i64 ∧ Same r.many) ∧ Same r.down ∧ True) (by kernel_rfl) (by (and_intros <;> try exact cl))) (endL_cons (B0 := AB.rw 36 1 r.stays.length (bysF r.stays)) (by kernel_rfl) (of_eqP (C := 36 = 36 ∧ Same 1 ∧ Same r.stays.length ∧ (∀ (r_1 : Nat), r_1 < r.stays.length → bysF r.stays r_1 = bysF r.stays r_1)) (by kernel_rfl) (by (and_intros <;> try exact cl))) (endL_cons (B0 := AB.rw 36 1 r.cache.length (bysF r.cache)) (by kernel_rfl) (of_eqP (C := 36 = 36 ∧ Same 1 ∧ Same r.cache.length ∧ (∀ (r_1 : Nat), r_1 < r.cache.length → bysF r.cache r_1 = bysF r.cache r_1)) (by kernel_rfl) (by (and_intros <;> try exact cl))) endL_nil)))⟩
     · intro h4
       have hw : rspoilD r z b = ({ r with stays := r.stays.set z.toNat b }, 0) := by unfold rspoilD; rw [if_neg (by omega), if_neg (by omega), if_neg (by omega)]
       have hsl : (r.stays.set z.toNat b).length = r.stays.length := List.length_set ..
       refine To.R (C := (True ∧ b.length ≤ 1000000) ∧ Same (AV.ow 1 r.stays.length) ∧ (0 ≤ z ∧ z < r.stays.length) ∧ z.toNat < r.stays.length) (h := ?_)
       refine To.E (AV.v (Value.int IntKind.i64 0)) (hq := ?_)
       rw [hw]
       refine ⟨(of_eqP (C := Same IntKind.i64 ∧ Same (0 : Int)) (by kernel_rfl) (by (and_intros <;> try exact cl))), (endL_cons (B0 := AB.mem 45 none [AV.ow 1 r.stays.length, AV.ow 2 r.cache.length, AV.sy (Value.int IntKind.i64 r.c.w), AV.im 1 r.c.keep.length (intsF r.c.keep), AV.sy (Value.int IntKind.i64 r.c.torn), AV.sy (Value.int IntKind.i64 r.c.at_), AV.sy (Value.int IntKind.i64 r.many), AV.sy (Value.bool r.down)]) (by kernel_rfl) (of_eqP (C := 45 = 45 ∧ (none : Option Nat) = none ∧ (Same 1 ∧ r.stays.length = (r.stays.set z.toNat b).length) ∧ (Same 2 ∧ Same r.cache.length) ∧ (Same IntKind.i64 ∧ Same r.c.w) ∧ (Same 1 ∧ Same r.c.keep.length ∧ (∀ (r_1 : Nat), r_1 < r.c.keep.length → intsF r.c.keep r_1 = intsF r.c.keep r_1)) ∧ (Same IntKind.i64 ∧ Same r.c.torn) ∧ (Same IntKind.i64 ∧ Same r.c.at_) ∧ (Same IntKind.i64 ∧ Same r.many) ∧ Same r.down ∧ True) (by kernel_rfl) (by (and_intros <;> try exact cl))) (endL_cons (B0 := AB.rw 36 1 r.stays.length (rwSet (bysF r.stays) z.toNat 0 [AV.by8 b])) (by kernel_rfl) (of_eqP (C := 36 = 36 ∧ Same 1 ∧ r.stays.length = (r.stays.set z.toNat b).length ∧ (∀ (r_1 : Nat), r_1 < r.stays.length → rwSet (bysF r.stays) z.toNat 0 [AV.by8 b] r_1 = bysF (r.stays.set z.toNat b) r_1)) (by kernel_rfl) ?_) (endL_cons (B0 := AB.rw 36 1 r.cache.length (bysF r.cache)) (by kernel_rfl) (of_eqP (C := 36 = 36 ∧ Same 1 ∧ Same r.cache.length ∧ (∀ (r_1 : Nat), r_1 < r.cache.length → bysF r.cache r_1 = bysF r.cache r_1)) (by kernel_rfl) (by (and_intros <;> try exact cl))) endL_nil)))⟩
       all_goals first | exact ⟨rfl, rfl, ⟨rfl, hsl.symm⟩, ⟨rfl, rfl⟩, ⟨rfl, rfl⟩, ⟨rfl, rfl, fun _ _ => rfl⟩, ⟨rfl, rfl⟩, ⟨rfl, rfl⟩, ⟨rfl, rfl⟩, rfl, trivial⟩ | exact ⟨rfl, rfl, hsl.symm, fun q hq => bysF_set r.stays z.toNat b q hq⟩ | exact fun q hq => bysF_set r.stays z.toNat b q hq
   · intro h3
     have hw : rspoilD r z b = (r, 30) := by unfold rspoilD; rw [if_neg (by omega), if_pos (by omega)]
     refine To.R (h := ?_)
     refine To.E (AV.v (Value.int IntKind.i64 30)) (hq := ?_)
     rw [hw]
     refine ⟨(of_eqP (C := Same IntKind.i64 ∧ Same (30 : Int)) (by kernel_rfl) (by (and_intros <;> try exact cl))), (endL_cons (B0 := AB.mem 45 none [AV.ow 1 r.stays.length, AV.ow 2 r.cache.length, AV.sy (Value.int IntKind.i64 r.c.w), AV.im 1 r.c.keep.length (intsF r.c.keep), AV.sy (Value.int IntKind.i64 r.c.torn), AV.sy (Value.int IntKind.i64 r.c.at_), AV.sy (Value.int IntKind.i64 r.many), AV.sy (Value.bool r.down)]) (by kernel_rfl) (of_eqP (C := 45 = 45 ∧ (none : Option Nat) = none ∧ (Same 1 ∧ Same r.stays.length) ∧ (Same 2 ∧ Same r.cache.length) ∧ (Same IntKind.i64 ∧ Same r.c.w) ∧ (Same 1 ∧ Same r.c.keep.length ∧ (∀ (r_1 : Nat), r_1 < r.c.keep.length → intsF r.c.keep r_1 = intsF r.c.keep r_1)) ∧ (Same IntKind.i64 ∧ Same r.c.torn) ∧ (Same IntKind.i64 ∧ Same r.c.at_) ∧ (Same IntKind.i64 ∧ Same r.many) ∧ Same r.down ∧ True) (by kernel_rfl) (by (and_intros <;> try exact cl))) (endL_cons (B0 := AB.rw 36 1 r.stays.length (bysF r.stays)) (by kernel_rfl) (of_eqP (C := 36 = 36 ∧ Same 1 ∧ Same r.stays.length ∧ (∀ (r_1 : Nat), r_1 < r.stays.length → bysF r.stays r_1 = bysF r.stays r_1)) (by kernel_rfl) (by (and_intros <;> try exact cl))) (endL_cons (B0 := AB.rw 36 1 r.cache.length (bysF r.cache)) (by kernel_rfl) (of_eqP (C := 36 = 36 ∧ Same 1 ∧ Same r.cache.length ∧ (∀ (r_1 : Nat), r_1 < r.cache.length → bysF r.cache r_1 = bysF r.cache r_1)) (by kernel_rfl) (by (and_intros <;> try exact cl))) endL_nil)))⟩
 · intro h2
   have hw : rspoilD r z b = (r, 30) := by unfold rspoilD; rw [if_pos (by omega)]
   refine To.R (h := ?_)
   refine To.E (AV.v (Value.int IntKind.i64 30)) (hq := ?_)
   rw [hw]
   refine ⟨(of_eqP (C := Same IntKind.i64 ∧ Same (30 : Int)) (by kernel_rfl) (by (and_intros <;> try exact cl))), (endL_cons (B0 := AB.mem 45 none [AV.ow 1 r.stays.length, AV.ow 2 r.cache.length, AV.sy (Value.int IntKind.i64 r.c.w), AV.im 1 r.c.keep.length (intsF r.c.keep), AV.sy (Value.int IntKind.i64 r.c.torn), AV.sy (Value.int IntKind.i64 r.c.at_), AV.sy (Value.int IntKind.i64 r.many), AV.sy (Value.bool r.down)]) (by kernel_rfl) (of_eqP (C := 45 = 45 ∧ (none : Option Nat) = none ∧ (Same 1 ∧ Same r.stays.length) ∧ (Same 2 ∧ Same r.cache.length) ∧ (Same IntKind.i64 ∧ Same r.c.w) ∧ (Same 1 ∧ Same r.c.keep.length ∧ (∀ (r_1 : Nat), r_1 < r.c.keep.length → intsF r.c.keep r_1 = intsF r.c.keep r_1)) ∧ (Same IntKind.i64 ∧ Same r.c.torn) ∧ (Same IntKind.i64 ∧ Same r.c.at_) ∧ (Same IntKind.i64 ∧ Same r.many) ∧ Same r.down ∧ True) (by kernel_rfl) (by (and_intros <;> try exact cl))) (endL_cons (B0 := AB.rw 36 1 r.stays.length (bysF r.stays)) (by kernel_rfl) (of_eqP (C := 36 = 36 ∧ Same 1 ∧ Same r.stays.length ∧ (∀ (r_1 : Nat), r_1 < r.stays.length → bysF r.stays r_1 = bysF r.stays r_1)) (by kernel_rfl) (by (and_intros <;> try exact cl))) (endL_cons (B0 := AB.rw 36 1 r.cache.length (bysF r.cache)) (by kernel_rfl) (of_eqP (C := 36 = 36 ∧ Same 1 ∧ Same r.cache.length ∧ (∀ (r_1 : Nat), r_1 < r.cache.length → bysF r.cache r_1 = bysF r.cache r_1)) (by kernel_rfl) (by (and_intros <;> try exact cl))) endL_nil)))⟩
theorem push_rep {x : AV} {b : List UInt8} (h : leA x (.by8 b)) (t : Nat) : ∀ r, r < t + 1 → leL (rwPush (bysF (List.replicate t b)) t [x] r) (bysF (List.replicate (t + 1) b) r) ∧ bareL (bysF (List.replicate (t + 1) b) r) = true := fun r hr => by
 have e : bysF (List.replicate (t + 1) b) r = [.by8 b] := by
   rw [bysF_get, List.getD_eq_getElem?_getD, List.getElem?_replicate, if_pos hr]; rfl
 rw [e]
 refine ⟨?_, rfl⟩
 unfold rwPush
 by_cases q : r < t
 · have e : Nat.blt r t = true := by rw [Nat.blt_eq]; exact q
   rw [e, cond_true, bysF_get, List.getD_eq_getElem?_getD, List.getElem?_replicate, if_pos q]
   exact leL_refl _
 · have e : Nat.blt r t = false := by
     cases h : Nat.blt r t with
     | false => rfl
     | true => rw [Nat.blt_eq] at h; omega
   rw [e, cond_false]
   exact ⟨h, trivial⟩
set_option maxHeartbeats 4000000 in
set_option maxRecDepth 100000 in
theorem rnew_to (hok : S16.Ok Tryz.prog) (n : Int) (h1 : 1 ≤ n) (h2 : n ≤ 4096) :
   To S16 Tryz.prog 7 (startOf Tryz.prog 7 [ivA n] .e 0) (fun x H' _ => leA x (.tup [.ptr 0 0, ivA 0]) ∧ endL (rblk (rnewD n.toNat)) 0 H') := by
 refine To.R (h := ?_)
 refine To.Nd (n < 1) (h := ?_)
 refine To.R (h := ?_)
 refine To.Nd (4096 < n) (h := ?_)
 refine To.R (k := 17) (h := ?_)
 refine To.L (L := [LN.old 0, LN.new (AB.rw 36 1 0 (bysF (List.replicate 0 (List.replicate 128 0)))), LN.new (AB.rw 36 1 0 (bysF (List.replicate 0 [])))]) (kp := [5, 4, 0]) (C := (Same IntKind.i64 ∧ (0 : Int) = (↑(0 : Nat) : Int)) ∧ (45 = 45 ∧ (none : Option Nat) = none ∧ Same 0 ∧ Same 0 ∧ (Same IntKind.i64 ∧ Same (0 : Int)) ∧ Same 0 ∧ (Same IntKind.i64 ∧ Same (0 : Int)) ∧ (Same IntKind.i64 ∧ Same (0 : Int)) ∧ (Same IntKind.i64 ∧ Same (0 : Int)) ∧ Same false ∧ True) ∧ (36 = 36 ∧ Same 1 ∧ Same 0 ∧ (∀ (r : Nat), r < 0 → bysF (List.replicate 0 (List.replicate 128 0)) r = bysF (List.replicate 0 (List.replicate 128 0)) r)) ∧ 36 = 36 ∧ Same 1 ∧ Same 0 ∧ (∀ (r : Nat), r < 0 → bysF (List.replicate 0 []) r = bysF (List.replicate 0 []) r)) (st := fun (a : Nat) => (⟨(⟨7, 39, (slotT 39 [(0, AV.sy (Value.int IntKind.i64 n)), (4, AV.ptr 0 0), (5, AV.sy (Value.int IntKind.i64 a))]), ARg.no, [(AItem.code (subC (bodyC Tryz.prog 7) [1, 1, 1, 0, 1, 0, 0])), (AItem.inLoop (subC (bodyC Tryz.prog 7) [1, 1, 1, 0, 1, 0, 0])), (AItem.inBlock 0), (AItem.code (subC (bodyC Tryz.prog 7) [1, 1, 1, 1]))], [], false, none, 0⟩ : AFr), [], memF [AB.mem 45 none [AV.ow 1 a, AV.ow 2 a, AV.sy (Value.int IntKind.i64 0), AV.im 1 0 (intsF []), AV.sy (Value.int IntKind.i64 0), AV.sy (Value.int IntKind.i64 0), AV.sy (Value.int IntKind.i64 0), AV.sy (Value.bool false)], AB.rw 36 1 a (bysF (List.replicate a (List.replicate 128 0))), AB.rw 36 1 a (bysF (List.replicate a []))] 0 Tr.e, 3⟩ : ASt)) (h := ?_) (fun (a : Nat) => [(5, ivA (a : Int))]) (fun a => [(0, .mem 45 none [.ow 1 a, .ow 2 a, ivA 0, .im 1 0 (intsF []), ivA 0, ivA 0, ivA 0, .sy (.bool false)]), (1, .rw 36 1 a (bysF (List.replicate a (List.replicate 128 0)))), (2, .rw 36 1 a (bysF (List.replicate a [])))]) (fun a => (a : Int) ≤ n) (fun a => n.toNat - a) (0)
 intro t ha ih
 refine To.R (h := ?_)
 refine To.Bd (t < n) (h := ?_) (g := ?_)
 · intro h3
   have hi1 : ((t + 1 : Nat) : Int) ≤ n := by omega
   have hi2 : n.toNat - (t + 1) < n.toNat - t := by omega
   refine To.R (k := 38) (C := (((((0 : Int) ≤ 0 ∧ (0 : Int) < 256) ∧ ((0 : Int) ≤ 0 ∧ (0 : Int) < 256) ∧ ((0 : Int) ≤ 0 ∧ (0 : Int) < 256) ∧ ((0 : Int) ≤ 0 ∧ (0 : Int) < 256) ∧ ((0 : Int) ≤ 0 ∧ (0 : Int) < 256) ∧ ((0 : Int) ≤ 0 ∧ (0 : Int) < 256) ∧ ((0 : Int) ≤ 0 ∧ (0 : Int) < 256) ∧ ((0 : Int) ≤ 0 ∧ (0 : Int) < 256) ∧ ((0 : Int) ≤ 0 ∧ (0 : Int) < 256) ∧ ((0 : Int) ≤ 0 ∧ (0 : Int) < 256) ∧ ((0 : Int) ≤ 0 ∧ (0 : Int) < 256) ∧ ((0 : Int) ≤ 0 ∧ (0 : Int) < 256) ∧ ((0 : Int) ≤ 0 ∧ (0 : Int) < 256) ∧ ((0 : Int) ≤ 0 ∧ (0 : Int) < 256) ∧ ((0 : Int) ≤ 0 ∧ (0 : Int) < 256) ∧ ((0 : Int) ≤ 0 ∧ (0 : Int) < 256) ∧ ((0 : Int) ≤ 0 ∧ (0 : Int) < 256) ∧ ((0 : Int) ≤ 0 ∧ (0 : Int) < 256) ∧ ((0 : Int) ≤ 0 ∧ (0 : Int) < 256) ∧ ((0 : Int) ≤ 0 ∧ (0 : Int) < 256) ∧ ((0 : Int) ≤ 0 ∧ (0 : Int) < 256) ∧ ((0 : Int) ≤ 0 ∧ (0 : Int) < 256) ∧ ((0 : Int) ≤ 0 ∧ (0 : Int) < 256) ∧ ((0 : Int) ≤ 0 ∧ (0 : Int) < 256) ∧ ((0 : Int) ≤ 0 ∧ (0 : Int) < 256) ∧ ((0 : Int) ≤ 0 ∧ (0 : Int) < 256) ∧ ((0 : Int) ≤ 0 ∧ (0 : Int) < 256) ∧ ((0 : Int) ≤ 0 ∧ (0 : Int) < 256) ∧ ((0 : Int) ≤ 0 ∧ (0 : Int) < 256) ∧ ((0 : Int) ≤ 0 ∧ (0 : Int) < 256) ∧ ((0 : Int) ≤ 0 ∧ (0 : Int) < 256) ∧ ((0 : Int) ≤ 0 ∧ (0 : Int) < 256) ∧ ((0 : Int) ≤ 0 ∧ (0 : Int) < 256) ∧ ((0 : Int) ≤ 0 ∧ (0 : Int) < 256) ∧ ((0 : Int) ≤ 0 ∧ (0 : Int) < 256) ∧ ((0 : Int) ≤ 0 ∧ (0 : Int) < 256) ∧ ((0 : Int) ≤ 0 ∧ (0 : Int) < 256) ∧ ((0 : Int) ≤ 0 ∧ (0 : Int) < 256) ∧ ((0 : Int) ≤ 0 ∧ (0 : Int) < 256) ∧ ((0 : Int) ≤ 0 ∧ (0 : Int) < 256) ∧ ((0 : Int) ≤ 0 ∧ (0 : Int) < 256) ∧ ((0 : Int) ≤ 0 ∧ (0 : Int) < 256) ∧ ((0 : Int) ≤ 0 ∧ (0 : Int) < 256) ∧ ((0 : Int) ≤ 0 ∧ (0 : Int) < 256) ∧ ((0 : Int) ≤ 0 ∧ (0 : Int) < 256) ∧ ((0 : Int) ≤ 0 ∧ (0 : Int) < 256) ∧ ((0 : Int) ≤ 0 ∧ (0 : Int) < 256) ∧ ((0 : Int) ≤ 0 ∧ (0 : Int) < 256) ∧ ((0 : Int) ≤ 0 ∧ (0 : Int) < 256) ∧ ((0 : Int) ≤ 0 ∧ (0 : Int) < 256) ∧ ((0 : Int) ≤ 0 ∧ (0 : Int) < 256) ∧ ((0 : Int) ≤ 0 ∧ (0 : Int) < 256) ∧ ((0 : Int) ≤ 0 ∧ (0 : Int) < 256) ∧ ((0 : Int) ≤ 0 ∧ (0 : Int) < 256) ∧ ((0 : Int) ≤ 0 ∧ (0 : Int) < 256) ∧ ((0 : Int) ≤ 0 ∧ (0 : Int) < 256) ∧ ((0 : Int) ≤ 0 ∧ (0 : Int) < 256) ∧ ((0 : Int) ≤ 0 ∧ (0 : Int) < 256) ∧ ((0 : Int) ≤ 0 ∧ (0 : Int) < 256) ∧ ((0 : Int) ≤ 0 ∧ (0 : Int) < 256) ∧ ((0 : Int) ≤ 0 ∧ (0 : Int) < 256) ∧ ((0 : Int) ≤ 0 ∧ (0 : Int) < 256) ∧ ((0 : Int) ≤ 0 ∧ (0 : Int) < 256) ∧ ((0 : Int) ≤ 0 ∧ (0 : Int) < 256) ∧ ((0 : Int) ≤ 0 ∧ (0 : Int) < 256) ∧ ((0 : Int) ≤ 0 ∧ (0 : Int) < 256) ∧ ((0 : Int) ≤ 0 ∧ (0 : Int) < 256) ∧ ((0 : Int) ≤ 0 ∧ (0 : Int) < 256) ∧ ((0 : Int) ≤ 0 ∧ (0 : Int) < 256) ∧ ((0 : Int) ≤ 0 ∧ (0 : Int) < 256) ∧ ((0 : Int) ≤ 0 ∧ (0 : Int) < 256) ∧ ((0 : Int) ≤ 0 ∧ (0 : Int) < 256) ∧ ((0 : Int) ≤ 0 ∧ (0 : Int) < 256) ∧ ((0 : Int) ≤ 0 ∧ (0 : Int) < 256) ∧ ((0 : Int) ≤ 0 ∧ (0 : Int) < 256) ∧ ((0 : Int) ≤ 0 ∧ (0 : Int) < 256) ∧ ((0 : Int) ≤ 0 ∧ (0 : Int) < 256) ∧ ((0 : Int) ≤ 0 ∧ (0 : Int) < 256) ∧ ((0 : Int) ≤ 0 ∧ (0 : Int) < 256) ∧ ((0 : Int) ≤ 0 ∧ (0 : Int) < 256) ∧ ((0 : Int) ≤ 0 ∧ (0 : Int) < 256) ∧ ((0 : Int) ≤ 0 ∧ (0 : Int) < 256) ∧ ((0 : Int) ≤ 0 ∧ (0 : Int) < 256) ∧ ((0 : Int) ≤ 0 ∧ (0 : Int) < 256) ∧ ((0 : Int) ≤ 0 ∧ (0 : Int) < 256) ∧ ((0 : Int) ≤ 0 ∧ (0 : Int) < 256) ∧ ((0 : Int) ≤ 0 ∧ (0 : Int) < 256) ∧ ((0 : Int) ≤ 0 ∧ (0 : Int) < 256) ∧ ((0 : Int) ≤ 0 ∧ (0 : Int) < 256) ∧ ((0 : Int) ≤ 0 ∧ (0 : Int) < 256) ∧ ((0 : Int) ≤ 0 ∧ (0 : Int) < 256) ∧ ((0 : Int) ≤ 0 ∧ (0 : Int) < 256) ∧ ((0 : Int) ≤ 0 ∧ (0 : Int) < 256) ∧ ((0 : Int) ≤ 0 ∧ (0 : Int) < 256) ∧ ((0 : Int) ≤ 0 ∧ (0 : Int) < 256) ∧ ((0 : Int) ≤ 0 ∧ (0 : Int) < 256) ∧ ((0 : Int) ≤ 0 ∧ (0 : Int) < 256) ∧ ((0 : Int) ≤ 0 ∧ (0 : Int) < 256) ∧ ((0 : Int) ≤ 0 ∧ (0 : Int) < 256) ∧ ((0 : Int) ≤ 0 ∧ (0 : Int) < 256) ∧ ((0 : Int) ≤ 0 ∧ (0 : Int) < 256) ∧ ((0 : Int) ≤ 0 ∧ (0 : Int) < 256) ∧ ((0 : Int) ≤ 0 ∧ (0 : Int) < 256) ∧ ((0 : Int) ≤ 0 ∧ (0 : Int) < 256) ∧ ((0 : Int) ≤ 0 ∧ (0 : Int) < 256) ∧ ((0 : Int) ≤ 0 ∧ (0 : Int) < 256) ∧ ((0 : Int) ≤ 0 ∧ (0 : Int) < 256) ∧ ((0 : Int) ≤ 0 ∧ (0 : Int) < 256) ∧ ((0 : Int) ≤ 0 ∧ (0 : Int) < 256) ∧ ((0 : Int) ≤ 0 ∧ (0 : Int) < 256) ∧ ((0 : Int) ≤ 0 ∧ (0 : Int) < 256) ∧ ((0 : Int) ≤ 0 ∧ (0 : Int) < 256) ∧ ((0 : Int) ≤ 0 ∧ (0 : Int) < 256) ∧ ((0 : Int) ≤ 0 ∧ (0 : Int) < 256) ∧ ((0 : Int) ≤ 0 ∧ (0 : Int) < 256) ∧ ((0 : Int) ≤ 0 ∧ (0 : Int) < 256) ∧ ((0 : Int) ≤ 0 ∧ (0 : Int) < 256) ∧ ((0 : Int) ≤ 0 ∧ (0 : Int) < 256) ∧ ((0 : Int) ≤ 0 ∧ (0 : Int) < 256) ∧ ((0 : Int) ≤ 0 ∧ (0 : Int) < 256) ∧ ((0 : Int) ≤ 0 ∧ (0 : Int) < 256) ∧ ((0 : Int) ≤ 0 ∧ (0 : Int) < 256) ∧ ((0 : Int) ≤ 0 ∧ (0 : Int) < 256) ∧ ((0 : Int) ≤ 0 ∧ (0 : Int) < 256) ∧ ((0 : Int) ≤ 0 ∧ (0 : Int) < 256) ∧ ((0 : Int) ≤ 0 ∧ (0 : Int) < 256) ∧ ((0 : Int) ≤ 0 ∧ (0 : Int) < 256) ∧ ((0 : Int) ≤ 0 ∧ (0 : Int) < 256) ∧ True) ∧ True) ∧ Same t ∧ t ≤ 1073741824) ∧ (Same t ∧ t ≤ 1073741824) ∧ fits IntKind.i64 (t + 1)) (h := ?_)
   refine To.rows 7 (bysF (List.replicate (t + 1) [])) (by kernel_rfl) (C := (∀ (r : Nat), r < t + 1 → leL (rwPush (bysF (List.replicate t [])) t [AV.v (Value.slice none 0 0)] r) (bysF (List.replicate (t + 1) []) r) ∧ bareL (bysF (List.replicate (t + 1) []) r) = true)) (by kernel_rfl) ?_ ?_
   · exact push_rep (by unfold leA; rfl) t
   refine To.rows 5 (bysF (List.replicate (t + 1) (List.replicate 128 0))) (by kernel_rfl) (C := (∀ (r : Nat), r < t + 1 → leL (rwPush (bysF (List.replicate t (List.replicate 128 0))) t [AV.by8 (List.take 128 [UInt8.ofNat 0, UInt8.ofNat 0, UInt8.ofNat 0, UInt8.ofNat 0, UInt8.ofNat 0, UInt8.ofNat 0, UInt8.ofNat 0, UInt8.ofNat 0, UInt8.ofNat 0, UInt8.ofNat 0, UInt8.ofNat 0, UInt8.ofNat 0, UInt8.ofNat 0, UInt8.ofNat 0, UInt8.ofNat 0, UInt8.ofNat 0, UInt8.ofNat 0, UInt8.ofNat 0, UInt8.ofNat 0, UInt8.ofNat 0, UInt8.ofNat 0, UInt8.ofNat 0, UInt8.ofNat 0, UInt8.ofNat 0, UInt8.ofNat 0, UInt8.ofNat 0, UInt8.ofNat 0, UInt8.ofNat 0, UInt8.ofNat 0, UInt8.ofNat 0, UInt8.ofNat 0, UInt8.ofNat 0, UInt8.ofNat 0, UInt8.ofNat 0, UInt8.ofNat 0, UInt8.ofNat 0, UInt8.ofNat 0, UInt8.ofNat 0, UInt8.ofNat 0, UInt8.ofNat 0, UInt8.ofNat 0, UInt8.ofNat 0, UInt8.ofNat 0, UInt8.ofNat 0, UInt8.ofNat 0, UInt8.ofNat 0, UInt8.ofNat 0, UInt8.ofNat 0, UInt8.ofNat 0, UInt8.ofNat 0, UInt8.ofNat 0, UInt8.ofNat 0, UInt8.ofNat 0, UInt8.ofNat 0, UInt8.ofNat 0, UInt8.ofNat 0, UInt8.ofNat 0, UInt8.ofNat 0, UInt8.ofNat 0, UInt8.ofNat 0, UInt8.ofNat 0, UInt8.ofNat 0, UInt8.ofNat 0, UInt8.ofNat 0, UInt8.ofNat 0, UInt8.ofNat 0, UInt8.ofNat 0, UInt8.ofNat 0, UInt8.ofNat 0, UInt8.ofNat 0, UInt8.ofNat 0, UInt8.ofNat 0, UInt8.ofNat 0, UInt8.ofNat 0, UInt8.ofNat 0, UInt8.ofNat 0, UInt8.ofNat 0, UInt8.ofNat 0, UInt8.ofNat 0, UInt8.ofNat 0, UInt8.ofNat 0, UInt8.ofNat 0, UInt8.ofNat 0, UInt8.ofNat 0, UInt8.ofNat 0, UInt8.ofNat 0, UInt8.ofNat 0, UInt8.ofNat 0, UInt8.ofNat 0, UInt8.ofNat 0, UInt8.ofNat 0, UInt8.ofNat 0, UInt8.ofNat 0, UInt8.ofNat 0, UInt8.ofNat 0, UInt8.ofNat 0, UInt8.ofNat 0, UInt8.ofNat 0, UInt8.ofNat 0, UInt8.ofNat 0, UInt8.ofNat 0, UInt8.ofNat 0, UInt8.ofNat 0, UInt8.ofNat 0, UInt8.ofNat 0, UInt8.ofNat 0, UInt8.ofNat 0, UInt8.ofNat 0, UInt8.ofNat 0, UInt8.ofNat 0, UInt8.ofNat 0, UInt8.ofNat 0, UInt8.ofNat 0, UInt8.ofNat 0, UInt8.ofNat 0, UInt8.ofNat 0, UInt8.ofNat 0, UInt8.ofNat 0, UInt8.ofNat 0, UInt8.ofNat 0, UInt8.ofNat 0, UInt8.ofNat 0, UInt8.ofNat 0, UInt8.ofNat 0, UInt8.ofNat 0, UInt8.ofNat 0, UInt8.ofNat 0, UInt8.ofNat 0])] r) (bysF (List.replicate (t + 1) (List.replicate 128 0)) r) ∧ bareL (bysF (List.replicate (t + 1) (List.replicate 128 0)) r) = true)) (by kernel_rfl) ?_ ?_
   · exact push_rep (by unfold leA; rfl) t
   refine To.K (L := [LN.old 0, LN.old 5, LN.old 7]) (kp := [5, 4, 0]) (ov := [(5, AV.sy (Value.int IntKind.i64 (↑(t + 1) : Int)))]) (C := Same IntKind.i64 ∧ (↑t : Int) + 1 = (↑(t + 1) : Int)) (ih (t + 1) hi1 hi2)
 · intro h3
   have hnt : n.toNat = t := by omega
   refine To.R (h := ?_)
   refine To.E (AV.tup [AV.ptr 0 0, AV.v (Value.int IntKind.i64 0)]) (hq := ?_)
   rw [hnt]
   have e1 : (rnewD t).stays.length = t := by simp [rnewD]
   have e2 : (rnewD t).cache.length = t := by simp [rnewD]
   refine ⟨(of_eqP (C := Same (AV.ptr 0 0) ∧ (Same IntKind.i64 ∧ Same (0 : Int)) ∧ True) (by kernel_rfl) (by (and_intros <;> try exact cl))), (endL_cons (B0 := AB.mem 45 none [AV.ow 1 t, AV.ow 2 t, AV.sy (Value.int IntKind.i64 0), AV.im 1 0 (intsF []), AV.sy (Value.int IntKind.i64 0), AV.sy (Value.int IntKind.i64 0), AV.sy (Value.int IntKind.i64 0), AV.sy (Value.bool false)]) (by kernel_rfl) (of_eqP (C := 45 = 45 ∧ (none : Option Nat) = none ∧ (Same 1 ∧ t = (rnewD t).stays.length) ∧ (Same 2 ∧ t = (rnewD t).cache.length) ∧ (Same IntKind.i64 ∧ 0 = (rnewD t).c.w) ∧ (Same 1 ∧ Same 0 ∧ (∀ (r : Nat), r < 0 → intsF [] r = intsF (rnewD t).c.keep r)) ∧ (Same IntKind.i64 ∧ 0 = (rnewD t).c.torn) ∧ (Same IntKind.i64 ∧ 0 = (rnewD t).c.at_) ∧ (Same IntKind.i64 ∧ 0 = (rnewD t).many) ∧ false = (rnewD t).down ∧ True) (by kernel_rfl) ?_) (endL_cons (B0 := AB.rw 36 1 t (bysF (List.replicate t (List.replicate 128 0)))) (by kernel_rfl) (of_eqP (C := 36 = 36 ∧ Same 1 ∧ t = (rnewD t).stays.length ∧ (∀ (r : Nat), r < t → bysF (List.replicate t (List.replicate 128 0)) r = bysF (rnewD t).stays r)) (by kernel_rfl) ?_) (endL_cons (B0 := AB.rw 36 1 t (bysF (List.replicate t []))) (by kernel_rfl) (of_eqP (C := 36 = 36 ∧ Same 1 ∧ t = (rnewD t).cache.length ∧ (∀ (r : Nat), r < t → bysF (List.replicate t []) r = bysF (rnewD t).cache r)) (by kernel_rfl) ?_) endL_nil)))⟩
   · exact ⟨rfl, rfl, ⟨rfl, e1.symm⟩, ⟨rfl, e2.symm⟩, ⟨rfl, rfl⟩, ⟨rfl, rfl, fun _ _ => rfl⟩, ⟨rfl, rfl⟩, ⟨rfl, rfl⟩, ⟨rfl, rfl⟩, rfl, trivial⟩
   · exact ⟨rfl, rfl, e1.symm, fun _ _ => rfl⟩
   · exact ⟨rfl, rfl, e2.symm, fun _ _ => rfl⟩
set_option maxHeartbeats 4000000 in
set_option maxRecDepth 100000 in
theorem rnewE_to (hok : S16.Ok Tryz.prog) (n : Int) (h : ¬ (1 ≤ n ∧ n ≤ 4096)) :
   To S16 Tryz.prog 7 (startOf Tryz.prog 7 [ivA n] .e 0) (fun x H' _ => leA x (.tup [.v (.pointer none), .v (iv 30)])) := by
 refine To.R (h := ?_)
 refine To.Bd (n < 1) (h := ?_) (g := ?_)
 · intro h1
   refine To.R (h := ?_)
   refine To.E (AV.tup [AV.v (Value.pointer none), AV.v (Value.int IntKind.i64 30)]) (hq := ?_)
   refine (of_eqP (C := Same (AV.v (Value.pointer none)) ∧ Same (AV.v (Value.int IntKind.i64 30)) ∧ True) (by kernel_rfl) (by (and_intros <;> try exact cl)))
 · intro h1
   refine To.R (h := ?_)
   refine To.Yd (4096 < n) (h := ?_)
   refine To.R (h := ?_)
   refine To.E (AV.tup [AV.v (Value.pointer none), AV.v (Value.int IntKind.i64 30)]) (hq := ?_)
   refine (of_eqP (C := Same (AV.v (Value.pointer none)) ∧ Same (AV.v (Value.int IntKind.i64 30)) ∧ True) (by kernel_rfl) (by (and_intros <;> try exact cl)))
structure RW where
 n : Nat
 sf : Nat → List AV
 cf : Nat → List AV
 w : Int
 kn : Nat
 kf : Nat → List AV
 torn : Int
 at_ : Int
 many : Int
 down : Bool
def RW.toL (x : RW) : RD := ⟨recsF x.n x.sf, recsF x.n x.cf, ⟨x.w, numsF x.kn x.kf, x.torn, x.at_⟩, x.many, x.down⟩
def RD.raw (r : RD) : RW := ⟨r.stays.length, bysF r.stays, bysF r.cache, r.c.w, r.c.keep.length, intsF r.c.keep, r.c.torn, r.c.at_, r.many, r.down⟩
structure RW.Ok (x : RW) : Prop where
 ok : x.toL.Ok
 s : ∀ k, k < x.n → x.sf k = bysF (recsF x.n x.sf) k
 c : ∀ k, k < x.n → x.cf k = bysF (recsF x.n x.cf) k
 k : ∀ r, r < x.kn → x.kf r = intsF (numsF x.kn x.kf) r
theorem raw_toL {r : RD} (h : r.cache.length = r.stays.length) : r.raw.toL = r := by
 unfold RD.raw RW.toL
 simp only
 rw [recs_bys, numsF_ints, ← h, recs_bys]
theorem raw_ok {r : RD} (h : r.Ok) : r.raw.Ok := by
 refine ⟨by rw [raw_toL h.len]; exact h, fun k _ => ?_, fun k _ => ?_, fun k _ => ?_⟩
 · show bysF r.stays k = bysF (recsF r.stays.length (bysF r.stays)) k
   rw [recs_bys]
 · show bysF r.cache k = bysF (recsF r.stays.length (bysF r.cache)) k
   rw [← h.len, recs_bys]
 · show intsF r.c.keep k = intsF (numsF r.c.keep.length (intsF r.c.keep)) k
   rw [numsF_ints]
def rwB (x : RW) : List AB := [.mem 45 none [.ow 1 x.n, .ow 2 x.n, ivA x.w, .im 1 x.kn x.kf, ivA x.torn, ivA x.at_, ivA x.many, .sy (.bool x.down)], .rw 36 1 x.n x.sf, .rw 36 1 x.n x.cf]
theorem rwB_raw {r : RD} (h : r.cache.length = r.stays.length) : rwB r.raw = rblk r := by
 unfold rwB rblk RD.raw
 simp only
 rw [h]
def isrcR (x : AV) : Option (Nat × (Nat → List AV)) :=
 match x with
 | .v (.slice none 0 0) => some (0, fun _ => [])
 | .im 1 n f => some (n, f)
 | _ => none
theorem isrcR_le {x : AV} {r : Nat × (Nat → List AV)} (h : isrcR x = some r) (hk : ∀ q, q < r.1 → r.2 q = intsF (numsF r.1 r.2) q) (σ : Nat → Option Nat) : leA (renA σ x) (.im 1 (numsF r.1 r.2).length (intsF (numsF r.1 r.2))) := by
 unfold isrcR at h
 split at h
 · cases h; simp only [renA]; unfold leA; rfl
 · cases h; simp only [renA]; unfold leA; exact ⟨rfl, (numsF_len _ _).symm, hk⟩
 · cases h
def rOfW (H : Tr AB) (i : Nat) : Option (RW × (Nat × Nat) × Prop) :=
 match H.get i with
 | some (.mem T none [.ow p N, .ow q M, cw, kp, ct, ca, mn, dn]) => match H.get p, H.get q with
   | some (.rw T1 w1 N' f), some (.rw T2 w2 M' g) => match intA cw, isrcR kp, intA ct, intA ca, intA mn, boolA dn with
     | some (.i64, w), some ks, some (.i64, t), some (.i64, a), some (.i64, m), some b =>
       cond (Nat.beq T 45 && Nat.beq T1 36 && Nat.beq T2 36 && Nat.beq w1 1 && Nat.beq w2 1 && !(Nat.beq i p) && !(Nat.beq i q) && !(Nat.beq p q))
         (some (⟨N, f, g, w, ks.1, ks.2, t, a, m, b⟩, (p, q), N' = N ∧ M' = N ∧ M = N)) none
     | _, _, _, _, _, _ => none
   | _, _ => none
 | _ => none
theorem rOfW_seen {H : Tr AB} {i p q : Nat} {x : RW} {C : Prop} (h : rOfW H i = some (x, (p, q), C)) (hC : C) (hx : x.Ok) : (i ≠ p ∧ i ≠ q ∧ p ≠ q) ∧ seenL H (inS [i, p, q]) [i, p, q] (rblk x.toL) ∧ (∀ (T : TypeId) (l : List AV), H.get p ≠ some (.mem T none l)) ∧ (∀ (T : TypeId) (l : List AV), H.get q ≠ some (.mem T none l)) := by
 unfold rOfW at h
 split at h
 · rename_i T p' N q' M cw kp ct ca mn dn h0
   split at h
   · rename_i T1 w1 N' f T2 w2 M' g h1 h2
     split at h
     · rename_i w ks t a m b hw hk ht ha hm hd
       cases hb : (Nat.beq T 45 && Nat.beq T1 36 && Nat.beq T2 36 && Nat.beq w1 1 && Nat.beq w2 1 && !(Nat.beq i p') && !(Nat.beq i q') && !(Nat.beq p' q')) with
       | false => rw [hb] at h; cases h
       | true =>
         rw [hb] at h
         cases h
         simp only [Bool.and_eq_true, Bool.not_eq_true', beq_dec, decide_eq_true_eq, decide_eq_false_iff_not] at hb
         obtain ⟨⟨⟨⟨⟨⟨⟨rfl, rfl⟩, rfl⟩, rfl⟩, rfl⟩, n1⟩, n2⟩, n3⟩ := hb
         obtain ⟨rfl, rfl, rfl⟩ := hC
         refine ⟨⟨n1, n2, n3⟩, ⟨⟨_, h0, rfl, rfl, rfl, ?_⟩, ⟨_, h1, rfl, rfl, rfl, (recsF_len _ _).symm, hx.s⟩, ⟨_, h2, rfl, rfl, rfl, (recsF_len _ _).symm, hx.c⟩, trivial⟩, ⟨fun T l e => ?_, fun T l e => ?_⟩⟩
         · simp only [renL, renA, inR2 n1, inR3 n2 n3]
           exact ⟨⟨rfl, (recsF_len _ _).symm⟩, ⟨rfl, (recsF_len _ _).symm⟩, intA_leS hw _, isrcR_le hk hx.k _, intA_leS ht _, intA_leS ha _, intA_leS hm _, boolA_leS hd _, trivial⟩
         · rw [h1] at e; cases e
         · rw [h2] at e; cases e
     · cases h
   · cases h
 · cases h
abbrev WFn := RW → List AV → Option ((List AV × AV × RW) × Prop)
def wK (f : WFn) (args : List AV) (H : Tr AB) : Option Ex := match args with
 | .ptr i 0 :: rest => match rOfW H i with
   | some (x, (p, q), C) => match f x rest with
     | some ((ys, v, x'), C') => some { μ := [i, p, q], args := .ptr 0 0 :: ys, L := rblk x.toL, res := v, L' := rwB x', E := [], C := C ∧ x.Ok ∧ C' }
     | none => none
   | none => none
 | _ => none
theorem wX_ok {S : Sy} (hok : S.Ok Tryz.prog) {F : FuncId} {fn : Func} (hF : Tryz.prog.funcs[F]? = some fn) (hb : fn.body.isSome = true) {f : WFn}
   (h : ∀ {x rest ys v x' C}, f x rest = some ((ys, v, x'), C) → x.Ok → C → (∀ σ, leL (renL σ rest) ys) ∧ (startF (tabOf Tryz.prog) F (.ptr 0 0 :: ys) (memF (rblk x.toL) 0 .e) 3).isSome = true ∧ To S Tryz.prog F (startOf Tryz.prog F (.ptr 0 0 :: ys) (memF (rblk x.toL) 0 .e) 3) (fun y H' _ => leA y v ∧ endL (rwB x') 0 H')) :
   FOk Tryz.prog (oneX F (wK f)) := oneX_ok hok tab hF hb fun {args H n e} hk hC => by
 unfold wK at hk
 split at hk
 · rename_i i rest
   split at hk
   · rename_i x p q C hr
     split at hk
     · rename_i ys v x' C' hf
       cases hk
       obtain ⟨c1, c2, c3⟩ : C ∧ x.Ok ∧ C' := hC
       obtain ⟨⟨n1, n2, n3⟩, hs, hp, hq⟩ := rOfW_seen hr c1 c2
       obtain ⟨g0, g1, g2⟩ := h hf c2 c3
       refine ⟨by simp [n1, n2, n3], hs, rfl, ?_, ⟨by simp, by simp⟩, ?_, g1, To.mono g2 fun y H' n' hq => ⟨hq.1, hq.2, trivial⟩⟩
       · simp only [renL, renA, inR1]
         exact ⟨leA_refl _, g0 _⟩
       · intro w0 ρ w vs hr0 hv j hj
         simp at hj
         rcases hj with rfl | rfl | rfl
         · exact .inl (VRs.bind hv (j, True) (by simp [bindL, bindA]) trivial)
         · exact .inr hp
         · exact .inr hq
     · cases hk
   · cases hk
 · cases hk
theorem isrcR_le2 {x : AV} {r : Nat × (Nat → List AV)} (h : isrcR x = some r) (σ : Nat → Option Nat) : leA (renA σ x) (.im 1 r.1 r.2) := by
 unfold isrcR at h
 split at h
 · cases h; simp only [renA]; unfold leA; rfl
 · cases h; simp only [renA]; exact leA_refl _
 · cases h
theorem rOfW_seen2 {H : Tr AB} {i p q : Nat} {x : RW} {C : Prop} (h : rOfW H i = some (x, (p, q), C)) (hC : C) : (i ≠ p ∧ i ≠ q ∧ p ≠ q) ∧ seenL H (inS [i, p, q]) [i, p, q] (rwB x) ∧ (∀ (T : TypeId) (l : List AV), H.get p ≠ some (.mem T none l)) ∧ (∀ (T : TypeId) (l : List AV), H.get q ≠ some (.mem T none l)) := by
 unfold rOfW at h
 split at h
 · rename_i T p' N q' M cw kp ct ca mn dn h0
   split at h
   · rename_i T1 w1 N' f T2 w2 M' g h1 h2
     split at h
     · rename_i w ks t a m b hw hk ht ha hm hd
       cases hb : (Nat.beq T 45 && Nat.beq T1 36 && Nat.beq T2 36 && Nat.beq w1 1 && Nat.beq w2 1 && !(Nat.beq i p') && !(Nat.beq i q') && !(Nat.beq p' q')) with
       | false => rw [hb] at h; cases h
       | true =>
         rw [hb] at h
         cases h
         simp only [Bool.and_eq_true, Bool.not_eq_true', beq_dec, decide_eq_true_eq, decide_eq_false_iff_not] at hb
         obtain ⟨⟨⟨⟨⟨⟨⟨rfl, rfl⟩, rfl⟩, rfl⟩, rfl⟩, n1⟩, n2⟩, n3⟩ := hb
         obtain ⟨rfl, rfl, rfl⟩ := hC
         refine ⟨⟨n1, n2, n3⟩, ⟨⟨_, h0, rfl, rfl, rfl, ?_⟩, ⟨_, h1, rfl, leB_refl _⟩, ⟨_, h2, rfl, leB_refl _⟩, trivial⟩, ⟨fun T l e => ?_, fun T l e => ?_⟩⟩
         · simp only [renL, renA, inR2 n1, inR3 n2 n3]
           exact ⟨⟨rfl, rfl⟩, ⟨rfl, rfl⟩, intA_leS hw _, isrcR_le2 hk _, intA_leS ht _, intA_leS ha _, intA_leS hm _, boolA_leS hd _, trivial⟩
         · rw [h1] at e; cases e
         · rw [h2] at e; cases e
     · cases h
   · cases h
 · cases h
def wK2 (f : WFn) (args : List AV) (H : Tr AB) : Option Ex := match args with
 | .ptr i 0 :: rest => match rOfW H i with
   | some (x, (p, q), C) => match f x rest with
     | some ((ys, v, x'), C') => some { μ := [i, p, q], args := .ptr 0 0 :: ys, L := rwB x, res := v, L' := rwB x', E := [], C := C ∧ C' }
     | none => none
   | none => none
 | _ => none
theorem wX2_ok {S : Sy} (hok : S.Ok Tryz.prog) {F : FuncId} {fn : Func} (hF : Tryz.prog.funcs[F]? = some fn) (hb : fn.body.isSome = true) {f : WFn}
   (h : ∀ {x rest ys v x' C}, f x rest = some ((ys, v, x'), C) → C → (∀ σ, leL (renL σ rest) ys) ∧ (startF (tabOf Tryz.prog) F (.ptr 0 0 :: ys) (memF (rwB x) 0 .e) 3).isSome = true ∧ To S Tryz.prog F (startOf Tryz.prog F (.ptr 0 0 :: ys) (memF (rwB x) 0 .e) 3) (fun y H' _ => leA y v ∧ endL (rwB x') 0 H')) :
   FOk Tryz.prog (oneX F (wK2 f)) := oneX_ok hok tab hF hb fun {args H n e} hk hC => by
 unfold wK2 at hk
 split at hk
 · rename_i i rest
   split at hk
   · rename_i x p q C hr
     split at hk
     · rename_i ys v x' C' hf
       cases hk
       obtain ⟨c1, c3⟩ : C ∧ C' := hC
       obtain ⟨⟨n1, n2, n3⟩, hs, hp, hq⟩ := rOfW_seen2 hr c1
       obtain ⟨g0, g1, g2⟩ := h hf c3
       refine ⟨by simp [n1, n2, n3], hs, rfl, ?_, ⟨by simp, by simp⟩, ?_, g1, To.mono g2 fun y H' n' hq => ⟨hq.1, hq.2, trivial⟩⟩
       · simp only [renL, renA, inR1]
         exact ⟨leA_refl _, g0 _⟩
       · intro w0 ρ w vs hr0 hv j hj
         simp at hj
         rcases hj with rfl | rfl | rfl
         · exact .inl (VRs.bind hv (j, True) (by simp [bindL, bindA]) trivial)
         · exact .inr hp
         · exact .inr hq
     · cases hk
   · cases hk
 · cases hk
structure CW where
 w : Int
 kn : Nat
 kf : Nat → List AV
 torn : Int
 at_ : Int
def CW.toL (c : CW) : CrashD := ⟨c.w, numsF c.kn c.kf, c.torn, c.at_⟩
def crashW (x : AV) : Option CW := match x with
 | .agg [cw, kp, ct, ca] => match intA cw, isrcR kp, intA ct, intA ca with
   | some (.i64, w), some ks, some (.i64, t), some (.i64, a) => some ⟨w, ks.1, ks.2, t, a⟩
   | _, _, _, _ => none
 | _ => none
theorem crashW_le {x : AV} {c : CW} (h : crashW x = some c) (hk : ∀ q, q < c.kn → c.kf q = intsF (numsF c.kn c.kf) q) (σ : Nat → Option Nat) : leA (renA σ x) (.agg (crashF c.toL)) := by
 unfold crashW at h
 split at h
 · split at h
   · rename_i hw hq ht ha
     cases h
     simp only [renA, renL]
     exact ⟨intA_leS hw _, isrcR_le hq hk _, intA_leS ht _, intA_leS ha _, trivial⟩
   · cases h
 · cases h
def by8A : AV → Option (List UInt8)
 | .by8 b => some b
 | .v (.slice none 0 0) => some []
 | _ => none
theorem by8A_le {x : AV} {b : List UInt8} (h : by8A x = some b) (σ : Nat → Option Nat) : leA (renA σ x) (.by8 b) := by
 unfold by8A at h
 split at h
 · cases h; exact leA_refl _
 · cases h; simp only [renA]; unfold leA; rfl
 · cases h
theorem leA_im {x : AV} {w n : Nat} {f g : Nat → List AV} (h : leA x (.im w n f)) (hf : ∀ r, r < n → f r = g r) : leA x (.im w n g) := by
 generalize hy : AV.im w n f = y at h
 unfold leA at h
 split at h <;> first | (cases hy; done) | skip
 · cases hy
   subst h
   unfold leA
   rfl
 · cases hy
   obtain ⟨rfl, rfl, h3⟩ := h
   exact ⟨rfl, rfl, fun r hr => (h3 r hr).trans (hf r hr)⟩
 · subst hy
   subst h
   exact ⟨rfl, rfl, hf⟩
theorem leB_rwf {B : AB} {T : TypeId} {w n : Nat} {f g : Nat → List AV} (h : leB B (.rw T w n f)) (hf : ∀ r, r < n → f r = g r) : leB B (.rw T w n g) := by
 cases B with
 | rw T' w' n' f' =>
   obtain ⟨h1, h2, h3, h4⟩ := h
   exact ⟨h1, h2, h3, fun r hr => (h4 r hr).trans (hf r (by rw [← h3]; exact hr))⟩
 | _ => simp [leB] at h
theorem leB_im3 {B : AB} {T : TypeId} {a b c : AV} {w n : Nat} {f g : Nat → List AV} {l : List AV} (h : leB B (.mem T none (a :: b :: c :: .im w n f :: l))) (hf : ∀ r, r < n → f r = g r) : leB B (.mem T none (a :: b :: c :: .im w n g :: l)) := by
 cases B with
 | mem T' z' l' =>
   obtain ⟨h1, h2, h3⟩ := h
   refine ⟨h1, h2, ?_⟩
   match l', h3 with
   | x1 :: x2 :: x3 :: x4 :: l', h3 =>
     exact ⟨h3.1, h3.2.1, h3.2.2.1, leA_im h3.2.2.2.1 hf, h3.2.2.2.2⟩
 | _ => simp [leB] at h
theorem end_same {x : RW} (hx : x.Ok) {H : Tr AB} (h : endL (rblk x.toL) 0 H) : endL (rwB x) 0 H := by
 obtain ⟨⟨B0, a0, b0⟩, ⟨B1, a1, b1⟩, ⟨B2, a2, b2⟩, _⟩ := h
 have e1 : x.toL.stays.length = x.n := recsF_len _ _
 have e2 : x.toL.cache.length = x.n := recsF_len _ _
 have e3 : x.toL.c.keep.length = x.kn := numsF_len _ _
 rw [e1, e2, e3] at b0
 rw [e1] at b1
 rw [e2] at b2
 exact ⟨⟨B0, a0, leB_im3 b0 (fun r hr => (hx.k r hr).symm)⟩, ⟨B1, a1, leB_rwf b1 (fun r hr => (hx.s r hr).symm)⟩, ⟨B2, a2, leB_rwf b2 (fun r hr => (hx.c r hr).symm)⟩, trivial⟩
def liftW (g : RD → RD × Int) (x : RW) : RW × Int := ((g x.toL).1.raw, (g x.toL).2)
def rwriteW (x : RW) (z : Int) (b : List UInt8) : RW × Int := liftW (fun r => rwriteD r z b) x
def rspoilW (x : RW) (z : Int) (b : List UInt8) : RW × Int := liftW (fun r => rspoilD r z b) x
def rflushW (x : RW) : RW × Int := liftW rflushD x
def rdownW (x : RW) (c : CrashD) : RW × Int := liftW (fun r => rdownD r c) x
def rarmW (x : RW) (c : CrashD) : RW × Int := liftW (fun r => rarmD r c) x
def rreadW (x : RW) (z : Int) : List UInt8 × Int := rreadD x.toL z
def wfB (gW : RW → Int → List UInt8 → RW × Int) (C : RD → Prop) : WFn := fun x rest => match rest with
 | [a, y] => match intA a, by8A y with
   | some (.i64, z), some b => some (([ivA z, .by8 b], ivA (gW x z b).2, (gW x z b).1), C x.toL ∧ b.length ≤ 1000000)
   | _, _ => none
 | _ => none
def wf0 (gW : RW → RW × Int) : WFn := fun x rest => match rest with
 | [] => some (([], ivA (gW x).2, (gW x).1), True)
 | _ => none
def wfC (gW : RW → CrashD → RW × Int) : WFn := fun x rest => match rest with
 | [a] => match crashW a with
   | some c => some (([.agg (crashF c.toL)], ivA (gW x c.toL).2, (gW x c.toL).1), (∀ q, q < c.kn → c.kf q = intsF (numsF c.kn c.kf) q) ∧ c.kn ≤ 1000000)
   | none => none
 | _ => none
theorem wfB_ok {F : FuncId} {fn : Func} (hF : Tryz.prog.funcs[F]? = some fn) (hb : fn.body.isSome = true) {g : RD → Int → List UInt8 → RD × Int} {gW : RW → Int → List UInt8 → RW × Int} (hg : ∀ x z b, gW x z b = liftW (fun r => g r z b) x) {C : RD → Prop} (hlen : ∀ r z b, r.Ok → (g r z b).1.cache.length = (g r z b).1.stays.length)
   (h0 : ∀ r z b, (startF (tabOf Tryz.prog) F [.ptr 0 0, ivA z, .by8 b] (memF (rblk r) 0 .e) 3).isSome = true)
   (h : ∀ r z b, r.Ok → C r → b.length ≤ 1000000 → To S16 Tryz.prog F (startOf Tryz.prog F [.ptr 0 0, ivA z, .by8 b] (memF (rblk r) 0 .e) 3) (fun x H' _ => leA x (ivA (g r z b).2) ∧ endL (rblk (g r z b).1) 0 H')) : FOk Tryz.prog (oneX F (wK (wfB gW C))) :=
 wX_ok s16_ok hF hb fun {x rest ys v x' D} hh hx hC => by
   unfold wfB at hh
   split at hh
   · split at hh
     · rename_i z b hz hy
       cases hh
       obtain ⟨h2, h3⟩ : C x.toL ∧ b.length ≤ 1000000 := hC
       refine ⟨fun σ => ?_, h0 x.toL z b, ?_⟩
       · simp only [renL]
         exact ⟨intA_leS hz σ, by8A_le hy σ, trivial⟩
       · rw [hg]
         unfold liftW
         simp only
         rw [rwB_raw (hlen x.toL z b hx.ok)]
         exact h x.toL z b hx.ok h2 h3
     · cases hh
   · cases hh
theorem wf0_ok {F : FuncId} {fn : Func} (hF : Tryz.prog.funcs[F]? = some fn) (hb : fn.body.isSome = true) {g : RD → RD × Int} {gW : RW → RW × Int} (hg : ∀ x, gW x = liftW g x) (hlen : ∀ r, r.Ok → (g r).1.cache.length = (g r).1.stays.length)
   (h0 : ∀ r, (startF (tabOf Tryz.prog) F [.ptr 0 0] (memF (rblk r) 0 .e) 3).isSome = true)
   (h : ∀ r, r.Ok → To S16 Tryz.prog F (startOf Tryz.prog F [.ptr 0 0] (memF (rblk r) 0 .e) 3) (fun x H' _ => leA x (ivA (g r).2) ∧ endL (rblk (g r).1) 0 H')) : FOk Tryz.prog (oneX F (wK (wf0 gW))) :=
 wX_ok s16_ok hF hb fun {x rest ys v x' D} hh hx hC => by
   unfold wf0 at hh
   split at hh
   · cases hh
     refine ⟨fun σ => trivial, h0 x.toL, ?_⟩
     rw [hg]
     unfold liftW
     simp only
     rw [rwB_raw (hlen x.toL hx.ok)]
     exact h x.toL hx.ok
   · cases hh
theorem wfC_ok {F : FuncId} {fn : Func} (hF : Tryz.prog.funcs[F]? = some fn) (hb : fn.body.isSome = true) {g : RD → CrashD → RD × Int} {gW : RW → CrashD → RW × Int} (hg : ∀ x c, gW x c = liftW (fun r => g r c) x) (hlen : ∀ r c, r.Ok → (g r c).1.cache.length = (g r c).1.stays.length)
   (h0 : ∀ r c, (startF (tabOf Tryz.prog) F [.ptr 0 0, .agg (crashF c)] (memF (rblk r) 0 .e) 3).isSome = true)
   (h : ∀ r c, r.Ok → c.keep.length ≤ 1000000 → To S16 Tryz.prog F (startOf Tryz.prog F [.ptr 0 0, .agg (crashF c)] (memF (rblk r) 0 .e) 3) (fun x H' _ => leA x (ivA (g r c).2) ∧ endL (rblk (g r c).1) 0 H')) : FOk Tryz.prog (oneX F (wK (wfC gW))) :=
 wX_ok s16_ok hF hb fun {x rest ys v x' D} hh hx hC => by
   unfold wfC at hh
   split at hh
   · split at hh
     · rename_i c hc
       cases hh
       obtain ⟨h2, h3⟩ := hC
       refine ⟨fun σ => ?_, h0 x.toL c.toL, ?_⟩
       · simp only [renL]
         exact ⟨crashW_le hc h2 σ, trivial⟩
       · rw [hg]
         unfold liftW
         simp only
         rw [rwB_raw (hlen x.toL c.toL hx.ok)]
         exact h x.toL c.toL hx.ok (by show (numsF c.kn c.kf).length ≤ 1000000; rw [numsF_len]; exact h3)
     · cases hh
   · cases hh
theorem rfallD_len (r : RD) (c : CrashD) (h : r.cache.length = r.stays.length) : (rfallD r c).cache.length = (rfallD r c).stays.length := by simp [rfallD, h]
theorem rwriteD_len {r : RD} (z : Int) (b : List UInt8) (h : r.Ok) : (rwriteD r z b).1.cache.length = (rwriteD r z b).1.stays.length := by
 have hp : (r.put z b).cache.length = (r.put z b).stays.length := by
   show (r.cache.set z.toNat b).length = r.stays.length
   rw [List.length_set]; exact h.len
 unfold rwriteD
 split
 · exact h.len
 · split
   · exact h.len
   · split
     · exact h.len
     · split
       · exact h.len
       · split
         · exact hp
         · split
           · exact hp
           · exact rfallD_len _ _ hp
theorem rflushD_len {r : RD} (h : r.Ok) : (rflushD r).1.cache.length = (rflushD r).1.stays.length := by
 unfold rflushD
 split
 · exact h.len
 · simp [rflushL, h.len]
theorem rdownD_len {r : RD} (c : CrashD) (h : r.Ok) : (rdownD r c).1.cache.length = (rdownD r c).1.stays.length := by
 unfold rdownD
 split
 · exact h.len
 · exact rfallD_len _ _ h.len
theorem rarmD_len {r : RD} (c : CrashD) (h : r.Ok) : (rarmD r c).1.cache.length = (rarmD r c).1.stays.length := by
 unfold rarmD
 split
 · exact h.len
 · exact h.len
theorem rspoilD_len {r : RD} (z : Int) (b : List UInt8) (h : r.Ok) : (rspoilD r z b).1.cache.length = (rspoilD r z b).1.stays.length := by
 unfold rspoilD
 split
 · exact h.len
 · split
   · exact h.len
   · split
     · exact h.len
     · show r.cache.length = (r.stays.set _ _).length
       rw [List.length_set]; exact h.len
def rwriteF : CF := oneX 24 (wK (wfB rwriteW (fun r => r.many < 4000000000000000000)))
def rspoilF : CF := oneX 22 (wK (wfB rspoilW (fun _ => True)))
def rflushF : CF := oneX 26 (wK (wf0 rflushW))
def rdownF : CF := oneX 17 (wK (wfC rdownW))
def rarmF : CF := oneX 19 (wK (wfC rarmW))
def rreadF : CF := oneX 57 (wK fun x rest => match rest with
 | [a] => match intA a with
   | some (.i64, z) => some (([ivA z], .tup [.by8 (rreadW x z).1, ivA (rreadW x z).2], x), True)
   | _ => none
 | _ => none)
theorem rwriteF_ok : FOk Tryz.prog rwriteF := wfB_ok Tryz.func24 (by kernel_rfl) (fun _ _ _ => rfl) (fun _ z b h => rwriteD_len z b h) (fun _ _ _ => by kernel_rfl) (fun r z b h1 h2 h3 => rwrite_to s16_ok r z b h1 h2 h3)
theorem rspoilF_ok : FOk Tryz.prog rspoilF := wfB_ok Tryz.func22 (by kernel_rfl) (fun _ _ _ => rfl) (fun _ z b h => rspoilD_len z b h) (fun _ _ _ => by kernel_rfl) (fun r z b h1 _ h3 => rspoil_to s16_ok r z b h1 h3)
theorem rflushF_ok : FOk Tryz.prog rflushF := wf0_ok Tryz.func26 (by kernel_rfl) (fun _ => rfl) (fun _ h => rflushD_len h) (fun _ => by kernel_rfl) (fun r h1 => rflush_to s16_ok r h1)
theorem rdownF_ok : FOk Tryz.prog rdownF := wfC_ok Tryz.func17 (by kernel_rfl) (fun _ _ => rfl) (fun _ c h => rdownD_len c h) (fun _ _ => by kernel_rfl) (fun r c h1 h2 => rdown_to s16_ok r c h1 h2)
theorem rarmF_ok : FOk Tryz.prog rarmF := wfC_ok Tryz.func19 (by kernel_rfl) (fun _ _ => rfl) (fun _ c h => rarmD_len c h) (fun _ _ => by kernel_rfl) (fun r c h1 h2 => rarm_to s16_ok r c h1 h2)
theorem rreadF_ok : FOk Tryz.prog rreadF := wX_ok s16_ok Tryz.func57 (by kernel_rfl) fun {x rest ys v x' D} hh hx hC => by
 split at hh
 · split at hh
   · rename_i z hz
     cases hh
     refine ⟨fun σ => ?_, by kernel_rfl, ?_⟩
     · simp only [renL]
       exact ⟨intA_leS hz σ, trivial⟩
     · exact (rread_to s16_ok x.toL z hx.ok).mono fun y H' n' h => ⟨h.1, end_same hx h.2⟩
   · cases hh
 · cases hh
def rnewG : CG := oneXG 7 fun args _ => match args with
 | [x] => match intA x with
   | some (.i64, n) => some (decide (1 ≤ n ∧ n ≤ 4096), True, fun b => cond b
       { μ := [], args := [ivA n], L := [], res := .tup [.ptr 0 0, ivA 0], L' := [], E := [(0, .mem 45 none [.ow 1 (rnewD n.toNat).raw.n, .ow 2 (rnewD n.toNat).raw.n, ivA (rnewD n.toNat).raw.w, .im 1 (rnewD n.toNat).raw.kn (rnewD n.toNat).raw.kf, ivA (rnewD n.toNat).raw.torn, ivA (rnewD n.toNat).raw.at_, ivA (rnewD n.toNat).raw.many, .sy (.bool (rnewD n.toNat).raw.down)]), (1, .rw 36 1 (rnewD n.toNat).raw.n (rnewD n.toNat).raw.sf), (2, .rw 36 1 (rnewD n.toNat).raw.n (rnewD n.toNat).raw.cf)], C := True }
       { μ := [], args := [ivA n], L := [], res := .tup [.v (.pointer none), .v (iv 30)], L' := [], E := [], C := True })
   | _ => none
 | _ => none
theorem rnewG_ok : GOk Tryz.prog rnewG := oneXG_ok s16_ok tab Tryz.func7 (by kernel_rfl) fun {args H n r} h hC => by
 split at h
 · rename_i x
   split at h
   · rename_i m hx
     cases h
     have harg : leL (renL (inS []) [x]) [ivA m] := by simp only [renL]; exact ⟨intA_leS hx _, trivial⟩
     by_cases he : 1 ≤ m ∧ m ≤ 4096
     · simp only [decide_eq_true he, cond_true]
       refine ⟨by simp, trivial, rfl, harg, ⟨by simp, by simp⟩, ?_, by kernel_rfl, To.mono (rnew_to s16_ok m he.1 he.2) fun y H' n' hq => ?_⟩
       · intro w0 ρ w vs hr hv j hj; cases hj
       · obtain ⟨q1, q2⟩ := hq
         rw [← rwB_raw (r := rnewD m.toNat) (by simp [rnewD])] at q2
         obtain ⟨⟨B0, a0, b0⟩, ⟨B1, a1, b1⟩, ⟨B2, a2, b2⟩, _⟩ := q2
         exact ⟨q1, trivial, ⟨B0, a0, b0⟩, ⟨B1, a1, b1⟩, ⟨B2, a2, b2⟩, trivial⟩
     · simp only [decide_eq_false he, cond_false]
       refine ⟨by simp, trivial, rfl, harg, ⟨by simp, by simp⟩, ?_, by kernel_rfl, To.mono (rnewE_to s16_ok m he) fun y H' n' hq => ⟨hq, trivial, trivial⟩⟩
       intro w0 ρ w vs hr hv j hj; cases hj
   · cases h
 · cases h
structure GoesW (d : DiskD) (x : RW) : Prop where
 ok : x.Ok
 goes : GoesR d x.toL
theorem goesW {d : DiskD} {r : RD} (h : GoesR d r) (hd : d.Fine) : GoesW d r.raw := ⟨raw_ok (h.ok hd), by rw [raw_toL (h.ok hd).len]; exact h⟩
theorem GoesW.write {d : DiskD} {x : RW} (h : GoesW d x) {n : Nat} (hd : d.In n) (hn : n < 1000000000) (z : Int) (b : List UInt8) : GoesW (writeD d z b).1 (rwriteW x z b).1 ∧ (rwriteW x z b).2 = (writeD d z b).2 :=
 ⟨goesW (h.goes.write hd.fine.ok z b).1 (hd.write hn z b).fine, (h.goes.write hd.fine.ok z b).2⟩
theorem GoesW.spoil {d : DiskD} {x : RW} (h : GoesW d x) {n : Nat} (hd : d.In n) (z : Int) (b : List UInt8) : GoesW (spoilD d z b).1 (rspoilW x z b).1 ∧ (rspoilW x z b).2 = (spoilD d z b).2 :=
 ⟨goesW (h.goes.spoil z b).1 (hd.spoil z b).fine, (h.goes.spoil z b).2⟩
theorem GoesW.flush {d : DiskD} {x : RW} (h : GoesW d x) {n : Nat} (hd : d.In n) : GoesW (flushD d).1 (rflushW x).1 ∧ (rflushW x).2 = (flushD d).2 :=
 ⟨goesW (h.goes.flush hd.fine.ok).1 hd.flush.fine, (h.goes.flush hd.fine.ok).2⟩
theorem GoesW.down {d : DiskD} {x : RW} (h : GoesW d x) {n : Nat} (hd : d.In n) (c : CrashD) : GoesW (downD d c).1 (rdownW x c).1 ∧ (rdownW x c).2 = (downD d c).2 :=
 ⟨goesW (h.goes.down_ hd.fine.ok c).1 (hd.down c).fine, (h.goes.down_ hd.fine.ok c).2⟩
theorem GoesW.arm {d : DiskD} {x : RW} (h : GoesW d x) {n : Nat} (hd : d.In n) {c : CrashD} (hc : c.Wf) (hk : c.keep.length ≤ 1000000) : GoesW (armD d c).1 (rarmW x c).1 ∧ (rarmW x c).2 = (armD d c).2 :=
 ⟨goesW (h.goes.arm c).1 (hd.arm hc hk).fine, (h.goes.arm c).2⟩
theorem GoesW.read {d : DiskD} {x : RW} (h : GoesW d x) (hd : d.Ok) (z : Int) : rreadW x z = ((readD d z).1.getD [], (readD d z).2) := h.goes.read hd z
theorem GoesW.boot {d : DiskD} {x : RW} (h : GoesW d x) : GoesW (bootD d) { x with down := false } := ⟨⟨⟨h.ok.ok.len, h.ok.ok.le, h.ok.ok.st, h.ok.ok.ca, h.ok.ok.cw, h.ok.ok.keep, h.ok.ok.many⟩, h.ok.s, h.ok.c, h.ok.k⟩, h.goes.boot⟩
theorem goesW_new {k : Nat} (h1 : 1 ≤ k) (h2 : k ≤ 4096) : GoesW (newD k) (rnewD k).raw := goesW goes_new (newD_in h1 h2).fine
theorem oin_by8 {w0 : Bs} {w w' : World} {ρ : Env} {H : Tr AB} {n : Nat} (hr : HR w0 ρ H n w) (hf : Fr No w w') {v : Value} {bs : List UInt8} (h : OIn w.heap.size w' v bs) : ∃ ρ', VR ρ' (.by8 bs) v ∧ HR w0 ρ' H n w' ∧ Ext ρ ρ' H H n n := by
 have hown := h.own
 rcases hown.cases with ⟨rfl, _, e⟩ | ⟨g, cg, rfl⟩
 · have hp0 : bs = [] := by simpa using e
   subst hp0
   exact ⟨ρ, by8_nil ρ, hr.old hf, Ext.refl _ _ _⟩
 · obtain ⟨ρ', r1, r2, r3⟩ := hr.newBy hf (h.new g rfl) hown
   exact ⟨ρ', r3, r1, r2⟩
def rrencF : CF := oneF 44 fun args H n => match args with
 | [x] => match rootP x with
   | some r => some ((.tup [.by8 (rencB r.1), .sy (.int .i64 (rencE r.1))], H, n), r.2)
   | none => none
 | _ => none
theorem rrencF_ok : FOk Tryz.prog rrencF := by
 refine oneF_ok tab Tryz.func44 (by kernel_rfl) ?_
 intro args H n r h hc w0 ρ w vs hr hvs
 split at h
 · rename_i ax
   split at h
   · rename_i r hra
     cases h
     cases hvs with
     | cons e1 t1 =>
     cases t1
     obtain ⟨rfl, hfit⟩ := rootP_sound hra hc e1
     simp only [rencB, rencE]
     by_cases hq : r.1.ok = true
     · simp only [if_pos hq]
       refine (refEncode_ok r.1 hfit hq w).mono ?_
       rintro o w' ⟨v, rfl, hin, hfr⟩
       obtain ⟨ρ', h1, h2, h3⟩ := oin_by8 hr hfr hin
       exact ⟨ρ', _, rfl, .tup (.cons h1 (.cons (.sy _) .nil)), h2, h3⟩
     · simp only [if_neg hq]
       refine (refEncode_bad r.1 (by simpa using hq) w).mono ?_
       rintro o w' ⟨rfl, hfr⟩
       exact ⟨ρ, _, rfl, .tup (.cons (by8_nil ρ) (.cons (.sy _) .nil)), hr.old hfr, Ext.refl _ _ _⟩
   · cases h
 · cases h
def rrdecF : CF := oneF 58 fun args H n => match args with
 | [p] => match bsrcM p H with
   | some b => some ((.tup [.agg (rootAV (decR b.1)), .sy (.int .i64 (decE b.1))], H, n), b.2)
   | none => none
 | _ => none
theorem rrdecF_ok : FOk Tryz.prog rrdecF := by
 refine oneF_ok tab Tryz.func58 (by kernel_rfl) ?_
 intro args H n r h hc w0 ρ w vs hr hvs
 split at h
 · rename_i ap
   split at h
   · rename_i b hp
     cases h
     cases hvs with
     | cons e1 t1 =>
     cases t1
     obtain ⟨⟨a, c, rfl, hw⟩, _⟩ := bsrcM_sound hr hp hc e1
     have hend : ∀ {o : Ending} {w' : World}, (o = .returned (.tuple #[decV b.1, .int .i64 (decE b.1)]) ∧ Fr No w w') → ∃ ρ' v, o = .returned v ∧ VR ρ' (.tup [.agg (rootAV (decR b.1)), .sy (.int .i64 (decE b.1))]) v ∧ HR w0 ρ' H n w' ∧ Ext ρ ρ' H H n n := by
       rintro o w' ⟨rfl, hfr⟩
       exact ⟨ρ, _, rfl, .tup (.cons (rootAV_VR ρ _) (.cons (.sy _) .nil)), hr.old hfr, Ext.refl _ _ _⟩
     by_cases h128 : b.1.length = 128
     · cases a with
       | none => have h1 := hw.nil rfl; have h2 := hw.cap; omega
       | some ad =>
         rw [h128] at hw ⊢
         exact (refDecode_128 ad c b.1 w hw).mono fun o w' h => hend h
     · exact (refDecode_short a b.1.length c b.1 w hw h128).mono fun o w' h => hend h
   · cases h
 · cases h
theorem rows1' {f g : Nat → List AV} (h : f 0 = g 0) : ∀ r, r < 1 → f r = g r := fun r hr => by
 have : r = 0 := by omega
 subst this; exact h
theorem rows2' {f g : Nat → List AV} (h : f 0 = g 0) (h1 : f 1 = g 1) : ∀ r, r < 2 → f r = g r := fun r hr => by
 by_cases e : r = 0
 · subst e; exact h
 · have : r = 1 := by omega
   subst this; exact h1
instance : Inhabited RootD := ⟨.zero⟩
theorem both_none0 {d : DiskD} (h : (readD d 0).1 = none) : bothD d = ([], (readD d 0).2) := by unfold bothD; rw [h]
theorem both_none1 {d : DiskD} {a : List UInt8} (ha : readD d 0 = (some a, 0)) (h : (readD d 1).1 = none) : bothD d = ([], (readD d 1).2) := by unfold bothD; rw [ha, h]
theorem both_both {d : DiskD} {a b : List UInt8} (ha : readD d 0 = (some a, 0)) (hb : readD d 1 = (some b, 0)) : bothD d = (bothL (evenR a) (oddR b), 0) := by unfold bothD; rw [ha, hb]
set_option maxHeartbeats 4000000 in
set_option maxRecDepth 100000 in
theorem both_to (hS : S8.Ok Tryz.prog) (d : DiskD) (hd : d.Fine) : To S8 Tryz.prog 30 (startOf Tryz.prog 30 [.ptr 0 0] (memF [.obj (.disk d)] 0 .e) 1) (fun x H' _ => leA x (.tup [.im 3 (bothD d).1.length (rowsOf rootAV (bothD d).1), .sy (.int .i64 (bothD d).2)]) ∧ endL [.obj (.disk d)] 0 H' ∧ endE [] H') := by
 refine To.R (h := ?_)
 refine To.B ((readD d 0).fst.isSome) (C := d.Fine) (h := ?_) (g := ?_)
 · intro h1
   obtain ⟨a, ha⟩ := readD_some h1
   have hla := readD_len hd ha
   have hA : List.take ((readD d 0).1.getD []).length ((readD d 0).1.getD []) = a := by rw [ha, Option.getD_some, List.take_length]
   refine To.R (C := ((readD d 0).fst.getD []).length ≤ ((readD d 0).fst.getD []).length ∧ (List.take ((readD d 0).fst.getD []).length ((readD d 0).fst.getD [])).length ≤ 1000) (hc := ?_) (h := ?_); (and_intros <;> try exact cl)
   · rw [hA]; omega
   refine To.Bn (decE (List.take ((readD d 0).fst.getD []).length ((readD d 0).fst.getD [])) = 0) (h := ?_) (g := ?_)
   · intro h2
     rw [hA] at h2
     refine To.R (h := ?_)
     refine To.B ((readD d 1).fst.isSome) (C := d.Fine) (h := ?_) (g := ?_)
     · intro g1
       obtain ⟨b, hb⟩ := readD_some g1
       have hlb := readD_len hd hb
       have hB : List.take ((readD d 1).1.getD []).length ((readD d 1).1.getD []) = b := by rw [hb, Option.getD_some, List.take_length]
       have hlw := both_both ha hb
       refine To.R (C := ((readD d 1).fst.getD []).length ≤ ((readD d 1).fst.getD []).length ∧ (List.take ((readD d 1).fst.getD []).length ((readD d 1).fst.getD [])).length ≤ 1000) (hc := ?_) (h := ?_); (and_intros <;> try exact cl)
       · rw [hB]; omega
       refine To.Bn (decE (List.take ((readD d 1).fst.getD []).length ((readD d 1).fst.getD [])) = 0) (h := ?_) (g := ?_)
       · intro g2
         rw [hB] at g2
         have hw : bothD d = ([], 0) := by rw [hlw, evenR_no h2, oddR_no g2]; rfl
         refine To.R (h := ?_)
         skip
         refine To.E (AV.tup [AV.v (Value.slice none 0 0), AV.v (Value.int IntKind.i64 0)]) (hq := ?_)
         rw [hw]
         refine ⟨(of_eqP (C := Same 0 ∧ (Same IntKind.i64 ∧ Same (0 : Int)) ∧ True) (by kernel_rfl) (by (and_intros <;> try exact cl))), ⟨(endL_cons (B0 := AB.obj (Ob.disk d)) (by kernel_rfl) (of_eqP (C := Same (Ob.disk d)) (by kernel_rfl) (by (and_intros <;> try exact cl))) endL_nil), endE_nil⟩⟩
       · intro g2
         rw [hB] at g2
         refine To.R (C := ((0 : Int) ≤ (decR (List.take ((readD d 1).fst.getD []).length ((readD d 1).fst.getD []))).n ∧ (0 : Int) < 2) ∧ fits IntKind.i64 ((decR (List.take ((readD d 1).fst.getD []).length ((readD d 1).fst.getD []))).n % 2) ∧ Same (AV.v (Value.int IntKind.i64 1))) (h := ?_)
         refine To.Bn (((decR (List.take ((readD d 1).fst.getD []).length ((readD d 1).fst.getD []))).n : Int) % 2 = 1) (h := ?_) (g := ?_)
         · intro g3
           rw [hB] at g3
           have hw : bothD d = ([], 0) := by rw [hlw, evenR_no h2, oddR_no2 g3]; rfl
           refine To.R (h := ?_)
           skip
           refine To.E (AV.tup [AV.v (Value.slice none 0 0), AV.v (Value.int IntKind.i64 0)]) (hq := ?_)
           rw [hw]
           refine ⟨(of_eqP (C := Same 0 ∧ (Same IntKind.i64 ∧ Same (0 : Int)) ∧ True) (by kernel_rfl) (by (and_intros <;> try exact cl))), ⟨(endL_cons (B0 := AB.obj (Ob.disk d)) (by kernel_rfl) (of_eqP (C := Same (Ob.disk d)) (by kernel_rfl) (by (and_intros <;> try exact cl))) endL_nil), endE_nil⟩⟩
         · intro g3
           rw [hB] at g3
           have hw : bothD d = ([decR b], 0) := by rw [hlw, evenR_no h2, oddR_yes g2 g3]; rfl
           refine To.R (h := ?_)
           refine To.frz 13 false [3, 2] (by kernel_rfl) (C := True ∧ True) (by kernel_rfl) (by and_intros <;> exact cl) ?_
           refine To.E (AV.tup [AV.im 3 1 fun r ↦ List.take 3 (List.drop (r * 3) [AV.sy (Value.int IntKind.u64 (decR (List.take ((readD d 1).fst.getD []).length ((readD d 1).fst.getD []))).n), AV.sy (Value.int IntKind.i64 (decR (List.take ((readD d 1).fst.getD []).length ((readD d 1).fst.getD []))).len), AV.sy (Value.int IntKind.u32 (decR (List.take ((readD d 1).fst.getD []).length ((readD d 1).fst.getD []))).sum)]), AV.v (Value.int IntKind.i64 0)]) (hq := ?_)
           rw [hw]
           refine ⟨(of_eqP (C := (Same 3 ∧ Same 1 ∧ (∀ (r : Nat), r < 1 → (fun r ↦ List.take 3 (List.drop (r * 3) [AV.sy (Value.int IntKind.u64 (decR (List.take ((readD d 1).fst.getD []).length ((readD d 1).fst.getD []))).n), AV.sy (Value.int IntKind.i64 (decR (List.take ((readD d 1).fst.getD []).length ((readD d 1).fst.getD []))).len), AV.sy (Value.int IntKind.u32 (decR (List.take ((readD d 1).fst.getD []).length ((readD d 1).fst.getD []))).sum)])) r = rowsOf rootAV [decR b] r)) ∧ (Same IntKind.i64 ∧ Same (0 : Int)) ∧ True) (by kernel_rfl) ?_), ⟨(endL_cons (B0 := AB.obj (Ob.disk d)) (by kernel_rfl) (of_eqP (C := Same (Ob.disk d)) (by kernel_rfl) (by (and_intros <;> try exact cl))) endL_nil), endE_nil⟩⟩
           rw [hB]
           exact ⟨⟨rfl, rfl, rows1' rfl⟩, ⟨rfl, rfl⟩, trivial⟩
     · intro g1
       obtain ⟨hb, hbe⟩ := readD_none g1
       refine To.R (C := True ∧ 0 ≤ 1000) (h := ?_)
       refine To.Yn (decE [] = 0) (hp := dk) (h := ?_)
       refine To.R (h := ?_)
       refine To.Yn ((readD d 1).snd = 0) (h := ?_)
       have hw : bothD d = ([], (readD d 1).2) := both_none1 ha hb
       refine To.R (h := ?_)
       refine To.Yn ((readD d 1).snd = 0) (h := ?_)
       refine To.R (h := ?_)
       refine To.E (AV.tup [AV.v (Value.slice none 0 0), AV.sy (Value.int IntKind.i64 (readD d 1).snd)]) (hq := ?_)
       rw [hw]
       refine ⟨(of_eqP (C := Same 0 ∧ (Same IntKind.i64 ∧ Same (readD d 1).snd) ∧ True) (by kernel_rfl) (by (and_intros <;> try exact cl))), ⟨(endL_cons (B0 := AB.obj (Ob.disk d)) (by kernel_rfl) (of_eqP (C := Same (Ob.disk d)) (by kernel_rfl) (by (and_intros <;> try exact cl))) endL_nil), endE_nil⟩⟩
   · intro h2
     rw [hA] at h2
     refine To.R (C := ((0 : Int) ≤ (decR (List.take ((readD d 0).fst.getD []).length ((readD d 0).fst.getD []))).n ∧ (0 : Int) < 2) ∧ fits IntKind.i64 ((decR (List.take ((readD d 0).fst.getD []).length ((readD d 0).fst.getD []))).n % 2) ∧ Same (AV.v (Value.int IntKind.i64 0))) (h := ?_)
     refine To.Bn (((decR (List.take ((readD d 0).fst.getD []).length ((readD d 0).fst.getD []))).n : Int) % 2 = 0) (h := ?_) (g := ?_)
     · intro h3
       rw [hA] at h3
       refine To.R (h := ?_)
       refine To.B ((readD d 1).fst.isSome) (C := d.Fine) (h := ?_) (g := ?_)
       · intro g1
         obtain ⟨b, hb⟩ := readD_some g1
         have hlb := readD_len hd hb
         have hB : List.take ((readD d 1).1.getD []).length ((readD d 1).1.getD []) = b := by rw [hb, Option.getD_some, List.take_length]
         have hlw := both_both ha hb
         refine To.R (C := ((readD d 1).fst.getD []).length ≤ ((readD d 1).fst.getD []).length ∧ (List.take ((readD d 1).fst.getD []).length ((readD d 1).fst.getD [])).length ≤ 1000) (hc := ?_) (h := ?_); (and_intros <;> try exact cl)
         · rw [hB]; omega
         refine To.Bn (decE (List.take ((readD d 1).fst.getD []).length ((readD d 1).fst.getD [])) = 0) (h := ?_) (g := ?_)
         · intro g2
           rw [hB] at g2
           have hw : bothD d = ([], 0) := by rw [hlw, evenR_no2 h3, oddR_no g2]; rfl
           refine To.R (h := ?_)
           skip
           refine To.E (AV.tup [AV.v (Value.slice none 0 0), AV.v (Value.int IntKind.i64 0)]) (hq := ?_)
           rw [hw]
           refine ⟨(of_eqP (C := Same 0 ∧ (Same IntKind.i64 ∧ Same (0 : Int)) ∧ True) (by kernel_rfl) (by (and_intros <;> try exact cl))), ⟨(endL_cons (B0 := AB.obj (Ob.disk d)) (by kernel_rfl) (of_eqP (C := Same (Ob.disk d)) (by kernel_rfl) (by (and_intros <;> try exact cl))) endL_nil), endE_nil⟩⟩
         · intro g2
           rw [hB] at g2
           refine To.R (C := ((0 : Int) ≤ (decR (List.take ((readD d 1).fst.getD []).length ((readD d 1).fst.getD []))).n ∧ (0 : Int) < 2) ∧ fits IntKind.i64 ((decR (List.take ((readD d 1).fst.getD []).length ((readD d 1).fst.getD []))).n % 2) ∧ Same (AV.v (Value.int IntKind.i64 1))) (h := ?_)
           refine To.Bn (((decR (List.take ((readD d 1).fst.getD []).length ((readD d 1).fst.getD []))).n : Int) % 2 = 1) (h := ?_) (g := ?_)
           · intro g3
             rw [hB] at g3
             have hw : bothD d = ([], 0) := by rw [hlw, evenR_no2 h3, oddR_no2 g3]; rfl
             refine To.R (h := ?_)
             skip
             refine To.E (AV.tup [AV.v (Value.slice none 0 0), AV.v (Value.int IntKind.i64 0)]) (hq := ?_)
             rw [hw]
             refine ⟨(of_eqP (C := Same 0 ∧ (Same IntKind.i64 ∧ Same (0 : Int)) ∧ True) (by kernel_rfl) (by (and_intros <;> try exact cl))), ⟨(endL_cons (B0 := AB.obj (Ob.disk d)) (by kernel_rfl) (of_eqP (C := Same (Ob.disk d)) (by kernel_rfl) (by (and_intros <;> try exact cl))) endL_nil), endE_nil⟩⟩
           · intro g3
             rw [hB] at g3
             have hw : bothD d = ([decR b], 0) := by rw [hlw, evenR_no2 h3, oddR_yes g2 g3]; rfl
             refine To.R (h := ?_)
             refine To.frz 14 false [3, 2] (by kernel_rfl) (C := True ∧ True) (by kernel_rfl) (by and_intros <;> exact cl) ?_
             refine To.E (AV.tup [AV.im 3 1 fun r ↦ List.take 3 (List.drop (r * 3) [AV.sy (Value.int IntKind.u64 (decR (List.take ((readD d 1).fst.getD []).length ((readD d 1).fst.getD []))).n), AV.sy (Value.int IntKind.i64 (decR (List.take ((readD d 1).fst.getD []).length ((readD d 1).fst.getD []))).len), AV.sy (Value.int IntKind.u32 (decR (List.take ((readD d 1).fst.getD []).length ((readD d 1).fst.getD []))).sum)]), AV.v (Value.int IntKind.i64 0)]) (hq := ?_)
             rw [hw]
             refine ⟨(of_eqP (C := (Same 3 ∧ Same 1 ∧ (∀ (r : Nat), r < 1 → (fun r ↦ List.take 3 (List.drop (r * 3) [AV.sy (Value.int IntKind.u64 (decR (List.take ((readD d 1).fst.getD []).length ((readD d 1).fst.getD []))).n), AV.sy (Value.int IntKind.i64 (decR (List.take ((readD d 1).fst.getD []).length ((readD d 1).fst.getD []))).len), AV.sy (Value.int IntKind.u32 (decR (List.take ((readD d 1).fst.getD []).length ((readD d 1).fst.getD []))).sum)])) r = rowsOf rootAV [decR b] r)) ∧ (Same IntKind.i64 ∧ Same (0 : Int)) ∧ True) (by kernel_rfl) ?_), ⟨(endL_cons (B0 := AB.obj (Ob.disk d)) (by kernel_rfl) (of_eqP (C := Same (Ob.disk d)) (by kernel_rfl) (by (and_intros <;> try exact cl))) endL_nil), endE_nil⟩⟩
             rw [hB]
             exact ⟨⟨rfl, rfl, rows1' rfl⟩, ⟨rfl, rfl⟩, trivial⟩
       · intro g1
         obtain ⟨hb, hbe⟩ := readD_none g1
         refine To.R (C := True ∧ 0 ≤ 1000) (h := ?_)
         refine To.Yn (decE [] = 0) (hp := dk) (h := ?_)
         refine To.R (h := ?_)
         refine To.Yn ((readD d 1).snd = 0) (h := ?_)
         have hw : bothD d = ([], (readD d 1).2) := both_none1 ha hb
         refine To.R (h := ?_)
         refine To.Yn ((readD d 1).snd = 0) (h := ?_)
         refine To.R (h := ?_)
         refine To.E (AV.tup [AV.v (Value.slice none 0 0), AV.sy (Value.int IntKind.i64 (readD d 1).snd)]) (hq := ?_)
         rw [hw]
         refine ⟨(of_eqP (C := Same 0 ∧ (Same IntKind.i64 ∧ Same (readD d 1).snd) ∧ True) (by kernel_rfl) (by (and_intros <;> try exact cl))), ⟨(endL_cons (B0 := AB.obj (Ob.disk d)) (by kernel_rfl) (of_eqP (C := Same (Ob.disk d)) (by kernel_rfl) (by (and_intros <;> try exact cl))) endL_nil), endE_nil⟩⟩
     · intro h3
       rw [hA] at h3
       refine To.R (h := ?_)
       refine To.B ((readD d 1).fst.isSome) (C := d.Fine) (h := ?_) (g := ?_)
       · intro g1
         obtain ⟨b, hb⟩ := readD_some g1
         have hlb := readD_len hd hb
         have hB : List.take ((readD d 1).1.getD []).length ((readD d 1).1.getD []) = b := by rw [hb, Option.getD_some, List.take_length]
         have hlw := both_both ha hb
         refine To.R (C := ((readD d 1).fst.getD []).length ≤ ((readD d 1).fst.getD []).length ∧ (List.take ((readD d 1).fst.getD []).length ((readD d 1).fst.getD [])).length ≤ 1000) (hc := ?_) (h := ?_); (and_intros <;> try exact cl)
         · rw [hB]; omega
         refine To.Bn (decE (List.take ((readD d 1).fst.getD []).length ((readD d 1).fst.getD [])) = 0) (h := ?_) (g := ?_)
         · intro g2
           rw [hB] at g2
           have hw : bothD d = ([decR a], 0) := by rw [hlw, evenR_yes h2 h3, oddR_no g2]; rfl
           refine To.R (h := ?_)
           refine To.frz 11 false [3, 2] (by kernel_rfl) (C := True ∧ True) (by kernel_rfl) (by and_intros <;> exact cl) ?_
           refine To.E (AV.tup [AV.im 3 1 fun r ↦ List.take 3 (List.drop (r * 3) [AV.sy (Value.int IntKind.u64 (decR (List.take ((readD d 0).fst.getD []).length ((readD d 0).fst.getD []))).n), AV.sy (Value.int IntKind.i64 (decR (List.take ((readD d 0).fst.getD []).length ((readD d 0).fst.getD []))).len), AV.sy (Value.int IntKind.u32 (decR (List.take ((readD d 0).fst.getD []).length ((readD d 0).fst.getD []))).sum)]), AV.v (Value.int IntKind.i64 0)]) (hq := ?_)
           rw [hw]
           refine ⟨(of_eqP (C := (Same 3 ∧ Same 1 ∧ (∀ (r : Nat), r < 1 → (fun r ↦ List.take 3 (List.drop (r * 3) [AV.sy (Value.int IntKind.u64 (decR (List.take ((readD d 0).fst.getD []).length ((readD d 0).fst.getD []))).n), AV.sy (Value.int IntKind.i64 (decR (List.take ((readD d 0).fst.getD []).length ((readD d 0).fst.getD []))).len), AV.sy (Value.int IntKind.u32 (decR (List.take ((readD d 0).fst.getD []).length ((readD d 0).fst.getD []))).sum)])) r = rowsOf rootAV [decR a] r)) ∧ (Same IntKind.i64 ∧ Same (0 : Int)) ∧ True) (by kernel_rfl) ?_), ⟨(endL_cons (B0 := AB.obj (Ob.disk d)) (by kernel_rfl) (of_eqP (C := Same (Ob.disk d)) (by kernel_rfl) (by (and_intros <;> try exact cl))) endL_nil), endE_nil⟩⟩
           rw [hA]
           exact ⟨⟨rfl, rfl, rows1' rfl⟩, ⟨rfl, rfl⟩, trivial⟩
         · intro g2
           rw [hB] at g2
           refine To.R (C := ((0 : Int) ≤ (decR (List.take ((readD d 1).fst.getD []).length ((readD d 1).fst.getD []))).n ∧ (0 : Int) < 2) ∧ fits IntKind.i64 ((decR (List.take ((readD d 1).fst.getD []).length ((readD d 1).fst.getD []))).n % 2) ∧ Same (AV.v (Value.int IntKind.i64 1))) (h := ?_)
           refine To.Bn (((decR (List.take ((readD d 1).fst.getD []).length ((readD d 1).fst.getD []))).n : Int) % 2 = 1) (h := ?_) (g := ?_)
           · intro g3
             rw [hB] at g3
             have hw : bothD d = ([decR a], 0) := by rw [hlw, evenR_yes h2 h3, oddR_no2 g3]; rfl
             refine To.R (h := ?_)
             refine To.frz 11 false [3, 2] (by kernel_rfl) (C := True ∧ True) (by kernel_rfl) (by and_intros <;> exact cl) ?_
             refine To.E (AV.tup [AV.im 3 1 fun r ↦ List.take 3 (List.drop (r * 3) [AV.sy (Value.int IntKind.u64 (decR (List.take ((readD d 0).fst.getD []).length ((readD d 0).fst.getD []))).n), AV.sy (Value.int IntKind.i64 (decR (List.take ((readD d 0).fst.getD []).length ((readD d 0).fst.getD []))).len), AV.sy (Value.int IntKind.u32 (decR (List.take ((readD d 0).fst.getD []).length ((readD d 0).fst.getD []))).sum)]), AV.v (Value.int IntKind.i64 0)]) (hq := ?_)
             rw [hw]
             refine ⟨(of_eqP (C := (Same 3 ∧ Same 1 ∧ (∀ (r : Nat), r < 1 → (fun r ↦ List.take 3 (List.drop (r * 3) [AV.sy (Value.int IntKind.u64 (decR (List.take ((readD d 0).fst.getD []).length ((readD d 0).fst.getD []))).n), AV.sy (Value.int IntKind.i64 (decR (List.take ((readD d 0).fst.getD []).length ((readD d 0).fst.getD []))).len), AV.sy (Value.int IntKind.u32 (decR (List.take ((readD d 0).fst.getD []).length ((readD d 0).fst.getD []))).sum)])) r = rowsOf rootAV [decR a] r)) ∧ (Same IntKind.i64 ∧ Same (0 : Int)) ∧ True) (by kernel_rfl) ?_), ⟨(endL_cons (B0 := AB.obj (Ob.disk d)) (by kernel_rfl) (of_eqP (C := Same (Ob.disk d)) (by kernel_rfl) (by (and_intros <;> try exact cl))) endL_nil), endE_nil⟩⟩
             rw [hA]
             exact ⟨⟨rfl, rfl, rows1' rfl⟩, ⟨rfl, rfl⟩, trivial⟩
           · intro g3
             rw [hB] at g3
             refine To.R (h := ?_)
             refine To.Bd (((decR (List.take ((readD d 0).fst.getD []).length ((readD d 0).fst.getD []))).n : Int) < (decR (List.take ((readD d 1).fst.getD []).length ((readD d 1).fst.getD []))).n) (h := ?_) (g := ?_)
             · intro g4
               rw [hA, hB] at g4
               have hw : bothD d = ([decR b, decR a], 0) := by rw [hlw, evenR_yes h2 h3, oddR_yes g2 g3]; exact congrArg (fun l => (l, (0 : Int))) (if_neg (by omega))
               refine To.R (h := ?_)
               refine To.frz 16 false [3, 2] (by kernel_rfl) (C := True ∧ True) (by kernel_rfl) (by and_intros <;> exact cl) ?_
               refine To.E (AV.tup [AV.im 3 2 fun r ↦ List.take 3 (List.drop (r * 3) [AV.sy (Value.int IntKind.u64 (decR (List.take ((readD d 1).fst.getD []).length ((readD d 1).fst.getD []))).n), AV.sy (Value.int IntKind.i64 (decR (List.take ((readD d 1).fst.getD []).length ((readD d 1).fst.getD []))).len), AV.sy (Value.int IntKind.u32 (decR (List.take ((readD d 1).fst.getD []).length ((readD d 1).fst.getD []))).sum), AV.sy (Value.int IntKind.u64 (decR (List.take ((readD d 0).fst.getD []).length ((readD d 0).fst.getD []))).n), AV.sy (Value.int IntKind.i64 (decR (List.take ((readD d 0).fst.getD []).length ((readD d 0).fst.getD []))).len), AV.sy (Value.int IntKind.u32 (decR (List.take ((readD d 0).fst.getD []).length ((readD d 0).fst.getD []))).sum)]), AV.v (Value.int IntKind.i64 0)]) (hq := ?_)
               rw [hw]
               refine ⟨(of_eqP (C := (Same 3 ∧ Same 2 ∧ (∀ (r : Nat), r < 2 → (fun r ↦ List.take 3 (List.drop (r * 3) [AV.sy (Value.int IntKind.u64 (decR (List.take ((readD d 1).fst.getD []).length ((readD d 1).fst.getD []))).n), AV.sy (Value.int IntKind.i64 (decR (List.take ((readD d 1).fst.getD []).length ((readD d 1).fst.getD []))).len), AV.sy (Value.int IntKind.u32 (decR (List.take ((readD d 1).fst.getD []).length ((readD d 1).fst.getD []))).sum), AV.sy (Value.int IntKind.u64 (decR (List.take ((readD d 0).fst.getD []).length ((readD d 0).fst.getD []))).n), AV.sy (Value.int IntKind.i64 (decR (List.take ((readD d 0).fst.getD []).length ((readD d 0).fst.getD []))).len), AV.sy (Value.int IntKind.u32 (decR (List.take ((readD d 0).fst.getD []).length ((readD d 0).fst.getD []))).sum)])) r = rowsOf rootAV [decR b, decR a] r)) ∧ (Same IntKind.i64 ∧ Same (0 : Int)) ∧ True) (by kernel_rfl) ?_), ⟨(endL_cons (B0 := AB.obj (Ob.disk d)) (by kernel_rfl) (of_eqP (C := Same (Ob.disk d)) (by kernel_rfl) (by (and_intros <;> try exact cl))) endL_nil), endE_nil⟩⟩
               rw [hA, hB]
               exact ⟨⟨rfl, rfl, rows2' rfl rfl⟩, ⟨rfl, rfl⟩, trivial⟩
             · intro g4
               rw [hA, hB] at g4
               have hw : bothD d = ([decR a, decR b], 0) := by rw [hlw, evenR_yes h2 h3, oddR_yes g2 g3]; exact congrArg (fun l => (l, (0 : Int))) (if_pos (par_lt (by omega) h3 g3))
               refine To.R (h := ?_)
               refine To.frz 16 false [3, 2] (by kernel_rfl) (C := True ∧ True) (by kernel_rfl) (by and_intros <;> exact cl) ?_
               refine To.E (AV.tup [AV.im 3 2 fun r ↦ List.take 3 (List.drop (r * 3) [AV.sy (Value.int IntKind.u64 (decR (List.take ((readD d 0).fst.getD []).length ((readD d 0).fst.getD []))).n), AV.sy (Value.int IntKind.i64 (decR (List.take ((readD d 0).fst.getD []).length ((readD d 0).fst.getD []))).len), AV.sy (Value.int IntKind.u32 (decR (List.take ((readD d 0).fst.getD []).length ((readD d 0).fst.getD []))).sum), AV.sy (Value.int IntKind.u64 (decR (List.take ((readD d 1).fst.getD []).length ((readD d 1).fst.getD []))).n), AV.sy (Value.int IntKind.i64 (decR (List.take ((readD d 1).fst.getD []).length ((readD d 1).fst.getD []))).len), AV.sy (Value.int IntKind.u32 (decR (List.take ((readD d 1).fst.getD []).length ((readD d 1).fst.getD []))).sum)]), AV.v (Value.int IntKind.i64 0)]) (hq := ?_)
               rw [hw]
               refine ⟨(of_eqP (C := (Same 3 ∧ Same 2 ∧ (∀ (r : Nat), r < 2 → (fun r ↦ List.take 3 (List.drop (r * 3) [AV.sy (Value.int IntKind.u64 (decR (List.take ((readD d 0).fst.getD []).length ((readD d 0).fst.getD []))).n), AV.sy (Value.int IntKind.i64 (decR (List.take ((readD d 0).fst.getD []).length ((readD d 0).fst.getD []))).len), AV.sy (Value.int IntKind.u32 (decR (List.take ((readD d 0).fst.getD []).length ((readD d 0).fst.getD []))).sum), AV.sy (Value.int IntKind.u64 (decR (List.take ((readD d 1).fst.getD []).length ((readD d 1).fst.getD []))).n), AV.sy (Value.int IntKind.i64 (decR (List.take ((readD d 1).fst.getD []).length ((readD d 1).fst.getD []))).len), AV.sy (Value.int IntKind.u32 (decR (List.take ((readD d 1).fst.getD []).length ((readD d 1).fst.getD []))).sum)])) r = rowsOf rootAV [decR a, decR b] r)) ∧ (Same IntKind.i64 ∧ Same (0 : Int)) ∧ True) (by kernel_rfl) ?_), ⟨(endL_cons (B0 := AB.obj (Ob.disk d)) (by kernel_rfl) (of_eqP (C := Same (Ob.disk d)) (by kernel_rfl) (by (and_intros <;> try exact cl))) endL_nil), endE_nil⟩⟩
               rw [hA, hB]
               exact ⟨⟨rfl, rfl, rows2' rfl rfl⟩, ⟨rfl, rfl⟩, trivial⟩
       · intro g1
         obtain ⟨hb, hbe⟩ := readD_none g1
         refine To.R (C := True ∧ 0 ≤ 1000) (h := ?_)
         refine To.Yn (decE [] = 0) (hp := dk) (h := ?_)
         refine To.R (h := ?_)
         refine To.Yn ((readD d 1).snd = 0) (h := ?_)
         have hw : bothD d = ([], (readD d 1).2) := both_none1 ha hb
         refine To.R (h := ?_)
         refine To.Yn ((readD d 1).snd = 0) (h := ?_)
         refine To.R (h := ?_)
         refine To.E (AV.tup [AV.v (Value.slice none 0 0), AV.sy (Value.int IntKind.i64 (readD d 1).snd)]) (hq := ?_)
         rw [hw]
         refine ⟨(of_eqP (C := Same 0 ∧ (Same IntKind.i64 ∧ Same (readD d 1).snd) ∧ True) (by kernel_rfl) (by (and_intros <;> try exact cl))), ⟨(endL_cons (B0 := AB.obj (Ob.disk d)) (by kernel_rfl) (of_eqP (C := Same (Ob.disk d)) (by kernel_rfl) (by (and_intros <;> try exact cl))) endL_nil), endE_nil⟩⟩
 · intro h1
   obtain ⟨ha, hae⟩ := readD_none h1
   refine To.R (C := True ∧ 0 ≤ 1000) (h := ?_)
   refine To.Yn (decE [] = 0) (hp := dk) (h := ?_)
   refine To.R (h := ?_)
   refine To.Yn ((readD d 0).snd = 0) (h := ?_)
   have hw : bothD d = ([], (readD d 0).2) := both_none0 ha
   refine To.R (h := ?_)
   refine To.Yn ((readD d 0).snd = 0) (h := ?_)
   refine To.R (h := ?_)
   refine To.E (AV.tup [AV.v (Value.slice none 0 0), AV.sy (Value.int IntKind.i64 (readD d 0).snd)]) (hq := ?_)
   rw [hw]
   refine ⟨(of_eqP (C := Same 0 ∧ (Same IntKind.i64 ∧ Same (readD d 0).snd) ∧ True) (by kernel_rfl) (by (and_intros <;> try exact cl))), ⟨(endL_cons (B0 := AB.obj (Ob.disk d)) (by kernel_rfl) (of_eqP (C := Same (Ob.disk d)) (by kernel_rfl) (by (and_intros <;> try exact cl))) endL_nil), endE_nil⟩⟩
def bothF : CF := oneX 30 fun args H => match args with
 | [.ptr i 0] => match H.get i with
   | some (.obj (.disk d)) => some { μ := [i], args := [.ptr 0 0], L := [.obj (.disk d)], res := .tup [.im 3 (bothD d).1.length (rowsOf rootAV (bothD d).1), .sy (.int .i64 (bothD d).2)], L' := [.obj (.disk d)], E := [], C := d.Fine }
   | _ => none
 | _ => none
theorem bothF_ok : FOk Tryz.prog bothF := oneX_ok s8_ok tab Tryz.func30 (by kernel_rfl) fun {args H n e} h hC => by
 split at h
 · rename_i i
   split at h
   · rename_i d hB
     cases h
     refine ⟨by simp, ⟨⟨_, hB, rfl, leB_refl _⟩, trivial⟩, rfl, ?_, ⟨by simp, by simp⟩, ?_, by kernel_rfl, both_to s8_ok d hC⟩
     · simp only [renL, renA, inS1]
       exact ⟨leA_refl _, trivial⟩
     · intro w0 ρ w vs hr hv j hj
       simp at hj
       subst hj
       exact .inl <| VRs.bind hv (j, True) (by simp [bindL, bindA]) trivial
   · cases h
 · cases h
noncomputable abbrev S18 : Sy := sym Tryz.prog (orF (orF rrencF rrdecF) (orF rreadF (orF rwriteF rflushF))) noG
theorem s18_ok : S18.Ok Tryz.prog := sym_ok (orF_ok (orF_ok rrencF_ok rrdecF_ok) (orF_ok rreadF_ok (orF_ok rwriteF_ok rflushF_ok))) (noG_ok _) tab mix
def rbothW (r : RW) : List RootD × Int := if (rreadW r 0).2 ≠ 0 then ([], (rreadW r 0).2) else if (rreadW r 1).2 ≠ 0 then ([], (rreadW r 1).2) else (bothL (evenR (rreadW r 0).1) (oddR (rreadW r 1).1), 0)
def rloadW (r : RW) : RootD × Int := ((rbothW r).1.headD .zero, (rbothW r).2)
def rsaveW (r : RW) (x : RootD) : RW × Int :=
 if x.ok = false then (r, 60) else if (rwriteW r ((x.n : Int) % 2) (rootBytes x)).2 ≠ 0 then rwriteW r ((x.n : Int) % 2) (rootBytes x) else rflushW (rwriteW r ((x.n : Int) % 2) (rootBytes x)).1
set_option maxHeartbeats 4000000 in
set_option maxRecDepth 100000 in
theorem rboth_to (hS : S18.Ok Tryz.prog) (r : RW) (hr : r.Ok) : To S18 Tryz.prog 31 (startOf Tryz.prog 31 [.ptr 0 0] (memF (rwB r) 0 .e) 3) (fun x H' _ => leA x (.tup [.im 3 (rbothW r).1.length (rowsOf rootAV (rbothW r).1), .sy (.int .i64 (rbothW r).2)]) ∧ endL (rwB r) 0 H') := by
 refine To.R (C := (Same r.n ∧ Same r.n ∧ Same r.n) ∧ r.Ok ∧ True) (h := ?_)
 refine To.Bn ((rreadW r 0).snd = 0) (h := ?_) (g := ?_)
 · intro h1
   have hw : rbothW r = ([], (rreadW r 0).2) := if_pos h1
   refine To.R (h := ?_)
   refine To.E (AV.tup [AV.v (Value.slice none 0 0), AV.sy (Value.int IntKind.i64 (rreadW r 0).snd)]) (hq := ?_)
   rw [hw]
   refine ⟨(of_eqP (C := Same 0 ∧ (Same IntKind.i64 ∧ Same (rreadW r 0).snd) ∧ True) (by kernel_rfl) (by (and_intros <;> try exact cl))), (endL_cons (B0 := AB.mem 45 none [AV.ow 1 r.n, AV.ow 2 r.n, AV.sy (Value.int IntKind.i64 r.w), AV.im 1 r.kn r.kf, AV.sy (Value.int IntKind.i64 r.torn), AV.sy (Value.int IntKind.i64 r.at_), AV.sy (Value.int IntKind.i64 r.many), AV.sy (Value.bool r.down)]) (by kernel_rfl) (of_eqP (C := 45 = 45 ∧ (none : Option Nat) = none ∧ (Same 1 ∧ Same r.n) ∧ (Same 2 ∧ Same r.n) ∧ (Same IntKind.i64 ∧ Same r.w) ∧ (Same 1 ∧ Same r.kn ∧ (∀ (r_1 : Nat), r_1 < r.kn → r.kf r_1 = r.kf r_1)) ∧ (Same IntKind.i64 ∧ Same r.torn) ∧ (Same IntKind.i64 ∧ Same r.at_) ∧ (Same IntKind.i64 ∧ Same r.many) ∧ Same r.down ∧ True) (by kernel_rfl) (by (and_intros <;> try exact cl))) (endL_cons (B0 := AB.rw 36 1 r.n r.sf) (by kernel_rfl) (of_eqP (C := 36 = 36 ∧ Same 1 ∧ Same r.n ∧ (∀ (r_1 : Nat), r_1 < r.n → r.sf r_1 = r.sf r_1)) (by kernel_rfl) (by (and_intros <;> try exact cl))) (endL_cons (B0 := AB.rw 36 1 r.n r.cf) (by kernel_rfl) (of_eqP (C := 36 = 36 ∧ Same 1 ∧ Same r.n ∧ (∀ (r_1 : Nat), r_1 < r.n → r.cf r_1 = r.cf r_1)) (by kernel_rfl) (by (and_intros <;> try exact cl))) endL_nil)))⟩
 intro h1
 refine To.R (C := (Same r.n ∧ Same r.n ∧ Same r.n) ∧ r.Ok ∧ True) (h := ?_)
 refine To.Bn ((rreadW r 1).snd = 0) (h := ?_) (g := ?_)
 · intro h2
   have hw : rbothW r = ([], (rreadW r 1).2) := by unfold rbothW; rw [if_neg (by omega), if_pos h2]
   refine To.R (h := ?_)
   refine To.E (AV.tup [AV.v (Value.slice none 0 0), AV.sy (Value.int IntKind.i64 (rreadW r 1).snd)]) (hq := ?_)
   rw [hw]
   refine ⟨(of_eqP (C := Same 0 ∧ (Same IntKind.i64 ∧ Same (rreadW r 1).snd) ∧ True) (by kernel_rfl) (by (and_intros <;> try exact cl))), (endL_cons (B0 := AB.mem 45 none [AV.ow 1 r.n, AV.ow 2 r.n, AV.sy (Value.int IntKind.i64 r.w), AV.im 1 r.kn r.kf, AV.sy (Value.int IntKind.i64 r.torn), AV.sy (Value.int IntKind.i64 r.at_), AV.sy (Value.int IntKind.i64 r.many), AV.sy (Value.bool r.down)]) (by kernel_rfl) (of_eqP (C := 45 = 45 ∧ (none : Option Nat) = none ∧ (Same 1 ∧ Same r.n) ∧ (Same 2 ∧ Same r.n) ∧ (Same IntKind.i64 ∧ Same r.w) ∧ (Same 1 ∧ Same r.kn ∧ (∀ (r_1 : Nat), r_1 < r.kn → r.kf r_1 = r.kf r_1)) ∧ (Same IntKind.i64 ∧ Same r.torn) ∧ (Same IntKind.i64 ∧ Same r.at_) ∧ (Same IntKind.i64 ∧ Same r.many) ∧ Same r.down ∧ True) (by kernel_rfl) (by (and_intros <;> try exact cl))) (endL_cons (B0 := AB.rw 36 1 r.n r.sf) (by kernel_rfl) (of_eqP (C := 36 = 36 ∧ Same 1 ∧ Same r.n ∧ (∀ (r_1 : Nat), r_1 < r.n → r.sf r_1 = r.sf r_1)) (by kernel_rfl) (by (and_intros <;> try exact cl))) (endL_cons (B0 := AB.rw 36 1 r.n r.cf) (by kernel_rfl) (of_eqP (C := 36 = 36 ∧ Same 1 ∧ Same r.n ∧ (∀ (r_1 : Nat), r_1 < r.n → r.cf r_1 = r.cf r_1)) (by kernel_rfl) (by (and_intros <;> try exact cl))) endL_nil)))⟩
 intro h2
 have hw : rbothW r = (bothL (evenR (rreadW r 0).1) (oddR (rreadW r 1).1), 0) := by unfold rbothW; rw [if_neg (by omega), if_neg (by omega)]
 refine To.R (C := True ∧ True) (h := ?_)
 refine To.Bd (decE (rreadW r 0).fst = 0) (h := ?_) (g := ?_)
 · intro a1
   refine To.R (C := (0 : Int) ≤ (decR (rreadW r 0).fst).n ∧ (0 : Int) < 2) (h := ?_)
   refine To.Bd (((decR (rreadW r 0).fst).n : Int) % 2 = 0) (h := ?_) (g := ?_)
   · intro a2
     refine To.R (h := ?_)
     refine To.Bd (decE (rreadW r 1).fst = 0) (h := ?_) (g := ?_)
     · intro b1
       refine To.R (C := (0 : Int) ≤ (decR (rreadW r 1).fst).n ∧ (0 : Int) < 2) (h := ?_)
       refine To.Bd (((decR (rreadW r 1).fst).n : Int) % 2 = 1) (h := ?_) (g := ?_)
       · intro b2
         refine To.R (h := ?_)
         refine To.Bd (((decR (rreadW r 1).fst).n : Int) < (decR (rreadW r 0).fst).n) (h := ?_) (g := ?_)
         · intro b3
           have hw2 : rbothW r = ([decR (rreadW r 0).1, decR (rreadW r 1).1], 0) := by rw [hw, evenR_yes a1 a2, oddR_yes b1 b2]; exact congrArg (fun l => (l, (0 : Int))) (if_pos (by omega))
           refine To.R (h := ?_)
           refine To.frz 5 false [3, 2] (by kernel_rfl) (C := True) (by kernel_rfl) (by and_intros <;> exact cl) ?_
           refine To.E (AV.tup [AV.im 3 2 fun r_1 ↦ List.take ([AV.sy (Value.int IntKind.u64 (decR (rreadW r 0).fst).n), AV.sy (Value.int IntKind.i64 (decR (rreadW r 0).fst).len), AV.sy (Value.int IntKind.u32 (decR (rreadW r 0).fst).sum), AV.sy (Value.int IntKind.u64 (decR (rreadW r 1).fst).n), AV.sy (Value.int IntKind.i64 (decR (rreadW r 1).fst).len), AV.sy (Value.int IntKind.u32 (decR (rreadW r 1).fst).sum)].length / 2) (List.drop (r_1 * ([AV.sy (Value.int IntKind.u64 (decR (rreadW r 0).fst).n), AV.sy (Value.int IntKind.i64 (decR (rreadW r 0).fst).len), AV.sy (Value.int IntKind.u32 (decR (rreadW r 0).fst).sum), AV.sy (Value.int IntKind.u64 (decR (rreadW r 1).fst).n), AV.sy (Value.int IntKind.i64 (decR (rreadW r 1).fst).len), AV.sy (Value.int IntKind.u32 (decR (rreadW r 1).fst).sum)].length / 2)) [AV.sy (Value.int IntKind.u64 (decR (rreadW r 0).fst).n), AV.sy (Value.int IntKind.i64 (decR (rreadW r 0).fst).len), AV.sy (Value.int IntKind.u32 (decR (rreadW r 0).fst).sum), AV.sy (Value.int IntKind.u64 (decR (rreadW r 1).fst).n), AV.sy (Value.int IntKind.i64 (decR (rreadW r 1).fst).len), AV.sy (Value.int IntKind.u32 (decR (rreadW r 1).fst).sum)]), AV.v (Value.int IntKind.i64 0)]) (hq := ?_)
           rw [hw2]
           refine ⟨(of_eqP (C := (Same 3 ∧ Same 2 ∧ (∀ (r_1 : Nat), r_1 < 2 → (fun r_2 ↦ List.take ([AV.sy (Value.int IntKind.u64 (decR (rreadW r 0).fst).n), AV.sy (Value.int IntKind.i64 (decR (rreadW r 0).fst).len), AV.sy (Value.int IntKind.u32 (decR (rreadW r 0).fst).sum), AV.sy (Value.int IntKind.u64 (decR (rreadW r 1).fst).n), AV.sy (Value.int IntKind.i64 (decR (rreadW r 1).fst).len), AV.sy (Value.int IntKind.u32 (decR (rreadW r 1).fst).sum)].length / 2) (List.drop (r_2 * ([AV.sy (Value.int IntKind.u64 (decR (rreadW r 0).fst).n), AV.sy (Value.int IntKind.i64 (decR (rreadW r 0).fst).len), AV.sy (Value.int IntKind.u32 (decR (rreadW r 0).fst).sum), AV.sy (Value.int IntKind.u64 (decR (rreadW r 1).fst).n), AV.sy (Value.int IntKind.i64 (decR (rreadW r 1).fst).len), AV.sy (Value.int IntKind.u32 (decR (rreadW r 1).fst).sum)].length / 2)) [AV.sy (Value.int IntKind.u64 (decR (rreadW r 0).fst).n), AV.sy (Value.int IntKind.i64 (decR (rreadW r 0).fst).len), AV.sy (Value.int IntKind.u32 (decR (rreadW r 0).fst).sum), AV.sy (Value.int IntKind.u64 (decR (rreadW r 1).fst).n), AV.sy (Value.int IntKind.i64 (decR (rreadW r 1).fst).len), AV.sy (Value.int IntKind.u32 (decR (rreadW r 1).fst).sum)])) r_1 = rowsOf rootAV [decR (rreadW r 0).fst, decR (rreadW r 1).fst] r_1)) ∧ (Same IntKind.i64 ∧ Same (0 : Int)) ∧ True) (by kernel_rfl) ?_), (endL_cons (B0 := AB.mem 45 none [AV.ow 1 r.n, AV.ow 2 r.n, AV.sy (Value.int IntKind.i64 r.w), AV.im 1 r.kn r.kf, AV.sy (Value.int IntKind.i64 r.torn), AV.sy (Value.int IntKind.i64 r.at_), AV.sy (Value.int IntKind.i64 r.many), AV.sy (Value.bool r.down)]) (by kernel_rfl) (of_eqP (C := 45 = 45 ∧ (none : Option Nat) = none ∧ (Same 1 ∧ Same r.n) ∧ (Same 2 ∧ Same r.n) ∧ (Same IntKind.i64 ∧ Same r.w) ∧ (Same 1 ∧ Same r.kn ∧ (∀ (r_1 : Nat), r_1 < r.kn → r.kf r_1 = r.kf r_1)) ∧ (Same IntKind.i64 ∧ Same r.torn) ∧ (Same IntKind.i64 ∧ Same r.at_) ∧ (Same IntKind.i64 ∧ Same r.many) ∧ Same r.down ∧ True) (by kernel_rfl) (by (and_intros <;> try exact cl))) (endL_cons (B0 := AB.rw 36 1 r.n r.sf) (by kernel_rfl) (of_eqP (C := 36 = 36 ∧ Same 1 ∧ Same r.n ∧ (∀ (r_1 : Nat), r_1 < r.n → r.sf r_1 = r.sf r_1)) (by kernel_rfl) (by (and_intros <;> try exact cl))) (endL_cons (B0 := AB.rw 36 1 r.n r.cf) (by kernel_rfl) (of_eqP (C := 36 = 36 ∧ Same 1 ∧ Same r.n ∧ (∀ (r_1 : Nat), r_1 < r.n → r.cf r_1 = r.cf r_1)) (by kernel_rfl) (by (and_intros <;> try exact cl))) endL_nil)))⟩
           exact ⟨⟨rfl, rfl, rows2' (by kernel_rfl) (by kernel_rfl)⟩, ⟨rfl, rfl⟩, trivial⟩
         · intro b3
           have hw2 : rbothW r = ([decR (rreadW r 1).1, decR (rreadW r 0).1], 0) := by rw [hw, evenR_yes a1 a2, oddR_yes b1 b2]; exact congrArg (fun l => (l, (0 : Int))) (if_neg (by omega))
           refine To.R (h := ?_)
           refine To.frz 5 false [3, 2] (by kernel_rfl) (C := True) (by kernel_rfl) (by and_intros <;> exact cl) ?_
           refine To.E (AV.tup [AV.im 3 2 fun r_1 ↦ List.take ([AV.sy (Value.int IntKind.u64 (decR (rreadW r 1).fst).n), AV.sy (Value.int IntKind.i64 (decR (rreadW r 1).fst).len), AV.sy (Value.int IntKind.u32 (decR (rreadW r 1).fst).sum), AV.sy (Value.int IntKind.u64 (decR (rreadW r 0).fst).n), AV.sy (Value.int IntKind.i64 (decR (rreadW r 0).fst).len), AV.sy (Value.int IntKind.u32 (decR (rreadW r 0).fst).sum)].length / 2) (List.drop (r_1 * ([AV.sy (Value.int IntKind.u64 (decR (rreadW r 1).fst).n), AV.sy (Value.int IntKind.i64 (decR (rreadW r 1).fst).len), AV.sy (Value.int IntKind.u32 (decR (rreadW r 1).fst).sum), AV.sy (Value.int IntKind.u64 (decR (rreadW r 0).fst).n), AV.sy (Value.int IntKind.i64 (decR (rreadW r 0).fst).len), AV.sy (Value.int IntKind.u32 (decR (rreadW r 0).fst).sum)].length / 2)) [AV.sy (Value.int IntKind.u64 (decR (rreadW r 1).fst).n), AV.sy (Value.int IntKind.i64 (decR (rreadW r 1).fst).len), AV.sy (Value.int IntKind.u32 (decR (rreadW r 1).fst).sum), AV.sy (Value.int IntKind.u64 (decR (rreadW r 0).fst).n), AV.sy (Value.int IntKind.i64 (decR (rreadW r 0).fst).len), AV.sy (Value.int IntKind.u32 (decR (rreadW r 0).fst).sum)]), AV.v (Value.int IntKind.i64 0)]) (hq := ?_)
           rw [hw2]
           refine ⟨(of_eqP (C := (Same 3 ∧ Same 2 ∧ (∀ (r_1 : Nat), r_1 < 2 → (fun r_2 ↦ List.take ([AV.sy (Value.int IntKind.u64 (decR (rreadW r 1).fst).n), AV.sy (Value.int IntKind.i64 (decR (rreadW r 1).fst).len), AV.sy (Value.int IntKind.u32 (decR (rreadW r 1).fst).sum), AV.sy (Value.int IntKind.u64 (decR (rreadW r 0).fst).n), AV.sy (Value.int IntKind.i64 (decR (rreadW r 0).fst).len), AV.sy (Value.int IntKind.u32 (decR (rreadW r 0).fst).sum)].length / 2) (List.drop (r_2 * ([AV.sy (Value.int IntKind.u64 (decR (rreadW r 1).fst).n), AV.sy (Value.int IntKind.i64 (decR (rreadW r 1).fst).len), AV.sy (Value.int IntKind.u32 (decR (rreadW r 1).fst).sum), AV.sy (Value.int IntKind.u64 (decR (rreadW r 0).fst).n), AV.sy (Value.int IntKind.i64 (decR (rreadW r 0).fst).len), AV.sy (Value.int IntKind.u32 (decR (rreadW r 0).fst).sum)].length / 2)) [AV.sy (Value.int IntKind.u64 (decR (rreadW r 1).fst).n), AV.sy (Value.int IntKind.i64 (decR (rreadW r 1).fst).len), AV.sy (Value.int IntKind.u32 (decR (rreadW r 1).fst).sum), AV.sy (Value.int IntKind.u64 (decR (rreadW r 0).fst).n), AV.sy (Value.int IntKind.i64 (decR (rreadW r 0).fst).len), AV.sy (Value.int IntKind.u32 (decR (rreadW r 0).fst).sum)])) r_1 = rowsOf rootAV [decR (rreadW r 1).fst, decR (rreadW r 0).fst] r_1)) ∧ (Same IntKind.i64 ∧ Same (0 : Int)) ∧ True) (by kernel_rfl) ?_), (endL_cons (B0 := AB.mem 45 none [AV.ow 1 r.n, AV.ow 2 r.n, AV.sy (Value.int IntKind.i64 r.w), AV.im 1 r.kn r.kf, AV.sy (Value.int IntKind.i64 r.torn), AV.sy (Value.int IntKind.i64 r.at_), AV.sy (Value.int IntKind.i64 r.many), AV.sy (Value.bool r.down)]) (by kernel_rfl) (of_eqP (C := 45 = 45 ∧ (none : Option Nat) = none ∧ (Same 1 ∧ Same r.n) ∧ (Same 2 ∧ Same r.n) ∧ (Same IntKind.i64 ∧ Same r.w) ∧ (Same 1 ∧ Same r.kn ∧ (∀ (r_1 : Nat), r_1 < r.kn → r.kf r_1 = r.kf r_1)) ∧ (Same IntKind.i64 ∧ Same r.torn) ∧ (Same IntKind.i64 ∧ Same r.at_) ∧ (Same IntKind.i64 ∧ Same r.many) ∧ Same r.down ∧ True) (by kernel_rfl) (by (and_intros <;> try exact cl))) (endL_cons (B0 := AB.rw 36 1 r.n r.sf) (by kernel_rfl) (of_eqP (C := 36 = 36 ∧ Same 1 ∧ Same r.n ∧ (∀ (r_1 : Nat), r_1 < r.n → r.sf r_1 = r.sf r_1)) (by kernel_rfl) (by (and_intros <;> try exact cl))) (endL_cons (B0 := AB.rw 36 1 r.n r.cf) (by kernel_rfl) (of_eqP (C := 36 = 36 ∧ Same 1 ∧ Same r.n ∧ (∀ (r_1 : Nat), r_1 < r.n → r.cf r_1 = r.cf r_1)) (by kernel_rfl) (by (and_intros <;> try exact cl))) endL_nil)))⟩
           exact ⟨⟨rfl, rfl, rows2' (by kernel_rfl) (by kernel_rfl)⟩, ⟨rfl, rfl⟩, trivial⟩
       · intro b2
         have hw2 : rbothW r = ([decR (rreadW r 0).1], 0) := by rw [hw, evenR_yes a1 a2, oddR_no2 b2]; rfl
         refine To.R (h := ?_)
         refine To.frz 5 false [3, 2] (by kernel_rfl) (C := True) (by kernel_rfl) (by and_intros <;> exact cl) ?_
         refine To.E (AV.tup [AV.im 3 1 fun r_1 ↦ List.take ([AV.sy (Value.int IntKind.u64 (decR (rreadW r 0).fst).n), AV.sy (Value.int IntKind.i64 (decR (rreadW r 0).fst).len), AV.sy (Value.int IntKind.u32 (decR (rreadW r 0).fst).sum)].length / 1) (List.drop (r_1 * ([AV.sy (Value.int IntKind.u64 (decR (rreadW r 0).fst).n), AV.sy (Value.int IntKind.i64 (decR (rreadW r 0).fst).len), AV.sy (Value.int IntKind.u32 (decR (rreadW r 0).fst).sum)].length / 1)) [AV.sy (Value.int IntKind.u64 (decR (rreadW r 0).fst).n), AV.sy (Value.int IntKind.i64 (decR (rreadW r 0).fst).len), AV.sy (Value.int IntKind.u32 (decR (rreadW r 0).fst).sum)]), AV.v (Value.int IntKind.i64 0)]) (hq := ?_)
         rw [hw2]
         refine ⟨(of_eqP (C := (Same 3 ∧ Same 1 ∧ (∀ (r_1 : Nat), r_1 < 1 → (fun r_2 ↦ List.take ([AV.sy (Value.int IntKind.u64 (decR (rreadW r 0).fst).n), AV.sy (Value.int IntKind.i64 (decR (rreadW r 0).fst).len), AV.sy (Value.int IntKind.u32 (decR (rreadW r 0).fst).sum)].length / 1) (List.drop (r_2 * ([AV.sy (Value.int IntKind.u64 (decR (rreadW r 0).fst).n), AV.sy (Value.int IntKind.i64 (decR (rreadW r 0).fst).len), AV.sy (Value.int IntKind.u32 (decR (rreadW r 0).fst).sum)].length / 1)) [AV.sy (Value.int IntKind.u64 (decR (rreadW r 0).fst).n), AV.sy (Value.int IntKind.i64 (decR (rreadW r 0).fst).len), AV.sy (Value.int IntKind.u32 (decR (rreadW r 0).fst).sum)])) r_1 = rowsOf rootAV [decR (rreadW r 0).fst] r_1)) ∧ (Same IntKind.i64 ∧ Same (0 : Int)) ∧ True) (by kernel_rfl) ?_), (endL_cons (B0 := AB.mem 45 none [AV.ow 1 r.n, AV.ow 2 r.n, AV.sy (Value.int IntKind.i64 r.w), AV.im 1 r.kn r.kf, AV.sy (Value.int IntKind.i64 r.torn), AV.sy (Value.int IntKind.i64 r.at_), AV.sy (Value.int IntKind.i64 r.many), AV.sy (Value.bool r.down)]) (by kernel_rfl) (of_eqP (C := 45 = 45 ∧ (none : Option Nat) = none ∧ (Same 1 ∧ Same r.n) ∧ (Same 2 ∧ Same r.n) ∧ (Same IntKind.i64 ∧ Same r.w) ∧ (Same 1 ∧ Same r.kn ∧ (∀ (r_1 : Nat), r_1 < r.kn → r.kf r_1 = r.kf r_1)) ∧ (Same IntKind.i64 ∧ Same r.torn) ∧ (Same IntKind.i64 ∧ Same r.at_) ∧ (Same IntKind.i64 ∧ Same r.many) ∧ Same r.down ∧ True) (by kernel_rfl) (by (and_intros <;> try exact cl))) (endL_cons (B0 := AB.rw 36 1 r.n r.sf) (by kernel_rfl) (of_eqP (C := 36 = 36 ∧ Same 1 ∧ Same r.n ∧ (∀ (r_1 : Nat), r_1 < r.n → r.sf r_1 = r.sf r_1)) (by kernel_rfl) (by (and_intros <;> try exact cl))) (endL_cons (B0 := AB.rw 36 1 r.n r.cf) (by kernel_rfl) (of_eqP (C := 36 = 36 ∧ Same 1 ∧ Same r.n ∧ (∀ (r_1 : Nat), r_1 < r.n → r.cf r_1 = r.cf r_1)) (by kernel_rfl) (by (and_intros <;> try exact cl))) endL_nil)))⟩
         exact ⟨⟨rfl, rfl, rows1' (by kernel_rfl)⟩, ⟨rfl, rfl⟩, trivial⟩
     · intro b1
       have hw2 : rbothW r = ([decR (rreadW r 0).1], 0) := by rw [hw, evenR_yes a1 a2, oddR_no b1]; rfl
       refine To.R (h := ?_)
       refine To.frz 5 false [3, 2] (by kernel_rfl) (C := True) (by kernel_rfl) (by and_intros <;> exact cl) ?_
       refine To.E (AV.tup [AV.im 3 1 fun r_1 ↦ List.take ([AV.sy (Value.int IntKind.u64 (decR (rreadW r 0).fst).n), AV.sy (Value.int IntKind.i64 (decR (rreadW r 0).fst).len), AV.sy (Value.int IntKind.u32 (decR (rreadW r 0).fst).sum)].length / 1) (List.drop (r_1 * ([AV.sy (Value.int IntKind.u64 (decR (rreadW r 0).fst).n), AV.sy (Value.int IntKind.i64 (decR (rreadW r 0).fst).len), AV.sy (Value.int IntKind.u32 (decR (rreadW r 0).fst).sum)].length / 1)) [AV.sy (Value.int IntKind.u64 (decR (rreadW r 0).fst).n), AV.sy (Value.int IntKind.i64 (decR (rreadW r 0).fst).len), AV.sy (Value.int IntKind.u32 (decR (rreadW r 0).fst).sum)]), AV.v (Value.int IntKind.i64 0)]) (hq := ?_)
       rw [hw2]
       refine ⟨(of_eqP (C := (Same 3 ∧ Same 1 ∧ (∀ (r_1 : Nat), r_1 < 1 → (fun r_2 ↦ List.take ([AV.sy (Value.int IntKind.u64 (decR (rreadW r 0).fst).n), AV.sy (Value.int IntKind.i64 (decR (rreadW r 0).fst).len), AV.sy (Value.int IntKind.u32 (decR (rreadW r 0).fst).sum)].length / 1) (List.drop (r_2 * ([AV.sy (Value.int IntKind.u64 (decR (rreadW r 0).fst).n), AV.sy (Value.int IntKind.i64 (decR (rreadW r 0).fst).len), AV.sy (Value.int IntKind.u32 (decR (rreadW r 0).fst).sum)].length / 1)) [AV.sy (Value.int IntKind.u64 (decR (rreadW r 0).fst).n), AV.sy (Value.int IntKind.i64 (decR (rreadW r 0).fst).len), AV.sy (Value.int IntKind.u32 (decR (rreadW r 0).fst).sum)])) r_1 = rowsOf rootAV [decR (rreadW r 0).fst] r_1)) ∧ (Same IntKind.i64 ∧ Same (0 : Int)) ∧ True) (by kernel_rfl) ?_), (endL_cons (B0 := AB.mem 45 none [AV.ow 1 r.n, AV.ow 2 r.n, AV.sy (Value.int IntKind.i64 r.w), AV.im 1 r.kn r.kf, AV.sy (Value.int IntKind.i64 r.torn), AV.sy (Value.int IntKind.i64 r.at_), AV.sy (Value.int IntKind.i64 r.many), AV.sy (Value.bool r.down)]) (by kernel_rfl) (of_eqP (C := 45 = 45 ∧ (none : Option Nat) = none ∧ (Same 1 ∧ Same r.n) ∧ (Same 2 ∧ Same r.n) ∧ (Same IntKind.i64 ∧ Same r.w) ∧ (Same 1 ∧ Same r.kn ∧ (∀ (r_1 : Nat), r_1 < r.kn → r.kf r_1 = r.kf r_1)) ∧ (Same IntKind.i64 ∧ Same r.torn) ∧ (Same IntKind.i64 ∧ Same r.at_) ∧ (Same IntKind.i64 ∧ Same r.many) ∧ Same r.down ∧ True) (by kernel_rfl) (by (and_intros <;> try exact cl))) (endL_cons (B0 := AB.rw 36 1 r.n r.sf) (by kernel_rfl) (of_eqP (C := 36 = 36 ∧ Same 1 ∧ Same r.n ∧ (∀ (r_1 : Nat), r_1 < r.n → r.sf r_1 = r.sf r_1)) (by kernel_rfl) (by (and_intros <;> try exact cl))) (endL_cons (B0 := AB.rw 36 1 r.n r.cf) (by kernel_rfl) (of_eqP (C := 36 = 36 ∧ Same 1 ∧ Same r.n ∧ (∀ (r_1 : Nat), r_1 < r.n → r.cf r_1 = r.cf r_1)) (by kernel_rfl) (by (and_intros <;> try exact cl))) endL_nil)))⟩
       exact ⟨⟨rfl, rfl, rows1' (by kernel_rfl)⟩, ⟨rfl, rfl⟩, trivial⟩
   · intro a2
     refine To.R (h := ?_)
     refine To.Bd (decE (rreadW r 1).fst = 0) (h := ?_) (g := ?_)
     · intro b1
       refine To.R (C := (0 : Int) ≤ (decR (rreadW r 1).fst).n ∧ (0 : Int) < 2) (h := ?_)
       refine To.Bd (((decR (rreadW r 1).fst).n : Int) % 2 = 1) (h := ?_) (g := ?_)
       · intro b2
         have hw2 : rbothW r = ([decR (rreadW r 1).1], 0) := by rw [hw, evenR_no2 a2, oddR_yes b1 b2]; rfl
         refine To.R (h := ?_)
         refine To.frz 5 false [3, 2] (by kernel_rfl) (C := True) (by kernel_rfl) (by and_intros <;> exact cl) ?_
         refine To.E (AV.tup [AV.im 3 1 fun r_1 ↦ List.take ([AV.sy (Value.int IntKind.u64 (decR (rreadW r 1).fst).n), AV.sy (Value.int IntKind.i64 (decR (rreadW r 1).fst).len), AV.sy (Value.int IntKind.u32 (decR (rreadW r 1).fst).sum)].length / 1) (List.drop (r_1 * ([AV.sy (Value.int IntKind.u64 (decR (rreadW r 1).fst).n), AV.sy (Value.int IntKind.i64 (decR (rreadW r 1).fst).len), AV.sy (Value.int IntKind.u32 (decR (rreadW r 1).fst).sum)].length / 1)) [AV.sy (Value.int IntKind.u64 (decR (rreadW r 1).fst).n), AV.sy (Value.int IntKind.i64 (decR (rreadW r 1).fst).len), AV.sy (Value.int IntKind.u32 (decR (rreadW r 1).fst).sum)]), AV.v (Value.int IntKind.i64 0)]) (hq := ?_)
         rw [hw2]
         refine ⟨(of_eqP (C := (Same 3 ∧ Same 1 ∧ (∀ (r_1 : Nat), r_1 < 1 → (fun r_2 ↦ List.take ([AV.sy (Value.int IntKind.u64 (decR (rreadW r 1).fst).n), AV.sy (Value.int IntKind.i64 (decR (rreadW r 1).fst).len), AV.sy (Value.int IntKind.u32 (decR (rreadW r 1).fst).sum)].length / 1) (List.drop (r_2 * ([AV.sy (Value.int IntKind.u64 (decR (rreadW r 1).fst).n), AV.sy (Value.int IntKind.i64 (decR (rreadW r 1).fst).len), AV.sy (Value.int IntKind.u32 (decR (rreadW r 1).fst).sum)].length / 1)) [AV.sy (Value.int IntKind.u64 (decR (rreadW r 1).fst).n), AV.sy (Value.int IntKind.i64 (decR (rreadW r 1).fst).len), AV.sy (Value.int IntKind.u32 (decR (rreadW r 1).fst).sum)])) r_1 = rowsOf rootAV [decR (rreadW r 1).fst] r_1)) ∧ (Same IntKind.i64 ∧ Same (0 : Int)) ∧ True) (by kernel_rfl) ?_), (endL_cons (B0 := AB.mem 45 none [AV.ow 1 r.n, AV.ow 2 r.n, AV.sy (Value.int IntKind.i64 r.w), AV.im 1 r.kn r.kf, AV.sy (Value.int IntKind.i64 r.torn), AV.sy (Value.int IntKind.i64 r.at_), AV.sy (Value.int IntKind.i64 r.many), AV.sy (Value.bool r.down)]) (by kernel_rfl) (of_eqP (C := 45 = 45 ∧ (none : Option Nat) = none ∧ (Same 1 ∧ Same r.n) ∧ (Same 2 ∧ Same r.n) ∧ (Same IntKind.i64 ∧ Same r.w) ∧ (Same 1 ∧ Same r.kn ∧ (∀ (r_1 : Nat), r_1 < r.kn → r.kf r_1 = r.kf r_1)) ∧ (Same IntKind.i64 ∧ Same r.torn) ∧ (Same IntKind.i64 ∧ Same r.at_) ∧ (Same IntKind.i64 ∧ Same r.many) ∧ Same r.down ∧ True) (by kernel_rfl) (by (and_intros <;> try exact cl))) (endL_cons (B0 := AB.rw 36 1 r.n r.sf) (by kernel_rfl) (of_eqP (C := 36 = 36 ∧ Same 1 ∧ Same r.n ∧ (∀ (r_1 : Nat), r_1 < r.n → r.sf r_1 = r.sf r_1)) (by kernel_rfl) (by (and_intros <;> try exact cl))) (endL_cons (B0 := AB.rw 36 1 r.n r.cf) (by kernel_rfl) (of_eqP (C := 36 = 36 ∧ Same 1 ∧ Same r.n ∧ (∀ (r_1 : Nat), r_1 < r.n → r.cf r_1 = r.cf r_1)) (by kernel_rfl) (by (and_intros <;> try exact cl))) endL_nil)))⟩
         exact ⟨⟨rfl, rfl, rows1' (by kernel_rfl)⟩, ⟨rfl, rfl⟩, trivial⟩
       · intro b2
         have hw2 : rbothW r = ([], 0) := by rw [hw, evenR_no2 a2, oddR_no2 b2]; rfl
         refine To.R (h := ?_)
         skip
         refine To.E (AV.tup [AV.v (Value.slice none 0 0), AV.v (Value.int IntKind.i64 0)]) (hq := ?_)
         rw [hw2]
         refine ⟨(of_eqP (C := Same 0 ∧ (Same IntKind.i64 ∧ Same (0 : Int)) ∧ True) (by kernel_rfl) (by (and_intros <;> try exact cl))), (endL_cons (B0 := AB.mem 45 none [AV.ow 1 r.n, AV.ow 2 r.n, AV.sy (Value.int IntKind.i64 r.w), AV.im 1 r.kn r.kf, AV.sy (Value.int IntKind.i64 r.torn), AV.sy (Value.int IntKind.i64 r.at_), AV.sy (Value.int IntKind.i64 r.many), AV.sy (Value.bool r.down)]) (by kernel_rfl) (of_eqP (C := 45 = 45 ∧ (none : Option Nat) = none ∧ (Same 1 ∧ Same r.n) ∧ (Same 2 ∧ Same r.n) ∧ (Same IntKind.i64 ∧ Same r.w) ∧ (Same 1 ∧ Same r.kn ∧ (∀ (r_1 : Nat), r_1 < r.kn → r.kf r_1 = r.kf r_1)) ∧ (Same IntKind.i64 ∧ Same r.torn) ∧ (Same IntKind.i64 ∧ Same r.at_) ∧ (Same IntKind.i64 ∧ Same r.many) ∧ Same r.down ∧ True) (by kernel_rfl) (by (and_intros <;> try exact cl))) (endL_cons (B0 := AB.rw 36 1 r.n r.sf) (by kernel_rfl) (of_eqP (C := 36 = 36 ∧ Same 1 ∧ Same r.n ∧ (∀ (r_1 : Nat), r_1 < r.n → r.sf r_1 = r.sf r_1)) (by kernel_rfl) (by (and_intros <;> try exact cl))) (endL_cons (B0 := AB.rw 36 1 r.n r.cf) (by kernel_rfl) (of_eqP (C := 36 = 36 ∧ Same 1 ∧ Same r.n ∧ (∀ (r_1 : Nat), r_1 < r.n → r.cf r_1 = r.cf r_1)) (by kernel_rfl) (by (and_intros <;> try exact cl))) endL_nil)))⟩
     · intro b1
       have hw2 : rbothW r = ([], 0) := by rw [hw, evenR_no2 a2, oddR_no b1]; rfl
       refine To.R (h := ?_)
       skip
       refine To.E (AV.tup [AV.v (Value.slice none 0 0), AV.v (Value.int IntKind.i64 0)]) (hq := ?_)
       rw [hw2]
       refine ⟨(of_eqP (C := Same 0 ∧ (Same IntKind.i64 ∧ Same (0 : Int)) ∧ True) (by kernel_rfl) (by (and_intros <;> try exact cl))), (endL_cons (B0 := AB.mem 45 none [AV.ow 1 r.n, AV.ow 2 r.n, AV.sy (Value.int IntKind.i64 r.w), AV.im 1 r.kn r.kf, AV.sy (Value.int IntKind.i64 r.torn), AV.sy (Value.int IntKind.i64 r.at_), AV.sy (Value.int IntKind.i64 r.many), AV.sy (Value.bool r.down)]) (by kernel_rfl) (of_eqP (C := 45 = 45 ∧ (none : Option Nat) = none ∧ (Same 1 ∧ Same r.n) ∧ (Same 2 ∧ Same r.n) ∧ (Same IntKind.i64 ∧ Same r.w) ∧ (Same 1 ∧ Same r.kn ∧ (∀ (r_1 : Nat), r_1 < r.kn → r.kf r_1 = r.kf r_1)) ∧ (Same IntKind.i64 ∧ Same r.torn) ∧ (Same IntKind.i64 ∧ Same r.at_) ∧ (Same IntKind.i64 ∧ Same r.many) ∧ Same r.down ∧ True) (by kernel_rfl) (by (and_intros <;> try exact cl))) (endL_cons (B0 := AB.rw 36 1 r.n r.sf) (by kernel_rfl) (of_eqP (C := 36 = 36 ∧ Same 1 ∧ Same r.n ∧ (∀ (r_1 : Nat), r_1 < r.n → r.sf r_1 = r.sf r_1)) (by kernel_rfl) (by (and_intros <;> try exact cl))) (endL_cons (B0 := AB.rw 36 1 r.n r.cf) (by kernel_rfl) (of_eqP (C := 36 = 36 ∧ Same 1 ∧ Same r.n ∧ (∀ (r_1 : Nat), r_1 < r.n → r.cf r_1 = r.cf r_1)) (by kernel_rfl) (by (and_intros <;> try exact cl))) endL_nil)))⟩
 · intro a1
   refine To.R (h := ?_)
   refine To.Bd (decE (rreadW r 1).fst = 0) (h := ?_) (g := ?_)
   · intro b1
     refine To.R (C := (0 : Int) ≤ (decR (rreadW r 1).fst).n ∧ (0 : Int) < 2) (h := ?_)
     refine To.Bd (((decR (rreadW r 1).fst).n : Int) % 2 = 1) (h := ?_) (g := ?_)
     · intro b2
       have hw2 : rbothW r = ([decR (rreadW r 1).1], 0) := by rw [hw, evenR_no a1, oddR_yes b1 b2]; rfl
       refine To.R (h := ?_)
       refine To.frz 5 false [3, 2] (by kernel_rfl) (C := True) (by kernel_rfl) (by and_intros <;> exact cl) ?_
       refine To.E (AV.tup [AV.im 3 1 fun r_1 ↦ List.take ([AV.sy (Value.int IntKind.u64 (decR (rreadW r 1).fst).n), AV.sy (Value.int IntKind.i64 (decR (rreadW r 1).fst).len), AV.sy (Value.int IntKind.u32 (decR (rreadW r 1).fst).sum)].length / 1) (List.drop (r_1 * ([AV.sy (Value.int IntKind.u64 (decR (rreadW r 1).fst).n), AV.sy (Value.int IntKind.i64 (decR (rreadW r 1).fst).len), AV.sy (Value.int IntKind.u32 (decR (rreadW r 1).fst).sum)].length / 1)) [AV.sy (Value.int IntKind.u64 (decR (rreadW r 1).fst).n), AV.sy (Value.int IntKind.i64 (decR (rreadW r 1).fst).len), AV.sy (Value.int IntKind.u32 (decR (rreadW r 1).fst).sum)]), AV.v (Value.int IntKind.i64 0)]) (hq := ?_)
       rw [hw2]
       refine ⟨(of_eqP (C := (Same 3 ∧ Same 1 ∧ (∀ (r_1 : Nat), r_1 < 1 → (fun r_2 ↦ List.take ([AV.sy (Value.int IntKind.u64 (decR (rreadW r 1).fst).n), AV.sy (Value.int IntKind.i64 (decR (rreadW r 1).fst).len), AV.sy (Value.int IntKind.u32 (decR (rreadW r 1).fst).sum)].length / 1) (List.drop (r_2 * ([AV.sy (Value.int IntKind.u64 (decR (rreadW r 1).fst).n), AV.sy (Value.int IntKind.i64 (decR (rreadW r 1).fst).len), AV.sy (Value.int IntKind.u32 (decR (rreadW r 1).fst).sum)].length / 1)) [AV.sy (Value.int IntKind.u64 (decR (rreadW r 1).fst).n), AV.sy (Value.int IntKind.i64 (decR (rreadW r 1).fst).len), AV.sy (Value.int IntKind.u32 (decR (rreadW r 1).fst).sum)])) r_1 = rowsOf rootAV [decR (rreadW r 1).fst] r_1)) ∧ (Same IntKind.i64 ∧ Same (0 : Int)) ∧ True) (by kernel_rfl) ?_), (endL_cons (B0 := AB.mem 45 none [AV.ow 1 r.n, AV.ow 2 r.n, AV.sy (Value.int IntKind.i64 r.w), AV.im 1 r.kn r.kf, AV.sy (Value.int IntKind.i64 r.torn), AV.sy (Value.int IntKind.i64 r.at_), AV.sy (Value.int IntKind.i64 r.many), AV.sy (Value.bool r.down)]) (by kernel_rfl) (of_eqP (C := 45 = 45 ∧ (none : Option Nat) = none ∧ (Same 1 ∧ Same r.n) ∧ (Same 2 ∧ Same r.n) ∧ (Same IntKind.i64 ∧ Same r.w) ∧ (Same 1 ∧ Same r.kn ∧ (∀ (r_1 : Nat), r_1 < r.kn → r.kf r_1 = r.kf r_1)) ∧ (Same IntKind.i64 ∧ Same r.torn) ∧ (Same IntKind.i64 ∧ Same r.at_) ∧ (Same IntKind.i64 ∧ Same r.many) ∧ Same r.down ∧ True) (by kernel_rfl) (by (and_intros <;> try exact cl))) (endL_cons (B0 := AB.rw 36 1 r.n r.sf) (by kernel_rfl) (of_eqP (C := 36 = 36 ∧ Same 1 ∧ Same r.n ∧ (∀ (r_1 : Nat), r_1 < r.n → r.sf r_1 = r.sf r_1)) (by kernel_rfl) (by (and_intros <;> try exact cl))) (endL_cons (B0 := AB.rw 36 1 r.n r.cf) (by kernel_rfl) (of_eqP (C := 36 = 36 ∧ Same 1 ∧ Same r.n ∧ (∀ (r_1 : Nat), r_1 < r.n → r.cf r_1 = r.cf r_1)) (by kernel_rfl) (by (and_intros <;> try exact cl))) endL_nil)))⟩
       exact ⟨⟨rfl, rfl, rows1' (by kernel_rfl)⟩, ⟨rfl, rfl⟩, trivial⟩
     · intro b2
       have hw2 : rbothW r = ([], 0) := by rw [hw, evenR_no a1, oddR_no2 b2]; rfl
       refine To.R (h := ?_)
       skip
       refine To.E (AV.tup [AV.v (Value.slice none 0 0), AV.v (Value.int IntKind.i64 0)]) (hq := ?_)
       rw [hw2]
       refine ⟨(of_eqP (C := Same 0 ∧ (Same IntKind.i64 ∧ Same (0 : Int)) ∧ True) (by kernel_rfl) (by (and_intros <;> try exact cl))), (endL_cons (B0 := AB.mem 45 none [AV.ow 1 r.n, AV.ow 2 r.n, AV.sy (Value.int IntKind.i64 r.w), AV.im 1 r.kn r.kf, AV.sy (Value.int IntKind.i64 r.torn), AV.sy (Value.int IntKind.i64 r.at_), AV.sy (Value.int IntKind.i64 r.many), AV.sy (Value.bool r.down)]) (by kernel_rfl) (of_eqP (C := 45 = 45 ∧ (none : Option Nat) = none ∧ (Same 1 ∧ Same r.n) ∧ (Same 2 ∧ Same r.n) ∧ (Same IntKind.i64 ∧ Same r.w) ∧ (Same 1 ∧ Same r.kn ∧ (∀ (r_1 : Nat), r_1 < r.kn → r.kf r_1 = r.kf r_1)) ∧ (Same IntKind.i64 ∧ Same r.torn) ∧ (Same IntKind.i64 ∧ Same r.at_) ∧ (Same IntKind.i64 ∧ Same r.many) ∧ Same r.down ∧ True) (by kernel_rfl) (by (and_intros <;> try exact cl))) (endL_cons (B0 := AB.rw 36 1 r.n r.sf) (by kernel_rfl) (of_eqP (C := 36 = 36 ∧ Same 1 ∧ Same r.n ∧ (∀ (r_1 : Nat), r_1 < r.n → r.sf r_1 = r.sf r_1)) (by kernel_rfl) (by (and_intros <;> try exact cl))) (endL_cons (B0 := AB.rw 36 1 r.n r.cf) (by kernel_rfl) (of_eqP (C := 36 = 36 ∧ Same 1 ∧ Same r.n ∧ (∀ (r_1 : Nat), r_1 < r.n → r.cf r_1 = r.cf r_1)) (by kernel_rfl) (by (and_intros <;> try exact cl))) endL_nil)))⟩
   · intro b1
     have hw2 : rbothW r = ([], 0) := by rw [hw, evenR_no a1, oddR_no b1]; rfl
     refine To.R (h := ?_)
     skip
     refine To.E (AV.tup [AV.v (Value.slice none 0 0), AV.v (Value.int IntKind.i64 0)]) (hq := ?_)
     rw [hw2]
     refine ⟨(of_eqP (C := Same 0 ∧ (Same IntKind.i64 ∧ Same (0 : Int)) ∧ True) (by kernel_rfl) (by (and_intros <;> try exact cl))), (endL_cons (B0 := AB.mem 45 none [AV.ow 1 r.n, AV.ow 2 r.n, AV.sy (Value.int IntKind.i64 r.w), AV.im 1 r.kn r.kf, AV.sy (Value.int IntKind.i64 r.torn), AV.sy (Value.int IntKind.i64 r.at_), AV.sy (Value.int IntKind.i64 r.many), AV.sy (Value.bool r.down)]) (by kernel_rfl) (of_eqP (C := 45 = 45 ∧ (none : Option Nat) = none ∧ (Same 1 ∧ Same r.n) ∧ (Same 2 ∧ Same r.n) ∧ (Same IntKind.i64 ∧ Same r.w) ∧ (Same 1 ∧ Same r.kn ∧ (∀ (r_1 : Nat), r_1 < r.kn → r.kf r_1 = r.kf r_1)) ∧ (Same IntKind.i64 ∧ Same r.torn) ∧ (Same IntKind.i64 ∧ Same r.at_) ∧ (Same IntKind.i64 ∧ Same r.many) ∧ Same r.down ∧ True) (by kernel_rfl) (by (and_intros <;> try exact cl))) (endL_cons (B0 := AB.rw 36 1 r.n r.sf) (by kernel_rfl) (of_eqP (C := 36 = 36 ∧ Same 1 ∧ Same r.n ∧ (∀ (r_1 : Nat), r_1 < r.n → r.sf r_1 = r.sf r_1)) (by kernel_rfl) (by (and_intros <;> try exact cl))) (endL_cons (B0 := AB.rw 36 1 r.n r.cf) (by kernel_rfl) (of_eqP (C := 36 = 36 ∧ Same 1 ∧ Same r.n ∧ (∀ (r_1 : Nat), r_1 < r.n → r.cf r_1 = r.cf r_1)) (by kernel_rfl) (by (and_intros <;> try exact cl))) endL_nil)))⟩
def rbothF : CF := oneX 31 (wK2 fun x rest => match rest with
 | [] => some (([], .tup [.im 3 (rbothW x).1.length (rowsOf rootAV (rbothW x).1), .sy (.int .i64 (rbothW x).2)], x), x.Ok)
 | _ => none)
theorem rbothF_ok : FOk Tryz.prog rbothF := wX2_ok s18_ok Tryz.func31 (by kernel_rfl) fun {x rest ys v x' D} hh hC => by
 split at hh
 · cases hh
   exact ⟨fun σ => trivial, by kernel_rfl, rboth_to s18_ok x hC⟩
 · cases hh
theorem rboth_err {r : RW} (h : ¬ (rbothW r).2 = 0) : (rbothW r).1 = [] := by
 unfold rbothW at *
 split
 · rfl
 · rename_i h1
   rw [if_neg h1] at h
   split
   · rfl
   · rename_i h2
     rw [if_neg h2] at h
     exact absurd rfl h
noncomputable abbrev S19 : Sy := sym Tryz.prog rbothF noG
theorem s19_ok : S19.Ok Tryz.prog := sym_ok rbothF_ok (noG_ok _) tab mix
set_option maxHeartbeats 4000000 in
set_option maxRecDepth 100000 in
theorem rload_to (hS : S19.Ok Tryz.prog) (r : RW) (hr : r.Ok) : To S19 Tryz.prog 29 (startOf Tryz.prog 29 [.ptr 0 0] (memF (rwB r) 0 .e) 3) (fun x H' _ => leA x (.tup [.agg (rootAV (rloadW r).1), .sy (.int .i64 (rloadW r).2)]) ∧ endL (rwB r) 0 H') := by
 refine To.R (C := (Same r.n ∧ Same r.n ∧ Same r.n) ∧ r.Ok) (h := ?_)
 refine To.Bn ((rbothW r).snd = 0) (h := ?_) (g := ?_)
 · intro h1
   have hw : rloadW r = (.zero, (rbothW r).2) := by unfold rloadW; rw [rboth_err h1]; rfl
   refine To.R (h := ?_)
   refine To.E (AV.tup [AV.agg [AV.v (Value.int IntKind.u64 0), AV.v (Value.int IntKind.i64 0), AV.v (Value.int IntKind.u32 0)], AV.sy (Value.int IntKind.i64 (rbothW r).snd)]) (hq := ?_)
   rw [hw]
   refine ⟨(of_eqP (C := ((Same IntKind.u64 ∧ (0 : Int) = (↑(0 : Nat) : Int)) ∧ (Same IntKind.i64 ∧ 0 = RootD.zero.len) ∧ (Same IntKind.u32 ∧ (0 : Int) = (↑(0 : Nat) : Int)) ∧ True) ∧ (Same IntKind.i64 ∧ Same (rbothW r).snd) ∧ True) (by kernel_rfl) ?_), (endL_cons (B0 := AB.mem 45 none [AV.ow 1 r.n, AV.ow 2 r.n, AV.sy (Value.int IntKind.i64 r.w), AV.im 1 r.kn r.kf, AV.sy (Value.int IntKind.i64 r.torn), AV.sy (Value.int IntKind.i64 r.at_), AV.sy (Value.int IntKind.i64 r.many), AV.sy (Value.bool r.down)]) (by kernel_rfl) (of_eqP (C := 45 = 45 ∧ (none : Option Nat) = none ∧ (Same 1 ∧ Same r.n) ∧ (Same 2 ∧ Same r.n) ∧ (Same IntKind.i64 ∧ Same r.w) ∧ (Same 1 ∧ Same r.kn ∧ (∀ (r_1 : Nat), r_1 < r.kn → r.kf r_1 = r.kf r_1)) ∧ (Same IntKind.i64 ∧ Same r.torn) ∧ (Same IntKind.i64 ∧ Same r.at_) ∧ (Same IntKind.i64 ∧ Same r.many) ∧ Same r.down ∧ True) (by kernel_rfl) (by (and_intros <;> try exact cl))) (endL_cons (B0 := AB.rw 36 1 r.n r.sf) (by kernel_rfl) (of_eqP (C := 36 = 36 ∧ Same 1 ∧ Same r.n ∧ (∀ (r_1 : Nat), r_1 < r.n → r.sf r_1 = r.sf r_1)) (by kernel_rfl) (by (and_intros <;> try exact cl))) (endL_cons (B0 := AB.rw 36 1 r.n r.cf) (by kernel_rfl) (of_eqP (C := 36 = 36 ∧ Same 1 ∧ Same r.n ∧ (∀ (r_1 : Nat), r_1 < r.n → r.cf r_1 = r.cf r_1)) (by kernel_rfl) (by (and_intros <;> try exact cl))) endL_nil)))⟩
   exact ⟨⟨⟨rfl, rfl⟩, ⟨rfl, rfl⟩, ⟨rfl, rfl⟩, trivial⟩, ⟨rfl, rfl⟩, trivial⟩
 · intro h1
   refine To.R (h := ?_)
   refine To.Bd ((rbothW r).fst.length = (0 : Int)) (h := ?_) (g := ?_)
   · intro h2
     have hw : rloadW r = (.zero, (rbothW r).2) := by unfold rloadW; rw [List.eq_nil_of_length_eq_zero (l := (rbothW r).1) (by omega)]; rfl
     refine To.R (h := ?_)
     refine To.E (AV.tup [AV.agg [AV.v (Value.int IntKind.u64 0), AV.v (Value.int IntKind.i64 0), AV.v (Value.int IntKind.u32 0)], AV.sy (Value.int IntKind.i64 (rbothW r).snd)]) (hq := ?_)
     rw [hw]
     refine ⟨(of_eqP (C := ((Same IntKind.u64 ∧ (0 : Int) = (↑(0 : Nat) : Int)) ∧ (Same IntKind.i64 ∧ 0 = RootD.zero.len) ∧ (Same IntKind.u32 ∧ (0 : Int) = (↑(0 : Nat) : Int)) ∧ True) ∧ (Same IntKind.i64 ∧ Same (rbothW r).snd) ∧ True) (by kernel_rfl) ?_), (endL_cons (B0 := AB.mem 45 none [AV.ow 1 r.n, AV.ow 2 r.n, AV.sy (Value.int IntKind.i64 r.w), AV.im 1 r.kn r.kf, AV.sy (Value.int IntKind.i64 r.torn), AV.sy (Value.int IntKind.i64 r.at_), AV.sy (Value.int IntKind.i64 r.many), AV.sy (Value.bool r.down)]) (by kernel_rfl) (of_eqP (C := 45 = 45 ∧ (none : Option Nat) = none ∧ (Same 1 ∧ Same r.n) ∧ (Same 2 ∧ Same r.n) ∧ (Same IntKind.i64 ∧ Same r.w) ∧ (Same 1 ∧ Same r.kn ∧ (∀ (r_1 : Nat), r_1 < r.kn → r.kf r_1 = r.kf r_1)) ∧ (Same IntKind.i64 ∧ Same r.torn) ∧ (Same IntKind.i64 ∧ Same r.at_) ∧ (Same IntKind.i64 ∧ Same r.many) ∧ Same r.down ∧ True) (by kernel_rfl) (by (and_intros <;> try exact cl))) (endL_cons (B0 := AB.rw 36 1 r.n r.sf) (by kernel_rfl) (of_eqP (C := 36 = 36 ∧ Same 1 ∧ Same r.n ∧ (∀ (r_1 : Nat), r_1 < r.n → r.sf r_1 = r.sf r_1)) (by kernel_rfl) (by (and_intros <;> try exact cl))) (endL_cons (B0 := AB.rw 36 1 r.n r.cf) (by kernel_rfl) (of_eqP (C := 36 = 36 ∧ Same 1 ∧ Same r.n ∧ (∀ (r_1 : Nat), r_1 < r.n → r.cf r_1 = r.cf r_1)) (by kernel_rfl) (by (and_intros <;> try exact cl))) endL_nil)))⟩
     exact ⟨⟨⟨rfl, rfl⟩, ⟨rfl, rfl⟩, ⟨rfl, rfl⟩, trivial⟩, ⟨rfl, rfl⟩, trivial⟩
   · intro h2
     have hw : rloadW r = ((rbothW r).1.getD 0 default, (rbothW r).2) := by
       unfold rloadW
       cases hl : (rbothW r).1 with
       | nil => rw [hl] at h2; exact absurd rfl h2
       | cons x l => rfl
     refine To.R (C := ((0 : Int) ≤ 0 ∧ (0 : Int) < (rbothW r).fst.length) ∧ True) (h := ?_)
     refine To.E (AV.tup [AV.agg [AV.sy (Value.int IntKind.u64 ((rbothW r).fst.getD 0 default).n), AV.sy (Value.int IntKind.i64 ((rbothW r).fst.getD 0 default).len), AV.sy (Value.int IntKind.u32 ((rbothW r).fst.getD 0 default).sum)], AV.v (Value.int IntKind.i64 0)]) (hq := ?_)
     rw [hw]
     refine ⟨(of_eqP (C := ((Same IntKind.u64 ∧ Same (((rbothW r).fst.getD 0 default).n : Int)) ∧ (Same IntKind.i64 ∧ Same ((rbothW r).fst.getD 0 default).len) ∧ (Same IntKind.u32 ∧ Same (((rbothW r).fst.getD 0 default).sum : Int)) ∧ True) ∧ (Same IntKind.i64 ∧ 0 = (rbothW r).snd) ∧ True) (by kernel_rfl) (by (and_intros <;> try exact cl))), (endL_cons (B0 := AB.mem 45 none [AV.ow 1 r.n, AV.ow 2 r.n, AV.sy (Value.int IntKind.i64 r.w), AV.im 1 r.kn r.kf, AV.sy (Value.int IntKind.i64 r.torn), AV.sy (Value.int IntKind.i64 r.at_), AV.sy (Value.int IntKind.i64 r.many), AV.sy (Value.bool r.down)]) (by kernel_rfl) (of_eqP (C := 45 = 45 ∧ (none : Option Nat) = none ∧ (Same 1 ∧ Same r.n) ∧ (Same 2 ∧ Same r.n) ∧ (Same IntKind.i64 ∧ Same r.w) ∧ (Same 1 ∧ Same r.kn ∧ (∀ (r_1 : Nat), r_1 < r.kn → r.kf r_1 = r.kf r_1)) ∧ (Same IntKind.i64 ∧ Same r.torn) ∧ (Same IntKind.i64 ∧ Same r.at_) ∧ (Same IntKind.i64 ∧ Same r.many) ∧ Same r.down ∧ True) (by kernel_rfl) (by (and_intros <;> try exact cl))) (endL_cons (B0 := AB.rw 36 1 r.n r.sf) (by kernel_rfl) (of_eqP (C := 36 = 36 ∧ Same 1 ∧ Same r.n ∧ (∀ (r_1 : Nat), r_1 < r.n → r.sf r_1 = r.sf r_1)) (by kernel_rfl) (by (and_intros <;> try exact cl))) (endL_cons (B0 := AB.rw 36 1 r.n r.cf) (by kernel_rfl) (of_eqP (C := 36 = 36 ∧ Same 1 ∧ Same r.n ∧ (∀ (r_1 : Nat), r_1 < r.n → r.cf r_1 = r.cf r_1)) (by kernel_rfl) (by (and_intros <;> try exact cl))) endL_nil)))⟩
set_option maxHeartbeats 4000000 in
set_option maxRecDepth 100000 in
theorem rsave_to (hS : S18.Ok Tryz.prog) (r : RW) (x : RootD) (hf : x.Fits) (d : DiskD) (n : Nat) (hr : GoesW d r) (hd : d.In n) (hn : n < 1000000000) : To S18 Tryz.prog 15 (startOf Tryz.prog 15 [.ptr 0 0, .agg (rootAV x)] (memF (rwB r) 0 .e) 3) (fun y H' _ => leA y (ivA (rsaveW r x).2) ∧ endL (rwB (rsaveW r x).1) 0 H') := by
 have f1 := hf.n
 have f2 := hf.sum
 have hrO := hr.ok
 have hm : r.toL.many < 4000000000000000000 := by
   have h1 := hr.goes.many
   have h2 := hd.wr
   rw [h1]; omega
 refine To.R (C := ((0 : Int) ≤ x.n ∧ x.n < (18446744073709551616 : Int)) ∧ (0 : Int) ≤ x.sum ∧ x.sum < (4294967296 : Int)) (h := ?_)
 refine To.Bn (rencE x = 0) (h := ?_) (g := ?_)
 · intro h1
   have hq : x.ok = false := by
     cases hc : x.ok with
     | false => rfl
     | true => exact absurd (if_pos hc) h1
   have hw : rsaveW r x = (r, 60) := by unfold rsaveW; rw [if_pos hq]
   have e0 : rencE x = 60 := by unfold rencE; rw [hq]; rfl
   refine To.R (h := ?_)
   refine To.E (AV.sy (Value.int IntKind.i64 (rencE x))) (hq := ?_)
   rw [hw]
   refine ⟨(of_eqP (C := Same IntKind.i64 ∧ rencE x = 60) (by kernel_rfl) (by (and_intros <;> try exact cl))), (endL_cons (B0 := AB.mem 45 none [AV.ow 1 r.n, AV.ow 2 r.n, AV.sy (Value.int IntKind.i64 r.w), AV.im 1 r.kn r.kf, AV.sy (Value.int IntKind.i64 r.torn), AV.sy (Value.int IntKind.i64 r.at_), AV.sy (Value.int IntKind.i64 r.many), AV.sy (Value.bool r.down)]) (by kernel_rfl) (of_eqP (C := 45 = 45 ∧ (none : Option Nat) = none ∧ (Same 1 ∧ Same r.n) ∧ (Same 2 ∧ Same r.n) ∧ (Same IntKind.i64 ∧ Same r.w) ∧ (Same 1 ∧ Same r.kn ∧ (∀ (r_1 : Nat), r_1 < r.kn → r.kf r_1 = r.kf r_1)) ∧ (Same IntKind.i64 ∧ Same r.torn) ∧ (Same IntKind.i64 ∧ Same r.at_) ∧ (Same IntKind.i64 ∧ Same r.many) ∧ Same r.down ∧ True) (by kernel_rfl) (by (and_intros <;> try exact cl))) (endL_cons (B0 := AB.rw 36 1 r.n r.sf) (by kernel_rfl) (of_eqP (C := 36 = 36 ∧ Same 1 ∧ Same r.n ∧ (∀ (r_1 : Nat), r_1 < r.n → r.sf r_1 = r.sf r_1)) (by kernel_rfl) (by (and_intros <;> try exact cl))) (endL_cons (B0 := AB.rw 36 1 r.n r.cf) (by kernel_rfl) (of_eqP (C := 36 = 36 ∧ Same 1 ∧ Same r.n ∧ (∀ (r_1 : Nat), r_1 < r.n → r.cf r_1 = r.cf r_1)) (by kernel_rfl) (by (and_intros <;> try exact cl))) endL_nil)))⟩
 intro h1
 obtain ⟨hok, hB⟩ := rencE_zero h1
 have hbl := rootBytes_len x
 have hl : (rencB x).length ≤ 1000000 := by rw [hB, hbl]; decide
 have hW : rwriteW r ((x.n : Int) % 2) (rencB x) = rwriteW r ((x.n : Int) % 2) (rootBytes x) := by rw [hB]
 obtain ⟨k1, k2⟩ := hr.write hd hn ((x.n : Int) % 2) (rootBytes x)
 have k1O := k1.ok
 refine To.R (C := ((0 : Int) ≤ x.n ∧ (0 : Int) < 2) ∧ fits IntKind.i64 (x.n % 2) ∧ (Same r.n ∧ Same r.n ∧ Same r.n) ∧ r.Ok ∧ (fun r ↦ r.many < 4000000000000000000) r.toL ∧ (rencB x).length ≤ 1000000) (h := ?_)
 refine To.Bn ((rwriteW r (x.n % 2) (rencB x)).snd = 0) (h := ?_) (g := ?_)
 · intro h2
   rw [hW] at h2
   have hw : rsaveW r x = rwriteW r ((x.n : Int) % 2) (rootBytes x) := by unfold rsaveW; rw [if_neg (by simp [hok]), if_pos h2]
   refine To.R (h := ?_)
   refine To.E (AV.sy (Value.int IntKind.i64 (rwriteW r (x.n % 2) (rencB x)).snd)) (hq := ?_)
   rw [hw, ← hW]
   refine ⟨(of_eqP (C := Same IntKind.i64 ∧ Same (rwriteW r (x.n % 2) (rencB x)).snd) (by kernel_rfl) (by (and_intros <;> try exact cl))), (endL_cons (B0 := AB.mem 45 none [AV.ow 1 (rwriteW r (x.n % 2) (rencB x)).fst.n, AV.ow 2 (rwriteW r (x.n % 2) (rencB x)).fst.n, AV.sy (Value.int IntKind.i64 (rwriteW r (x.n % 2) (rencB x)).fst.w), AV.im 1 (rwriteW r (x.n % 2) (rencB x)).fst.kn (rwriteW r (x.n % 2) (rencB x)).fst.kf, AV.sy (Value.int IntKind.i64 (rwriteW r (x.n % 2) (rencB x)).fst.torn), AV.sy (Value.int IntKind.i64 (rwriteW r (x.n % 2) (rencB x)).fst.at_), AV.sy (Value.int IntKind.i64 (rwriteW r (x.n % 2) (rencB x)).fst.many), AV.sy (Value.bool (rwriteW r (x.n % 2) (rencB x)).fst.down)]) (by kernel_rfl) (of_eqP (C := 45 = 45 ∧ (none : Option Nat) = none ∧ (Same 1 ∧ Same (rwriteW r (x.n % 2) (rencB x)).fst.n) ∧ (Same 2 ∧ Same (rwriteW r (x.n % 2) (rencB x)).fst.n) ∧ (Same IntKind.i64 ∧ Same (rwriteW r (x.n % 2) (rencB x)).fst.w) ∧ (Same 1 ∧ Same (rwriteW r (x.n % 2) (rencB x)).fst.kn ∧ (∀ (r_1 : Nat), r_1 < (rwriteW r (x.n % 2) (rencB x)).fst.kn → (rwriteW r (x.n % 2) (rencB x)).fst.kf r_1 = (rwriteW r (x.n % 2) (rencB x)).fst.kf r_1)) ∧ (Same IntKind.i64 ∧ Same (rwriteW r (x.n % 2) (rencB x)).fst.torn) ∧ (Same IntKind.i64 ∧ Same (rwriteW r (x.n % 2) (rencB x)).fst.at_) ∧ (Same IntKind.i64 ∧ Same (rwriteW r (x.n % 2) (rencB x)).fst.many) ∧ Same (rwriteW r (x.n % 2) (rencB x)).fst.down ∧ True) (by kernel_rfl) (by (and_intros <;> try exact cl))) (endL_cons (B0 := AB.rw 36 1 (rwriteW r (x.n % 2) (rencB x)).fst.n (rwriteW r (x.n % 2) (rencB x)).fst.sf) (by kernel_rfl) (of_eqP (C := 36 = 36 ∧ Same 1 ∧ Same (rwriteW r (x.n % 2) (rencB x)).fst.n ∧ (∀ (r_1 : Nat), r_1 < (rwriteW r (x.n % 2) (rencB x)).fst.n → (rwriteW r (x.n % 2) (rencB x)).fst.sf r_1 = (rwriteW r (x.n % 2) (rencB x)).fst.sf r_1)) (by kernel_rfl) (by (and_intros <;> try exact cl))) (endL_cons (B0 := AB.rw 36 1 (rwriteW r (x.n % 2) (rencB x)).fst.n (rwriteW r (x.n % 2) (rencB x)).fst.cf) (by kernel_rfl) (of_eqP (C := 36 = 36 ∧ Same 1 ∧ Same (rwriteW r (x.n % 2) (rencB x)).fst.n ∧ (∀ (r_1 : Nat), r_1 < (rwriteW r (x.n % 2) (rencB x)).fst.n → (rwriteW r (x.n % 2) (rencB x)).fst.cf r_1 = (rwriteW r (x.n % 2) (rencB x)).fst.cf r_1)) (by kernel_rfl) (by (and_intros <;> try exact cl))) endL_nil)))⟩
 · intro h2
   rw [hW] at h2
   have hw : rsaveW r x = rflushW (rwriteW r ((x.n : Int) % 2) (rootBytes x)).1 := by unfold rsaveW; rw [if_neg (by simp [hok]), if_neg (by omega)]
   refine To.R (C := (Same (rwriteW r (x.n % 2) (rencB x)).fst.n ∧ Same (rwriteW r (x.n % 2) (rencB x)).fst.n ∧ Same (rwriteW r (x.n % 2) (rencB x)).fst.n) ∧ (rwriteW r (x.n % 2) (rencB x)).fst.Ok ∧ True) (hc := ?_) (h := ?_); (and_intros <;> try exact cl)
   · rw [hW]; exact k1O
   refine To.E (AV.sy (Value.int IntKind.i64 (rflushW (rwriteW r (x.n % 2) (rencB x)).fst).snd)) (hq := ?_)
   rw [hw, ← hW]
   refine ⟨(of_eqP (C := Same IntKind.i64 ∧ Same (rflushW (rwriteW r (x.n % 2) (rencB x)).fst).snd) (by kernel_rfl) (by (and_intros <;> try exact cl))), (endL_cons (B0 := AB.mem 45 none [AV.ow 1 (rflushW (rwriteW r (x.n % 2) (rencB x)).fst).fst.n, AV.ow 2 (rflushW (rwriteW r (x.n % 2) (rencB x)).fst).fst.n, AV.sy (Value.int IntKind.i64 (rflushW (rwriteW r (x.n % 2) (rencB x)).fst).fst.w), AV.im 1 (rflushW (rwriteW r (x.n % 2) (rencB x)).fst).fst.kn (rflushW (rwriteW r (x.n % 2) (rencB x)).fst).fst.kf, AV.sy (Value.int IntKind.i64 (rflushW (rwriteW r (x.n % 2) (rencB x)).fst).fst.torn), AV.sy (Value.int IntKind.i64 (rflushW (rwriteW r (x.n % 2) (rencB x)).fst).fst.at_), AV.sy (Value.int IntKind.i64 (rflushW (rwriteW r (x.n % 2) (rencB x)).fst).fst.many), AV.sy (Value.bool (rflushW (rwriteW r (x.n % 2) (rencB x)).fst).fst.down)]) (by kernel_rfl) (of_eqP (C := 45 = 45 ∧ (none : Option Nat) = none ∧ (Same 1 ∧ Same (rflushW (rwriteW r (x.n % 2) (rencB x)).fst).fst.n) ∧ (Same 2 ∧ Same (rflushW (rwriteW r (x.n % 2) (rencB x)).fst).fst.n) ∧ (Same IntKind.i64 ∧ Same (rflushW (rwriteW r (x.n % 2) (rencB x)).fst).fst.w) ∧ (Same 1 ∧ Same (rflushW (rwriteW r (x.n % 2) (rencB x)).fst).fst.kn ∧ (∀ (r_1 : Nat), r_1 < (rflushW (rwriteW r (x.n % 2) (rencB x)).fst).fst.kn → (rflushW (rwriteW r (x.n % 2) (rencB x)).fst).fst.kf r_1 = (rflushW (rwriteW r (x.n % 2) (rencB x)).fst).fst.kf r_1)) ∧ (Same IntKind.i64 ∧ Same (rflushW (rwriteW r (x.n % 2) (rencB x)).fst).fst.torn) ∧ (Same IntKind.i64 ∧ Same (rflushW (rwriteW r (x.n % 2) (rencB x)).fst).fst.at_) ∧ (Same IntKind.i64 ∧ Same (rflushW (rwriteW r (x.n % 2) (rencB x)).fst).fst.many) ∧ Same (rflushW (rwriteW r (x.n % 2) (rencB x)).fst).fst.down ∧ True) (by kernel_rfl) (by (and_intros <;> try exact cl))) (endL_cons (B0 := AB.rw 36 1 (rflushW (rwriteW r (x.n % 2) (rencB x)).fst).fst.n (rflushW (rwriteW r (x.n % 2) (rencB x)).fst).fst.sf) (by kernel_rfl) (of_eqP (C := 36 = 36 ∧ Same 1 ∧ Same (rflushW (rwriteW r (x.n % 2) (rencB x)).fst).fst.n ∧ (∀ (r_1 : Nat), r_1 < (rflushW (rwriteW r (x.n % 2) (rencB x)).fst).fst.n → (rflushW (rwriteW r (x.n % 2) (rencB x)).fst).fst.sf r_1 = (rflushW (rwriteW r (x.n % 2) (rencB x)).fst).fst.sf r_1)) (by kernel_rfl) (by (and_intros <;> try exact cl))) (endL_cons (B0 := AB.rw 36 1 (rflushW (rwriteW r (x.n % 2) (rencB x)).fst).fst.n (rflushW (rwriteW r (x.n % 2) (rencB x)).fst).fst.cf) (by kernel_rfl) (of_eqP (C := 36 = 36 ∧ Same 1 ∧ Same (rflushW (rwriteW r (x.n % 2) (rencB x)).fst).fst.n ∧ (∀ (r_1 : Nat), r_1 < (rflushW (rwriteW r (x.n % 2) (rencB x)).fst).fst.n → (rflushW (rwriteW r (x.n % 2) (rencB x)).fst).fst.cf r_1 = (rflushW (rwriteW r (x.n % 2) (rencB x)).fst).fst.cf r_1)) (by kernel_rfl) (by (and_intros <;> try exact cl))) endL_nil)))⟩
def rloadF : CF := oneX 29 (wK2 fun x rest => match rest with
 | [] => some (([], .tup [.agg (rootAV (rloadW x).1), .sy (.int .i64 (rloadW x).2)], x), x.Ok)
 | _ => none)
theorem rloadF_ok : FOk Tryz.prog rloadF := wX2_ok s19_ok Tryz.func29 (by kernel_rfl) fun {x rest ys v x' D} hh hC => by
 split at hh
 · cases hh
   exact ⟨fun σ => trivial, by kernel_rfl, rload_to s19_ok x hC⟩
 · cases hh
def rsaveF : CF := oneX 15 (wK2 fun x rest => match rest with
 | [a] => match rootQ a with
   | some r => some (([.agg (rootAV r.1)], ivA (rsaveW x r.1).2, (rsaveW x r.1).1), r.2 ∧ ∃ d n, GoesW d x ∧ d.In n ∧ n < 1000000000)
   | none => none
 | _ => none)
theorem rsaveF_ok : FOk Tryz.prog rsaveF := wX2_ok s18_ok Tryz.func15 (by kernel_rfl) fun {x rest ys v x' D} hh hC => by
 split at hh
 · split at hh
   · rename_i r hr
     cases hh
     obtain ⟨h1, d, n, h2, h3, h4⟩ := hC
     refine ⟨fun σ => ?_, by kernel_rfl, rsave_to s18_ok x r.1 (rootQ_le hr h1 (fun _ => none)).2 d n h2 h3 h4⟩
     simp only [renL]
     exact ⟨(rootQ_le hr h1 σ).1, trivial⟩
   · cases hh
 · cases hh
theorem GoesW.both {d : DiskD} {x : RW} (h : GoesW d x) (hd : d.Ok) : rbothW x = bothD d := by
 unfold rbothW bothD
 rw [h.read hd 0, h.read hd 1]
 simp only
 cases h0 : (readD d 0).1 with
 | none =>
   have := (readD_none (d := d) (z := 0) (by rw [h0]; rfl)).2
   rw [if_pos (by simpa using this)]
 | some a =>
   obtain ⟨a', ha⟩ := readD_some (d := d) (z := 0) (by rw [h0]; rfl)
   rw [ha]
   simp only [ne_eq, not_true_eq_false, if_false]
   cases h1 : (readD d 1).1 with
   | none =>
     have := (readD_none (d := d) (z := 1) (by rw [h1]; rfl)).2
     rw [if_pos (by simpa using this)]
   | some b =>
     obtain ⟨b', hb⟩ := readD_some (d := d) (z := 1) (by rw [h1]; rfl)
     rw [hb]
     rw [ha] at h0
     rw [hb] at h1
     cases h0
     cases h1
     simp
theorem GoesW.load {d : DiskD} {x : RW} (h : GoesW d x) (hd : d.Ok) : rloadW x = loadD d := by unfold rloadW loadD; rw [h.both hd]
theorem GoesW.save {d : DiskD} {x : RW} (h : GoesW d x) {n : Nat} (hd : d.In n) (hn : n < 1000000000) (r : RootD) : GoesW (saveD d r).1 (rsaveW x r).1 ∧ (rsaveW x r).2 = (saveD d r).2 := by
 unfold rsaveW saveD
 split
 · exact ⟨h, rfl⟩
 · obtain ⟨h1, h2⟩ := h.write hd hn ((r.n : Int) % 2) (rootBytes r)
   rw [h2]
   split
   · exact ⟨h1, h2⟩
   · exact h1.flush (hd.write hn _ _)
structure OpR where
 kind : Int
 r : RootD
 at_ : Int
 b : List UInt8
 c : CrashD
instance : Inhabited OpR := ⟨⟨0, .zero, 0, [], CrashD.none⟩⟩
def opRF (o : OpR) : List AV := [ivA o.kind, .sy (.int .u64 (o.r.n : Int)), .sy (.int .i64 o.r.len), .sy (.int .u32 (o.r.sum : Int)), ivA o.at_, .by8 o.b, ivA o.c.w, .im 1 o.c.keep.length (intsF o.c.keep), ivA o.c.torn, ivA o.c.at_]
def opsRF (l : List OpR) : Nat → List AV := rowsOf opRF l
def bigR (o : OpR) : Bool := decide (200 < o.b.length) || decide (20 < o.c.keep.length)
def greatR (l : List OpR) : Bool := decide (80 < l.length) || l.any bigR
theorem any_take_succ' {α : Type} [Inhabited α] (p : α → Bool) {l : List α} {a : Nat} (h : a < l.length) : (l.take (a + 1)).any p = ((l.take a).any p || p (l.getD a default)) := by
 rw [List.take_succ_eq_append_getElem h, List.any_append, List.getD_eq_getElem?_getD, List.getElem?_eq_getElem h]; simp
theorem any_at {α : Type} [Inhabited α] {p : α → Bool} {l : List α} {a : Nat} (h : a < l.length) (hp : p (l.getD a default) = true) : l.any p = true := by
 refine List.any_eq_true.2 ⟨_, ?_, hp⟩
 rw [List.getD_eq_getElem?_getD, List.getElem?_eq_getElem h]; simp
set_option maxHeartbeats 4000000 in
set_option maxRecDepth 100000 in
theorem great6_to (hok : S0.Ok Tryz.prog) (l : List OpR) : To S0 Tryz.prog 5 (startOf Tryz.prog 5 [.im 10 l.length (opsRF l)] .e 0) (fun x _ _ => x = .v (.bool (greatR l))) := by
 refine To.R (h := ?_)
 refine To.Bd ((80 : Int) < l.length) (h := ?_) (g := ?_)
 · intro h
   have hw : greatR l = true := by unfold greatR; rw [Bool.or_eq_true]; exact .inl (decide_eq_true (by omega))
   refine To.R (h := ?_)
   refine To.E (AV.v (Value.bool true)) (hq := ?_)
   rw [hw]
 intro h
 refine To.R (k := 12) (h := ?_)
 refine To.L (L := []) (kp := [9, 8, 0]) (C := Same IntKind.i64 ∧ (0 : Int) = (↑(0 : Nat) : Int)) (st := fun (a : Nat) => (⟨(⟨5, 30, (slotT 30 [(0, AV.im 10 l.length (opsRF l)), (8, AV.sy (Value.int IntKind.i64 l.length)), (9, AV.sy (Value.int IntKind.i64 a))]), ARg.no, [(AItem.code (subC (bodyC Tryz.prog 5) [1, 1, 0, 1, 0, 0])), (AItem.inLoop (subC (bodyC Tryz.prog 5) [1, 1, 0, 1, 0, 0])), (AItem.inBlock 0), (AItem.code (subC (bodyC Tryz.prog 5) [1, 1, 1]))], [], false, none, 0⟩ : AFr), [], memF [] 0 Tr.e, 0⟩ : ASt)) (hI := ?_) (h := ?_) (fun (t : Nat) => [(9, ivA (t : Int))]) (fun _ => []) (fun t => t ≤ l.length ∧ (l.take t).any bigR = false) (fun t => l.length - t) (0)
 · simp
 intro t ⟨ht, hn⟩ ih
 refine To.R (h := ?_)
 refine To.Bd ((t : Int) < l.length) (h := ?_) (g := ?_)
 · intro h1
   have hlt : t < l.length := by omega
   have hst := any_take_succ' bigR hlt
   refine To.R (C := ((0 : Int) ≤ t ∧ (t : Int) < l.length) ∧ True ∧ True ∧ True) (h := ?_)
   refine To.Bd ((200 : Int) < (l.getD t default).b.length) (h := ?_) (g := ?_)
   · intro h2
     have hw : greatR l = true := by
       have h5 : bigR (l.getD (t) default) = true := by unfold bigR; rw [Bool.or_eq_true]; exact .inl (decide_eq_true (by omega))
       unfold greatR; rw [any_at hlt h5]; simp
     refine To.R (h := ?_)
     refine To.E (AV.v (Value.bool true)) (hq := ?_)
     rw [hw]
   · intro h2
     refine To.R (C := ((0 : Int) ≤ t ∧ (t : Int) < l.length) ∧ True ∧ True ∧ True ∧ True) (h := ?_)
     refine To.Bd ((20 : Int) < (l.getD t default).c.keep.length) (h := ?_) (g := ?_)
     · intro h3
       have hw : greatR l = true := by
         have h5 : bigR (l.getD (t) default) = true := by unfold bigR; rw [Bool.or_eq_true]; exact .inr (decide_eq_true (by omega))
         unfold greatR; rw [any_at hlt h5]; simp
       refine To.R (h := ?_)
       refine To.E (AV.v (Value.bool true)) (hq := ?_)
       rw [hw]
     · intro h3
       have hi1 : (l.take (t + 1)).any bigR = false := by
         rw [hst, hn, Bool.false_or]
         unfold bigR; rw [Bool.or_eq_false_iff]; exact ⟨decide_eq_false (by omega), decide_eq_false (by omega)⟩
       have hi2 : t + 1 ≤ l.length := hlt
       have hi3 : l.length - (t + 1) < l.length - t := by omega
       refine To.R (k := 10) (C := fits IntKind.i64 (t + 1)) (h := ?_)
       refine To.K (L := []) (kp := [9, 8, 0]) (ov := [(9, AV.sy (Value.int IntKind.i64 (↑(t + 1) : Int)))]) (C := Same IntKind.i64 ∧ (↑t : Int) + 1 = (↑(t + 1) : Int)) (ih (t + 1) ⟨hi2, hi1⟩ hi3)
 · intro h1
   have hw : greatR l = false := by
     rw [List.take_of_length_le (by omega)] at hn
     unfold greatR; rw [hn, Bool.or_false]; exact decide_eq_false (by omega)
   refine To.R (h := ?_)
   refine To.E (AV.v (Value.bool false)) (hq := ?_)
   rw [hw]
def secB (b : List UInt8) : List UInt8 := b.take 128 ++ List.replicate (128 - b.length) 0
theorem secB_len (b : List UInt8) : (secB b).length = 128 := by unfold secB; simp; omega
theorem secB_spl (b : List UInt8) : ((splB (List.replicate 128 0) 0 b 128).drop 0).take 128 = secB b := by
 rw [List.drop_zero, List.take_of_length_le (by rw [splB_len (by simp)]; simp), splB_zero]
 unfold secB
 rw [List.drop_replicate]
 congr 2
 rcases Nat.le_total b.length 128 with h | h
 · rw [show Nat.min b.length 128 = b.length from Nat.min_eq_left h]
 · rw [show Nat.min b.length 128 = 128 from Nat.min_eq_right h]; omega
set_option maxHeartbeats 4000000 in
set_option maxRecDepth 100000 in
theorem sector_to (hok : S0.Ok Tryz.prog) (b : List UInt8) (hb : b.length ≤ 1000000) : To S0 Tryz.prog 21 (startOf Tryz.prog 21 [.by8 b] .e 0) (fun x _ _ => x = .by8 (secB b)) := by
 refine To.R (C := True ∧ ((0 : Int) ≤ 0 ∧ (0 : Int) < 256) ∧ ((0 : Int) ≤ 0 ∧ (0 : Int) < 256) ∧ ((0 : Int) ≤ 0 ∧ (0 : Int) < 256) ∧ ((0 : Int) ≤ 0 ∧ (0 : Int) < 256) ∧ ((0 : Int) ≤ 0 ∧ (0 : Int) < 256) ∧ ((0 : Int) ≤ 0 ∧ (0 : Int) < 256) ∧ ((0 : Int) ≤ 0 ∧ (0 : Int) < 256) ∧ ((0 : Int) ≤ 0 ∧ (0 : Int) < 256) ∧ ((0 : Int) ≤ 0 ∧ (0 : Int) < 256) ∧ ((0 : Int) ≤ 0 ∧ (0 : Int) < 256) ∧ ((0 : Int) ≤ 0 ∧ (0 : Int) < 256) ∧ ((0 : Int) ≤ 0 ∧ (0 : Int) < 256) ∧ ((0 : Int) ≤ 0 ∧ (0 : Int) < 256) ∧ ((0 : Int) ≤ 0 ∧ (0 : Int) < 256) ∧ ((0 : Int) ≤ 0 ∧ (0 : Int) < 256) ∧ ((0 : Int) ≤ 0 ∧ (0 : Int) < 256) ∧ ((0 : Int) ≤ 0 ∧ (0 : Int) < 256) ∧ ((0 : Int) ≤ 0 ∧ (0 : Int) < 256) ∧ ((0 : Int) ≤ 0 ∧ (0 : Int) < 256) ∧ ((0 : Int) ≤ 0 ∧ (0 : Int) < 256) ∧ ((0 : Int) ≤ 0 ∧ (0 : Int) < 256) ∧ ((0 : Int) ≤ 0 ∧ (0 : Int) < 256) ∧ ((0 : Int) ≤ 0 ∧ (0 : Int) < 256) ∧ ((0 : Int) ≤ 0 ∧ (0 : Int) < 256) ∧ ((0 : Int) ≤ 0 ∧ (0 : Int) < 256) ∧ ((0 : Int) ≤ 0 ∧ (0 : Int) < 256) ∧ ((0 : Int) ≤ 0 ∧ (0 : Int) < 256) ∧ ((0 : Int) ≤ 0 ∧ (0 : Int) < 256) ∧ ((0 : Int) ≤ 0 ∧ (0 : Int) < 256) ∧ ((0 : Int) ≤ 0 ∧ (0 : Int) < 256) ∧ ((0 : Int) ≤ 0 ∧ (0 : Int) < 256) ∧ ((0 : Int) ≤ 0 ∧ (0 : Int) < 256) ∧ ((0 : Int) ≤ 0 ∧ (0 : Int) < 256) ∧ ((0 : Int) ≤ 0 ∧ (0 : Int) < 256) ∧ ((0 : Int) ≤ 0 ∧ (0 : Int) < 256) ∧ ((0 : Int) ≤ 0 ∧ (0 : Int) < 256) ∧ ((0 : Int) ≤ 0 ∧ (0 : Int) < 256) ∧ ((0 : Int) ≤ 0 ∧ (0 : Int) < 256) ∧ ((0 : Int) ≤ 0 ∧ (0 : Int) < 256) ∧ ((0 : Int) ≤ 0 ∧ (0 : Int) < 256) ∧ ((0 : Int) ≤ 0 ∧ (0 : Int) < 256) ∧ ((0 : Int) ≤ 0 ∧ (0 : Int) < 256) ∧ ((0 : Int) ≤ 0 ∧ (0 : Int) < 256) ∧ ((0 : Int) ≤ 0 ∧ (0 : Int) < 256) ∧ ((0 : Int) ≤ 0 ∧ (0 : Int) < 256) ∧ ((0 : Int) ≤ 0 ∧ (0 : Int) < 256) ∧ ((0 : Int) ≤ 0 ∧ (0 : Int) < 256) ∧ ((0 : Int) ≤ 0 ∧ (0 : Int) < 256) ∧ ((0 : Int) ≤ 0 ∧ (0 : Int) < 256) ∧ ((0 : Int) ≤ 0 ∧ (0 : Int) < 256) ∧ ((0 : Int) ≤ 0 ∧ (0 : Int) < 256) ∧ ((0 : Int) ≤ 0 ∧ (0 : Int) < 256) ∧ ((0 : Int) ≤ 0 ∧ (0 : Int) < 256) ∧ ((0 : Int) ≤ 0 ∧ (0 : Int) < 256) ∧ ((0 : Int) ≤ 0 ∧ (0 : Int) < 256) ∧ ((0 : Int) ≤ 0 ∧ (0 : Int) < 256) ∧ ((0 : Int) ≤ 0 ∧ (0 : Int) < 256) ∧ ((0 : Int) ≤ 0 ∧ (0 : Int) < 256) ∧ ((0 : Int) ≤ 0 ∧ (0 : Int) < 256) ∧ ((0 : Int) ≤ 0 ∧ (0 : Int) < 256) ∧ ((0 : Int) ≤ 0 ∧ (0 : Int) < 256) ∧ ((0 : Int) ≤ 0 ∧ (0 : Int) < 256) ∧ ((0 : Int) ≤ 0 ∧ (0 : Int) < 256) ∧ ((0 : Int) ≤ 0 ∧ (0 : Int) < 256) ∧ ((0 : Int) ≤ 0 ∧ (0 : Int) < 256) ∧ ((0 : Int) ≤ 0 ∧ (0 : Int) < 256) ∧ ((0 : Int) ≤ 0 ∧ (0 : Int) < 256) ∧ ((0 : Int) ≤ 0 ∧ (0 : Int) < 256) ∧ ((0 : Int) ≤ 0 ∧ (0 : Int) < 256) ∧ ((0 : Int) ≤ 0 ∧ (0 : Int) < 256) ∧ ((0 : Int) ≤ 0 ∧ (0 : Int) < 256) ∧ ((0 : Int) ≤ 0 ∧ (0 : Int) < 256) ∧ ((0 : Int) ≤ 0 ∧ (0 : Int) < 256) ∧ ((0 : Int) ≤ 0 ∧ (0 : Int) < 256) ∧ ((0 : Int) ≤ 0 ∧ (0 : Int) < 256) ∧ ((0 : Int) ≤ 0 ∧ (0 : Int) < 256) ∧ ((0 : Int) ≤ 0 ∧ (0 : Int) < 256) ∧ ((0 : Int) ≤ 0 ∧ (0 : Int) < 256) ∧ ((0 : Int) ≤ 0 ∧ (0 : Int) < 256) ∧ ((0 : Int) ≤ 0 ∧ (0 : Int) < 256) ∧ ((0 : Int) ≤ 0 ∧ (0 : Int) < 256) ∧ ((0 : Int) ≤ 0 ∧ (0 : Int) < 256) ∧ ((0 : Int) ≤ 0 ∧ (0 : Int) < 256) ∧ ((0 : Int) ≤ 0 ∧ (0 : Int) < 256) ∧ ((0 : Int) ≤ 0 ∧ (0 : Int) < 256) ∧ ((0 : Int) ≤ 0 ∧ (0 : Int) < 256) ∧ ((0 : Int) ≤ 0 ∧ (0 : Int) < 256) ∧ ((0 : Int) ≤ 0 ∧ (0 : Int) < 256) ∧ ((0 : Int) ≤ 0 ∧ (0 : Int) < 256) ∧ ((0 : Int) ≤ 0 ∧ (0 : Int) < 256) ∧ ((0 : Int) ≤ 0 ∧ (0 : Int) < 256) ∧ ((0 : Int) ≤ 0 ∧ (0 : Int) < 256) ∧ ((0 : Int) ≤ 0 ∧ (0 : Int) < 256) ∧ ((0 : Int) ≤ 0 ∧ (0 : Int) < 256) ∧ ((0 : Int) ≤ 0 ∧ (0 : Int) < 256) ∧ ((0 : Int) ≤ 0 ∧ (0 : Int) < 256) ∧ ((0 : Int) ≤ 0 ∧ (0 : Int) < 256) ∧ ((0 : Int) ≤ 0 ∧ (0 : Int) < 256) ∧ ((0 : Int) ≤ 0 ∧ (0 : Int) < 256) ∧ ((0 : Int) ≤ 0 ∧ (0 : Int) < 256) ∧ ((0 : Int) ≤ 0 ∧ (0 : Int) < 256) ∧ ((0 : Int) ≤ 0 ∧ (0 : Int) < 256) ∧ ((0 : Int) ≤ 0 ∧ (0 : Int) < 256) ∧ ((0 : Int) ≤ 0 ∧ (0 : Int) < 256) ∧ ((0 : Int) ≤ 0 ∧ (0 : Int) < 256) ∧ ((0 : Int) ≤ 0 ∧ (0 : Int) < 256) ∧ ((0 : Int) ≤ 0 ∧ (0 : Int) < 256) ∧ ((0 : Int) ≤ 0 ∧ (0 : Int) < 256) ∧ ((0 : Int) ≤ 0 ∧ (0 : Int) < 256) ∧ ((0 : Int) ≤ 0 ∧ (0 : Int) < 256) ∧ ((0 : Int) ≤ 0 ∧ (0 : Int) < 256) ∧ ((0 : Int) ≤ 0 ∧ (0 : Int) < 256) ∧ ((0 : Int) ≤ 0 ∧ (0 : Int) < 256) ∧ ((0 : Int) ≤ 0 ∧ (0 : Int) < 256) ∧ ((0 : Int) ≤ 0 ∧ (0 : Int) < 256) ∧ ((0 : Int) ≤ 0 ∧ (0 : Int) < 256) ∧ ((0 : Int) ≤ 0 ∧ (0 : Int) < 256) ∧ ((0 : Int) ≤ 0 ∧ (0 : Int) < 256) ∧ ((0 : Int) ≤ 0 ∧ (0 : Int) < 256) ∧ ((0 : Int) ≤ 0 ∧ (0 : Int) < 256) ∧ ((0 : Int) ≤ 0 ∧ (0 : Int) < 256) ∧ ((0 : Int) ≤ 0 ∧ (0 : Int) < 256) ∧ ((0 : Int) ≤ 0 ∧ (0 : Int) < 256) ∧ ((0 : Int) ≤ 0 ∧ (0 : Int) < 256) ∧ ((0 : Int) ≤ 0 ∧ (0 : Int) < 256) ∧ ((0 : Int) ≤ 0 ∧ (0 : Int) < 256) ∧ ((0 : Int) ≤ 0 ∧ (0 : Int) < 256) ∧ ((0 : Int) ≤ 0 ∧ (0 : Int) < 256) ∧ True) (h := ?_)
 refine To.frz 0 true [2] (by kernel_rfl) (C := 128 ≤ (splB [UInt8.ofNat 0, UInt8.ofNat 0, UInt8.ofNat 0, UInt8.ofNat 0, UInt8.ofNat 0, UInt8.ofNat 0, UInt8.ofNat 0, UInt8.ofNat 0, UInt8.ofNat 0, UInt8.ofNat 0, UInt8.ofNat 0, UInt8.ofNat 0, UInt8.ofNat 0, UInt8.ofNat 0, UInt8.ofNat 0, UInt8.ofNat 0, UInt8.ofNat 0, UInt8.ofNat 0, UInt8.ofNat 0, UInt8.ofNat 0, UInt8.ofNat 0, UInt8.ofNat 0, UInt8.ofNat 0, UInt8.ofNat 0, UInt8.ofNat 0, UInt8.ofNat 0, UInt8.ofNat 0, UInt8.ofNat 0, UInt8.ofNat 0, UInt8.ofNat 0, UInt8.ofNat 0, UInt8.ofNat 0, UInt8.ofNat 0, UInt8.ofNat 0, UInt8.ofNat 0, UInt8.ofNat 0, UInt8.ofNat 0, UInt8.ofNat 0, UInt8.ofNat 0, UInt8.ofNat 0, UInt8.ofNat 0, UInt8.ofNat 0, UInt8.ofNat 0, UInt8.ofNat 0, UInt8.ofNat 0, UInt8.ofNat 0, UInt8.ofNat 0, UInt8.ofNat 0, UInt8.ofNat 0, UInt8.ofNat 0, UInt8.ofNat 0, UInt8.ofNat 0, UInt8.ofNat 0, UInt8.ofNat 0, UInt8.ofNat 0, UInt8.ofNat 0, UInt8.ofNat 0, UInt8.ofNat 0, UInt8.ofNat 0, UInt8.ofNat 0, UInt8.ofNat 0, UInt8.ofNat 0, UInt8.ofNat 0, UInt8.ofNat 0, UInt8.ofNat 0, UInt8.ofNat 0, UInt8.ofNat 0, UInt8.ofNat 0, UInt8.ofNat 0, UInt8.ofNat 0, UInt8.ofNat 0, UInt8.ofNat 0, UInt8.ofNat 0, UInt8.ofNat 0, UInt8.ofNat 0, UInt8.ofNat 0, UInt8.ofNat 0, UInt8.ofNat 0, UInt8.ofNat 0, UInt8.ofNat 0, UInt8.ofNat 0, UInt8.ofNat 0, UInt8.ofNat 0, UInt8.ofNat 0, UInt8.ofNat 0, UInt8.ofNat 0, UInt8.ofNat 0, UInt8.ofNat 0, UInt8.ofNat 0, UInt8.ofNat 0, UInt8.ofNat 0, UInt8.ofNat 0, UInt8.ofNat 0, UInt8.ofNat 0, UInt8.ofNat 0, UInt8.ofNat 0, UInt8.ofNat 0, UInt8.ofNat 0, UInt8.ofNat 0, UInt8.ofNat 0, UInt8.ofNat 0, UInt8.ofNat 0, UInt8.ofNat 0, UInt8.ofNat 0, UInt8.ofNat 0, UInt8.ofNat 0, UInt8.ofNat 0, UInt8.ofNat 0, UInt8.ofNat 0, UInt8.ofNat 0, UInt8.ofNat 0, UInt8.ofNat 0, UInt8.ofNat 0, UInt8.ofNat 0, UInt8.ofNat 0, UInt8.ofNat 0, UInt8.ofNat 0, UInt8.ofNat 0, UInt8.ofNat 0, UInt8.ofNat 0, UInt8.ofNat 0, UInt8.ofNat 0, UInt8.ofNat 0, UInt8.ofNat 0, UInt8.ofNat 0, UInt8.ofNat 0, UInt8.ofNat 0, UInt8.ofNat 0] 0 b 128).length) (by kernel_rfl) ?_ ?_; (and_intros <;> try exact cl)
 · show 128 ≤ (splB (List.replicate 128 0) 0 b 128).length
   rw [splB_len (by simp)]; simp
 refine To.E (AV.by8 (List.take 128 (List.drop 0 (splB [UInt8.ofNat 0, UInt8.ofNat 0, UInt8.ofNat 0, UInt8.ofNat 0, UInt8.ofNat 0, UInt8.ofNat 0, UInt8.ofNat 0, UInt8.ofNat 0, UInt8.ofNat 0, UInt8.ofNat 0, UInt8.ofNat 0, UInt8.ofNat 0, UInt8.ofNat 0, UInt8.ofNat 0, UInt8.ofNat 0, UInt8.ofNat 0, UInt8.ofNat 0, UInt8.ofNat 0, UInt8.ofNat 0, UInt8.ofNat 0, UInt8.ofNat 0, UInt8.ofNat 0, UInt8.ofNat 0, UInt8.ofNat 0, UInt8.ofNat 0, UInt8.ofNat 0, UInt8.ofNat 0, UInt8.ofNat 0, UInt8.ofNat 0, UInt8.ofNat 0, UInt8.ofNat 0, UInt8.ofNat 0, UInt8.ofNat 0, UInt8.ofNat 0, UInt8.ofNat 0, UInt8.ofNat 0, UInt8.ofNat 0, UInt8.ofNat 0, UInt8.ofNat 0, UInt8.ofNat 0, UInt8.ofNat 0, UInt8.ofNat 0, UInt8.ofNat 0, UInt8.ofNat 0, UInt8.ofNat 0, UInt8.ofNat 0, UInt8.ofNat 0, UInt8.ofNat 0, UInt8.ofNat 0, UInt8.ofNat 0, UInt8.ofNat 0, UInt8.ofNat 0, UInt8.ofNat 0, UInt8.ofNat 0, UInt8.ofNat 0, UInt8.ofNat 0, UInt8.ofNat 0, UInt8.ofNat 0, UInt8.ofNat 0, UInt8.ofNat 0, UInt8.ofNat 0, UInt8.ofNat 0, UInt8.ofNat 0, UInt8.ofNat 0, UInt8.ofNat 0, UInt8.ofNat 0, UInt8.ofNat 0, UInt8.ofNat 0, UInt8.ofNat 0, UInt8.ofNat 0, UInt8.ofNat 0, UInt8.ofNat 0, UInt8.ofNat 0, UInt8.ofNat 0, UInt8.ofNat 0, UInt8.ofNat 0, UInt8.ofNat 0, UInt8.ofNat 0, UInt8.ofNat 0, UInt8.ofNat 0, UInt8.ofNat 0, UInt8.ofNat 0, UInt8.ofNat 0, UInt8.ofNat 0, UInt8.ofNat 0, UInt8.ofNat 0, UInt8.ofNat 0, UInt8.ofNat 0, UInt8.ofNat 0, UInt8.ofNat 0, UInt8.ofNat 0, UInt8.ofNat 0, UInt8.ofNat 0, UInt8.ofNat 0, UInt8.ofNat 0, UInt8.ofNat 0, UInt8.ofNat 0, UInt8.ofNat 0, UInt8.ofNat 0, UInt8.ofNat 0, UInt8.ofNat 0, UInt8.ofNat 0, UInt8.ofNat 0, UInt8.ofNat 0, UInt8.ofNat 0, UInt8.ofNat 0, UInt8.ofNat 0, UInt8.ofNat 0, UInt8.ofNat 0, UInt8.ofNat 0, UInt8.ofNat 0, UInt8.ofNat 0, UInt8.ofNat 0, UInt8.ofNat 0, UInt8.ofNat 0, UInt8.ofNat 0, UInt8.ofNat 0, UInt8.ofNat 0, UInt8.ofNat 0, UInt8.ofNat 0, UInt8.ofNat 0, UInt8.ofNat 0, UInt8.ofNat 0, UInt8.ofNat 0, UInt8.ofNat 0, UInt8.ofNat 0, UInt8.ofNat 0, UInt8.ofNat 0] 0 b 128)))) (hq := ?_)
 exact congrArg AV.by8 (secB_spl b)
set_option maxHeartbeats 4000000 in
set_option maxRecDepth 100000 in
theorem same6_to (hok : S0.Ok Tryz.prog) (l : List RootD) (hl : l.length ≤ 2) : To S0 Tryz.prog 32 (startOf Tryz.prog 32 [.im 3 l.length (rowsOf rootAV l), .im 3 l.length (rowsOf rootAV l)] .e 0) (fun x _ _ => x = .v (.bool true)) := by
 refine To.R (C := True ∧ True) (h := ?_)
 refine To.Nn ((l.length : Int) = l.length) (h := ?_)
 refine To.R (k := 10) (h := ?_)
 refine To.L (L := []) (kp := [5, 1, 0]) (C := Same IntKind.i64 ∧ (0 : Int) = (↑(0 : Nat) : Int)) (st := fun (a : Nat) => (⟨(⟨32, 26, (slotT 26 [(0, AV.im 3 l.length (rowsOf rootAV l)), (1, AV.im 3 l.length (rowsOf rootAV l)), (5, AV.sy (Value.int IntKind.i64 a))]), ARg.no, [(AItem.code (subC (bodyC Tryz.prog 32) [1, 1, 0, 1, 0, 0])), (AItem.inLoop (subC (bodyC Tryz.prog 32) [1, 1, 0, 1, 0, 0])), (AItem.inBlock 0), (AItem.code (subC (bodyC Tryz.prog 32) [1, 1, 1]))], [], false, none, 0⟩ : AFr), [], memF [] 0 Tr.e, 0⟩ : ASt)) (h := ?_) (fun (t : Nat) => [(5, ivA (t : Int))]) (fun _ => []) (fun t => t ≤ l.length) (fun t => l.length - t) (0)
 intro t ht ih
 refine To.R (h := ?_)
 refine To.Bd ((t : Int) < l.length) (h := ?_) (g := ?_)
 · intro h1
   have hlt : t < l.length := by omega
   have hi2 : t + 1 ≤ l.length := hlt
   have hi3 : l.length - (t + 1) < l.length - t := by omega
   refine To.R (C := ((0 : Int) ≤ t ∧ (t : Int) < l.length) ∧ True ∧ ((0 : Int) ≤ t ∧ (t : Int) < l.length) ∧ True) (h := ?_)
   refine To.Nn ([(↑(l.getD t default).n : Int), (l.getD t default).len, (↑(l.getD t default).sum : Int)] = [(↑(l.getD t default).n : Int), (l.getD t default).len, (↑(l.getD t default).sum : Int)]) (h := ?_)
   refine To.R (k := 10) (C := fits IntKind.i64 (t + 1)) (h := ?_)
   refine To.K (L := []) (kp := [5, 1, 0]) (ov := [(5, AV.sy (Value.int IntKind.i64 (↑(t + 1) : Int)))]) (C := Same IntKind.i64 ∧ (↑t : Int) + 1 = (↑(t + 1) : Int)) (ih (t + 1) hi2 hi3)
 · intro h1
   refine To.R (h := ?_)
   refine To.E (AV.v (Value.bool true)) (hq := ?_)
   rfl
def pureK (k : List AV → Option (List AV × AV × Prop)) (args : List AV) (_ : Tr AB) : Option Ex := match k args with
 | some r => some { μ := [], args := r.1, L := [], res := r.2.1, L' := [], E := [], C := r.2.2 }
 | none => none
theorem pureF_ok {S : Sy} (hok : S.Ok Tryz.prog) {F : FuncId} {fn : Func} (hF : Tryz.prog.funcs[F]? = some fn) (hb : fn.body.isSome = true) {k : List AV → Option (List AV × AV × Prop)}
   (h : ∀ {args a x C}, k args = some (a, x, C) → C → (∀ σ, leL (renL σ args) a) ∧ (startF (tabOf Tryz.prog) F a .e 0).isSome = true ∧ To S Tryz.prog F (startOf Tryz.prog F a .e 0) (fun y _ _ => leA y x)) : FOk Tryz.prog (oneX F (pureK k)) :=
 oneX_ok hok tab hF hb fun {args H n e} hk hC => by
   unfold pureK at hk
   split at hk
   · rename_i r hr
     cases hk
     obtain ⟨h1, h2, h3⟩ := h hr hC
     refine ⟨by simp, trivial, rfl, h1 _, ⟨by simp, by simp⟩, ?_, h2, h3.mono fun y H' _ hy => ⟨hy, trivial, trivial⟩⟩
     intro w0 ρ w vs _ _ j hj; cases hj
   · cases hk
structure OpR.Wf (o : OpR) : Prop where
 kind : fits .i64 o.kind
 r : o.r.Fits
 at_ : fits .i64 o.at_
 c : o.c.Wf
/-! The calls that a slice reads. -/
def opRof : List AV → OpR
 | [k, a, l, s, t, .by8 b, w, .im _ n f, u, z] => ⟨numF [k], ⟨(numF [a]).toNat, numF [l], (numF [s]).toNat⟩, numF [t], b, ⟨numF [w], numsF n f, numF [u], numF [z]⟩⟩
 | _ => default
def opsRof (n : Nat) (f : Nat → List AV) : List OpR := (List.range n).map fun r => opRof (f r)
theorem opRof_F (o : OpR) : opRof (opRF o) = o := by
 show (⟨_, ⟨_, _, _⟩, _, _, ⟨_, numsF o.c.keep.length (intsF o.c.keep), _, _⟩⟩ : OpR) = o
 rw [numsF_ints]; rfl
theorem opsRof_len (n : Nat) (f : Nat → List AV) : (opsRof n f).length = n := by simp [opsRof]
theorem opsRof_ops (l : List OpR) : opsRof l.length (opsRF l) = l := by
 unfold opsRof
 apply List.ext_getElem?
 intro j
 by_cases h : j < l.length
 · rw [List.getElem?_map, List.getElem?_range h, List.getElem?_eq_getElem h, Option.map_some]
   show some (opRof (opRF (l.getD j default))) = _
   rw [opRof_F, List.getD_eq_getElem?_getD, List.getElem?_eq_getElem h]; rfl
 · rw [List.getElem?_eq_none (by simp; omega), List.getElem?_eq_none (by omega)]
def greatRG : CG := oneG 5 (testG fun args _ => match args with
 | [.im 10 n f] => some (greatR (opsRof n f), ∀ r, r < n → f r = opsRF (opsRof n f) r)
 | _ => none)
theorem greatRG_ok : GOk Tryz.prog greatRG := testG_ok tab Tryz.func5 (by kernel_rfl) fun {args H r} h hC {w0 ρ w vs n} hr hv => by
 split at h
 · rename_i m f
   cases h
   have hC' : ∀ r, r < m → f r = opsRF (opsRof m f) r := hC
   cases hv with
   | @cons _ u _ _ e1 t =>
   cases t
   have him := im_all hr
   have hx : VR (envOf w) (.im 10 (opsRof m f).length (opsRF (opsRof m f))) u := by
     cases e1 with
     | im hw hf =>
       rw [opsRof_len]
       exact .im (hw.mono him) (fun r hr' => by rw [← hC' r hr']; exact (hf r hr').mono him)
   refine (pure_calls s0_ok (by kernel_rfl) (great6_to s0_ok (opsRof m f)) (w := w) (.cons hx .nil)).mono ?_
   rintro e w' ⟨x, H', n', ρ', v, rfl, rfl, hv, hf, _⟩
   cases hv
   exact ⟨rfl, hf⟩
 · cases h
theorem great6_small {l : List OpR} (h : greatR l = false) : l.length ≤ 80 ∧ ∀ o ∈ l, o.b.length ≤ 200 ∧ o.c.keep.length ≤ 20 := by
 unfold greatR at h
 rw [Bool.or_eq_false_iff] at h
 refine ⟨by have := of_decide_eq_false h.1; omega, fun o ho => ?_⟩
 have := List.any_eq_false.1 h.2 o ho
 unfold bigR at this
 simp only [Bool.or_eq_true, decide_eq_true_eq] at this
 omega
def sectorF : CF := oneX 21 (pureK fun args => match args with
 | [a] => match by8A a with
   | some b => some ([.by8 b], .by8 (secB b), b.length ≤ 1000000)
   | none => none
 | _ => none)
theorem sectorF_ok : FOk Tryz.prog sectorF := pureF_ok s0_ok Tryz.func21 (by kernel_rfl) fun {args a x C} h hC => by
 split at h
 · split at h
   · rename_i b hb
     cases h
     exact ⟨fun σ => ⟨by8A_le hb σ, trivial⟩, by kernel_rfl, (sector_to s0_ok b hC).mono fun y _ _ hy => by subst hy; exact leA_refl _⟩
   · cases h
 · cases h
def rootQf : List AV → RootD
 | [a, l, s] => ⟨(numF [a]).toNat, numF [l], (numF [s]).toNat⟩
 | _ => default
def rootsQ (n : Nat) (f : Nat → List AV) : List RootD := (List.range n).map fun r => rootQf (f r)
theorem rootsQ_len (n : Nat) (f : Nat → List AV) : (rootsQ n f).length = n := by simp [rootsQ]
theorem rootsQ_rows (l : List RootD) : rootsQ l.length (rowsOf rootAV l) = l := by
 unfold rootsQ
 apply List.ext_getElem?
 intro j
 by_cases h : j < l.length
 · rw [List.getElem?_map, List.getElem?_range h, List.getElem?_eq_getElem h, Option.map_some]
   show some (rootQf (rootAV (l.getD j default))) = _
   rw [show rootQf (rootAV (l.getD j default)) = l.getD j default from rfl, List.getD_eq_getElem?_getD, List.getElem?_eq_getElem h]; rfl
 · rw [List.getElem?_eq_none (by simp; omega), List.getElem?_eq_none (by omega)]
def same6F : CF := oneX 32 (pureK fun args => match args with
 | [.im 3 n f, .im 3 m g] => some ([.im 3 (rootsQ n f).length (rowsOf rootAV (rootsQ n f)), .im 3 (rootsQ n f).length (rowsOf rootAV (rootsQ n f))], .v (.bool true), n ≤ 2 ∧ n = m ∧ (∀ r, r < n → f r = rowsOf rootAV (rootsQ n f) r) ∧ ∀ r, r < m → g r = f r)
 | _ => none)
theorem same6F_ok : FOk Tryz.prog same6F := pureF_ok s0_ok Tryz.func32 (by kernel_rfl) fun {args a x C} h hC => by
 split at h
 · rename_i n f m g
   cases h
   obtain ⟨h1, rfl, h3, h4⟩ : n ≤ 2 ∧ n = m ∧ (∀ r, r < n → f r = rowsOf rootAV (rootsQ n f) r) ∧ ∀ r, r < m → g r = f r := hC
   refine ⟨fun σ => ?_, by kernel_rfl, (same6_to s0_ok (rootsQ n f) (by rw [rootsQ_len]; exact h1)).mono fun y _ _ hy => by subst hy; exact leA_refl _⟩
   have hl := rootsQ_len n f
   rw [hl]
   exact ⟨leA_im (leA_refl _) h3, leA_im (leA_refl _) (fun r hr => (h4 r hr).trans (h3 r hr)), trivial⟩
 · cases h
theorem DiskD.In.save {d : DiskD} {n : Nat} (h : d.In n) (hn : n < 1000000000) (r : RootD) : (saveD d r).1.In (n + 1) := by
 unfold saveD
 split
 · exact h.more (Nat.le_succ _) (by omega)
 · split
   · exact h.write hn _ _
   · exact (h.write hn _ _).flush
theorem both_two (d : DiskD) : (bothD d).1.length ≤ 2 := by
 have h : ∀ a b : Option RootD, (bothL a b).length ≤ 2 := by
   intro a b
   unfold bothL
   repeat' split
   all_goals simp
 unfold bothD
 repeat' split
 all_goals first | exact h _ _ | simp
end Go.Proofs.YtnkjhicokcmmpaaGreat.Sm
