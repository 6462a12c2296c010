/-
  Texts of this claim, laid together: Ka, Range, Oc, Od, Oe, Of, Og, Ca, Seq, Cb, Cc, Cd, Ra, Rb, Rc, Rd, Re, Ya, Ja, Jb, Jc, Jd, Je, Cx, Ga, Gb, Gc, Tz, Gd, Ge, Gk, Tfz, Kb, Kc, Kd, Ke, Kf, Lm, Vd, Ve.
-/
import Derived.Test.YtnfdknnbaebagaaQd
import Derived.Test.YtnfdknnbaebagaaQa
import Derived.RangeFuncNested
import Derived.RangeFuncBound
import Derived.RangeFuncCalls
import Derived.RangeFuncLeaves
import Derived.Shelf.Abstract
import Derived.OwnWalkIn
import Derived.TacticsInMore
import Derived.LoopNIn
import Derived.LoopIn
import Derived.WalkMore
import Derived.Sort.QuietTacIn
import Derived.Sort.BigQuietIn
import Derived.Laws.Bits64b
import Derived.Lib.SmallJoins
import Derived.Deep.RegionHeld3
import Derived.Deep.DeepCutAuto
import Derived.Test.YtnfdknnbaebagaaQc
import Derived.Shelf.SlMaps.Clone
import Derived.Ground.SlmcProg
import Derived.Test.YtnfdknnbaebagaaProg

namespace Go.Proofs.Ytnfdknnbaebagaa.Sm
open Go Go.RowKit
structure RD where
 stays : List (List UInt8)
 cache : List (List UInt8)
 c : CrashD
 many : Int
 down : Bool
def rfallAt (c : CrashD) (k : Nat) (v s : List UInt8) : List UInt8 := if v = [] then s else v.take (keptN c k) ++ s.drop (keptN c k)
def rfallD (r : RD) (c : CrashD) : RD := ⟨(List.range r.stays.length).map fun k => rfallAt c k (r.cache.getD k []) (r.stays.getD k []), List.replicate r.cache.length [], CrashD.none, r.many, true⟩
def RD.put (r : RD) (z : Int) (b : List UInt8) : RD := { r with cache := r.cache.set z.toNat b, many := r.many + 1 }
def RD.tick (r : RD) : RD := { r with c := { r.c with w := r.c.w - 1 } }
def rwriteD (r : RD) (z : Int) (b : List UInt8) : RD × Int :=
 if r.down then (r, 31) else if ¬ (0 ≤ z) then (r, 30) else if ¬ (z < r.stays.length) then (r, 30) else if b.length ≠ 128 then (r, 30) else
 if r.c.w = 0 then (r.put z b, 0) else if 0 < r.c.w - 1 then ((r.put z b).tick, 0) else (rfallD (r.put z b).tick (r.put z b).tick.c, 31)
def rreadD (r : RD) (z : Int) : List UInt8 × Int :=
 if r.down then ([], 31) else if ¬ (0 ≤ z) then ([], 30) else if ¬ (z < r.stays.length) then ([], 30) else
 (if r.cache.getD z.toNat [] = [] then r.stays.getD z.toNat [] else r.cache.getD z.toNat [], 0)
def rflushL (r : RD) : List (List UInt8) := (List.range r.stays.length).map fun k => if r.cache.getD k [] = [] then r.stays.getD k [] else r.cache.getD k []
def rflushD (r : RD) : RD × Int := if r.down then (r, 31) else ({ r with stays := rflushL r, cache := List.replicate r.cache.length [] }, 0)
def rwaitsD (r : RD) : List Int := ((List.range r.cache.length).filter fun k => !(r.cache.getD k []).isEmpty).map Int.ofNat
def rarmD (r : RD) (c : CrashD) : RD × Int := if c.w < 1 then (r, 2) else ({ r with c := c }, 0)
def rdownD (r : RD) (c : CrashD) : RD × Int := if r.down then (r, 31) else (rfallD r c, 0)
def rspoilD (r : RD) (z : Int) (b : List UInt8) : RD × Int :=
 if ¬ (0 ≤ z) then (r, 30) else if ¬ (z < r.stays.length) then (r, 30) else if b.length ≠ 128 then (r, 30) else ({ r with stays := r.stays.set z.toNat b }, 0)
def rnewD (n : Nat) : RD := ⟨List.replicate n (List.replicate 128 0), List.replicate n [], CrashD.none, 0, false⟩
structure RD.Ok (r : RD) : Prop where
 len : r.cache.length = r.stays.length
 le : r.stays.length ≤ 4096
 st : ∀ k, k < r.stays.length → (r.stays.getD k []).length = 128
 ca : ∀ k, k < r.stays.length → r.cache.getD k [] = [] ∨ (r.cache.getD k []).length = 128
 cw : 0 ≤ r.c.w ∧ fits .i64 r.c.w
 keep : r.c.keep.length ≤ 1000000
 many : 0 ≤ r.many ∧ r.many ≤ 4000000000000000000
structure GoesR (d : DiskD) (r : RD) : Prop where
 stays : r.stays = d.stays
 len : r.cache.length = d.stays.length
 cache : ∀ k, k < d.stays.length → r.cache.getD k [] = (getM d.waits k).getD []
 c : r.c = d.crash
 many : r.many = d.writes
 down : r.down = d.down
theorem GoesR.ok {d : DiskD} {r : RD} (h : GoesR d r) (hd : d.Fine) : r.Ok := by
 refine ⟨by rw [h.len, h.stays], by rw [h.stays]; exact hd.ok.le, fun k hk => ?_, fun k hk => ?_, by rw [h.c]; exact hd.cw, by rw [h.c]; exact hd.keep, by rw [h.many]; exact hd.wr⟩
 · rw [h.stays] at hk ⊢
   exact hd.ok.rows _ (by rw [List.getD_eq_getElem?_getD, List.getElem?_eq_getElem hk]; simp)
 · rw [h.stays] at hk
   rw [h.cache k hk]
   cases hv : getM d.waits k with
   | none => exact .inl rfl
   | some v =>
     right
     have hm : (k : Int) ∈ d.waits.map (·.1) := by rw [← getM_isSome, hv]; rfl
     obtain ⟨v', g1, g2⟩ := getM_mem hm
     rw [hv] at g1; cases g1
     exact (hd.ok.keys _ g2).2.2
theorem getM_len' {d : DiskD} (hd : d.Ok) {z : Int} {v : List UInt8} (h : getM d.waits z = some v) : v.length = 128 := by
 have hm : z ∈ d.waits.map (·.1) := by rw [← getM_isSome, h]; rfl
 obtain ⟨v', g1, g2⟩ := getM_mem hm
 rw [h] at g1; cases g1
 exact (hd.keys _ g2).2.2
theorem GoesR.fall {d : DiskD} {r : RD} (h : GoesR d r) (hd : d.Ok) (c : CrashD) : GoesR (fallD d c) (rfallD r c) := by
 have hl : (fallD d c).stays.length = d.stays.length := fallL_len _ _ _ _
 refine ⟨?_, ?_, fun k hk => ?_, rfl, h.many, rfl⟩
 · refine rows_ext ?_ fun k hk => ?_
   · rw [hl]
     simp [rfallD, h.stays]
   · have hk' : k < d.stays.length := by simpa [rfallD, h.stays] using hk
     show _ = (fallL d.waits c (keysD d.waits) d.stays).getD k []
     rw [fallL_at hd c hk']
     unfold rfallD
     rw [List.getD_eq_getElem?_getD, List.getElem?_map, List.getElem?_range (by rw [h.stays]; exact hk')]
     simp only [Option.map_some, Option.getD_some]
     rw [h.cache k hk', h.stays]
     unfold rfallAt fallAt
     cases hv : getM d.waits k with
     | none => rfl
     | some v =>
       have := getM_len' hd hv
       rw [if_neg (by intro e; simp at e; rw [e] at this; cases this)]
       rfl
 · simp [rfallD, h.len, hl]
 · rw [hl] at hk
   have : (fallD d c).waits = [] := rfl
   rw [this]
   simp [rfallD, getM, List.getD_eq_getElem?_getD, List.getElem?_replicate]
   split <;> rfl
theorem GoesR.put {d : DiskD} {r : RD} (h : GoesR d r) {z : Int} (h0 : 0 ≤ z) (_h1 : z < d.stays.length) {b : List UInt8} (hb : b.length = 128) : GoesR (d.put z b) (r.put z b) := by
 refine ⟨h.stays, ?_, fun k hk => ?_, h.c, by show r.many + 1 = d.writes + 1; rw [h.many], h.down⟩
 · show (r.cache.set z.toNat b).length = _
   rw [List.length_set]; exact h.len
 · show (r.cache.set z.toNat b).getD k [] = (getM (putM d.waits z (b.take 128)) k).getD []
   have hk' : k < d.stays.length := hk
   rw [getM_putM, List.take_of_length_le (by omega)]
   by_cases e : (k : Int) = z
   · rw [if_pos e]
     have : z.toNat = k := by omega
     rw [this]
     simp [List.getD_eq_getElem?_getD, List.getElem?_set, h.len, hk']
   · rw [if_neg e]
     have : ¬ z.toNat = k := by omega
     rw [← h.cache k hk']
     simp [List.getD_eq_getElem?_getD, List.getElem?_set, this]
theorem GoesR.tick {d : DiskD} {r : RD} (h : GoesR d r) : GoesR d.tick r.tick :=
 ⟨h.stays, h.len, h.cache, by show ({ r.c with w := r.c.w - 1 } : CrashD) = { d.crash with w := d.crash.w - 1 }; rw [h.c], h.many, h.down⟩
theorem GoesR.write {d : DiskD} {r : RD} (h : GoesR d r) (hd : d.Ok) (z : Int) (b : List UInt8) : GoesR (writeD d z b).1 (rwriteD r z b).1 ∧ (rwriteD r z b).2 = (writeD d z b).2 := by
 unfold writeD rwriteD
 rw [h.down, h.stays, h.c]
 split
 · exact ⟨h, rfl⟩
 · split
   · exact ⟨h, rfl⟩
   · split
     · exact ⟨h, rfl⟩
     · split
       · exact ⟨h, rfl⟩
       · rename_i h1 h2 h3 h4
         have hb : b.length = 128 := by omega
         have hp := h.put (z := z) (by omega) (by omega) hb
         have hpo : (d.put z b).tick.Ok := (hd.put (by omega) (by omega) (by rw [List.length_take]; omega)).of rfl rfl
         split
         · exact ⟨hp, rfl⟩
         · split
           · exact ⟨hp.tick, rfl⟩
           · refine ⟨?_, rfl⟩
             have := hp.tick.fall hpo (d.put z b).tick.crash
             rwa [show (d.put z b).tick.crash = (r.put z b).tick.c from hp.tick.c.symm] at this ⊢
theorem GoesR.read {d : DiskD} {r : RD} (h : GoesR d r) (hd : d.Ok) (z : Int) : rreadD r z = ((readD d z).1.getD [], (readD d z).2) := by
 unfold readD rreadD
 rw [h.down, h.stays]
 split
 · rfl
 · split
   · rfl
   · split
     · rfl
     · rename_i h1 h2 h3
       have hz : z.toNat < d.stays.length := by omega
       have hc := h.cache z.toNat hz
       rw [show ((z.toNat : Nat) : Int) = z by omega] at hc
       rw [hc]
       cases hv : getM d.waits z with
       | none => rfl
       | some v =>
         have := getM_len' hd hv
         simp only [Option.getD_some]
         rw [if_neg (by intro e; rw [e] at this; cases this)]
theorem GoesR.flush {d : DiskD} {r : RD} (h : GoesR d r) (hd : d.Ok) : GoesR (flushD d).1 (rflushD r).1 ∧ (rflushD r).2 = (flushD d).2 := by
 unfold flushD rflushD
 rw [h.down]
 split
 · exact ⟨h, rfl⟩
 · refine ⟨⟨?_, ?_, fun k hk => ?_, h.c, h.many, rfl⟩, rfl⟩
   · refine rows_ext ?_ fun k hk => ?_
     · simp [rflushL, h.stays, flushL_len]
     · have hk' : k < d.stays.length := by simpa [rflushL, h.stays] using hk
       show (rflushL r).getD k [] = (flushL d.waits (keysD d.waits) d.stays).getD k []
       rw [flushL_at hd hk']
       unfold rflushL
       rw [List.getD_eq_getElem?_getD, List.getElem?_map, List.getElem?_range (by rw [h.stays]; exact hk')]
       simp only [Option.map_some, Option.getD_some]
       rw [h.cache k hk', h.stays]
       cases hv : getM d.waits k with
       | none => rfl
       | some v =>
         have := getM_len' hd hv
         simp only [Option.getD_some]
         rw [if_neg (by intro e; rw [e] at this; cases this)]
   · simp [flushL_len, h.len]
   · simp only [List.getD_eq_getElem?_getD, List.getElem?_replicate, getM, Option.getD_none]
     split <;> rfl
theorem GoesR.boot {d : DiskD} {r : RD} (h : GoesR d r) : GoesR (bootD d) { r with down := false } := ⟨h.stays, h.len, h.cache, h.c, h.many, rfl⟩
theorem GoesR.down_ {d : DiskD} {r : RD} (h : GoesR d r) (hd : d.Ok) (c : CrashD) : GoesR (downD d c).1 (rdownD r c).1 ∧ (rdownD r c).2 = (downD d c).2 := by
 unfold downD rdownD
 rw [h.down]
 split
 · exact ⟨h, rfl⟩
 · exact ⟨h.fall hd c, rfl⟩
theorem GoesR.arm {d : DiskD} {r : RD} (h : GoesR d r) (c : CrashD) : GoesR (armD d c).1 (rarmD r c).1 ∧ (rarmD r c).2 = (armD d c).2 := by
 unfold armD rarmD
 split
 · exact ⟨h, rfl⟩
 · exact ⟨⟨h.stays, h.len, h.cache, rfl, h.many, h.down⟩, rfl⟩
theorem GoesR.spoil {d : DiskD} {r : RD} (h : GoesR d r) (z : Int) (b : List UInt8) : GoesR (spoilD d z b).1 (rspoilD r z b).1 ∧ (rspoilD r z b).2 = (spoilD d z b).2 := by
 unfold spoilD rspoilD
 rw [h.stays]
 split
 · exact ⟨h, rfl⟩
 · split
   · exact ⟨h, rfl⟩
   · split
     · exact ⟨h, rfl⟩
     · rename_i h1 h2 h3
       refine ⟨⟨?_, ?_, fun k hk => ?_, h.c, h.many, h.down⟩, rfl⟩
       · show d.stays.set _ _ = d.stays.set _ _
         rw [List.take_of_length_le (by omega)]
       · show _ = (d.stays.set _ _).length
         rw [List.length_set]; exact h.len
       · have hk' : k < d.stays.length := by simpa using hk
         exact h.cache k hk'
theorem goes_new {n : Nat} : GoesR (newD n) (rnewD n) :=
 ⟨rfl, by simp [newD, rnewD], fun k hk => by
   simp only [newD, rnewD, getM, List.getD_eq_getElem?_getD, List.getElem?_replicate, Option.getD_none]
   split <;> rfl, rfl, rfl, rfl⟩
theorem GoesR.waits {d : DiskD} {r : RD} (h : GoesR d r) (hd : d.Ok) : rwaitsD r = keysD d.waits := by
 have hs := List.pairwise_mergeSort (le := leI) (fun a b c => by simp only [leI, decide_eq_true_eq]; omega) (fun a b => by simp only [leI, Bool.or_eq_true, decide_eq_true_eq]; omega)
 refine List.Perm.eq_of_pairwise (le := fun a b => leI a b = true) (fun a b _ _ => by simp only [leI, decide_eq_true_eq]; omega) ?_ (hs _) ?_
 · unfold rwaitsD
   rw [List.pairwise_map]
   refine List.Pairwise.filter _ ?_
   refine (List.pairwise_lt_range).imp fun {a b} hab => ?_
   simp only [leI, decide_eq_true_eq]
   show (a : Int) ≤ (b : Int)
   omega
 · refine (List.perm_ext_iff_of_nodup ?_ (keysD_nodup hd.one)).2 fun z => ?_
   · unfold rwaitsD
     rw [List.Nodup, List.pairwise_map]
     refine List.Pairwise.filter _ ?_
     refine (List.nodup_range).imp fun {a b} hab e => hab ?_
     have e' : (a : Int) = (b : Int) := e
     omega
   · rw [keysD_mem, ← getM_isSome]
     unfold rwaitsD
     simp only [List.mem_map, List.mem_filter, List.mem_range]
     constructor
     · rintro ⟨k, ⟨hk, hb⟩, rfl⟩
       rw [h.len] at hk
       rw [h.cache k hk] at hb
       show (getM d.waits (k : Int)).isSome = true
       cases hv : getM d.waits (k : Int) with
       | none => rw [hv] at hb; simp at hb
       | some v => rfl
     · intro hz
       have hm := getM_isSome.1 hz
       obtain ⟨v, g1, g2⟩ := getM_mem hm
       obtain ⟨q1, q2, q3⟩ := hd.keys _ g2
       simp only at q1 q2 q3
       refine ⟨z.toNat, ⟨by rw [h.len]; omega, ?_⟩, by show ((z.toNat : Nat) : Int) = z; omega⟩
       rw [h.cache _ (by omega), show ((z.toNat : Nat) : Int) = z by omega, g1]
       simp only [Option.getD_some]
       cases v with
       | nil => cases q3
       | cons => rfl
end Go.Proofs.Ytnfdknnbaebagaa.Sm
/-
 A range over a function, met in a plain walk; a function's end behind it.
-/
namespace Go.Proofs.Ytnfdknnbaebagaa
open Go.RowKit Go.Shelf
variable {P : Program}
end Go.Proofs.Ytnfdknnbaebagaa
/-
 The reader of bytes: the bytes that are left, told one by one.
-/
namespace Go.Proofs.Ytnfdknnbaebagaa
open Go.RowKit Go.Shelf
attribute [local go_sem] Oper.semAt_some
end Go.Proofs.Ytnfdknnbaebagaa
/-
 The reader of bytes: the number that the next bytes are.
-/
namespace Go.Proofs.Ytnfdknnbaebagaa
open Go.RowKit Go.Shelf
attribute [local go_sem] Oper.semAt_some
end Go.Proofs.Ytnfdknnbaebagaa
/-
 The reader of bytes: numbers, raw bytes, a new reader.
-/
namespace Go.Proofs.Ytnfdknnbaebagaa
open Go.RowKit Go.Shelf
attribute [local go_sem] Oper.semAt_some
end Go.Proofs.Ytnfdknnbaebagaa
namespace Go.Proofs.Ytnfdknnbaebagaa
open Go.RowKit Go.Shelf


end Go.Proofs.Ytnfdknnbaebagaa
namespace Go.Proofs.Ytnfdknnbaebagaa
def poly : Nat := 3988292384
def cs1 (c : Nat) : Nat := if c % 2 = 1 then (c / 2) ^^^ poly else c / 2
def csN : Nat → Nat → Nat
 | 0, c => c
 | k + 1, c => cs1 (csN k c)
def tab (i : Nat) : Nat := csN 8 i
end Go.Proofs.Ytnfdknnbaebagaa
namespace Go.Proofs.Ytnfdknnbaebagaa
open Go.RowKit Go.Shelf
section
variable {P : Program}
end
end Go.Proofs.Ytnfdknnbaebagaa
/-
 The checksum's table: what its functions come to.
-/
namespace Go.Proofs.Ytnfdknnbaebagaa
open Go.RowKit Go.Shelf
attribute [local go_sem] Oper.semAt_some
end Go.Proofs.Ytnfdknnbaebagaa
/-
 The checksum of bytes: what the program's functions come to.
-/
namespace Go.Proofs.Ytnfdknnbaebagaa
open Go.RowKit Go.Shelf
attribute [local go_sem] Oper.semAt_some
end Go.Proofs.Ytnfdknnbaebagaa
namespace Go.Proofs.Ytnfdknnbaebagaa
open Go.RowKit Go.Shelf






end Go.Proofs.Ytnfdknnbaebagaa
namespace Go.Proofs.Ytnfdknnbaebagaa
open Go.RowKit

end Go.Proofs.Ytnfdknnbaebagaa
namespace Go.Proofs.Ytnfdknnbaebagaa
open Go.RowKit Go.Shelf





end Go.Proofs.Ytnfdknnbaebagaa
namespace Go.Proofs.Ytnfdknnbaebagaa

end Go.Proofs.Ytnfdknnbaebagaa
namespace Go.Proofs.Ytnfdknnbaebagaa
open Go.RowKit

end Go.Proofs.Ytnfdknnbaebagaa
namespace Go.Proofs.Ytnfdknnbaebagaa.Sm
open Go Go.RowKit

def bysF (l : List (List UInt8)) : Nat → List AV := rowsOf (fun b => [AV.by8 b]) l
theorem rdJ (d : DiskD) (z : Int) : (d.down = true ∧ readD d z = (none, 31)) ∨ (d.down = false ∧ ¬ (0 ≤ z ∧ z < d.stays.length) ∧ readD d z = (none, 30)) ∨ (d.down = false ∧ z < d.stays.length ∧ ∃ a, readD d z = (some a, 0)) := by
 unfold readD
 by_cases h1 : d.down = true
 · exact .inl ⟨h1, by rw [if_pos h1]⟩
 · rw [if_neg h1]
   have h1' : d.down = false := by simpa using h1
   by_cases h2 : 0 ≤ z
   · rw [if_neg (by omega)]
     by_cases h3 : z < d.stays.length
     · rw [if_neg (by omega)]
       exact .inr (.inr ⟨h1', h3, _, rfl⟩)
     · rw [if_pos (by omega)]
       exact .inr (.inl ⟨h1', fun h => h3 h.2, rfl⟩)
   · rw [if_pos (by omega)]
     exact .inr (.inl ⟨h1', fun h => h2 h.1, rfl⟩)
theorem rdJ_some {d : DiskD} {z : Int} (h : (readD d z).1.isSome = true) : (∃ a, readD d z = (some a, 0)) ∧ d.down = false ∧ z < d.stays.length := by
 rcases rdJ d z with ⟨_, e⟩ | ⟨_, _, e⟩ | ⟨h1, h2, h3⟩
 · rw [e] at h; cases h
 · rw [e] at h; cases h
 · exact ⟨h3, h1, h2⟩
theorem Ex.calls {S : Sy} {P : Program} (hok : S.Ok P) {f : FuncId} {e : Ex} {args : List AV} {H : Tr AB} {n : Nat} (o : e.Ok S P f args H n) {w0 : Bs} {ρ : Env} {w : World} {vs : List Value} (hr : HR w0 ρ H n w) (hv : VRs ρ args vs) :
   Calls P f vs.toArray w (fun ev w' => ∃ ρ' v, ev = .returned v ∧ VR ρ' (e.out H n).1.1 v ∧ HR w0 ρ' (e.out H n).1.2.1 (e.out H n).1.2.2 w' ∧ Ext ρ ρ' H (e.out H n).1.2.1 n (e.out H n).1.2.2) := by
 obtain ⟨F, hFt⟩ := hr.foot
 obtain ⟨hl, hseen⟩ := seenL_at o.seen
 have hbd := o.bnd hr hv
 have hkm : ∀ i ∈ e.μ, ∀ (T : TypeId) (l : List AV), H.get i = some (.mem T none l) → ρ i ≠ none := fun i hi T l hq => (hbd i hi).elim id (fun h => absurd hq (h T l))
 have hin := hr.inner hFt o.nd hl hseen hkm
 have hva : VRs (inEnv ρ e.μ) e.args vs := leL_VRs o.arg (hv.ren (inEnv_ren o.nd))
 refine (To.calls hok (startOf_some o.st) o.run hin hva).mono ?_
 rintro ev w' ⟨x, H', n', ρ', v, ⟨h1, h2, h3⟩, rfl, hx, hr'⟩
 have hE : ∀ p j : Nat, (e.E.map (·.1))[p]? = some j → ∃ q, e.E[p]? = some q ∧ q.1 = j := fun p j hp => by
   rw [List.getElem?_map] at hp
   cases hq : e.E[p]? with
   | none => rw [hq] at hp; cases hp
   | some q => rw [hq] at hp; cases hp; exact ⟨q, rfl, rfl⟩
 have hlt : ∀ i ∈ e.μ, i < n := fun i hi => by
   rcases Nat.lt_or_ge i n with h | h
   · exact h
   · obtain ⟨j, hj⟩ := List.mem_iff_getElem?.1 hi
     obtain ⟨B, g1, _⟩ := hseen j i hj
     rw [(hr.top h).2] at g1; cases g1
 have hput := fun q => putL_get (σ := e.σ n) (H := H) o.nd o.len q
 have hmem : ∀ q, (memF (e.E.map fun p => renB (e.σ n) p.2) n (putL (e.σ n) e.μ e.L' H)).get q = if n ≤ q ∧ q < n + e.E.length then (e.E.map fun p => renB (e.σ n) p.2)[q - n]? else (putL (e.σ n) e.μ e.L' H).get q := fun q => by
   rw [memF_get, List.length_map]
 have key := hr.outer (H2 := memF (e.E.map fun p => renB (e.σ n) p.2) n (putL (e.σ n) e.μ e.L' H)) (E := e.E.map (·.1)) hFt o.nd (fun i hi => by
     obtain ⟨j, hj⟩ := List.mem_iff_getElem?.1 hi
     obtain ⟨B, g1, g2, _⟩ := hseen j i hj
     exact ⟨B, g1, g2, fun T l e => hkm i hi T l (by rw [g1, e])⟩) o.new.1 (fun j hj => by
     obtain ⟨p, hp, rfl⟩ := List.mem_map.1 hj
     exact o.new.2 p hp) hr' (fun q hq hm => by
     rw [hmem, if_neg (by omega)]
     exact (hput q).2 hm) (fun j i hj => by
     have hi := List.mem_of_getElem? hj
     have := hlt i hi
     have hjl : j < e.μ.length := (List.getElem?_eq_some_iff.1 hj).1
     obtain ⟨B0, g1, g2⟩ := endL_at h2 j _ (List.getElem?_eq_getElem (by rw [o.len]; exact hjl))
     refine ⟨_, ?_, B0, by rwa [Nat.zero_add] at g1, leB_ren _ g2⟩
     rw [hmem, if_neg (by omega), (hput i).1 j hj, List.getElem?_eq_getElem (by rw [o.len]; exact hjl)]; rfl) (fun p j hp => by
     obtain ⟨q, hq, rfl⟩ := hE p j hp
     have hpl : p < e.E.length := (List.getElem?_eq_some_iff.1 hq).1
     obtain ⟨B0, g1, g2⟩ := endE_at h3 q (List.mem_of_getElem? hq)
     refine ⟨_, ?_, B0, g1, leB_ren _ g2⟩
     rw [hmem, if_pos (by omega), Nat.add_sub_cancel_left, List.getElem?_map, hq]; rfl) (fun q hq => by
     rw [List.length_map] at hq
     rw [hmem, if_neg (by omega)]
     by_cases hm : q ∈ e.μ
     · have := hlt q hm; omega
     · rw [(hput q).2 hm]; exact (hr.top (by omega)).2)
 rw [List.length_map] at key
 exact ⟨_, v, rfl, (leA_VR h1 hx).ren (outS_ren hr hlt o.new.1 hr'), key.1, key.2⟩
def oneXG (F : FuncId) (K : List AV → Tr AB → Option (Bool × Prop × (Bool → Ex))) : CG := oneG F fun args H => match K args H with
 | some r => some (r.1, r.2.1, fun n v => ((r.2.2 v).out H n).1)
 | none => none
theorem oneXG_ok {S : Sy} {P : Program} (hok : S.Ok P) (ht : (P.funcs.toList.all fun fn => !(fn.name == "runtime.NumGoroutine")) = true) {F : FuncId} {fn : Func} (hF : P.funcs[F]? = some fn) (hb : fn.body.isSome = true) {K : List AV → Tr AB → Option (Bool × Prop × (Bool → Ex))}
   (h : ∀ {args H n r}, K args H = some r → r.2.1 → (r.2.2 r.1).Ok S P F args H n) : GOk P (oneXG F K) :=
 oneG_ok ht hF hb fun {args H r} hk hC {w0 ρ w vs n} hr hv => by
   split at hk
   · rename_i q hq
     cases hk
     exact Ex.calls hok (h (n := n) hq hC) hr hv
   · cases hk
theorem endL_cons {B0 B : AB} {l : List AB} {k : Nat} {H : Tr AB} (h : H.get k = some B0) (hl : leB B0 B) (t : endL l (k + 1) H) : endL (B :: l) k H := ⟨⟨B0, h, hl⟩, t⟩
theorem endL_nil {k : Nat} {H : Tr AB} : endL [] k H := trivial
theorem of_eqP {P C : Prop} (h : P = C) (c : C) : P := h ▸ c


def byF : List AV → List UInt8
 | [.by8 b] => b
 | _ => []
def recsF (n : Nat) (f : Nat → List AV) : List (List UInt8) := (List.range n).map fun r => byF (f r)
theorem recsF_len (n : Nat) (f : Nat → List AV) : (recsF n f).length = n := by simp [recsF]
theorem recs_bys (l : List (List UInt8)) : recsF l.length (bysF l) = l := by
 unfold recsF
 apply List.ext_getElem?
 intro j
 by_cases h : j < l.length
 · rw [List.getElem?_map, List.getElem?_range h]
   simp [bysF, rowsOf, byF, h]
 · rw [List.getElem?_eq_none (by simp; omega), List.getElem?_eq_none (by omega)]
/-! The state. -/
def slotsZ (i : Nat) (y : Bool) (B : AB) (kp : List Nat) (T : Tr AV) : Nat → Nat → List AV
 | 0, _ => []
 | k + 1, s => cond (memS s kp) (frzA i y B (At T s)) .any :: slotsZ i y B kp T k (s + 1)
def askT (i : Nat) (y : Bool) (B : AB) (kp : List Nat) (T : Tr AV) : Nat → Nat → List Prop
 | 0, _ => []
 | k + 1, s => cond (memS s kp) (askZ i y B (At T s)) [] ++ askT i y B kp T k (s + 1)
theorem slotsZ_get (i : Nat) (y : Bool) (B : AB) (kp : List Nat) (T : Tr AV) : ∀ (k s q : Nat), q < k → (slotsZ i y B kp T k s)[q]? = some (cond (memS (s + q) kp) (frzA i y B (At T (s + q))) .any)
 | 0, _, q, h => by omega
 | k + 1, s, 0, _ => rfl
 | k + 1, s, q + 1, h => by
   simp only [slotsZ, List.getElem?_cons_succ]
   rw [slotsZ_get i y B kp T k (s + 1) q (by omega), show s + 1 + q = s + (q + 1) by omega]
theorem slotsZ_len (i : Nat) (y : Bool) (B : AB) (kp : List Nat) (T : Tr AV) : ∀ (k s : Nat), (slotsZ i y B kp T k s).length = k
 | 0, _ => rfl
 | k + 1, s => by simp [slotsZ, slotsZ_len i y B kp T k]
theorem askT_get {i : Nat} {y : Bool} {B : AB} {kp : List Nat} {T : Tr AV} : ∀ {k s q : Nat}, q < k → All (askT i y B kp T k s) → memS (s + q) kp = true → All (askZ i y B (At T (s + q)))
 | 0, _, q, h, _, _ => by omega
 | k + 1, s, 0, _, ha, hm => by
   have := All.left ha
   rw [show s + 0 = s from rfl] at hm ⊢
   rwa [hm] at this
 | k + 1, s, q + 1, h, ha, hm => by
   have := askT_get (q := q) (by omega) (All.right ha) (by rwa [show s + 1 + q = s + (q + 1) by omega])
   rwa [show s + 1 + q = s + (q + 1) by omega] at this
theorem TR.frz {i : Nat} {y : Bool} {B : AB} {ρ : Env} {I : Im} (hI : ρ.im.le I) (hl : LeafOk i y B ρ I) {nt : Nat} {T : Tr AV} {ts : Array Value} (h : TR ρ nt T ts) (kp : List Nat) (ha : All (askT i y B kp T nt 0)) :
   TR (frzE ρ i I) nt (argsT (slotsZ i y B kp T nt 0) 0 .e) ts := by
 refine ⟨h.1, fun s => ?_⟩
 rw [At_argsT, slotsZ_len]
 by_cases hs : s < nt
 · rw [if_pos ⟨Nat.zero_le _, by omega⟩, Nat.sub_zero, slotsZ_get _ _ _ _ _ _ _ _ hs]
   simp only [Option.getD_some, Nat.zero_add]
   cases hm : memS s kp with
   | true =>
     have hz := askT_get hs ha (by rwa [Nat.zero_add])
     rw [Nat.zero_add] at hz
     exact (h.2 s).frz hI hl hz
   | false => exact .any _
 · rw [if_neg (by omega)]
   have : ts.getD s undef = undef := by
     rw [Array.getD_eq_getD_getElem?, Array.getElem?_eq_none (by rw [h.1]; omega)]; rfl
   rw [this]
   exact .v _
def frzB (i : Nat) (y : Bool) (B : AB) : AB → AB
 | .mem T z l => .mem T z (frzL i y B l)
 | C => C
def askB (i : Nat) (y : Bool) (B : AB) : AB → List Prop
 | .mem _ _ l => askZs i y B l
 | _ => []
def noB (i : Nat) : AB → Bool
 | .loop _ _ _ nt T _ _ _ d => noT i T nt && !(Nat.beq d i)
 | .map l _ => noE i l
 | _ => true
def blksZ (i : Nat) (y : Bool) (B : AB) (H : Tr AB) : Nat → Nat → List AB
 | 0, _ => []
 | k + 1, s => (cond (Nat.beq s i) .dead (match H.get s with | some C => frzB i y B C | none => .dead)) :: blksZ i y B H k (s + 1)
def askH (i : Nat) (y : Bool) (B : AB) (H : Tr AB) : Nat → Nat → List Prop
 | 0, _ => []
 | k + 1, s => cond (Nat.beq s i) [] (match H.get s with | some C => askB i y B C | none => []) ++ askH i y B H k (s + 1)
def noH (i : Nat) (H : Tr AB) : Nat → Nat → Bool
 | 0, _ => true
 | k + 1, s => cond (Nat.beq s i) true (match H.get s with | some C => noB i C | none => true) && noH i H k (s + 1)
def noGz (i : Nat) (H : Tr AB) : Nat → Nat → Bool
 | 0, _ => true
 | k + 1, s => (match H.get s with | some (.mem _ none l) => noL i l | _ => true) && noGz i H k (s + 1)
theorem blksZ_get (i : Nat) (y : Bool) (B : AB) (H : Tr AB) : ∀ (k s q : Nat), q < k → (blksZ i y B H k s)[q]? = some (cond (Nat.beq (s + q) i) .dead (match H.get (s + q) with | some C => frzB i y B C | none => .dead))
 | 0, _, q, h => by omega
 | k + 1, s, 0, _ => rfl
 | k + 1, s, q + 1, h => by
   simp only [blksZ, List.getElem?_cons_succ]
   rw [blksZ_get i y B H k (s + 1) q (by omega), show s + 1 + q = s + (q + 1) by omega]
theorem blksZ_len (i : Nat) (y : Bool) (B : AB) (H : Tr AB) : ∀ (k s : Nat), (blksZ i y B H k s).length = k
 | 0, _ => rfl
 | k + 1, s => by simp [blksZ, blksZ_len i y B H k]
theorem askH_get {i : Nat} {y : Bool} {B : AB} {H : Tr AB} : ∀ {k s q : Nat} {C : AB}, q < k → All (askH i y B H k s) → Nat.beq (s + q) i = false → H.get (s + q) = some C → All (askB i y B C)
 | 0, _, q, C, h, _, _, _ => by omega
 | k + 1, s, 0, C, _, ha, hb, hC => by
   have := All.left ha
   rw [show s + 0 = s from rfl] at hb hC
   rwa [hb, hC] at this
 | k + 1, s, q + 1, C, h, ha, hb, hC => askH_get (q := q) (by omega) (All.right ha) (by rwa [show s + 1 + q = s + (q + 1) by omega]) (by rwa [show s + 1 + q = s + (q + 1) by omega])
theorem noH_get {i : Nat} {H : Tr AB} : ∀ {k s q : Nat} {C : AB}, q < k → noH i H k s = true → Nat.beq (s + q) i = false → H.get (s + q) = some C → noB i C = true
 | 0, _, q, C, h, _, _, _ => by omega
 | k + 1, s, 0, C, _, ha, hb, hC => by
   simp only [noH, Bool.and_eq_true] at ha
   have := ha.1
   rw [show s + 0 = s from rfl] at hb hC
   rwa [hb, hC] at this
 | k + 1, s, q + 1, C, h, ha, hb, hC => by
   simp only [noH, Bool.and_eq_true] at ha
   exact noH_get (q := q) (by omega) ha.2 (by rwa [show s + 1 + q = s + (q + 1) by omega]) (by rwa [show s + 1 + q = s + (q + 1) by omega])
theorem noGz_get {i : Nat} {H : Tr AB} : ∀ {k s q : Nat} {T : TypeId} {l : List AV}, q < k → noGz i H k s = true → H.get (s + q) = some (.mem T none l) → noL i l = true
 | 0, _, q, T, l, h, _, _ => by omega
 | k + 1, s, 0, T, l, _, ha, hC => by
   simp only [noGz, Bool.and_eq_true] at ha
   have := ha.1
   rw [show s + 0 = s from rfl] at hC
   rwa [hC] at this
 | k + 1, s, q + 1, T, l, h, ha, hC => by
   simp only [noGz, Bool.and_eq_true] at ha
   exact noGz_get (q := q) (by omega) ha.2 (by rwa [show s + 1 + q = s + (q + 1) by omega])
theorem noT_at {i : Nat} {T : Tr AV} : ∀ {k s : Nat}, noT i T k = true → s < k → noA i (At T s) = true
 | 0, s, _, h => absurd h (Nat.not_lt_zero _)
 | k + 1, s, h, hs => by
   simp only [noT, Bool.and_eq_true] at h
   by_cases e : s = k
   · subst e; exact h.1
   · exact noT_at h.2 (by omega)
theorem ERs.frzN {i : Nat} {y : Bool} {B : AB} {ρ : Env} {I : Im} (hI : ρ.im.le I) (hl : LeafOk i y B ρ I) {l : List (Value × AV × Nat)} {m : List MapEntry} (h : ERs ρ l m) : noE i l = true → ERs (frzE ρ i I) l m := by
 induction h with
 | nil => exact fun _ => .nil
 | cons h _ ih =>
   intro hn
   simp only [noE, Bool.and_eq_true] at hn
   exact .cons (h.frzN hI hl hn.1) (ih hn.2)
theorem undef_VR {i : Nat} {ρ : Env} {I : Im} (hI : ρ.im.le I) {x : AV} (h : VR ρ x undef) : VR (frzE ρ i I) x undef := by
 generalize hu : undef = u at h
 cases h with
 | v => subst hu; exact .v _
 | sy => subst hu; exact .sy _
 | any => exact .any _
 | tup e =>
   unfold undef at hu
   injection hu with hu
   have := congrArg Array.toList hu
   simp at this
   subst this
   cases e
   exact .tup .nil
 | _ => unfold undef at hu; cases hu
theorem BR.frz {i : Nat} {y : Bool} {B : AB} {ρ : Env} {I : Im} (hI : ρ.im.le I) (hl : LeafOk i y B ρ I) {c : Nat} {C : AB} {o : Obj} (h : BR ρ c C o) (ha : All (askB i y B C)) (hn : noB i C = true) : BR (frzE ρ i I) c (frzB i y B C) o := by
 cases C with
 | mem T z l => obtain ⟨vs, sp, fz, h1, h2⟩ := h; exact ⟨vs, sp, fz, h1.frz hI hl ha, h2⟩
 | loop st pd fn nt T ps asg bd d =>
   obtain ⟨ts, db, dc, h1, h2, h3⟩ := h
   simp only [noB, Bool.and_eq_true, Bool.not_eq_true'] at hn
   refine ⟨ts, db, dc, ⟨h1.1, fun s => ?_⟩, frzE_ne hn.2 h2, h3⟩
   by_cases hs : s < nt
   · exact (h1.2 s).frzN hI hl (noT_at hn.1 hs)
   · have e := h1.2 s
     have hu : ts.getD s undef = undef := by
       rw [Array.getD_eq_getD_getElem?, Array.getElem?_eq_none (by rw [h1.1]; omega)]; rfl
     rw [hu] at e ⊢
     exact undef_VR hI e
 | dfd => exact h
 | map l k => obtain ⟨m, h1, h2⟩ := h; exact ⟨m, h1.frzN hI hl hn, h2⟩
 | dead => exact h
 | bb => exact h
 | rw => obtain ⟨vs, sp, h1, h3, h4, h5, h6, h7⟩ := h; exact ⟨vs, sp, h1, h3, h4, h5, h6, fun r hr => (h7 r hr).mono hI⟩
 | obj => exact h
def frzM (i : Nat) (y : Bool) (B : AB) (H : Tr AB) (n : Nat) : Tr AB := memF (blksZ i y B H n 0) 0 .e
theorem frzM_get {i : Nat} {y : Bool} {B : AB} {H : Tr AB} {n : Nat} (q : Nat) : (frzM i y B H n).get q = if q < n then some (cond (Nat.beq q i) .dead (match H.get q with | some C => frzB i y B C | none => .dead)) else none := by
 unfold frzM
 rw [memF_get0]
 by_cases h : q < n
 · rw [if_pos h, blksZ_get _ _ _ _ _ _ _ h, Nat.zero_add]
 · rw [if_neg h, List.getElem?_eq_none (by rw [blksZ_len]; omega)]
theorem frzM_live {i : Nat} {y : Bool} {B : AB} {H : Tr AB} {n : Nat} {q : Nat} {C : AB} (h : (frzM i y B H n).get q = some C) (hl : C.live = true) : q ≠ i ∧ ∃ D, H.get q = some D ∧ C = frzB i y B D ∧ D.live = true ∧ D.isObj = C.isObj := by
 rw [frzM_get] at h
 split at h
 · simp only [Option.some.injEq] at h
   cases hb : Nat.beq q i with
   | true => rw [hb] at h; subst h; cases hl
   | false =>
     rw [hb, cond_false] at h
     have hne : q ≠ i := fun e => by subst e; simp at hb
     cases hq : H.get q with
     | none => rw [hq] at h; subst h; cases hl
     | some D =>
       rw [hq] at h
       subst h
       refine ⟨hne, D, rfl, rfl, ?_, ?_⟩
       · cases D <;> first | rfl | exact hl
       · cases D <;> rfl
 · cases h
section
variable {w0 : Bs} {w : World} {ρ : Env} {H : Tr AB} {n i : Nat} {B : AB} {y : Bool}
theorem HR.frz (hr : HR w0 ρ H n w) (hB : H.get i = some B) (hk : frzK B = true) (h0 : w0.ρ i = none ∧ ¬ w0.K i) (ha : All (askH i y B H n 0)) (hn : noH i H n 0 = true) (hG : ∀ g T l, w0.K g → H.get g = some (.mem T none l) → False) :
   HR w0 (frzE ρ i (frzIm ρ i w)) (frzM i y B H n) n w := by
 have hlive : B.live = true := by cases B <;> first | rfl | cases hk
 have hle := frzIm_le hr hB hlive
 have hl := leaf_ok (y := y) hr hB hk
 obtain ⟨F, hF⟩ := hr.foot
 have nme : ∀ {j : Nat} {p : Nat × Nat}, (frzE ρ i (frzIm ρ i w)) j = some p → j ≠ i ∧ ρ j = some p := fun {j p} h => by
   have h' : (if j = i then none else ρ j) = some p := h
   split at h'
   · cases h'
   · rename_i e; exact ⟨e, h'⟩
 refine ⟨fun {j b c C} h1 h2 => ?_, ⟨F, fun {j b c C} h1 h2 h3 => ?_, fun {j b c x} h1 h2 => ?_, fun {j k q p1 p2 C D} h1 h2 h3 h4 h5 h6 h7 h8 => ?_, fun {j k p C} h1 h2 h3 h4 => ?_⟩, fun {j} hj => ⟨?_, ?_⟩, fun {j b c} h1 => hr.base (nme h1).2, hr.fr, ⟨fun j b hj => ?_, fun b c hb => hle _ _ (hr.le.im _ _ hb)⟩, fun {b c} h1 => ?_, fun {b c} h1 => ?_, fun {j} hj => ⟨?_, (hr.kb hj).2.1, fun T l hl' => ?_⟩⟩
 · obtain ⟨hne, e⟩ := nme h1
   rw [frzM_get] at h2
   have hb : Nat.beq j i = false := by rw [beq_dec]; simpa using hne
   split at h2
   · rename_i hjn
     simp only [hb, cond_false, Option.some.injEq] at h2
     cases hq : H.get j with
     | none =>
       rw [hq] at h2
       subst h2
       have := (hr.base e).2
       exact ⟨w.heap[b], by simp [this], trivial⟩
     | some D =>
       rw [hq] at h2
       subst h2
       obtain ⟨o, ho, hbr⟩ := hr.blk e hq
       refine ⟨o, ho, hbr.frz hle hl (askH_get (q := j) hjn ha (by rwa [Nat.zero_add]) (by rwa [Nat.zero_add])) (noH_get (q := j) hjn hn (by rwa [Nat.zero_add]) (by rwa [Nat.zero_add]))⟩
   · cases h2
 · obtain ⟨hne, e⟩ := nme h1
   obtain ⟨_, D, g1, g2, g3, g4⟩ := frzM_live h2 h3
   rw [← g4]
   exact hF.one e g1 g3
 · obtain ⟨hne, e⟩ := nme h1
   obtain ⟨_, D, g1, g2, g3, g4⟩ := frzM_live h2 rfl
   have : D = .obj x := by cases D <;> first | exact g2.symm | (cases g2)
   subst this
   exact Ob.rep_im hle (hF.obj e g1)
 · obtain ⟨_, e1⟩ := nme h1
   obtain ⟨_, e2⟩ := nme h2
   obtain ⟨_, D1, a1, _, a3, _⟩ := frzM_live h3 h5
   obtain ⟨_, D2, b1, _, b3, _⟩ := frzM_live h4 h6
   exact hF.apart e1 e2 a1 b1 a3 b3 h7 h8
 · obtain ⟨hne, e⟩ := nme h1
   obtain ⟨_, D, g1, _, g3, _⟩ := frzM_live h2 h3
   have hth := hF.there e g1 g3 h4
   refine ⟨hth.1, hth.2.1, ?_⟩
   show frzIm ρ i w k = none
   rcases frzIm_cases ρ i w with e0 | ⟨b, c, L, T, fz, hi, _, e0⟩
   · rw [e0]; exact hth.2.2
   · rw [e0]
     have : k ≠ b := fun e' => by
       subst e'
       exact hne (hF.apart e hi g1 hB g3 hlive h4 (hF.one hi hB hlive).1)
     simp only [if_neg this]; exact hth.2.2
 · show (if j = i then none else ρ j) = none
   split
   · rfl
   · exact (hr.top hj).1
 · rw [frzM_get, if_neg (by omega)]
 · have hne : j ≠ i := fun e => by subst e; rw [h0.1] at hj; cases hj
   show (if j = i then none else ρ j) = some b
   rw [if_neg hne]; exact hr.le.nm _ _ hj
 · have h1' : frzIm ρ i w b = some c := h1
   rcases frzIm_cases ρ i w with e0 | ⟨b', c', L, T, fz, hi, hcell, e0⟩
   · rw [e0] at h1'; exact hr.im h1'
   · rw [e0] at h1'
     simp only at h1'
     split at h1'
     · rename_i e; subst e; cases h1'; exact ⟨T, fz, hcell⟩
     · exact hr.im h1'
 · have h1' : frzIm ρ i w b = some c := h1
   rcases frzIm_cases ρ i w with e0 | ⟨b', c', L, T, fz, hi, hcell, e0⟩
   · rw [e0] at h1'; exact hr.imn h1'
   · rw [e0] at h1'
     simp only at h1'
     split at h1'
     · rename_i e; subst e; exact .inr (hr.base hi).1
     · exact hr.imn h1'
 · show (if j = i then none else ρ j) = none
   split
   · rfl
   · exact (hr.kb hj).1
 · obtain ⟨_, D, g1, g2, _, _⟩ := frzM_live hl' rfl
   cases D <;> first | (cases g2; done) | skip
   rename_i T' z l0
   injection g2 with a1 a2 a3
   subst a2
   exact hG j _ _ hj g1
end
def frzFr (i : Nat) (y : Bool) (B : AB) (kp : List Nat) (fr : AFr) : AFr := { fr with T := argsT (slotsZ i y B kp fr.T fr.nt 0) 0 .e }
def frzS (i : Nat) (y : Bool) (B : AB) (kp : List Nat) (s : ASt) : ASt := ⟨frzFr i y B kp s.fr, s.cs, frzM i y B s.H s.n, s.n⟩
def sgZ (i : Nat) (j : Nat) : Option Nat := cond (Nat.beq j i) none (some j)
def frzOk (i : Nat) (B : AB) (s : ASt) : Bool := frzK B && Nat.ble s.fr.lo i && Nat.blt i s.n && okFr (sgZ i) s.fr && noH i s.H s.n 0 && cond (nilB s.cs) true (noGz i s.H s.fr.lo 0)
def frzAsk (i : Nat) (y : Bool) (B : AB) (kp : List Nat) (s : ASt) : List Prop := askT i y B kp s.fr.T s.fr.nt 0 ++ askH i y B s.H s.n 0
theorem sgZ_ren {ρ : Env} {i : Nat} {I : Im} : Ren (sgZ i) ρ (frzE ρ i ρ.im) := ⟨fun {j k} h => by
 unfold sgZ at h
 cases hb : Nat.beq j i with
 | true => rw [hb] at h; cases h
 | false =>
   rw [hb] at h; cases h
   have : ¬ j = i := fun e => by subst e; simp at hb
   show (if j = i then none else ρ j) = _
   rw [if_neg this], rfl⟩
theorem frzE_le {ρ : Env} {i : Nat} {I : Im} (h : ρ.im.le I) : (frzE ρ i ρ.im).le (frzE ρ i I) := ⟨fun _ _ h => h, h⟩
theorem sgZ_N {i j : Nat} (h : isN (sgZ i) j = true) : renN (sgZ i) j = j := by
 unfold isN sgZ at h
 unfold renN sgZ
 cases hb : Nat.beq j i with
 | true => rw [hb] at h; cases h
 | false => rfl
theorem sgZ_Is {i : Nat} : ∀ {l : List AItem}, okIs (sgZ i) l = true → renIs (sgZ i) l = l
 | [], _ => rfl
 | x :: l, h => by
   simp only [okIs, Bool.and_eq_true] at h
   simp only [renIs, sgZ_Is h.2]
   congr 1
   cases x <;> first | rfl | (simp only [okI] at h; simp only [renI, sgZ_N h.1])
theorem sgZ_Ns {i : Nat} : ∀ {l : List Nat}, okNs (sgZ i) l = true → renNs (sgZ i) l = l
 | [], _ => rfl
 | x :: l, h => by
   simp only [okNs, Bool.and_eq_true] at h
   simp only [renNs, sgZ_Ns h.2, sgZ_N h.1]
theorem sgZ_Ro {i : Nat} {x : Option Nat} (h : okRo (sgZ i) x = true) : renRo (sgZ i) x = x := by
 cases x with
 | none => rfl
 | some j => simp only [okRo] at h; simp only [renRo, sgZ_N h]
theorem StackR.lowZ [Kx] {P : Program} {w0 : Bs} {ρ ρ' : Env} {H H' : Tr AB} {hi : Nat} {l : List AFr} {m : List Frame} (h : StackR P w0 ρ H hi l m) (him : ρ.im.le ρ'.im) : (∀ i, i < hi → ρ' i = ρ i) → (l = [] ∨ ∀ g, g < hi → ρ g = none → Keeps H H' g) → StackR P w0 ρ' H' hi l m := by
 induction h with
 | nil h => exact fun _ _ => .nil h
 | @cons hi af fr l m h hlo t ih =>
   intro hlow hkeep
   have hk := hkeep.resolve_left nofun
   have e0 : ∀ j b, (ρ.upto hi) j = some b → (ρ'.upto hi) j = some b := fun j b hj => by
     rw [Env.upto_at] at hj ⊢
     split at hj
     · rename_i hj'; rw [if_pos hj', hlow j hj']; exact hj
     · cases hj
   have e : (ρ.upto hi).le (ρ'.upto hi) := ⟨e0, him⟩
   refine .cons (h.mono e (Nat.le_refl _) fun g hg hn => ?_) hlo (ih (fun i hi' => hlow i (Nat.lt_of_lt_of_le hi' hlo)) (.inr fun g hg hn => hk g (Nat.lt_of_lt_of_le hg hlo) hn))
   rw [Env.upto_at, if_pos hg] at hn
   refine ⟨?_, hk g hg hn⟩
   rw [Env.upto_at, if_pos hg, hlow g hg]; exact hn
theorem SR.frz [Kx] {P : Program} {w0 : Bs} {s : ASt} {fr : Frame} {cs : List Frame} {w : World} {i : Nat} {y : Bool} {B : AB} {kp : List Nat} (h : SR P w0 s fr cs w) (hB : s.H.get i = some B) (hok : frzOk i B s = true) (hA : All (frzAsk i y B kp s)) :
   SR P w0 (frzS i y B kp s) fr cs w := by
 obtain ⟨ρ, hr, hf, hlo, hst⟩ := h
 unfold frzOk at hok
 unfold frzAsk at hA
 simp only [Bool.and_eq_true, Nat.ble_eq, Nat.blt_eq] at hok
 obtain ⟨⟨⟨⟨⟨h1, h2⟩, h3⟩, h4⟩, h5⟩, h6⟩ := hok
 have hlive : B.live = true := by cases B <;> first | rfl | cases h1
 have hle := frzIm_le hr hB hlive
 have hl := leaf_ok (y := y) hr hB h1
 have hbase := hst.base
 have h0 : w0.ρ i = none ∧ ¬ w0.K i := by
   constructor
   · cases hq : w0.ρ i with
     | none => rfl
     | some p => exfalso; have := hbase i (.inl (by rw [hq]; nofun)); omega
   · intro hq; have := hbase i (.inr hq); omega
 have hr' := hr.frz (y := y) hB h1 h0 (All.right hA) h5 (fun g T l hg e => (hr.kb hg).2.2 T l e)
 have hren : Ren (sgZ i) ρ (frzE ρ i ρ.im) := sgZ_ren (I := ρ.im)
 unfold okFr at h4
 simp only [Bool.and_eq_true] at h4
 obtain ⟨⟨⟨q1, q2⟩, q3⟩, q4⟩ := h4
 refine ⟨frzE ρ i (frzIm ρ i w), hr', ?_, hlo, ?_⟩
 · obtain ⟨front, rest, g1, g2, g3⟩ := hf.todo
   have d1 := hf.ds.ren hren q3
   rw [sgZ_Ns q3] at d1
   have d2 := hf.ro.ren hren q4
   rw [sgZ_Ro q4] at d2
   have d3 := g2.ren hren q2
   rw [sgZ_Is q2] at d3
   refine ⟨hf.fn, hf.kind, hf.mode, d1.mono (frzE_le hle), d2.mono (frzE_le hle), front, rest, g1, d3.mono (frzE_le hle), ?_⟩
   show RgR P _ _ s.fr.lo s.n true s.fr.nt _ s.fr.rg front fr.tmps
   cases hrg : s.fr.rg with
   | no => rw [hrg] at g3; exact ⟨g3.1, g3.2.frz hle hl kp (All.left hA)⟩
   | pl ops l => rw [hrg] at g3; exact ⟨g3.1, g3.2.frz hle hl kp (All.left hA)⟩
   | dr => rw [hrg] at q1; cases q1
 · show StackR P w0 (frzE ρ i (frzIm ρ i w)) (frzM i y B s.H s.n) s.fr.lo s.cs cs
   refine StackR.lowZ hst hle (fun j hj => ?_) ?_
   · show (if j = i then none else ρ j) = ρ j
     rw [if_neg (by omega)]
   · cases hcs : s.cs with
     | nil => exact .inl rfl
     | cons a l =>
       right
       rw [hcs] at h6
       simp only [nilB, cond_false] at h6
       intro g hg hn T l hl'
       show (frzM i y B s.H s.n).get g = _
       have hlt : Nat.beq g i = false := by rw [beq_dec]; simp; omega
       rw [frzM_get, if_pos (by omega), hlt, hl']
       have := noGz_get (q := g) hg h6 (by rw [Nat.zero_add]; exact hl')
       simp only [cond_false, frzB, (noL_frz this).1]
section
variable {S : Sy} {P : Program} {f : FuncId} {s : ASt} {Q : AV → Tr AB → Nat → Prop}
def bAt (s : ASt) (i : Nat) : AB := match s.H.get i with | some B => B | none => .dead
theorem To.frz (i : Nat) (y : Bool) (kp : List Nat) (hok : frzOk i (bAt s i) s = true) {C : Prop} (hC : conjL (frzAsk i y (bAt s i) kp s) = C) (hc : C) (h : To S P f (frzS i y (bAt s i) kp s) Q) : To S P f s Q :=
 fun w0 base fr cs w hr => h w0 base fr cs w (by
   have hB : s.H.get i = some (bAt s i) := by
     unfold bAt at hok ⊢
     cases hq : s.H.get i with
     | some B => rfl
     | none => rw [hq] at hok; simp [frzOk, frzK] at hok
   exact @SR.frz S.true_ _ _ _ _ _ _ _ _ _ _ hr hB hok (conjL_all (hC ▸ hc)))
end
/-! Rows are told less closely. -/
theorem bare_VRs' {ρ : Env} : ∀ {l : List AV} {us : List Value}, VRs0 ρ.im l us → VRs ρ l us
 | _, _, .nil => .nil
 | _, _, .cons e t => .cons (bare_VR e) (bare_VRs' t)
theorem leL_VRs0 {I : Im} {l m : List AV} {us : List Value} (h : leL l m) (hb : bareL m = true) (k : VRs0 I l us) : VRs0 I m us :=
 bareL_VRs (ρ := ⟨fun _ => none, I⟩) hb (leL_VRs h (bare_VRs' (ρ := ⟨fun _ => none, I⟩) k))
theorem HR.rows {w0 : Bs} {w : World} {ρ : Env} {H : Tr AB} {n i : Nat} {T : TypeId} {ww m : Nat} {f f' : Nat → List AV} (hr : HR w0 ρ H n w) (hB : H.get i = some (.rw T ww m f)) (hA : ∀ r, r < m → leL (f r) (f' r) ∧ bareL (f' r) = true) : HR w0 ρ (tput H i (.rw T ww m f')) n w := by
 obtain ⟨F, hF⟩ := hr.foot
 have hin : i < n := by
   rcases Nat.lt_or_ge i n with h | h
   · exact h
   · rw [(hr.top h).2] at hB; cases hB
 have get : ∀ {j : Nat} {C : AB}, (tput H i (.rw T ww m f')).get j = some C → ∃ D, H.get j = some D ∧ D.live = C.live ∧ D.isObj = C.isObj ∧ (j ≠ i → C = D) ∧ ∀ x, C = .obj x → D = .obj x := fun {j C} hq => by
   rw [get_tput] at hq
   split at hq
   · rename_i e; subst e; cases hq; exact ⟨_, hB, rfl, rfl, fun h => absurd rfl h, fun x h => by cases h⟩
   · exact ⟨C, hq, rfl, rfl, fun _ => rfl, fun _ h => h⟩
 refine ⟨fun {j b c C} h1 h2 => ?_, ⟨F, fun h1 h2 h3 => ?_, fun h1 h2 => ?_, fun h1 h2 h3 h4 h5 h6 => ?_, fun h1 h2 h3 => ?_⟩, fun {j} hj => ⟨(hr.top hj).1, ?_⟩, hr.base, hr.fr, hr.le, hr.im, hr.imn, fun {j} hk => ⟨(hr.kb hk).1, (hr.kb hk).2.1, fun T' l => ?_⟩⟩
 · rw [get_tput] at h2
   split at h2
   · rename_i e
     subst e
     cases h2
     obtain ⟨o, ho, vs, sp, g1, g2, g3, g4, g5, g6⟩ := hr.blk h1 hB
     exact ⟨o, ho, vs, sp, g1, g2, g3, g4, g5, fun r hr' => leL_VRs0 (hA r hr').1 (hA r hr').2 (g6 r hr')⟩
   · exact hr.blk h1 h2
 · obtain ⟨D, g1, g2, g3, _, _⟩ := get h2
   rw [← g3]; exact hF.one h1 g1 (g2.trans h3)
 · obtain ⟨D, g1, _, _, _, g5⟩ := get h2
   exact hF.obj h1 (g5 _ rfl ▸ g1)
 · obtain ⟨D, g1, g2, _⟩ := get h3
   obtain ⟨D', k1, k2, _⟩ := get h4
   exact hF.apart h1 h2 g1 k1 (g2.trans h5) (k2.trans h6)
 · obtain ⟨D, g1, g2, _⟩ := get h2
   exact hF.there h1 g1 (g2.trans h3)
 · rw [get_tput, if_neg (by omega)]; exact (hr.top hj).2
 · rw [get_tput]
   split
   · exact nofun
   · exact (hr.kb hk).2.2 T' l
def rowS (i : Nat) (f' : Nat → List AV) (s : ASt) : ASt := ⟨s.fr, s.cs, (match s.H.get i with | some (.rw T w n _) => tput s.H i (.rw T w n f') | _ => s.H), s.n⟩
def rowOk (s : ASt) : Bool := okRg s.fr.rg
def rowAsk (i : Nat) (f' : Nat → List AV) (s : ASt) : Prop := match s.H.get i with
 | some (.rw _ _ n f) => ∀ r, r < n → leL (f r) (f' r) ∧ bareL (f' r) = true
 | _ => True
theorem SR.rows [Kx] {P : Program} {w0 : Bs} {s : ASt} {fr : Frame} {cs : List Frame} {w : World} {i : Nat} {f' : Nat → List AV} (h : SR P w0 s fr cs w) (hok : rowOk s = true) (hA : rowAsk i f' s) : SR P w0 (rowS i f' s) fr cs w := by
 obtain ⟨ρ, hr, hf, hlo, hst⟩ := h
 unfold rowAsk at hA
 unfold rowS
 split at hA
 · rename_i T ww m f hB
   have hkeep : ∀ g, Keeps s.H (tput s.H i (.rw T ww m f')) g := fun g T' l hq => by
     rw [get_tput]
     split
     · rename_i e; subst e; rw [hB] at hq; cases hq
     · exact hq
   refine ⟨ρ, hr.rows hB hA, ?_, hlo, ?_⟩
   · obtain ⟨front, rest, g1, g2, g3⟩ := hf.todo
     refine ⟨hf.fn, hf.kind, hf.mode, hf.ds, hf.ro, front, rest, g1, g2, ?_⟩
     show RgR P _ _ s.fr.lo s.n true s.fr.nt _ s.fr.rg front fr.tmps
     unfold rowOk at hok
     cases hrg : s.fr.rg with
     | no => rw [hrg] at g3; exact g3
     | pl ops l => rw [hrg] at g3; exact g3
     | dr => rw [hrg] at hok; cases hok
   · exact hst.mono (Env.le_refl _) fun g _ hn => ⟨hn, hkeep g⟩
 · exact ⟨ρ, hr, hf, hlo, hst⟩
section
variable {S : Sy} {P : Program} {f : FuncId} {s : ASt} {Q : AV → Tr AB → Nat → Prop}
theorem To.rows (i : Nat) (f' : Nat → List AV) (hok : rowOk s = true) {C : Prop} (hC : rowAsk i f' s = C) (hc : C) (h : To S P f (rowS i f' s) Q) : To S P f s Q :=
 fun w0 base fr cs w hr => h w0 base fr cs w (@SR.rows S.true_ _ _ _ _ _ _ _ _ hr hok (hC ▸ hc))
end
/-! A bool that is not written out, in a slot. -/
def setS (t : Nat) (v : AV) (s : ASt) : ASt := ⟨{ s.fr with T := tput s.fr.T t v }, s.cs, s.H, s.n⟩
theorem SR.setS [Kx] {P : Program} {w0 : Bs} {s : ASt} {fr : Frame} {cs : List Frame} {w : World} {t : Nat} {x : Value} (h : SR P w0 s fr cs w) (hok : rowOk s = true) (ht : At s.fr.T t = .sy x) : SR P w0 (Sm.setS t (.v x) s) fr cs w := by
 obtain ⟨ρ, hr, hf, hlo, hst⟩ := h
 refine ⟨ρ, hr, ?_, hlo, hst⟩
 obtain ⟨front, rest, g1, g2, g3⟩ := hf.todo
 have tr : ∀ {ts : Array Value}, TR ρ s.fr.nt s.fr.T ts → TR ρ s.fr.nt (tput s.fr.T t (.v x)) ts := fun h => ⟨h.1, fun q => by
   have e : At (tput s.fr.T t (.v x)) q = if q = t then .v x else At s.fr.T q := by
     unfold At
     rw [get_tput]
     by_cases h : q = t
     · simp [h]
     · simp [h]
   rw [e]
   split
   · rename_i hq
     subst hq
     have := h.2 q
     rw [ht] at this
     cases this
     exact .v _
   · exact h.2 q⟩
 refine ⟨hf.fn, hf.kind, hf.mode, hf.ds, hf.ro, front, rest, g1, g2, ?_⟩
 show RgR P ρ s.H s.fr.lo s.n true s.fr.nt _ s.fr.rg front fr.tmps
 unfold rowOk at hok
 cases hrg : s.fr.rg with
 | no => rw [hrg] at g3; exact ⟨g3.1, tr g3.2⟩
 | pl ops l => rw [hrg] at g3; exact ⟨g3.1, tr g3.2⟩
 | dr => rw [hrg] at hok; cases hok
section
variable {S : Sy} {P : Program} {f : FuncId} {s : ASt} {Q : AV → Tr AB → Nat → Prop}
theorem To.bool1 (t : Nat) {b : Bool} (c : Bool) (ht : At s.fr.T t = .sy (.bool b)) (hok : rowOk s = true) (hb : b = c) (h : To S P f (Sm.setS t (.v (.bool c)) s) Q) : To S P f s Q :=
 fun w0 base fr cs w hr => h w0 base fr cs w (by subst hb; exact @SR.setS S.true_ _ _ _ _ _ _ _ _ hr hok ht)
theorem To.bool2 (t : Nat) (b : Bool) (ht : At s.fr.T t = .sy (.bool b)) (hok : rowOk s = true) (h1 : b = true → To S P f (Sm.setS t (.v (.bool true)) s) Q) (h2 : b = false → To S P f (Sm.setS t (.v (.bool false)) s) Q) : To S P f s Q := by
 cases hb : b with
 | true => exact To.bool1 t true ht hok hb (h1 hb)
 | false => exact To.bool1 t false ht hok hb (h2 hb)
end
def rblk (r : RD) : List AB := [.mem 58 none [.ow 1 r.stays.length, .ow 2 r.cache.length, ivA r.c.w, .im 1 r.c.keep.length (intsF r.c.keep), ivA r.c.torn, ivA r.c.at_, ivA r.many, .sy (.bool r.down)],
 .rw 36 1 r.stays.length (bysF r.stays), .rw 36 1 r.cache.length (bysF r.cache)]
def isrcJ (x : AV) : Option (List Int × Prop) :=
 match x with
 | .v (.slice none 0 0) => some ([], True)
 | .im 1 n f => some (numsF n f, ∀ r, r < n → f r = intsF (numsF n f) r)
 | _ => none
theorem isrcJ_le {x : AV} {r : List Int × Prop} (h : isrcJ x = some r) (hC : r.2) (σ : Nat → Option Nat) : leA (renA σ x) (.im 1 r.1.length (intsF r.1)) := by
 unfold isrcJ at h
 split at h
 · cases h; simp only [renA]; unfold leA; rfl
 · cases h; simp only [renA]; unfold leA; exact ⟨rfl, (numsF_len _ _).symm, hC⟩
 · cases h
theorem intA_leS {x : AV} {k : IntKind} {z : Int} (h : intA x = some (k, z)) (σ : Nat → Option Nat) : leA (renA σ x) (.sy (.int k z)) := by
 unfold intA at h
 split at h
 · cases h; exact ⟨rfl, rfl⟩
 · cases h; exact ⟨rfl, rfl⟩
 · cases h
theorem boolA_leS {x : AV} {b : Bool} (h : boolA x = some b) (σ : Nat → Option Nat) : leA (renA σ x) (.sy (.bool b)) := by
 unfold boolA at h
 split at h
 · cases h; rfl
 · cases h; rfl
 · cases h
def rOf (H : Tr AB) (i : Nat) : Option (RD × (Nat × Nat) × Prop) :=
 match H.get i with
 | some (.mem T none [.ow p N, .ow q M, cw, kp, ct, ca, mn, dn]) => match H.get p, H.get q with
   | some (.rw T1 w1 N' f), some (.rw T2 w2 M' g) => match intA cw, isrcJ kp, intA ct, intA ca, intA mn, boolA dn with
     | some (.i64, w), some ks, some (.i64, t), some (.i64, a), some (.i64, m), some b =>
       cond (Nat.beq T 58 && Nat.beq T1 36 && Nat.beq T2 36 && Nat.beq w1 1 && Nat.beq w2 1 && !(Nat.beq i p) && !(Nat.beq i q) && !(Nat.beq p q))
         (some (⟨recsF N f, recsF M g, ⟨w, ks.1, t, a⟩, m, b⟩, (p, q), N' = N ∧ M' = M ∧ (∀ r, r < N → f r = bysF (recsF N f) r) ∧ (∀ r, r < M → g r = bysF (recsF M g) r) ∧ ks.2)) none
     | _, _, _, _, _, _ => none
   | _, _ => none
 | _ => none
theorem inR1 {i p q : Nat} : inS [i, p, q] i = some 0 := by simp [inS, posL]
theorem inR2 {i p q : Nat} (h : i ≠ p) : inS [i, p, q] p = some 1 := by simp [inS, posL, h.symm]
theorem inR3 {i p q : Nat} (h : i ≠ q) (k : p ≠ q) : inS [i, p, q] q = some 2 := by simp [inS, posL, h.symm, k.symm]
theorem rOf_nd {H : Tr AB} {i p q : Nat} {r : RD} {C : Prop} (h : rOf H i = some (r, (p, q), C)) : i ≠ p ∧ i ≠ q ∧ p ≠ q := by
 unfold rOf at h
 split at h
 · rename_i T p' N q' M cw kp ct ca mn dn h0
   split at h
   · rename_i T1 w1 N' f T2 w2 M' g h1 h2
     split at h
     · rename_i w ks t a m b hw hk ht ha hm hd
       cases hb : (Nat.beq T 58 && Nat.beq T1 36 && Nat.beq T2 36 && Nat.beq w1 1 && Nat.beq w2 1 && !(Nat.beq i p') && !(Nat.beq i q') && !(Nat.beq p' q')) with
       | false => rw [hb] at h; cases h
       | true =>
         rw [hb] at h
         cases h
         simp only [Bool.and_eq_true, Bool.not_eq_true', beq_dec, decide_eq_false_iff_not] at hb
         exact ⟨hb.1.1.2, hb.1.2, hb.2⟩
     · cases h
   · cases h
 · cases h
theorem rOf_seen {H : Tr AB} {i p q : Nat} {r : RD} {C : Prop} (h : rOf H i = some (r, (p, q), C)) (hC : C) : seenL H (inS [i, p, q]) [i, p, q] (rblk r) ∧ (∀ (T : TypeId) (l : List AV), H.get p ≠ some (.mem T none l)) ∧ (∀ (T : TypeId) (l : List AV), H.get q ≠ some (.mem T none l)) := by
 have hnd := rOf_nd h
 unfold rOf at h
 split at h
 · rename_i T p' N q' M cw kp ct ca mn dn h0
   split at h
   · rename_i T1 w1 N' f T2 w2 M' g h1 h2
     split at h
     · rename_i w ks t a m b hw hk ht ha hm hd
       cases hb : (Nat.beq T 58 && Nat.beq T1 36 && Nat.beq T2 36 && Nat.beq w1 1 && Nat.beq w2 1 && !(Nat.beq i p') && !(Nat.beq i q') && !(Nat.beq p' q')) with
       | false => rw [hb] at h; cases h
       | true =>
         rw [hb] at h
         cases h
         simp only [Bool.and_eq_true, beq_dec, decide_eq_true_eq] at hb
         obtain ⟨⟨⟨⟨⟨⟨⟨rfl, rfl⟩, rfl⟩, rfl⟩, rfl⟩, _⟩, _⟩, _⟩ := hb
         obtain ⟨rfl, rfl, c3, c4, c5⟩ := hC
         refine ⟨⟨⟨_, h0, rfl, rfl, rfl, ?_⟩, ⟨_, h1, rfl, rfl, rfl, (recsF_len _ _).symm, c3⟩, ⟨_, h2, rfl, rfl, rfl, (recsF_len _ _).symm, c4⟩, trivial⟩, ⟨fun T l e => ?_, fun T l e => ?_⟩⟩
         · simp only [renL, renA, inR2 hnd.1, inR3 hnd.2.1 hnd.2.2]
           exact ⟨⟨rfl, (recsF_len _ _).symm⟩, ⟨rfl, (recsF_len _ _).symm⟩, intA_leS hw _, isrcJ_le hk c5 _, intA_leS ht _, intA_leS ha _, intA_leS hm _, boolA_leS hd _, trivial⟩
         · rw [h1] at e; cases e
         · rw [h2] at e; cases e
     · cases h
   · cases h
 · cases h
abbrev RFn := RD → List AV → Option ((List AV × AV × RD) × Prop)
def rK (f : RFn) (args : List AV) (H : Tr AB) : Option Ex := match args with
 | .ptr i 0 :: rest => match rOf H i with
   | some (r, (p, q), C) => match f r rest with
     | some ((ys, x, r'), C') => some { μ := [i, p, q], args := .ptr 0 0 :: ys, L := rblk r, res := x, L' := rblk r', E := [], C := C ∧ C' }
     | none => none
   | none => none
 | _ => none
theorem rX_ok {S : Sy} (hok : S.Ok Try.prog) {F : FuncId} {fn : Func} (hF : Try.prog.funcs[F]? = some fn) (hb : fn.body.isSome = true) {f : RFn}
   (h : ∀ {r rest ys x r' C}, f r rest = some ((ys, x, r'), C) → C → (∀ σ, leL (renL σ rest) ys) ∧ (startF (tabOf Try.prog) F (.ptr 0 0 :: ys) (memF (rblk r) 0 .e) 3).isSome = true ∧ To S Try.prog F (startOf Try.prog F (.ptr 0 0 :: ys) (memF (rblk r) 0 .e) 3) (fun y H' _ => leA y x ∧ endL (rblk r') 0 H')) :
   FOk Try.prog (oneX F (rK f)) := oneX_ok hok tab hF hb fun {args H n e} hk hC => by
 unfold rK at hk
 split at hk
 · rename_i i rest
   split at hk
   · rename_i r p q C hr
     split at hk
     · rename_i ys x r' C' hf
       cases hk
       obtain ⟨c1, c2⟩ : C ∧ C' := hC
       obtain ⟨hs, hp, hq⟩ := rOf_seen hr c1
       obtain ⟨n1, n2, n3⟩ := rOf_nd hr
       obtain ⟨g0, g1, g2⟩ := h hf c2
       refine ⟨by simp [n1, n2, n3], hs, rfl, ?_, ⟨by simp, by simp⟩, ?_, g1, To.mono g2 fun y H' n' hq => ⟨hq.1, hq.2, trivial⟩⟩
       · simp only [renL, renA, inR1]
         exact ⟨leA_refl _, g0 _⟩
       · intro w0 ρ w vs hr0 hv j hj
         simp at hj
         rcases hj with rfl | rfl | rfl
         · exact .inl (VRs.bind hv (j, True) (by simp [bindL, bindA]) trivial)
         · exact .inr hp
         · exact .inr hq
     · cases hk
   · cases hk
 · cases hk
def crashA (x : AV) : Option (CrashD × Prop) := match x with
 | .agg [cw, kp, ct, ca] => match intA cw, isrcJ kp, intA ct, intA ca with
   | some (.i64, w), some ks, some (.i64, t), some (.i64, a) => some (⟨w, ks.1, t, a⟩, ks.2)
   | _, _, _, _ => none
 | _ => none
theorem crashA_le {x : AV} {r : CrashD × Prop} (h : crashA x = some r) (hC : r.2) (σ : Nat → Option Nat) : leA (renA σ x) (.agg (crashF r.1)) := by
 unfold crashA at h
 split at h
 · split at h
   · rename_i hw hk ht ha
     cases h
     simp only [renA, renL]
     exact ⟨intA_leS hw _, isrcJ_le hk hC _, intA_leS ht _, intA_leS ha _, trivial⟩
   · cases h
 · cases h
def rfallS (r : RD) (c : CrashD) (a : Nat) : List (List UInt8) := (List.range r.stays.length).map fun k => if k < a then rfallAt c k (r.cache.getD k []) (r.stays.getD k []) else r.stays.getD k []
def rfallC (r : RD) (a : Nat) : List (List UInt8) := (List.range r.cache.length).map fun k => if k < a then [] else r.cache.getD k []
theorem rfallS_len (r : RD) (c : CrashD) (a : Nat) : (rfallS r c a).length = r.stays.length := by simp [rfallS]
theorem rfallC_len (r : RD) (a : Nat) : (rfallC r a).length = r.cache.length := by simp [rfallC]
theorem rfallS_at {r : RD} {c : CrashD} {a k : Nat} (h : k < r.stays.length) : (rfallS r c a).getD k [] = if k < a then rfallAt c k (r.cache.getD k []) (r.stays.getD k []) else r.stays.getD k [] := by
 unfold rfallS
 rw [List.getD_eq_getElem?_getD, List.getElem?_map, List.getElem?_range h]; rfl
theorem rfallC_at {r : RD} {a k : Nat} (h : k < r.cache.length) : (rfallC r a).getD k [] = if k < a then [] else r.cache.getD k [] := by
 unfold rfallC
 rw [List.getD_eq_getElem?_getD, List.getElem?_map, List.getElem?_range h]; rfl
theorem bysF_get (l : List (List UInt8)) (k : Nat) : bysF l k = [.by8 (l.getD k [])] := rfl
def partB (n : Int) (v s : List UInt8) (k : Nat) : List UInt8 := (List.range k).map fun (j : Nat) => if (j : Int) < n then v.getD j 0 else s.getD j 0
def keepN (c : CrashD) (z : Int) (i : Nat) : Int := if z ∈ c.keep.take i then 128 else if c.torn = z then c.at_ else 0
theorem keepN_succ (c : CrashD) (a i : Nat) (h : i < c.keep.length) : keepN c a (i + 1) = if c.keep.getD i 0 = (a : Int) then 128 else keepN c a i := by
 unfold keepN
 have := mem_take_succ h (a : Int)
 by_cases e : c.keep.getD i 0 = (a : Int)
 · rw [if_pos e, if_pos (this.2 (.inr e.symm))]
 · rw [if_neg e]
   by_cases q : (a : Int) ∈ c.keep.take i
   · rw [if_pos q, if_pos (this.2 (.inl q))]
   · rw [if_neg q, if_neg (fun h => (this.1 h).elim q (fun h => e h.symm))]
theorem keepN_all (c : CrashD) (a : Nat) {i : Nat} (h : c.keep.length ≤ i) : keepN c a i = if (a : Int) ∈ c.keep then 128 else if c.torn = a then c.at_ else 0 := by
 unfold keepN
 rw [List.take_of_length_le h]
theorem rfallS_next {r : RD} {c : CrashD} {a k : Nat} {b : List UInt8} (hk : k < r.stays.length) (h : (r.cache.getD a [] = [] ∧ b = r.stays.getD a []) ∨ b = rfallAt c a (r.cache.getD a []) (r.stays.getD a [])) :
   (if k = a then b else (rfallS r c a).getD k []) = (rfallS r c (a + 1)).getD k [] := by
 rw [rfallS_at hk, rfallS_at hk]
 by_cases e : k = a
 · subst e
   rw [if_pos rfl, if_pos (by omega)]
   rcases h with ⟨h1, h2⟩ | h
   · unfold rfallAt; rw [if_pos h1]; exact h2
   · exact h
 · rw [if_neg e]
   by_cases q : k < a
   · rw [if_pos q, if_pos (by omega)]
   · rw [if_neg q, if_neg (by omega)]
theorem rfallC_next {r : RD} {a k : Nat} (hk : k < r.cache.length) : (if k = a then [] else (rfallC r a).getD k []) = (rfallC r (a + 1)).getD k [] := by
 rw [rfallC_at hk, rfallC_at hk]
 by_cases e : k = a
 · subst e; rw [if_pos rfl, if_pos (by omega)]
 · rw [if_neg e]
   by_cases q : k < a
   · rw [if_pos q, if_pos (by omega)]
   · rw [if_neg q, if_neg (by omega)]
theorem rfallS_same {r : RD} {c : CrashD} {a k : Nat} (hk : k < r.stays.length) (h : r.cache.getD a [] = []) : (rfallS r c a).getD k [] = (rfallS r c (a + 1)).getD k [] := by
 rw [← rfallS_next hk (b := (rfallS r c a).getD a []) (.inl ⟨h, ?_⟩)]
 · by_cases e : k = a
   · rw [if_pos e, e]
   · rw [if_neg e]
 · by_cases q : a < r.stays.length
   · rw [rfallS_at q, if_neg (by omega)]
   · simp [rfallS, List.getD_eq_getElem?_getD, q]
theorem rfallC_same {r : RD} {a k : Nat} (hk : k < r.cache.length) (h : r.cache.getD a [] = []) : (rfallC r a).getD k [] = (rfallC r (a + 1)).getD k [] := by
 rw [← rfallC_next hk]
 by_cases e : k = a
 · rw [if_pos e, e]
   by_cases q : a < r.cache.length
   · rw [rfallC_at q, if_neg (by omega)]; exact h
   · omega
 · rw [if_neg e]
theorem partB_len (n : Int) (v s : List UInt8) (k : Nat) : (partB n v s k).length = k := by simp [partB]
theorem partB_succ (n : Int) (v s : List UInt8) (k : Nat) : partB n v s (k + 1) = partB n v s k ++ [if (k : Int) < n then v.getD k 0 else s.getD k 0] := by
 unfold partB
 rw [List.range_succ, List.map_append]; rfl
theorem bysU_push (l : List UInt8) (b : UInt8) : ∀ r, r < l.length + 1 → rwPush (bysU l) l.length [.sy (.int .u8 (b.toNat : Int))] r = bysU (l ++ [b]) r := fun r hr => by
 unfold rwPush bysU
 by_cases h : r = l.length
 · subst h
   have e : Nat.blt l.length l.length = false := by
     cases h : Nat.blt l.length l.length with
     | false => rfl
     | true => rw [Nat.blt_eq] at h; omega
   rw [e]
   simp [List.getD_eq_getElem?_getD]
 · have h' : r < l.length := by omega
   have e : Nat.blt r l.length = true := by rw [Nat.blt_eq]; exact h'
   rw [e]
   simp [List.getD_eq_getElem?_getD, List.getElem?_append_left h']
theorem partB_push_v {n : Int} {v s : List UInt8} {k : Nat} (h : (k : Int) < n) : ∀ r, r < k + 1 → rwPush (bysU (partB n v s k)) k [.sy (.int .u8 ((v.getD k 0).toNat : Int))] r = bysU (partB n v s (k + 1)) r := by
 have := bysU_push (partB n v s k) (v.getD k 0)
 rw [partB_len] at this
 rw [partB_succ, if_pos h]; exact this
theorem partB_push_s {n : Int} {v s : List UInt8} {k : Nat} (h : ¬ (k : Int) < n) : ∀ r, r < k + 1 → rwPush (bysU (partB n v s k)) k [.sy (.int .u8 ((s.getD k 0).toNat : Int))] r = bysU (partB n v s (k + 1)) r := by
 have := bysU_push (partB n v s k) (s.getD k 0)
 rw [partB_len] at this
 rw [partB_succ, if_neg h]; exact this
theorem partB_all {c : CrashD} {a : Nat} {kn : Int} {v s : List UInt8} (hk : kn = if (a : Int) ∈ c.keep then 128 else if c.torn = a then c.at_ else 0) (hv : v.length = 128) (hs : s.length = 128) : partB kn v s 128 = rfallAt c a v s := by
 have hK : keptN c a = (max 0 (min kn 128)).toNat := by
   unfold keptN
   rw [hk]
   split
   · rfl
   · split <;> rfl
 obtain ⟨K, hK1⟩ : ∃ K, K = keptN c a := ⟨_, rfl⟩
 rw [← hK1] at hK
 unfold rfallAt
 rw [if_neg (by intro e; rw [e] at hv; cases hv), ← hK1]
 have hKl : K ≤ 128 := by omega
 apply List.ext_getElem?
 intro j
 by_cases h1 : j < 128
 · have e0 : (partB kn v s 128)[j]? = some (if (j : Int) < kn then v.getD j 0 else s.getD j 0) := by
     unfold partB; rw [List.getElem?_map, List.getElem?_range h1]; rfl
   rw [e0]
   by_cases q : j < K
   · rw [if_pos (by omega), List.getElem?_append_left (by rw [List.length_take]; omega), List.getElem?_take, if_pos q]
     rw [List.getD_eq_getElem?_getD, List.getElem?_eq_getElem (by omega)]; rfl
   · rw [if_neg (by omega), List.getElem?_append_right (by rw [List.length_take]; omega), List.getElem?_drop, List.length_take]
     rw [show K + (j - min K v.length) = j by omega]
     rw [List.getD_eq_getElem?_getD, List.getElem?_eq_getElem (by omega)]; rfl
 · rw [List.getElem?_eq_none (by rw [partB_len]; omega), List.getElem?_eq_none (by rw [List.length_append, List.length_take, List.length_drop]; omega)]
theorem rwSet_bys (l : List (List UInt8)) (a : Nat) (b : List UInt8) (k : Nat) : rwSet (bysF l) a 0 [.by8 b] k = [.by8 (if k = a then b else l.getD k [])] := by
 unfold rwSet
 rw [beq_dec]
 by_cases e : k = a
 · subst e; simp [spliceA, bysF, rowsOf]
 · simp only [e, decide_false, cond_false, if_false]; rfl
set_option maxHeartbeats 4000000 in
set_option maxRecDepth 100000 in
theorem rfall_to (hok : S0.Ok Try.prog) (r : RD) (c : CrashD) (hr : r.Ok) (hk : c.keep.length ≤ 1000000) :
   To S0 Try.prog 66 (startOf Try.prog 66 [.ptr 0 0, .agg [ivA c.w, .im 1 c.keep.length (intsF c.keep), ivA c.torn, ivA c.at_]] (memF (rblk r) 0 .e) 3)
     (fun x H' _ => leA x (.tup []) ∧ endL (rblk (rfallD r c)) 0 H') := by
 have hlen := hr.len
 have hle := hr.le
 refine To.R (k := 11) (h := ?_)
 refine To.L (L := [LN.old 3]) (kp := [4, 3, 0]) (C := (Same IntKind.i64 ∧ (0 : Int) = (↑(0 : Nat) : Int)) ∧ (Same 36 ∧ Same 1 ∧ Same r.stays.length ∧ (∀ (r_1 : Nat), r_1 < r.stays.length → bysF r.stays r_1 = bysF (rfallS r c 0) r_1)) ∧ Same 36 ∧ Same 1 ∧ Same r.cache.length ∧ (∀ (r_1 : Nat), r_1 < r.cache.length → bysF r.cache r_1 = bysF (rfallC r 0) r_1)) (st := fun (a : Nat) => (⟨(⟨66, 100, (slotT 100 [(0, AV.ptr 0 0), (3, AV.ptr 3 0), (4, AV.sy (Value.int IntKind.i64 a))]), ARg.no, [(AItem.code (subC (bodyC Try.prog 66) [1, 0, 1, 0, 0])), (AItem.inLoop (subC (bodyC Try.prog 66) [1, 0, 1, 0, 0])), (AItem.inBlock 0), (AItem.code (subC (bodyC Try.prog 66) [1, 1]))], [], false, none, 3⟩ : AFr), [], memF [AB.mem 58 none [AV.ow 1 r.stays.length, AV.ow 2 r.cache.length, AV.sy (Value.int IntKind.i64 r.c.w), AV.im 1 r.c.keep.length (intsF r.c.keep), AV.sy (Value.int IntKind.i64 r.c.torn), AV.sy (Value.int IntKind.i64 r.c.at_), AV.sy (Value.int IntKind.i64 r.many), AV.sy (Value.bool r.down)], AB.rw 36 1 r.stays.length (bysF (rfallS r c a)), AB.rw 36 1 r.cache.length (bysF (rfallC r a)), AB.mem 52 none [AV.sy (Value.int IntKind.i64 c.w), AV.im 1 c.keep.length (intsF c.keep), AV.sy (Value.int IntKind.i64 c.torn), AV.sy (Value.int IntKind.i64 c.at_)]] 0 Tr.e, 4⟩ : ASt)) (hc := ?_) (h := ?_) (fun (t : Nat) => [(4, ivA (t : Int))]) (fun t => [(1, .rw 36 1 r.stays.length (bysF (rfallS r c t))), (2, .rw 36 1 r.cache.length (bysF (rfallC r t)))]) (fun t => t ≤ r.cache.length) (fun t => r.cache.length - t) (0)
 · refine ⟨⟨rfl, rfl⟩, ⟨rfl, rfl, rfl, fun k hk => ?_⟩, rfl, rfl, rfl, fun k hk => ?_⟩
   · rw [bysF_get, bysF_get, rfallS_at hk]; rfl
   · rw [bysF_get, bysF_get, rfallC_at hk]; rfl
 intro t ha ih
 refine To.R (h := ?_)
 refine To.Bd ((t : Int) < r.cache.length) (h := ?_) (g := ?_)
 · intro h1
   have hac : t < r.cache.length := by omega
   have has : t < r.stays.length := by omega
   have hv := rfallC_at (a := t) hac
   have hs := rfallS_at (c := c) (a := t) has
   rw [if_neg (by omega)] at hv hs
   have hi1 : t + 1 ≤ r.cache.length := hac
   have hi2 : r.cache.length - (t + 1) < r.cache.length - t := by omega
   refine To.R (C := ((0 : Int) ≤ t ∧ (t : Int) < r.cache.length) ∧ t < r.cache.length ∧ True) (h := ?_)
   refine To.Bd (((rfallC r t).getD t default).length = (0 : Int)) (h := ?_) (g := ?_)
   · intro h2
     refine To.R (k := 9) (C := fits IntKind.i64 (t + 1)) (h := ?_)
     refine To.K (L := [LN.old 3]) (kp := [4, 3, 0]) (ov := [(4, AV.sy (Value.int IntKind.i64 (↑(t + 1) : Int)))]) (ob := [(1, AB.rw 36 1 r.stays.length (bysF (rfallS r c (t + 1)))), (2, AB.rw 36 1 r.cache.length (bysF (rfallC r (t + 1))))]) (C := (Same IntKind.i64 ∧ (↑t : Int) + 1 = (↑(t + 1) : Int)) ∧ (36 = 36 ∧ Same 1 ∧ Same r.stays.length ∧ (∀ (r_1 : Nat), r_1 < r.stays.length → bysF (rfallS r c t) r_1 = bysF (rfallS r c (t + 1)) r_1)) ∧ 36 = 36 ∧ Same 1 ∧ Same r.cache.length ∧ (∀ (r_1 : Nat), r_1 < r.cache.length → bysF (rfallC r t) r_1 = bysF (rfallC r (t + 1)) r_1)) (hc := ?_) (ih (t + 1) hi1 hi2)
     have h2' : (((rfallC r t).getD t []).length : Int) = 0 := h2
     have he : r.cache.getD t [] = [] := by rw [← hv]; exact List.eq_nil_of_length_eq_zero (by omega)
     refine ⟨⟨rfl, Int.natCast_succ _⟩, ⟨rfl, rfl, rfl, fun k hk => ?_⟩, rfl, rfl, rfl, fun k hk => ?_⟩
     · rw [bysF_get, bysF_get, rfallS_same hk he]
     · rw [bysF_get, bysF_get, rfallC_same hk he]
   · intro h2
     refine To.R (h := ?_)
     refine To.Bd (c.torn = t) (h := ?_) (g := ?_)
     · intro h3
       have hk0 : keepN c t 0 = _ := if_neg (by simp)
       refine To.R (k := 14) (h := ?_)
       refine To.L (L := [LN.old 3]) (kp := [6, 5, 4, 3, 0]) (C := (Same IntKind.i64 ∧ (0 : Int) = (↑(0 : Nat) : Int)) ∧ Same IntKind.i64 ∧ c.at_ = keepN c t 0) (st := fun (a : Nat) => (⟨(⟨66, 100, (slotT 100 [(0, AV.ptr 0 0), (3, AV.ptr 3 0), (4, AV.sy (Value.int IntKind.i64 t)), (5, AV.sy (Value.int IntKind.i64 (keepN c t a))), (6, AV.sy (Value.int IntKind.i64 a))]), ARg.no, [(AItem.code (subC (bodyC Try.prog 66) [1, 0, 1, 0, 0, 1, 0, 0, 1, 1, 1, 0, 1, 0, 0])), (AItem.inLoop (subC (bodyC Try.prog 66) [1, 0, 1, 0, 0, 1, 0, 0, 1, 1, 1, 0, 1, 0, 0])), (AItem.inBlock 2), (AItem.code (subC (bodyC Try.prog 66) [1, 0, 1, 0, 0, 1, 0, 0, 1, 1, 1, 1])), (AItem.inBlock 1), (AItem.code (subC (bodyC Try.prog 66) [1, 0, 1, 0, 0, 1, 1])), (AItem.inLoop (subC (bodyC Try.prog 66) [1, 0, 1, 0, 0])), (AItem.inBlock 0), (AItem.code (subC (bodyC Try.prog 66) [1, 1]))], [], false, none, 3⟩ : AFr), [], memF [AB.mem 58 none [AV.ow 1 r.stays.length, AV.ow 2 r.cache.length, AV.sy (Value.int IntKind.i64 r.c.w), AV.im 1 r.c.keep.length (intsF r.c.keep), AV.sy (Value.int IntKind.i64 r.c.torn), AV.sy (Value.int IntKind.i64 r.c.at_), AV.sy (Value.int IntKind.i64 r.many), AV.sy (Value.bool r.down)], AB.rw 36 1 r.stays.length (bysF (rfallS r c t)), AB.rw 36 1 r.cache.length (bysF (rfallC r t)), AB.mem 52 none [AV.sy (Value.int IntKind.i64 c.w), AV.im 1 c.keep.length (intsF c.keep), AV.sy (Value.int IntKind.i64 c.torn), AV.sy (Value.int IntKind.i64 c.at_)]] 0 Tr.e, 4⟩ : ASt)) (h := ?_) (fun (i : Nat) => [(6, ivA (i : Int)), (5, ivA (keepN c t i))]) (fun _ => []) (fun i => i ≤ c.keep.length) (fun i => c.keep.length - i) (0)
       intro i hi ihi
       have hks := keepN_succ c t i
       refine To.R (h := ?_)
       refine To.Bd ((i : Int) < c.keep.length) (h := ?_) (g := ?_)
       · intro h4
         have hic : i < c.keep.length := by omega
         have hj1 : i + 1 ≤ c.keep.length := hic
         have hj2 : c.keep.length - (i + 1) < c.keep.length - i := by omega
         have hks := hks hic
         refine To.R (C := ((0 : Int) ≤ i ∧ (i : Int) < c.keep.length) ∧ True) (h := ?_)
         refine To.Bd (c.keep.getD i 0 = t) (h := ?_) (g := ?_)
         · intro h5
           refine To.R (k := 12) (C := fits IntKind.i64 (i + 1)) (h := ?_)
           refine To.K (L := [LN.old 3]) (kp := [6, 5, 4, 3, 0]) (ov := [(6, AV.sy (Value.int IntKind.i64 (↑(i + 1) : Int))), (5, AV.sy (Value.int IntKind.i64 (keepN c (↑t : Int) (i + 1))))]) (C := (Same IntKind.i64 ∧ (↑i : Int) + 1 = (↑(i + 1) : Int)) ∧ Same IntKind.i64 ∧ 128 = keepN c t (i + 1)) (ihi (i + 1) hj1 hj2)
         · intro h5
           refine To.R (k := 10) (C := fits IntKind.i64 (i + 1)) (h := ?_)
           refine To.K (L := [LN.old 3]) (kp := [6, 5, 4, 3, 0]) (ov := [(6, AV.sy (Value.int IntKind.i64 (↑(i + 1) : Int))), (5, AV.sy (Value.int IntKind.i64 (keepN c (↑t : Int) (i + 1))))]) (C := (Same IntKind.i64 ∧ (↑i : Int) + 1 = (↑(i + 1) : Int)) ∧ Same IntKind.i64 ∧ keepN c t i = keepN c t (i + 1)) (ihi (i + 1) hj1 hj2)
       · intro h4
         have hki := keepN_all c t (i := i) (by omega)
         refine To.R (k := 14) (h := ?_)
         obtain ⟨kn, hkn⟩ : ∃ kn, kn = keepN c t i := ⟨_, rfl⟩
         obtain ⟨v, hv0⟩ : ∃ v, v = (rfallC r t).getD t [] := ⟨_, rfl⟩
         obtain ⟨s, hs0⟩ : ∃ s, s = (rfallS r c t).getD t [] := ⟨_, rfl⟩
         refine To.L (L := [LN.old 3, LN.new (AB.rw 5 1 0 (bysU (partB kn v s 0)))]) (kp := [8, 7, 5, 4, 3, 0]) (C := (Same IntKind.i64 ∧ (0 : Int) = (↑(0 : Nat) : Int)) ∧ Same 0 ∧ (Same IntKind.i64 ∧ keepN c t i = kn) ∧ 5 = 5 ∧ Same 1 ∧ Same 0 ∧ (∀ (r : Nat), r < 0 → bysU (partB kn v s 0) r = bysU (partB kn v s 0) r)) (st := fun (a : Nat) => (⟨(⟨66, 100, (slotT 100 [(0, AV.ptr 0 0), (3, AV.ptr 3 0), (4, AV.sy (Value.int IntKind.i64 t)), (5, AV.sy (Value.int IntKind.i64 kn)), (7, AV.ow 4 a), (8, AV.sy (Value.int IntKind.i64 a))]), ARg.no, [(AItem.code (subC (bodyC Try.prog 66) [1, 0, 1, 0, 0, 1, 0, 0, 1, 1, 1, 1, 1, 0, 1, 0, 0])), (AItem.inLoop (subC (bodyC Try.prog 66) [1, 0, 1, 0, 0, 1, 0, 0, 1, 1, 1, 1, 1, 0, 1, 0, 0])), (AItem.inBlock 4), (AItem.code (subC (bodyC Try.prog 66) [1, 0, 1, 0, 0, 1, 0, 0, 1, 1, 1, 1, 1, 1])), (AItem.inBlock 1), (AItem.code (subC (bodyC Try.prog 66) [1, 0, 1, 0, 0, 1, 1])), (AItem.inLoop (subC (bodyC Try.prog 66) [1, 0, 1, 0, 0])), (AItem.inBlock 0), (AItem.code (subC (bodyC Try.prog 66) [1, 1]))], [], false, none, 3⟩ : AFr), [], memF [AB.mem 58 none [AV.ow 1 r.stays.length, AV.ow 2 r.cache.length, AV.sy (Value.int IntKind.i64 r.c.w), AV.im 1 r.c.keep.length (intsF r.c.keep), AV.sy (Value.int IntKind.i64 r.c.torn), AV.sy (Value.int IntKind.i64 r.c.at_), AV.sy (Value.int IntKind.i64 r.many), AV.sy (Value.bool r.down)], AB.rw 36 1 r.stays.length (bysF (rfallS r c t)), AB.rw 36 1 r.cache.length (bysF (rfallC r t)), AB.mem 52 none [AV.sy (Value.int IntKind.i64 c.w), AV.im 1 c.keep.length (intsF c.keep), AV.sy (Value.int IntKind.i64 c.torn), AV.sy (Value.int IntKind.i64 c.at_)], AB.rw 5 1 a (bysU (partB kn v s a))] 0 Tr.e, 5⟩ : ASt)) (h := ?_) (fun (k : Nat) => [(8, ivA (k : Int)), (7, .ow 4 k), (5, ivA kn)]) (fun k => [(4, .rw 5 1 k (bysU (partB kn v s k)))]) (fun k => k ≤ 128) (fun k => 128 - k) (0)
         intro k hk1 ihk
         have hlv : ((rfallC r t).getD t default).length = 128 := by
           rcases hr.ca t has with e | e
           · rw [← hv] at e
             exact absurd (show (((rfallC r t).getD t default).length : Int) = 0 by rw [show (rfallC r t).getD t default = [] from e]; rfl) h2
           · rw [← hv] at e; exact e
         have hls : ((rfallS r c t).getD t default).length = 128 := by
           have := hr.st t has
           rw [← hs] at this; exact this
         refine To.R (h := ?_)
         refine To.Bd (k < (128 : Int)) (h := ?_) (g := ?_)
         · intro h6
           refine To.R (h := ?_)
           refine To.Bd (k < kn) (h := ?_) (g := ?_)
           · intro h7
             have hps := partB_push_v (n := kn) (v := v) (s := s) h7
             have hq1 : k + 1 ≤ 128 := by omega
             have hq2 : 128 - (k + 1) < 128 - k := by omega
             refine To.R (k := 25) (C := ((0 : Int) ≤ t ∧ (t : Int) < r.cache.length) ∧ t < r.cache.length ∧ ((0 : Int) ≤ k ∧ (k : Int) < ((rfallC r t).getD t default).length) ∧ True ∧ (Same k ∧ k ≤ 1073741824) ∧ fits IntKind.i64 (k + 1)) (h := ?_)
             refine To.K (L := [LN.old 3, LN.old 6]) (kp := [8, 7, 5, 4, 3, 0]) (ov := [(8, AV.sy (Value.int IntKind.i64 (↑(k + 1) : Int)))]) (ob := [(4, AB.rw 5 1 (k + 1) (bysU (partB kn v s (k + 1))))]) (C := (Same IntKind.i64 ∧ (↑k : Int) + 1 = (↑(k + 1) : Int)) ∧ 5 = 5 ∧ Same 1 ∧ Same (k + 1) ∧ (∀ (r_1 : Nat), r_1 < k + 1 → rwPush (bysU (partB kn v s k)) k [AV.sy (Value.int IntKind.u8 (((rfallC r t).getD t default).getD k 0).toNat)] r_1 = bysU (partB kn v s (k + 1)) r_1)) (hc := ?_) (ihk (k + 1) hq1 hq2)
             refine ⟨⟨rfl, Int.natCast_succ _⟩, rfl, rfl, rfl, fun q hq => ?_⟩
             rw [← hps q hq]
             first | rw [hv0]; rfl | rw [hs0]; rfl
           · intro h7
             have hps := partB_push_s (n := kn) (v := v) (s := s) h7
             have hq1 : k + 1 ≤ 128 := by omega
             have hq2 : 128 - (k + 1) < 128 - k := by omega
             refine To.R (k := 25) (C := ((0 : Int) ≤ t ∧ (t : Int) < r.stays.length) ∧ t < r.stays.length ∧ ((0 : Int) ≤ k ∧ (k : Int) < ((rfallS r c t).getD t default).length) ∧ True ∧ (Same k ∧ k ≤ 1073741824) ∧ fits IntKind.i64 (k + 1)) (h := ?_)
             refine To.K (L := [LN.old 3, LN.old 6]) (kp := [8, 7, 5, 4, 3, 0]) (ov := [(8, AV.sy (Value.int IntKind.i64 (↑(k + 1) : Int)))]) (ob := [(4, AB.rw 5 1 (k + 1) (bysU (partB kn v s (k + 1))))]) (C := (Same IntKind.i64 ∧ (↑k : Int) + 1 = (↑(k + 1) : Int)) ∧ 5 = 5 ∧ Same 1 ∧ Same (k + 1) ∧ (∀ (r_1 : Nat), r_1 < k + 1 → rwPush (bysU (partB kn v s k)) k [AV.sy (Value.int IntKind.u8 (((rfallS r c t).getD t default).getD k 0).toNat)] r_1 = bysU (partB kn v s (k + 1)) r_1)) (hc := ?_) (ihk (k + 1) hq1 hq2)
             refine ⟨⟨rfl, Int.natCast_succ _⟩, rfl, rfl, rfl, fun q hq => ?_⟩
             rw [← hps q hq]
             first | rw [hv0]; rfl | rw [hs0]; rfl
         · intro h6
           refine To.R (k := 1) (h := ?_)
           refine To.frz 4 true [48, 8, 7, 5, 4, 3, 0] (by kernel_rfl) (C := k ≤ k ∧ ByteRows k (bysU (partB kn v s k))) (by kernel_rfl) ?_ ?_; (and_intros <;> try exact cl)
           · exact byteRows_bysU _ _
           have hk8 : k = 128 := by omega
           have hby : bytesF k (bysU (partB kn v s k)) = rfallAt c t (r.cache.getD t []) (r.stays.getD t []) := by
             have e := bytesF_bysU (partB kn v s k)
             rw [partB_len] at e
             rw [e, hk8, ← hv, ← hs, ← hv0, ← hs0]
             exact partB_all (hkn.trans hki) (by rw [hv0]; exact hlv) (by rw [hs0]; exact hls)
           refine To.R (k := 29) (C := ((0 : Int) ≤ t ∧ (t : Int) < r.stays.length) ∧ t < r.stays.length ∧ ((0 : Int) ≤ t ∧ (t : Int) < r.cache.length) ∧ t < r.cache.length ∧ fits IntKind.i64 (t + 1)) (h := ?_)
           refine To.rows 2 (bysF (rfallC r (t + 1))) (by kernel_rfl) (C := (∀ (r_1 : Nat), r_1 < r.cache.length → leL (rwSet (bysF (rfallC r t)) t 0 [AV.v (Value.slice none 0 0)] r_1) (bysF (rfallC r (t + 1)) r_1) ∧ bareL (bysF (rfallC r (t + 1)) r_1) = true)) (by kernel_rfl) ?_ ?_
           · intro q hq
             rw [bysF_get, ← rfallC_next hq]
             unfold rwSet
             rw [beq_dec]
             by_cases e : q = t
             · subst e; simp only [decide_true, cond_true, if_true]; exact ⟨⟨rfl, trivial⟩, rfl⟩
             · simp only [e, decide_false, cond_false, if_false]; exact ⟨leL_refl _, rfl⟩
           refine To.K (L := [LN.old 3]) (kp := [4, 3, 0]) (ov := [(4, AV.sy (Value.int IntKind.i64 (↑(t + 1) : Int)))]) (ob := [(1, AB.rw 36 1 r.stays.length (bysF (rfallS r c (t + 1))))]) (C := (Same IntKind.i64 ∧ (↑t : Int) + 1 = (↑(t + 1) : Int)) ∧ 36 = 36 ∧ Same 1 ∧ Same r.stays.length ∧ (∀ (r_1 : Nat), r_1 < r.stays.length → rwSet (bysF (rfallS r c t)) t 0 [AV.by8 (bytesF k (bysU (partB kn v s k)))] r_1 = bysF (rfallS r c (t + 1)) r_1)) (hc := ?_) (ih (t + 1) hi1 hi2)
           refine ⟨⟨rfl, Int.natCast_succ _⟩, rfl, rfl, rfl, fun q hq => ?_⟩
           rw [rwSet_bys, hby, rfallS_next hq (.inr rfl)]
           rfl
     · intro h3
       have hk0 : keepN c t 0 = _ := if_neg (by simp)
       refine To.R (k := 10) (h := ?_)
       refine To.L (L := [LN.old 3]) (kp := [6, 5, 4, 3, 0]) (C := (Same IntKind.i64 ∧ (0 : Int) = (↑(0 : Nat) : Int)) ∧ Same IntKind.i64 ∧ 0 = keepN c t 0) (st := fun (a : Nat) => (⟨(⟨66, 100, (slotT 100 [(0, AV.ptr 0 0), (3, AV.ptr 3 0), (4, AV.sy (Value.int IntKind.i64 t)), (5, AV.sy (Value.int IntKind.i64 (keepN c t a))), (6, AV.sy (Value.int IntKind.i64 a))]), ARg.no, [(AItem.code (subC (bodyC Try.prog 66) [1, 0, 1, 0, 0, 1, 0, 0, 1, 1, 1, 0, 1, 0, 0])), (AItem.inLoop (subC (bodyC Try.prog 66) [1, 0, 1, 0, 0, 1, 0, 0, 1, 1, 1, 0, 1, 0, 0])), (AItem.inBlock 2), (AItem.code (subC (bodyC Try.prog 66) [1, 0, 1, 0, 0, 1, 0, 0, 1, 1, 1, 1])), (AItem.inBlock 1), (AItem.code (subC (bodyC Try.prog 66) [1, 0, 1, 0, 0, 1, 1])), (AItem.inLoop (subC (bodyC Try.prog 66) [1, 0, 1, 0, 0])), (AItem.inBlock 0), (AItem.code (subC (bodyC Try.prog 66) [1, 1]))], [], false, none, 3⟩ : AFr), [], memF [AB.mem 58 none [AV.ow 1 r.stays.length, AV.ow 2 r.cache.length, AV.sy (Value.int IntKind.i64 r.c.w), AV.im 1 r.c.keep.length (intsF r.c.keep), AV.sy (Value.int IntKind.i64 r.c.torn), AV.sy (Value.int IntKind.i64 r.c.at_), AV.sy (Value.int IntKind.i64 r.many), AV.sy (Value.bool r.down)], AB.rw 36 1 r.stays.length (bysF (rfallS r c t)), AB.rw 36 1 r.cache.length (bysF (rfallC r t)), AB.mem 52 none [AV.sy (Value.int IntKind.i64 c.w), AV.im 1 c.keep.length (intsF c.keep), AV.sy (Value.int IntKind.i64 c.torn), AV.sy (Value.int IntKind.i64 c.at_)]] 0 Tr.e, 4⟩ : ASt)) (h := ?_) (fun (i : Nat) => [(6, ivA (i : Int)), (5, ivA (keepN c t i))]) (fun _ => []) (fun i => i ≤ c.keep.length) (fun i => c.keep.length - i) (0)
       intro i hi ihi
       have hks := keepN_succ c t i
       refine To.R (h := ?_)
       refine To.Bd ((i : Int) < c.keep.length) (h := ?_) (g := ?_)
       · intro h4
         have hic : i < c.keep.length := by omega
         have hj1 : i + 1 ≤ c.keep.length := hic
         have hj2 : c.keep.length - (i + 1) < c.keep.length - i := by omega
         have hks := hks hic
         refine To.R (C := ((0 : Int) ≤ i ∧ (i : Int) < c.keep.length) ∧ True) (h := ?_)
         refine To.Bd (c.keep.getD i 0 = t) (h := ?_) (g := ?_)
         · intro h5
           refine To.R (k := 12) (C := fits IntKind.i64 (i + 1)) (h := ?_)
           refine To.K (L := [LN.old 3]) (kp := [6, 5, 4, 3, 0]) (ov := [(6, AV.sy (Value.int IntKind.i64 (↑(i + 1) : Int))), (5, AV.sy (Value.int IntKind.i64 (keepN c (↑t : Int) (i + 1))))]) (C := (Same IntKind.i64 ∧ (↑i : Int) + 1 = (↑(i + 1) : Int)) ∧ Same IntKind.i64 ∧ 128 = keepN c t (i + 1)) (ihi (i + 1) hj1 hj2)
         · intro h5
           refine To.R (k := 10) (C := fits IntKind.i64 (i + 1)) (h := ?_)
           refine To.K (L := [LN.old 3]) (kp := [6, 5, 4, 3, 0]) (ov := [(6, AV.sy (Value.int IntKind.i64 (↑(i + 1) : Int))), (5, AV.sy (Value.int IntKind.i64 (keepN c (↑t : Int) (i + 1))))]) (C := (Same IntKind.i64 ∧ (↑i : Int) + 1 = (↑(i + 1) : Int)) ∧ Same IntKind.i64 ∧ keepN c t i = keepN c t (i + 1)) (ihi (i + 1) hj1 hj2)
       · intro h4
         have hki := keepN_all c t (i := i) (by omega)
         refine To.R (k := 14) (h := ?_)
         obtain ⟨kn, hkn⟩ : ∃ kn, kn = keepN c t i := ⟨_, rfl⟩
         obtain ⟨v, hv0⟩ : ∃ v, v = (rfallC r t).getD t [] := ⟨_, rfl⟩
         obtain ⟨s, hs0⟩ : ∃ s, s = (rfallS r c t).getD t [] := ⟨_, rfl⟩
         refine To.L (L := [LN.old 3, LN.new (AB.rw 5 1 0 (bysU (partB kn v s 0)))]) (kp := [8, 7, 5, 4, 3, 0]) (C := (Same IntKind.i64 ∧ (0 : Int) = (↑(0 : Nat) : Int)) ∧ Same 0 ∧ (Same IntKind.i64 ∧ keepN c t i = kn) ∧ 5 = 5 ∧ Same 1 ∧ Same 0 ∧ (∀ (r : Nat), r < 0 → bysU (partB kn v s 0) r = bysU (partB kn v s 0) r)) (st := fun (a : Nat) => (⟨(⟨66, 100, (slotT 100 [(0, AV.ptr 0 0), (3, AV.ptr 3 0), (4, AV.sy (Value.int IntKind.i64 t)), (5, AV.sy (Value.int IntKind.i64 kn)), (7, AV.ow 4 a), (8, AV.sy (Value.int IntKind.i64 a))]), ARg.no, [(AItem.code (subC (bodyC Try.prog 66) [1, 0, 1, 0, 0, 1, 0, 0, 1, 1, 1, 1, 1, 0, 1, 0, 0])), (AItem.inLoop (subC (bodyC Try.prog 66) [1, 0, 1, 0, 0, 1, 0, 0, 1, 1, 1, 1, 1, 0, 1, 0, 0])), (AItem.inBlock 4), (AItem.code (subC (bodyC Try.prog 66) [1, 0, 1, 0, 0, 1, 0, 0, 1, 1, 1, 1, 1, 1])), (AItem.inBlock 1), (AItem.code (subC (bodyC Try.prog 66) [1, 0, 1, 0, 0, 1, 1])), (AItem.inLoop (subC (bodyC Try.prog 66) [1, 0, 1, 0, 0])), (AItem.inBlock 0), (AItem.code (subC (bodyC Try.prog 66) [1, 1]))], [], false, none, 3⟩ : AFr), [], memF [AB.mem 58 none [AV.ow 1 r.stays.length, AV.ow 2 r.cache.length, AV.sy (Value.int IntKind.i64 r.c.w), AV.im 1 r.c.keep.length (intsF r.c.keep), AV.sy (Value.int IntKind.i64 r.c.torn), AV.sy (Value.int IntKind.i64 r.c.at_), AV.sy (Value.int IntKind.i64 r.many), AV.sy (Value.bool r.down)], AB.rw 36 1 r.stays.length (bysF (rfallS r c t)), AB.rw 36 1 r.cache.length (bysF (rfallC r t)), AB.mem 52 none [AV.sy (Value.int IntKind.i64 c.w), AV.im 1 c.keep.length (intsF c.keep), AV.sy (Value.int IntKind.i64 c.torn), AV.sy (Value.int IntKind.i64 c.at_)], AB.rw 5 1 a (bysU (partB kn v s a))] 0 Tr.e, 5⟩ : ASt)) (h := ?_) (fun (k : Nat) => [(8, ivA (k : Int)), (7, .ow 4 k), (5, ivA kn)]) (fun k => [(4, .rw 5 1 k (bysU (partB kn v s k)))]) (fun k => k ≤ 128) (fun k => 128 - k) (0)
         intro k hk1 ihk
         have hlv : ((rfallC r t).getD t default).length = 128 := by
           rcases hr.ca t has with e | e
           · rw [← hv] at e
             exact absurd (show (((rfallC r t).getD t default).length : Int) = 0 by rw [show (rfallC r t).getD t default = [] from e]; rfl) h2
           · rw [← hv] at e; exact e
         have hls : ((rfallS r c t).getD t default).length = 128 := by
           have := hr.st t has
           rw [← hs] at this; exact this
         refine To.R (h := ?_)
         refine To.Bd (k < (128 : Int)) (h := ?_) (g := ?_)
         · intro h6
           refine To.R (h := ?_)
           refine To.Bd (k < kn) (h := ?_) (g := ?_)
           · intro h7
             have hps := partB_push_v (n := kn) (v := v) (s := s) h7
             have hq1 : k + 1 ≤ 128 := by omega
             have hq2 : 128 - (k + 1) < 128 - k := by omega
             refine To.R (k := 25) (C := ((0 : Int) ≤ t ∧ (t : Int) < r.cache.length) ∧ t < r.cache.length ∧ ((0 : Int) ≤ k ∧ (k : Int) < ((rfallC r t).getD t default).length) ∧ True ∧ (Same k ∧ k ≤ 1073741824) ∧ fits IntKind.i64 (k + 1)) (h := ?_)
             refine To.K (L := [LN.old 3, LN.old 6]) (kp := [8, 7, 5, 4, 3, 0]) (ov := [(8, AV.sy (Value.int IntKind.i64 (↑(k + 1) : Int)))]) (ob := [(4, AB.rw 5 1 (k + 1) (bysU (partB kn v s (k + 1))))]) (C := (Same IntKind.i64 ∧ (↑k : Int) + 1 = (↑(k + 1) : Int)) ∧ 5 = 5 ∧ Same 1 ∧ Same (k + 1) ∧ (∀ (r_1 : Nat), r_1 < k + 1 → rwPush (bysU (partB kn v s k)) k [AV.sy (Value.int IntKind.u8 (((rfallC r t).getD t default).getD k 0).toNat)] r_1 = bysU (partB kn v s (k + 1)) r_1)) (hc := ?_) (ihk (k + 1) hq1 hq2)
             refine ⟨⟨rfl, Int.natCast_succ _⟩, rfl, rfl, rfl, fun q hq => ?_⟩
             rw [← hps q hq]
             first | rw [hv0]; rfl | rw [hs0]; rfl
           · intro h7
             have hps := partB_push_s (n := kn) (v := v) (s := s) h7
             have hq1 : k + 1 ≤ 128 := by omega
             have hq2 : 128 - (k + 1) < 128 - k := by omega
             refine To.R (k := 25) (C := ((0 : Int) ≤ t ∧ (t : Int) < r.stays.length) ∧ t < r.stays.length ∧ ((0 : Int) ≤ k ∧ (k : Int) < ((rfallS r c t).getD t default).length) ∧ True ∧ (Same k ∧ k ≤ 1073741824) ∧ fits IntKind.i64 (k + 1)) (h := ?_)
             refine To.K (L := [LN.old 3, LN.old 6]) (kp := [8, 7, 5, 4, 3, 0]) (ov := [(8, AV.sy (Value.int IntKind.i64 (↑(k + 1) : Int)))]) (ob := [(4, AB.rw 5 1 (k + 1) (bysU (partB kn v s (k + 1))))]) (C := (Same IntKind.i64 ∧ (↑k : Int) + 1 = (↑(k + 1) : Int)) ∧ 5 = 5 ∧ Same 1 ∧ Same (k + 1) ∧ (∀ (r_1 : Nat), r_1 < k + 1 → rwPush (bysU (partB kn v s k)) k [AV.sy (Value.int IntKind.u8 (((rfallS r c t).getD t default).getD k 0).toNat)] r_1 = bysU (partB kn v s (k + 1)) r_1)) (hc := ?_) (ihk (k + 1) hq1 hq2)
             refine ⟨⟨rfl, Int.natCast_succ _⟩, rfl, rfl, rfl, fun q hq => ?_⟩
             rw [← hps q hq]
             first | rw [hv0]; rfl | rw [hs0]; rfl
         · intro h6
           refine To.R (k := 1) (h := ?_)
           refine To.frz 4 true [48, 8, 7, 5, 4, 3, 0] (by kernel_rfl) (C := k ≤ k ∧ ByteRows k (bysU (partB kn v s k))) (by kernel_rfl) ?_ ?_; (and_intros <;> try exact cl)
           · exact byteRows_bysU _ _
           have hk8 : k = 128 := by omega
           have hby : bytesF k (bysU (partB kn v s k)) = rfallAt c t (r.cache.getD t []) (r.stays.getD t []) := by
             have e := bytesF_bysU (partB kn v s k)
             rw [partB_len] at e
             rw [e, hk8, ← hv, ← hs, ← hv0, ← hs0]
             exact partB_all (hkn.trans hki) (by rw [hv0]; exact hlv) (by rw [hs0]; exact hls)
           refine To.R (k := 29) (C := ((0 : Int) ≤ t ∧ (t : Int) < r.stays.length) ∧ t < r.stays.length ∧ ((0 : Int) ≤ t ∧ (t : Int) < r.cache.length) ∧ t < r.cache.length ∧ fits IntKind.i64 (t + 1)) (h := ?_)
           refine To.rows 2 (bysF (rfallC r (t + 1))) (by kernel_rfl) (C := (∀ (r_1 : Nat), r_1 < r.cache.length → leL (rwSet (bysF (rfallC r t)) t 0 [AV.v (Value.slice none 0 0)] r_1) (bysF (rfallC r (t + 1)) r_1) ∧ bareL (bysF (rfallC r (t + 1)) r_1) = true)) (by kernel_rfl) ?_ ?_
           · intro q hq
             rw [bysF_get, ← rfallC_next hq]
             unfold rwSet
             rw [beq_dec]
             by_cases e : q = t
             · subst e; simp only [decide_true, cond_true, if_true]; exact ⟨⟨rfl, trivial⟩, rfl⟩
             · simp only [e, decide_false, cond_false, if_false]; exact ⟨leL_refl _, rfl⟩
           refine To.K (L := [LN.old 3]) (kp := [4, 3, 0]) (ov := [(4, AV.sy (Value.int IntKind.i64 (↑(t + 1) : Int)))]) (ob := [(1, AB.rw 36 1 r.stays.length (bysF (rfallS r c (t + 1))))]) (C := (Same IntKind.i64 ∧ (↑t : Int) + 1 = (↑(t + 1) : Int)) ∧ 36 = 36 ∧ Same 1 ∧ Same r.stays.length ∧ (∀ (r_1 : Nat), r_1 < r.stays.length → rwSet (bysF (rfallS r c t)) t 0 [AV.by8 (bytesF k (bysU (partB kn v s k)))] r_1 = bysF (rfallS r c (t + 1)) r_1)) (hc := ?_) (ih (t + 1) hi1 hi2)
           refine ⟨⟨rfl, Int.natCast_succ _⟩, rfl, rfl, rfl, fun q hq => ?_⟩
           rw [rwSet_bys, hby, rfallS_next hq (.inr rfl)]
           rfl
 · intro h1
   have hca : t = r.cache.length := by omega
   have e1 : (rfallD r c).stays = rfallS r c t := by
     refine rows_ext (by simp [rfallD, rfallS]) fun k hk => ?_
     have hk' : k < r.stays.length := by simpa [rfallD] using hk
     rw [rfallS_at hk', if_pos (by omega)]
     unfold rfallD
     rw [List.getD_eq_getElem?_getD, List.getElem?_map, List.getElem?_range hk']; rfl
   have e2 : (rfallD r c).cache = rfallC r t := by
     refine rows_ext (by simp [rfallD, rfallC]) fun k hk => ?_
     have hk' : k < r.cache.length := by simpa [rfallD] using hk
     rw [rfallC_at hk', if_pos (by omega)]
     unfold rfallD
     rw [List.getD_eq_getElem?_getD, List.getElem?_replicate, if_pos hk']; rfl
   have e3 := rfallS_len r c t
   have e4 := rfallC_len r t
   refine To.R (h := ?_)
   refine To.E (AV.tup []) (hq := ?_)
   unfold rblk
   rw [e1, e2]
   rw [e3, e4]
   refine ⟨(of_eqP (C := True) (by kernel_rfl) (by (and_intros <;> try exact cl))), (endL_cons (B0 := AB.mem 58 none [AV.ow 1 r.stays.length, AV.ow 2 r.cache.length, AV.v (Value.int IntKind.i64 0), AV.v (Value.slice none 0 0), AV.v (Value.int IntKind.i64 0), AV.v (Value.int IntKind.i64 0), AV.sy (Value.int IntKind.i64 r.many), AV.v (Value.bool true)]) (by kernel_rfl) (of_eqP (C := 58 = 58 ∧ (none : Option Nat) = none ∧ (Same 1 ∧ Same r.stays.length) ∧ (Same 2 ∧ Same r.cache.length) ∧ (Same IntKind.i64 ∧ 0 = (rfallD r c).c.w) ∧ Same 0 ∧ (Same IntKind.i64 ∧ 0 = (rfallD r c).c.torn) ∧ (Same IntKind.i64 ∧ 0 = (rfallD r c).c.at_) ∧ (Same IntKind.i64 ∧ r.many = (rfallD r c).many) ∧ true = (rfallD r c).down ∧ True) (by kernel_rfl) ?_) (endL_cons (B0 := AB.rw 36 1 r.stays.length (bysF (rfallS r c t))) (by kernel_rfl) (of_eqP (C := 36 = 36 ∧ Same 1 ∧ Same r.stays.length ∧ (∀ (r_1 : Nat), r_1 < r.stays.length → bysF (rfallS r c t) r_1 = bysF (rfallS r c t) r_1)) (by kernel_rfl) (by (and_intros <;> try exact cl))) (endL_cons (B0 := AB.rw 36 1 r.cache.length (bysF (rfallC r t))) (by kernel_rfl) (of_eqP (C := 36 = 36 ∧ Same 1 ∧ Same r.cache.length ∧ (∀ (r_1 : Nat), r_1 < r.cache.length → bysF (rfallC r t) r_1 = bysF (rfallC r t) r_1)) (by kernel_rfl) (by (and_intros <;> try exact cl))) endL_nil)))⟩
   exact ⟨rfl, rfl, ⟨rfl, rfl⟩, ⟨rfl, rfl⟩, ⟨rfl, rfl⟩, rfl, ⟨rfl, rfl⟩, ⟨rfl, rfl⟩, ⟨rfl, rfl⟩, rfl, trivial⟩
def twin8F : CF := oneF 39 fun args H n => match args with
 | [p] => match bsrcM p H with
   | some b => some ((.by8 b.1, H, n), b.2 ∧ b.1.length ≤ 1000000)
   | none => none
 | _ => none
theorem twin8F_ok : FOk Try.prog twin8F := by
 refine oneF_ok tab Try.func39 (by kernel_rfl) ?_
 intro args H n r h hc w0 ρ w vs hr hvs
 split at h
 · rename_i ap
   split at h
   · rename_i b hp
     cases h
     cases hvs with
     | cons e1 t1 =>
     cases t1
     obtain ⟨bs, B⟩ := b
     obtain ⟨hc1, hc2⟩ : B ∧ bs.length ≤ 1000000 := hc
     obtain ⟨⟨a, c, rfl, hw⟩, _⟩ := bsrcM_sound hr hp hc1 e1
     simp only at hw
     refine (twin_any a bs.length c bs w hw hc2).mono ?_
     rintro o w' ⟨v, rfl, hown, hnew, _, hfr⟩
     rcases hown.cases with ⟨rfl, _, e⟩ | ⟨g, cg, rfl⟩
     · have hp0 : bs = [] := by simpa using e
       subst hp0
       exact ⟨ρ, _, rfl, by8_nil ρ, hr.old hfr, Ext.refl _ _ _⟩
     · obtain ⟨ρ', r1, r2, r3⟩ := hr.newBy hfr (hnew g rfl) hown
       exact ⟨ρ', _, rfl, r3, r1, r2⟩
   · cases h
 · cases h
def rfallF : CF := oneX 66 (rK fun r rest => match rest with
 | [x] => match crashA x with
   | some c => some (([.agg (crashF c.1)], .tup [], rfallD r c.1), r.Ok ∧ c.2 ∧ c.1.keep.length ≤ 1000000)
   | none => none
 | _ => none)
theorem rfallF_ok : FOk Try.prog rfallF := rX_ok s0_ok Try.func66 (by kernel_rfl) fun {r rest ys x r' C} h hC => by
 split at h
 · split at h
   · rename_i c hc
     cases h
     obtain ⟨h1, h2, h3⟩ : r.Ok ∧ c.2 ∧ c.1.keep.length ≤ 1000000 := hC
     refine ⟨fun σ => ?_, by kernel_rfl, rfall_to s0_ok r c.1 h1 h3⟩
     simp only [renL]
     exact ⟨crashA_le hc h2 σ, trivial⟩
   · cases h
 · cases h
noncomputable abbrev S16 : Sy := sym Try.prog (orF twin8F rfallF) noG
theorem s16_ok : S16.Ok Try.prog := sym_ok (orF_ok twin8F_ok rfallF_ok) (noG_ok _) tab mix
theorem bysF_set (l : List (List UInt8)) (z : Nat) (b : List UInt8) (r : Nat) (hr : r < l.length) : rwSet (bysF l) z 0 [.by8 b] r = bysF (l.set z b) r := by
 rw [rwSet_bys, bysF_get]
 by_cases e : r = z
 · subst e; simp [List.getD_eq_getElem?_getD, hr]
 · have : ¬ z = r := fun h => e h.symm
   simp [e, List.getD_eq_getElem?_getD, List.getElem?_set, this]
theorem RD.Ok.put {r : RD} (h : r.Ok) {z : Int} {b : List UInt8} (hb : b.length = 128) (hm : r.many < 4000000000000000000) : (r.put z b).Ok := by
 refine ⟨?_, h.le, h.st, fun k hk => ?_, h.cw, h.keep, ?_⟩
 · show (r.cache.set _ _).length = _
   rw [List.length_set]; exact h.len
 · show (r.cache.set z.toNat b).getD k [] = [] ∨ ((r.cache.set z.toNat b).getD k []).length = 128
   have hk' : k < r.cache.length := by rw [h.len]; exact hk
   by_cases e : z.toNat = k
   · right; subst e; simp [List.getD_eq_getElem?_getD, hk', hb]
   · have := h.ca k hk
     simpa [List.getD_eq_getElem?_getD, List.getElem?_set, e] using this
 · have := h.many
   show 0 ≤ r.many + 1 ∧ r.many + 1 ≤ 4000000000000000000
   omega
theorem i64max : IntKind.i64.max = 9223372036854775807 := rfl
theorem RD.Ok.tick {r : RD} (h : r.Ok) (hw : r.c.w ≠ 0) : r.tick.Ok := by
 have h1 := h.cw
 have h2 := h1.2.hi
 rw [i64max] at h2
 exact ⟨h.len, h.le, h.st, h.ca, ⟨by show 0 ≤ r.c.w - 1; omega, fits_i64 (by show (-9223372036854775808 : Int) ≤ r.c.w - 1; omega) (by show r.c.w - 1 ≤ (9223372036854775807 : Int); omega)⟩, h.keep, h.many⟩
set_option maxHeartbeats 4000000 in
set_option maxRecDepth 100000 in
theorem rwrite_to (hok : S16.Ok Try.prog) (r : RD) (z : Int) (b : List UInt8) (hr : r.Ok) (hmm : r.many < 4000000000000000000) (hb : b.length ≤ 1000000) :
   To S16 Try.prog 40 (startOf Try.prog 40 [.ptr 0 0, ivA z, .by8 b] (memF (rblk r) 0 .e) 3)
     (fun x H' _ => leA x (ivA (rwriteD r z b).2) ∧ endL (rblk (rwriteD r z b).1) 0 H') := by
 have hlen := hr.len
 have hle := hr.le
 have hcw := hr.cw
 have hm := hr.many
 refine To.R (h := ?_)
 refine To.bool2 11 (r.down) (by kernel_rfl) (by kernel_rfl) ?_ ?_
 · intro h1
   have hw : rwriteD r z b = (r, 31) := by unfold rwriteD; rw [if_pos h1]
   refine To.R (h := ?_)
   refine To.E (AV.v (Value.int IntKind.i64 31)) (hq := ?_)
   rw [hw]
   refine ⟨(of_eqP (C := Same IntKind.i64 ∧ Same (31 : Int)) (by kernel_rfl) (by (and_intros <;> try exact cl))), (endL_cons (B0 := AB.mem 58 none [AV.ow 1 r.stays.length, AV.ow 2 r.cache.length, AV.sy (Value.int IntKind.i64 r.c.w), AV.im 1 r.c.keep.length (intsF r.c.keep), AV.sy (Value.int IntKind.i64 r.c.torn), AV.sy (Value.int IntKind.i64 r.c.at_), AV.sy (Value.int IntKind.i64 r.many), AV.sy (Value.bool r.down)]) (by kernel_rfl) (of_eqP (C := 58 = 58 ∧ (none : Option Nat) = none ∧ (Same 1 ∧ Same r.stays.length) ∧ (Same 2 ∧ Same r.cache.length) ∧ (Same IntKind.i64 ∧ Same r.c.w) ∧ (Same 1 ∧ Same r.c.keep.length ∧ (∀ (r_1 : Nat), r_1 < r.c.keep.length → intsF r.c.keep r_1 = intsF r.c.keep r_1)) ∧ (Same IntKind.i64 ∧ Same r.c.torn) ∧ (Same IntKind.i64 ∧ Same r.c.at_) ∧ (Same IntKind.i64 ∧ Same r.many) ∧ Same r.down ∧ True) (by kernel_rfl) (by (and_intros <;> try exact cl))) (endL_cons (B0 := AB.rw 36 1 r.stays.length (bysF r.stays)) (by kernel_rfl) (of_eqP (C := 36 = 36 ∧ Same 1 ∧ Same r.stays.length ∧ (∀ (r_1 : Nat), r_1 < r.stays.length → bysF r.stays r_1 = bysF r.stays r_1)) (by kernel_rfl) (by (and_intros <;> try exact cl))) (endL_cons (B0 := AB.rw 36 1 r.cache.length (bysF r.cache)) (by kernel_rfl) (of_eqP (C := 36 = 36 ∧ Same 1 ∧ Same r.cache.length ∧ (∀ (r_1 : Nat), r_1 < r.cache.length → bysF r.cache r_1 = bysF r.cache r_1)) (by kernel_rfl) (by (and_intros <;> try exact cl))) endL_nil)))⟩
 intro h1
 refine To.R (h := ?_)
 refine To.Bd (0 ≤ z) (h := ?_) (g := ?_)
 · intro h2
   refine To.R (h := ?_)
   refine To.Bd (z < r.stays.length) (h := ?_) (g := ?_)
   · intro h3
     refine To.R (h := ?_)
     refine To.Bn (b.length = (128 : Int)) (h := ?_) (g := ?_)
     · intro h4
       have hw : rwriteD r z b = (r, 30) := by unfold rwriteD; rw [if_neg (by simp [h1]), if_neg (by omega), if_neg (by omega), if_pos (by omega)]
       refine To.R (h := ?_)
       refine To.E (AV.v (Value.int IntKind.i64 30)) (hq := ?_)
       rw [hw]
       refine ⟨(of_eqP (C := Same IntKind.i64 ∧ Same (30 : Int)) (by kernel_rfl) (by (and_intros <;> try exact cl))), (endL_cons (B0 := AB.mem 58 none [AV.ow 1 r.stays.length, AV.ow 2 r.cache.length, AV.sy (Value.int IntKind.i64 r.c.w), AV.im 1 r.c.keep.length (intsF r.c.keep), AV.sy (Value.int IntKind.i64 r.c.torn), AV.sy (Value.int IntKind.i64 r.c.at_), AV.sy (Value.int IntKind.i64 r.many), AV.sy (Value.bool r.down)]) (by kernel_rfl) (of_eqP (C := 58 = 58 ∧ (none : Option Nat) = none ∧ (Same 1 ∧ Same r.stays.length) ∧ (Same 2 ∧ Same r.cache.length) ∧ (Same IntKind.i64 ∧ Same r.c.w) ∧ (Same 1 ∧ Same r.c.keep.length ∧ (∀ (r_1 : Nat), r_1 < r.c.keep.length → intsF r.c.keep r_1 = intsF r.c.keep r_1)) ∧ (Same IntKind.i64 ∧ Same r.c.torn) ∧ (Same IntKind.i64 ∧ Same r.c.at_) ∧ (Same IntKind.i64 ∧ Same r.many) ∧ Same r.down ∧ True) (by kernel_rfl) (by (and_intros <;> try exact cl))) (endL_cons (B0 := AB.rw 36 1 r.stays.length (bysF r.stays)) (by kernel_rfl) (of_eqP (C := 36 = 36 ∧ Same 1 ∧ Same r.stays.length ∧ (∀ (r_1 : Nat), r_1 < r.stays.length → bysF r.stays r_1 = bysF r.stays r_1)) (by kernel_rfl) (by (and_intros <;> try exact cl))) (endL_cons (B0 := AB.rw 36 1 r.cache.length (bysF r.cache)) (by kernel_rfl) (of_eqP (C := 36 = 36 ∧ Same 1 ∧ Same r.cache.length ∧ (∀ (r_1 : Nat), r_1 < r.cache.length → bysF r.cache r_1 = bysF r.cache r_1)) (by kernel_rfl) (by (and_intros <;> try exact cl))) endL_nil)))⟩
     · intro h4
       have hb1 : b.length = 128 := by omega
       have hzl : z.toNat < r.cache.length := by omega
       have hset : ∀ q, q < r.cache.length → rwSet (bysF r.cache) z.toNat 0 [.by8 b] q = bysF (r.put z b).cache q := fun q hq => bysF_set r.cache z.toNat b q hq
       have hpl : r.cache.length = (r.put z b).cache.length := (List.length_set ..).symm
       refine To.R (C := (True ∧ b.length ≤ 1000000) ∧ Same (AV.ow 2 r.cache.length) ∧ (0 ≤ z ∧ z < r.cache.length) ∧ z.toNat < r.cache.length ∧ fits IntKind.i64 (r.many + 1)) (h := ?_)
       refine To.Bd (r.c.w = 0) (h := ?_) (g := ?_)
       · intro h5
         have hw : rwriteD r z b = (r.put z b, 0) := by unfold rwriteD; rw [if_neg (by simp [h1]), if_neg (by omega), if_neg (by omega), if_neg (by omega), if_pos h5]
         refine To.R (h := ?_)
         refine To.E (AV.v (Value.int IntKind.i64 0)) (hq := ?_)
         rw [hw]
         refine ⟨(of_eqP (C := Same IntKind.i64 ∧ Same (0 : Int)) (by kernel_rfl) (by (and_intros <;> try exact cl))), (endL_cons (B0 := AB.mem 58 none [AV.ow 1 r.stays.length, AV.ow 2 r.cache.length, AV.sy (Value.int IntKind.i64 r.c.w), AV.im 1 r.c.keep.length (intsF r.c.keep), AV.sy (Value.int IntKind.i64 r.c.torn), AV.sy (Value.int IntKind.i64 r.c.at_), AV.sy (Value.int IntKind.i64 (r.many + 1)), AV.sy (Value.bool r.down)]) (by kernel_rfl) (of_eqP (C := 58 = 58 ∧ (none : Option Nat) = none ∧ (Same 1 ∧ r.stays.length = (r.put z b).stays.length) ∧ (Same 2 ∧ r.cache.length = (r.put z b).cache.length) ∧ (Same IntKind.i64 ∧ r.c.w = (r.put z b).c.w) ∧ (Same 1 ∧ r.c.keep.length = (r.put z b).c.keep.length ∧ (∀ (r_1 : Nat), r_1 < r.c.keep.length → intsF r.c.keep r_1 = intsF (r.put z b).c.keep r_1)) ∧ (Same IntKind.i64 ∧ r.c.torn = (r.put z b).c.torn) ∧ (Same IntKind.i64 ∧ r.c.at_ = (r.put z b).c.at_) ∧ (Same IntKind.i64 ∧ r.many + 1 = (r.put z b).many) ∧ r.down = (r.put z b).down ∧ True) (by kernel_rfl) ?_) (endL_cons (B0 := AB.rw 36 1 r.stays.length (bysF r.stays)) (by kernel_rfl) (of_eqP (C := 36 = 36 ∧ Same 1 ∧ r.stays.length = (r.put z b).stays.length ∧ (∀ (r_1 : Nat), r_1 < r.stays.length → bysF r.stays r_1 = bysF (r.put z b).stays r_1)) (by kernel_rfl) ?_) (endL_cons (B0 := AB.rw 36 1 r.cache.length (rwSet (bysF r.cache) z.toNat 0 [AV.by8 b])) (by kernel_rfl) (of_eqP (C := 36 = 36 ∧ Same 1 ∧ r.cache.length = (r.put z b).cache.length ∧ (∀ (r_1 : Nat), r_1 < r.cache.length → rwSet (bysF r.cache) z.toNat 0 [AV.by8 b] r_1 = bysF (r.put z b).cache r_1)) (by kernel_rfl) (by (and_intros <;> try exact cl))) endL_nil)))⟩
         · exact ⟨rfl, rfl, ⟨rfl, rfl⟩, ⟨rfl, hpl⟩, ⟨rfl, rfl⟩, ⟨rfl, rfl, fun _ _ => rfl⟩, ⟨rfl, rfl⟩, ⟨rfl, rfl⟩, ⟨rfl, rfl⟩, rfl, trivial⟩
         · exact ⟨rfl, rfl, rfl, fun _ _ => rfl⟩
       · intro h5
         have hf1 : fits .i64 (r.c.w - 1) := fits_i64 (by omega) (by have h7 := hcw.2.hi; rw [i64max] at h7; omega)
         refine To.R (C := fits IntKind.i64 (r.c.w - 1)) (h := ?_)
         refine To.Bd (0 < r.c.w - 1) (h := ?_) (g := ?_)
         · intro h6
           have hw : rwriteD r z b = ((r.put z b).tick, 0) := by unfold rwriteD; rw [if_neg (by simp [h1]), if_neg (by omega), if_neg (by omega), if_neg (by omega), if_neg h5, if_pos h6]
           refine To.R (h := ?_)
           refine To.E (AV.v (Value.int IntKind.i64 0)) (hq := ?_)
           rw [hw]
           refine ⟨(of_eqP (C := Same IntKind.i64 ∧ Same (0 : Int)) (by kernel_rfl) (by (and_intros <;> try exact cl))), (endL_cons (B0 := AB.mem 58 none [AV.ow 1 r.stays.length, AV.ow 2 r.cache.length, AV.sy (Value.int IntKind.i64 (r.c.w - 1)), AV.im 1 r.c.keep.length (intsF r.c.keep), AV.sy (Value.int IntKind.i64 r.c.torn), AV.sy (Value.int IntKind.i64 r.c.at_), AV.sy (Value.int IntKind.i64 (r.many + 1)), AV.sy (Value.bool r.down)]) (by kernel_rfl) (of_eqP (C := 58 = 58 ∧ (none : Option Nat) = none ∧ (Same 1 ∧ r.stays.length = (r.put z b).tick.stays.length) ∧ (Same 2 ∧ r.cache.length = (r.put z b).tick.cache.length) ∧ (Same IntKind.i64 ∧ r.c.w - 1 = (r.put z b).tick.c.w) ∧ (Same 1 ∧ r.c.keep.length = (r.put z b).tick.c.keep.length ∧ (∀ (r_1 : Nat), r_1 < r.c.keep.length → intsF r.c.keep r_1 = intsF (r.put z b).tick.c.keep r_1)) ∧ (Same IntKind.i64 ∧ r.c.torn = (r.put z b).tick.c.torn) ∧ (Same IntKind.i64 ∧ r.c.at_ = (r.put z b).tick.c.at_) ∧ (Same IntKind.i64 ∧ r.many + 1 = (r.put z b).tick.many) ∧ r.down = (r.put z b).tick.down ∧ True) (by kernel_rfl) ?_) (endL_cons (B0 := AB.rw 36 1 r.stays.length (bysF r.stays)) (by kernel_rfl) (of_eqP (C := 36 = 36 ∧ Same 1 ∧ r.stays.length = (r.put z b).tick.stays.length ∧ (∀ (r_1 : Nat), r_1 < r.stays.length → bysF r.stays r_1 = bysF (r.put z b).tick.stays r_1)) (by kernel_rfl) ?_) (endL_cons (B0 := AB.rw 36 1 r.cache.length (rwSet (bysF r.cache) z.toNat 0 [AV.by8 b])) (by kernel_rfl) (of_eqP (C := 36 = 36 ∧ Same 1 ∧ r.cache.length = (r.put z b).tick.cache.length ∧ (∀ (r_1 : Nat), r_1 < r.cache.length → rwSet (bysF r.cache) z.toNat 0 [AV.by8 b] r_1 = bysF (r.put z b).tick.cache r_1)) (by kernel_rfl) ?_) endL_nil)))⟩
           · exact ⟨rfl, rfl, ⟨rfl, rfl⟩, ⟨rfl, hpl⟩, ⟨rfl, rfl⟩, ⟨rfl, rfl, fun _ _ => rfl⟩, ⟨rfl, rfl⟩, ⟨rfl, rfl⟩, ⟨rfl, rfl⟩, rfl, trivial⟩
           · exact ⟨rfl, rfl, rfl, fun _ _ => rfl⟩
           · exact ⟨rfl, rfl, hpl, hset⟩
         · intro h6
           have hw : rwriteD r z b = (rfallD (r.put z b).tick (r.put z b).tick.c, 31) := by unfold rwriteD; rw [if_neg (by simp [h1]), if_neg (by omega), if_neg (by omega), if_neg (by omega), if_neg h5, if_neg h6]
           have e1 := recs_bys r.stays
           have e2 : recsF r.cache.length (rwSet (bysF r.cache) z.toNat 0 [.by8 b]) = (r.put z b).cache := by
             refine Eq.trans ?_ (recs_bys (r.put z b).cache)
             rw [← hpl]
             exact List.map_congr_left fun q hq => by rw [hset q (List.mem_range.1 hq)]
           have e3 := numsF_ints r.c.keep
           have hX : (⟨recsF r.stays.length (bysF r.stays), recsF r.cache.length (rwSet (bysF r.cache) z.toNat 0 [.by8 b]), ⟨r.c.w - 1, numsF r.c.keep.length (intsF r.c.keep), r.c.torn, r.c.at_⟩, r.many + 1, r.down⟩ : RD) = (r.put z b).tick := by
             rw [e1, e2, e3]; rfl
           have hY : (⟨r.c.w - 1, numsF r.c.keep.length (intsF r.c.keep), r.c.torn, r.c.at_⟩ : CrashD) = (r.put z b).tick.c := by
             rw [e3]; rfl
           have hZ := (hr.put (z := z) hb1 hmm).tick h5
           refine To.R (C := (Same r.stays.length ∧ Same r.cache.length ∧ (∀ (r_1 : Nat), r_1 < r.stays.length → bysF r.stays r_1 = bysF (recsF r.stays.length (bysF r.stays)) r_1) ∧ (∀ (r_1 : Nat), r_1 < r.cache.length → rwSet (bysF r.cache) z.toNat 0 [AV.by8 b] r_1 = bysF (recsF r.cache.length (rwSet (bysF r.cache) z.toNat 0 [AV.by8 b])) r_1) ∧ (∀ (r_1 : Nat), r_1 < r.c.keep.length → intsF r.c.keep r_1 = intsF (numsF r.c.keep.length (intsF r.c.keep)) r_1)) ∧ (RD.mk (recsF r.stays.length (bysF r.stays)) (recsF r.cache.length (rwSet (bysF r.cache) z.toNat 0 [AV.by8 b])) (CrashD.mk (r.c.w - 1) (numsF r.c.keep.length (intsF r.c.keep)) r.c.torn r.c.at_) (r.many + 1) r.down).Ok ∧ (∀ (r_1 : Nat), r_1 < r.c.keep.length → intsF r.c.keep r_1 = intsF (numsF r.c.keep.length (intsF r.c.keep)) r_1) ∧ (numsF r.c.keep.length (intsF r.c.keep)).length ≤ 1000000) (hc := ?_) (h := ?_); (and_intros <;> try exact cl)
           · rw [e1]; exact fun _ _ => rfl
           · rw [e2]; exact hset
           · rw [e3]; exact fun _ _ => rfl
           · rw [hX]; exact hZ
           · rw [e3]; exact fun _ _ => rfl
           · rw [e3]; exact hZ.keep
           refine To.R (h := ?_)
           refine To.E (AV.v (Value.int IntKind.i64 31)) (hq := ?_)
           rw [hw, ← hX]
           refine ⟨(of_eqP (C := Same IntKind.i64 ∧ Same (31 : Int)) (by kernel_rfl) (by (and_intros <;> try exact cl))), (endL_cons (B0 := AB.mem 58 none [AV.ow 1 (rfallD (RD.mk (recsF r.stays.length (bysF r.stays)) (recsF r.cache.length (rwSet (bysF r.cache) z.toNat 0 [AV.by8 b])) (CrashD.mk (r.c.w - 1) (numsF r.c.keep.length (intsF r.c.keep)) r.c.torn r.c.at_) (r.many + 1) r.down) (CrashD.mk (r.c.w - 1) (numsF r.c.keep.length (intsF r.c.keep)) r.c.torn r.c.at_)).stays.length, AV.ow 2 (rfallD (RD.mk (recsF r.stays.length (bysF r.stays)) (recsF r.cache.length (rwSet (bysF r.cache) z.toNat 0 [AV.by8 b])) (CrashD.mk (r.c.w - 1) (numsF r.c.keep.length (intsF r.c.keep)) r.c.torn r.c.at_) (r.many + 1) r.down) (CrashD.mk (r.c.w - 1) (numsF r.c.keep.length (intsF r.c.keep)) r.c.torn r.c.at_)).cache.length, AV.sy (Value.int IntKind.i64 (rfallD (RD.mk (recsF r.stays.length (bysF r.stays)) (recsF r.cache.length (rwSet (bysF r.cache) z.toNat 0 [AV.by8 b])) (CrashD.mk (r.c.w - 1) (numsF r.c.keep.length (intsF r.c.keep)) r.c.torn r.c.at_) (r.many + 1) r.down) (CrashD.mk (r.c.w - 1) (numsF r.c.keep.length (intsF r.c.keep)) r.c.torn r.c.at_)).c.w), AV.im 1 0 (intsF (rfallD (RD.mk (recsF r.stays.length (bysF r.stays)) (recsF r.cache.length (rwSet (bysF r.cache) z.toNat 0 [AV.by8 b])) (CrashD.mk (r.c.w - 1) (numsF r.c.keep.length (intsF r.c.keep)) r.c.torn r.c.at_) (r.many + 1) r.down) (CrashD.mk (r.c.w - 1) (numsF r.c.keep.length (intsF r.c.keep)) r.c.torn r.c.at_)).c.keep), AV.sy (Value.int IntKind.i64 (rfallD (RD.mk (recsF r.stays.length (bysF r.stays)) (recsF r.cache.length (rwSet (bysF r.cache) z.toNat 0 [AV.by8 b])) (CrashD.mk (r.c.w - 1) (numsF r.c.keep.length (intsF r.c.keep)) r.c.torn r.c.at_) (r.many + 1) r.down) (CrashD.mk (r.c.w - 1) (numsF r.c.keep.length (intsF r.c.keep)) r.c.torn r.c.at_)).c.torn), AV.sy (Value.int IntKind.i64 (rfallD (RD.mk (recsF r.stays.length (bysF r.stays)) (recsF r.cache.length (rwSet (bysF r.cache) z.toNat 0 [AV.by8 b])) (CrashD.mk (r.c.w - 1) (numsF r.c.keep.length (intsF r.c.keep)) r.c.torn r.c.at_) (r.many + 1) r.down) (CrashD.mk (r.c.w - 1) (numsF r.c.keep.length (intsF r.c.keep)) r.c.torn r.c.at_)).c.at_), AV.sy (Value.int IntKind.i64 (rfallD (RD.mk (recsF r.stays.length (bysF r.stays)) (recsF r.cache.length (rwSet (bysF r.cache) z.toNat 0 [AV.by8 b])) (CrashD.mk (r.c.w - 1) (numsF r.c.keep.length (intsF r.c.keep)) r.c.torn r.c.at_) (r.many + 1) r.down) (CrashD.mk (r.c.w - 1) (numsF r.c.keep.length (intsF r.c.keep)) r.c.torn r.c.at_)).many), AV.sy (Value.bool (rfallD (RD.mk (recsF r.stays.length (bysF r.stays)) (recsF r.cache.length (rwSet (bysF r.cache) z.toNat 0 [AV.by8 b])) (CrashD.mk (r.c.w - 1) (numsF r.c.keep.length (intsF r.c.keep)) r.c.torn r.c.at_) (r.many + 1) r.down) (CrashD.mk (r.c.w - 1) (numsF r.c.keep.length (intsF r.c.keep)) r.c.torn r.c.at_)).down)]) (by kernel_rfl) (of_eqP (C := 58 = 58 ∧ (none : Option Nat) = none ∧ (Same 1 ∧ Same (rfallD (RD.mk (recsF r.stays.length (bysF r.stays)) (recsF r.cache.length (rwSet (bysF r.cache) z.toNat 0 [AV.by8 b])) (CrashD.mk (r.c.w - 1) (numsF r.c.keep.length (intsF r.c.keep)) r.c.torn r.c.at_) (r.many + 1) r.down) (CrashD.mk (r.c.w - 1) (numsF r.c.keep.length (intsF r.c.keep)) r.c.torn r.c.at_)).stays.length) ∧ (Same 2 ∧ Same (rfallD (RD.mk (recsF r.stays.length (bysF r.stays)) (recsF r.cache.length (rwSet (bysF r.cache) z.toNat 0 [AV.by8 b])) (CrashD.mk (r.c.w - 1) (numsF r.c.keep.length (intsF r.c.keep)) r.c.torn r.c.at_) (r.many + 1) r.down) (CrashD.mk (r.c.w - 1) (numsF r.c.keep.length (intsF r.c.keep)) r.c.torn r.c.at_)).cache.length) ∧ (Same IntKind.i64 ∧ Same (rfallD (RD.mk (recsF r.stays.length (bysF r.stays)) (recsF r.cache.length (rwSet (bysF r.cache) z.toNat 0 [AV.by8 b])) (CrashD.mk (r.c.w - 1) (numsF r.c.keep.length (intsF r.c.keep)) r.c.torn r.c.at_) (r.many + 1) r.down) (CrashD.mk (r.c.w - 1) (numsF r.c.keep.length (intsF r.c.keep)) r.c.torn r.c.at_)).c.w) ∧ (Same 1 ∧ Same 0 ∧ (∀ (r_1 : Nat), r_1 < 0 → intsF (rfallD (RD.mk (recsF r.stays.length (bysF r.stays)) (recsF r.cache.length (rwSet (bysF r.cache) z.toNat 0 [AV.by8 b])) (CrashD.mk (r.c.w - 1) (numsF r.c.keep.length (intsF r.c.keep)) r.c.torn r.c.at_) (r.many + 1) r.down) (CrashD.mk (r.c.w - 1) (numsF r.c.keep.length (intsF r.c.keep)) r.c.torn r.c.at_)).c.keep r_1 = intsF (rfallD (RD.mk (recsF r.stays.length (bysF r.stays)) (recsF r.cache.length (rwSet (bysF r.cache) z.toNat 0 [AV.by8 b])) (CrashD.mk (r.c.w - 1) (numsF r.c.keep.length (intsF r.c.keep)) r.c.torn r.c.at_) (r.many + 1) r.down) (CrashD.mk (r.c.w - 1) (numsF r.c.keep.length (intsF r.c.keep)) r.c.torn r.c.at_)).c.keep r_1)) ∧ (Same IntKind.i64 ∧ Same (rfallD (RD.mk (recsF r.stays.length (bysF r.stays)) (recsF r.cache.length (rwSet (bysF r.cache) z.toNat 0 [AV.by8 b])) (CrashD.mk (r.c.w - 1) (numsF r.c.keep.length (intsF r.c.keep)) r.c.torn r.c.at_) (r.many + 1) r.down) (CrashD.mk (r.c.w - 1) (numsF r.c.keep.length (intsF r.c.keep)) r.c.torn r.c.at_)).c.torn) ∧ (Same IntKind.i64 ∧ Same (rfallD (RD.mk (recsF r.stays.length (bysF r.stays)) (recsF r.cache.length (rwSet (bysF r.cache) z.toNat 0 [AV.by8 b])) (CrashD.mk (r.c.w - 1) (numsF r.c.keep.length (intsF r.c.keep)) r.c.torn r.c.at_) (r.many + 1) r.down) (CrashD.mk (r.c.w - 1) (numsF r.c.keep.length (intsF r.c.keep)) r.c.torn r.c.at_)).c.at_) ∧ (Same IntKind.i64 ∧ Same (rfallD (RD.mk (recsF r.stays.length (bysF r.stays)) (recsF r.cache.length (rwSet (bysF r.cache) z.toNat 0 [AV.by8 b])) (CrashD.mk (r.c.w - 1) (numsF r.c.keep.length (intsF r.c.keep)) r.c.torn r.c.at_) (r.many + 1) r.down) (CrashD.mk (r.c.w - 1) (numsF r.c.keep.length (intsF r.c.keep)) r.c.torn r.c.at_)).many) ∧ Same (rfallD (RD.mk (recsF r.stays.length (bysF r.stays)) (recsF r.cache.length (rwSet (bysF r.cache) z.toNat 0 [AV.by8 b])) (CrashD.mk (r.c.w - 1) (numsF r.c.keep.length (intsF r.c.keep)) r.c.torn r.c.at_) (r.many + 1) r.down) (CrashD.mk (r.c.w - 1) (numsF r.c.keep.length (intsF r.c.keep)) r.c.torn r.c.at_)).down ∧ True) (by kernel_rfl) (by (and_intros <;> try exact cl))) (endL_cons (B0 := AB.rw 36 1 (rfallD (RD.mk (recsF r.stays.length (bysF r.stays)) (recsF r.cache.length (rwSet (bysF r.cache) z.toNat 0 [AV.by8 b])) (CrashD.mk (r.c.w - 1) (numsF r.c.keep.length (intsF r.c.keep)) r.c.torn r.c.at_) (r.many + 1) r.down) (CrashD.mk (r.c.w - 1) (numsF r.c.keep.length (intsF r.c.keep)) r.c.torn r.c.at_)).stays.length (bysF (rfallD (RD.mk (recsF r.stays.length (bysF r.stays)) (recsF r.cache.length (rwSet (bysF r.cache) z.toNat 0 [AV.by8 b])) (CrashD.mk (r.c.w - 1) (numsF r.c.keep.length (intsF r.c.keep)) r.c.torn r.c.at_) (r.many + 1) r.down) (CrashD.mk (r.c.w - 1) (numsF r.c.keep.length (intsF r.c.keep)) r.c.torn r.c.at_)).stays)) (by kernel_rfl) (of_eqP (C := 36 = 36 ∧ Same 1 ∧ Same (rfallD (RD.mk (recsF r.stays.length (bysF r.stays)) (recsF r.cache.length (rwSet (bysF r.cache) z.toNat 0 [AV.by8 b])) (CrashD.mk (r.c.w - 1) (numsF r.c.keep.length (intsF r.c.keep)) r.c.torn r.c.at_) (r.many + 1) r.down) (CrashD.mk (r.c.w - 1) (numsF r.c.keep.length (intsF r.c.keep)) r.c.torn r.c.at_)).stays.length ∧ (∀ (r_1 : Nat), r_1 < (rfallD (RD.mk (recsF r.stays.length (bysF r.stays)) (recsF r.cache.length (rwSet (bysF r.cache) z.toNat 0 [AV.by8 b])) (CrashD.mk (r.c.w - 1) (numsF r.c.keep.length (intsF r.c.keep)) r.c.torn r.c.at_) (r.many + 1) r.down) (CrashD.mk (r.c.w - 1) (numsF r.c.keep.length (intsF r.c.keep)) r.c.torn r.c.at_)).stays.length → bysF (rfallD (RD.mk (recsF r.stays.length (bysF r.stays)) (recsF r.cache.length (rwSet (bysF r.cache) z.toNat 0 [AV.by8 b])) (CrashD.mk (r.c.w - 1) (numsF r.c.keep.length (intsF r.c.keep)) r.c.torn r.c.at_) (r.many + 1) r.down) (CrashD.mk (r.c.w - 1) (numsF r.c.keep.length (intsF r.c.keep)) r.c.torn r.c.at_)).stays r_1 = bysF (rfallD (RD.mk (recsF r.stays.length (bysF r.stays)) (recsF r.cache.length (rwSet (bysF r.cache) z.toNat 0 [AV.by8 b])) (CrashD.mk (r.c.w - 1) (numsF r.c.keep.length (intsF r.c.keep)) r.c.torn r.c.at_) (r.many + 1) r.down) (CrashD.mk (r.c.w - 1) (numsF r.c.keep.length (intsF r.c.keep)) r.c.torn r.c.at_)).stays r_1)) (by kernel_rfl) (by (and_intros <;> try exact cl))) (endL_cons (B0 := AB.rw 36 1 (rfallD (RD.mk (recsF r.stays.length (bysF r.stays)) (recsF r.cache.length (rwSet (bysF r.cache) z.toNat 0 [AV.by8 b])) (CrashD.mk (r.c.w - 1) (numsF r.c.keep.length (intsF r.c.keep)) r.c.torn r.c.at_) (r.many + 1) r.down) (CrashD.mk (r.c.w - 1) (numsF r.c.keep.length (intsF r.c.keep)) r.c.torn r.c.at_)).cache.length (bysF (rfallD (RD.mk (recsF r.stays.length (bysF r.stays)) (recsF r.cache.length (rwSet (bysF r.cache) z.toNat 0 [AV.by8 b])) (CrashD.mk (r.c.w - 1) (numsF r.c.keep.length (intsF r.c.keep)) r.c.torn r.c.at_) (r.many + 1) r.down) (CrashD.mk (r.c.w - 1) (numsF r.c.keep.length (intsF r.c.keep)) r.c.torn r.c.at_)).cache)) (by kernel_rfl) (of_eqP (C := 36 = 36 ∧ Same 1 ∧ Same (rfallD (RD.mk (recsF r.stays.length (bysF r.stays)) (recsF r.cache.length (rwSet (bysF r.cache) z.toNat 0 [AV.by8 b])) (CrashD.mk (r.c.w - 1) (numsF r.c.keep.length (intsF r.c.keep)) r.c.torn r.c.at_) (r.many + 1) r.down) (CrashD.mk (r.c.w - 1) (numsF r.c.keep.length (intsF r.c.keep)) r.c.torn r.c.at_)).cache.length ∧ (∀ (r_1 : Nat), r_1 < (rfallD (RD.mk (recsF r.stays.length (bysF r.stays)) (recsF r.cache.length (rwSet (bysF r.cache) z.toNat 0 [AV.by8 b])) (CrashD.mk (r.c.w - 1) (numsF r.c.keep.length (intsF r.c.keep)) r.c.torn r.c.at_) (r.many + 1) r.down) (CrashD.mk (r.c.w - 1) (numsF r.c.keep.length (intsF r.c.keep)) r.c.torn r.c.at_)).cache.length → bysF (rfallD (RD.mk (recsF r.stays.length (bysF r.stays)) (recsF r.cache.length (rwSet (bysF r.cache) z.toNat 0 [AV.by8 b])) (CrashD.mk (r.c.w - 1) (numsF r.c.keep.length (intsF r.c.keep)) r.c.torn r.c.at_) (r.many + 1) r.down) (CrashD.mk (r.c.w - 1) (numsF r.c.keep.length (intsF r.c.keep)) r.c.torn r.c.at_)).cache r_1 = bysF (rfallD (RD.mk (recsF r.stays.length (bysF r.stays)) (recsF r.cache.length (rwSet (bysF r.cache) z.toNat 0 [AV.by8 b])) (CrashD.mk (r.c.w - 1) (numsF r.c.keep.length (intsF r.c.keep)) r.c.torn r.c.at_) (r.many + 1) r.down) (CrashD.mk (r.c.w - 1) (numsF r.c.keep.length (intsF r.c.keep)) r.c.torn r.c.at_)).cache r_1)) (by kernel_rfl) (by (and_intros <;> try exact cl))) endL_nil)))⟩
   · intro h3
     have hw : rwriteD r z b = (r, 30) := by unfold rwriteD; rw [if_neg (by simp [h1]), if_neg (by omega), if_pos (by omega)]
     refine To.R (h := ?_)
     refine To.E (AV.v (Value.int IntKind.i64 30)) (hq := ?_)
     rw [hw]
     refine ⟨(of_eqP (C := Same IntKind.i64 ∧ Same (30 : Int)) (by kernel_rfl) (by (and_intros <;> try exact cl))), (endL_cons (B0 := AB.mem 58 none [AV.ow 1 r.stays.length, AV.ow 2 r.cache.length, AV.sy (Value.int IntKind.i64 r.c.w), AV.im 1 r.c.keep.length (intsF r.c.keep), AV.sy (Value.int IntKind.i64 r.c.torn), AV.sy (Value.int IntKind.i64 r.c.at_), AV.sy (Value.int IntKind.i64 r.many), AV.sy (Value.bool r.down)]) (by kernel_rfl) (of_eqP (C := 58 = 58 ∧ (none : Option Nat) = none ∧ (Same 1 ∧ Same r.stays.length) ∧ (Same 2 ∧ Same r.cache.length) ∧ (Same IntKind.i64 ∧ Same r.c.w) ∧ (Same 1 ∧ Same r.c.keep.length ∧ (∀ (r_1 : Nat), r_1 < r.c.keep.length → intsF r.c.keep r_1 = intsF r.c.keep r_1)) ∧ (Same IntKind.i64 ∧ Same r.c.torn) ∧ (Same IntKind.i64 ∧ Same r.c.at_) ∧ (Same IntKind.i64 ∧ Same r.many) ∧ Same r.down ∧ True) (by kernel_rfl) (by (and_intros <;> try exact cl))) (endL_cons (B0 := AB.rw 36 1 r.stays.length (bysF r.stays)) (by kernel_rfl) (of_eqP (C := 36 = 36 ∧ Same 1 ∧ Same r.stays.length ∧ (∀ (r_1 : Nat), r_1 < r.stays.length → bysF r.stays r_1 = bysF r.stays r_1)) (by kernel_rfl) (by (and_intros <;> try exact cl))) (endL_cons (B0 := AB.rw 36 1 r.cache.length (bysF r.cache)) (by kernel_rfl) (of_eqP (C := 36 = 36 ∧ Same 1 ∧ Same r.cache.length ∧ (∀ (r_1 : Nat), r_1 < r.cache.length → bysF r.cache r_1 = bysF r.cache r_1)) (by kernel_rfl) (by (and_intros <;> try exact cl))) endL_nil)))⟩
 · intro h2
   have hw : rwriteD r z b = (r, 30) := by unfold rwriteD; rw [if_neg (by simp [h1]), if_pos (by omega)]
   refine To.R (h := ?_)
   refine To.E (AV.v (Value.int IntKind.i64 30)) (hq := ?_)
   rw [hw]
   refine ⟨(of_eqP (C := Same IntKind.i64 ∧ Same (30 : Int)) (by kernel_rfl) (by (and_intros <;> try exact cl))), (endL_cons (B0 := AB.mem 58 none [AV.ow 1 r.stays.length, AV.ow 2 r.cache.length, AV.sy (Value.int IntKind.i64 r.c.w), AV.im 1 r.c.keep.length (intsF r.c.keep), AV.sy (Value.int IntKind.i64 r.c.torn), AV.sy (Value.int IntKind.i64 r.c.at_), AV.sy (Value.int IntKind.i64 r.many), AV.sy (Value.bool r.down)]) (by kernel_rfl) (of_eqP (C := 58 = 58 ∧ (none : Option Nat) = none ∧ (Same 1 ∧ Same r.stays.length) ∧ (Same 2 ∧ Same r.cache.length) ∧ (Same IntKind.i64 ∧ Same r.c.w) ∧ (Same 1 ∧ Same r.c.keep.length ∧ (∀ (r_1 : Nat), r_1 < r.c.keep.length → intsF r.c.keep r_1 = intsF r.c.keep r_1)) ∧ (Same IntKind.i64 ∧ Same r.c.torn) ∧ (Same IntKind.i64 ∧ Same r.c.at_) ∧ (Same IntKind.i64 ∧ Same r.many) ∧ Same r.down ∧ True) (by kernel_rfl) (by (and_intros <;> try exact cl))) (endL_cons (B0 := AB.rw 36 1 r.stays.length (bysF r.stays)) (by kernel_rfl) (of_eqP (C := 36 = 36 ∧ Same 1 ∧ Same r.stays.length ∧ (∀ (r_1 : Nat), r_1 < r.stays.length → bysF r.stays r_1 = bysF r.stays r_1)) (by kernel_rfl) (by (and_intros <;> try exact cl))) (endL_cons (B0 := AB.rw 36 1 r.cache.length (bysF r.cache)) (by kernel_rfl) (of_eqP (C := 36 = 36 ∧ Same 1 ∧ Same r.cache.length ∧ (∀ (r_1 : Nat), r_1 < r.cache.length → bysF r.cache r_1 = bysF r.cache r_1)) (by kernel_rfl) (by (and_intros <;> try exact cl))) endL_nil)))⟩
def rflS (r : RD) (a : Nat) : List (List UInt8) := (List.range r.stays.length).map fun k => if k < a ∧ r.cache.getD k [] ≠ [] then r.cache.getD k [] else r.stays.getD k []
theorem rflS_at {r : RD} {a k : Nat} (h : k < r.stays.length) : (rflS r a).getD k [] = if k < a ∧ r.cache.getD k [] ≠ [] then r.cache.getD k [] else r.stays.getD k [] := by
 unfold rflS
 rw [List.getD_eq_getElem?_getD, List.getElem?_map, List.getElem?_range h]; rfl
def rwl (r : RD) (a : Nat) : List Int := ((List.range a).filter fun k => !(r.cache.getD k []).isEmpty).map Int.ofNat
theorem rwl_succ (r : RD) (a : Nat) : rwl r (a + 1) = if r.cache.getD a [] = [] then rwl r a else rwl r a ++ [(a : Int)] := by
 unfold rwl
 rw [List.range_succ, List.filter_append, List.map_append]
 cases h : r.cache.getD a [] with
 | nil =>
   have : [a].filter (fun k => !(r.cache.getD k []).isEmpty) = [] := by simp only [List.filter, h]; rfl
   rw [this, if_pos rfl]; simp
 | cons x l =>
   have : [a].filter (fun k => !(r.cache.getD k []).isEmpty) = [a] := by simp only [List.filter, h]; rfl
   rw [this, if_neg nofun]; rfl
theorem rwl_len (r : RD) (a : Nat) : (rwl r a).length ≤ a := by
 unfold rwl
 rw [List.length_map]
 exact Nat.le_trans (List.length_filter_le _ _) (by simp)
theorem intsF_push (l : List Int) (b : Int) : ∀ r, r < l.length + 1 → rwPush (intsF l) l.length [ivA b] r = intsF (l ++ [b]) r := fun r hr => by
 unfold rwPush intsF
 by_cases h : r = l.length
 · subst h
   have e : Nat.blt l.length l.length = false := by
     cases h : Nat.blt l.length l.length with
     | false => rfl
     | true => rw [Nat.blt_eq] at h; omega
   rw [e]
   simp [List.getD_eq_getElem?_getD, ivA]
 · have h' : r < l.length := by omega
   have e : Nat.blt r l.length = true := by rw [Nat.blt_eq]; exact h'
   rw [e]
   simp [List.getD_eq_getElem?_getD, List.getElem?_append_left h']
set_option maxHeartbeats 4000000 in
set_option maxRecDepth 100000 in
theorem rread_to (hok : S16.Ok Try.prog) (r : RD) (z : Int) (hr : r.Ok) :
   To S16 Try.prog 19 (startOf Try.prog 19 [.ptr 0 0, ivA z] (memF (rblk r) 0 .e) 3)
     (fun x H' _ => leA x (.tup [.by8 (rreadD r z).1, ivA (rreadD r z).2]) ∧ endL (rblk r) 0 H') := by
 have hlen := hr.len
 have hle := hr.le
 refine To.R (h := ?_)
 refine To.bool2 10 (r.down) (by kernel_rfl) (by kernel_rfl) ?_ ?_
 · intro h1
   have hw : rreadD r z = ([], 31) := by unfold rreadD; rw [if_pos h1]
   refine To.R (h := ?_)
   refine To.E (AV.tup [AV.v (Value.slice none 0 0), AV.v (Value.int IntKind.i64 31)]) (hq := ?_)
   rw [hw]
   refine ⟨(of_eqP (C := ([] : List UInt8) = [] ∧ (Same IntKind.i64 ∧ Same (31 : Int)) ∧ True) (by kernel_rfl) (by (and_intros <;> try exact cl))), (endL_cons (B0 := AB.mem 58 none [AV.ow 1 r.stays.length, AV.ow 2 r.cache.length, AV.sy (Value.int IntKind.i64 r.c.w), AV.im 1 r.c.keep.length (intsF r.c.keep), AV.sy (Value.int IntKind.i64 r.c.torn), AV.sy (Value.int IntKind.i64 r.c.at_), AV.sy (Value.int IntKind.i64 r.many), AV.sy (Value.bool r.down)]) (by kernel_rfl) (of_eqP (C := 58 = 58 ∧ (none : Option Nat) = none ∧ (Same 1 ∧ Same r.stays.length) ∧ (Same 2 ∧ Same r.cache.length) ∧ (Same IntKind.i64 ∧ Same r.c.w) ∧ (Same 1 ∧ Same r.c.keep.length ∧ (∀ (r_1 : Nat), r_1 < r.c.keep.length → intsF r.c.keep r_1 = intsF r.c.keep r_1)) ∧ (Same IntKind.i64 ∧ Same r.c.torn) ∧ (Same IntKind.i64 ∧ Same r.c.at_) ∧ (Same IntKind.i64 ∧ Same r.many) ∧ Same r.down ∧ True) (by kernel_rfl) (by (and_intros <;> try exact cl))) (endL_cons (B0 := AB.rw 36 1 r.stays.length (bysF r.stays)) (by kernel_rfl) (of_eqP (C := 36 = 36 ∧ Same 1 ∧ Same r.stays.length ∧ (∀ (r_1 : Nat), r_1 < r.stays.length → bysF r.stays r_1 = bysF r.stays r_1)) (by kernel_rfl) (by (and_intros <;> try exact cl))) (endL_cons (B0 := AB.rw 36 1 r.cache.length (bysF r.cache)) (by kernel_rfl) (of_eqP (C := 36 = 36 ∧ Same 1 ∧ Same r.cache.length ∧ (∀ (r_1 : Nat), r_1 < r.cache.length → bysF r.cache r_1 = bysF r.cache r_1)) (by kernel_rfl) (by (and_intros <;> try exact cl))) endL_nil)))⟩
 intro h1
 refine To.R (h := ?_)
 refine To.Bd (0 ≤ z) (h := ?_) (g := ?_)
 · intro h2
   refine To.R (h := ?_)
   refine To.Bd (z < r.stays.length) (h := ?_) (g := ?_)
   · intro h3
     have hzl : z.toNat < r.cache.length := by omega
     have hzl' : z.toNat < r.stays.length := by omega
     have l1 : (r.cache.getD z.toNat default).length ≤ 1000000 := by
       show (r.cache.getD z.toNat []).length ≤ 1000000
       rcases hr.ca _ hzl' with e | e
       · rw [e]; exact Nat.zero_le _
       · rw [e]; decide
     have l2 : (r.stays.getD z.toNat default).length ≤ 1000000 := by
       show (r.stays.getD z.toNat []).length ≤ 1000000
       rw [hr.st _ hzl']; decide
     refine To.R (C := (0 ≤ z ∧ z < r.cache.length) ∧ z.toNat < r.cache.length ∧ True) (h := ?_)
     refine To.Bd ((0 : Int) < (r.cache.getD z.toNat default).length) (h := ?_) (g := ?_)
     · intro h4
       have h4' : r.cache.getD z.toNat [] ≠ [] := fun e => by rw [show r.cache.getD z.toNat default = [] from e] at h4; exact absurd h4 (by decide)
       have hw : rreadD r z = (r.cache.getD z.toNat [], 0) := by unfold rreadD; rw [if_neg (by simp [h1]), if_neg (by omega), if_neg (by omega), if_neg h4']
       refine To.R (C := (0 ≤ z ∧ z < r.cache.length) ∧ z.toNat < r.cache.length ∧ True ∧ (r.cache.getD z.toNat default).length ≤ 1000000) (h := ?_)
       refine To.E (AV.tup [AV.by8 (r.cache.getD z.toNat default), AV.v (Value.int IntKind.i64 0)]) (hq := ?_)
       rw [hw]
       refine ⟨(of_eqP (C := r.cache.getD z.toNat default = r.cache.getD z.toNat [] ∧ (Same IntKind.i64 ∧ Same (0 : Int)) ∧ True) (by kernel_rfl) ?_), (endL_cons (B0 := AB.mem 58 none [AV.ow 1 r.stays.length, AV.ow 2 r.cache.length, AV.sy (Value.int IntKind.i64 r.c.w), AV.im 1 r.c.keep.length (intsF r.c.keep), AV.sy (Value.int IntKind.i64 r.c.torn), AV.sy (Value.int IntKind.i64 r.c.at_), AV.sy (Value.int IntKind.i64 r.many), AV.sy (Value.bool r.down)]) (by kernel_rfl) (of_eqP (C := 58 = 58 ∧ (none : Option Nat) = none ∧ (Same 1 ∧ Same r.stays.length) ∧ (Same 2 ∧ Same r.cache.length) ∧ (Same IntKind.i64 ∧ Same r.c.w) ∧ (Same 1 ∧ Same r.c.keep.length ∧ (∀ (r_1 : Nat), r_1 < r.c.keep.length → intsF r.c.keep r_1 = intsF r.c.keep r_1)) ∧ (Same IntKind.i64 ∧ Same r.c.torn) ∧ (Same IntKind.i64 ∧ Same r.c.at_) ∧ (Same IntKind.i64 ∧ Same r.many) ∧ Same r.down ∧ True) (by kernel_rfl) (by (and_intros <;> try exact cl))) (endL_cons (B0 := AB.rw 36 1 r.stays.length (bysF r.stays)) (by kernel_rfl) (of_eqP (C := 36 = 36 ∧ Same 1 ∧ Same r.stays.length ∧ (∀ (r_1 : Nat), r_1 < r.stays.length → bysF r.stays r_1 = bysF r.stays r_1)) (by kernel_rfl) (by (and_intros <;> try exact cl))) (endL_cons (B0 := AB.rw 36 1 r.cache.length (bysF r.cache)) (by kernel_rfl) (of_eqP (C := 36 = 36 ∧ Same 1 ∧ Same r.cache.length ∧ (∀ (r_1 : Nat), r_1 < r.cache.length → bysF r.cache r_1 = bysF r.cache r_1)) (by kernel_rfl) (by (and_intros <;> try exact cl))) endL_nil)))⟩
       exact ⟨rfl, ⟨rfl, rfl⟩, trivial⟩
     · intro h4
       have h4' : r.cache.getD z.toNat [] = [] := List.eq_nil_of_length_eq_zero (by have : ¬ (0 : Int) < ((r.cache.getD z.toNat []).length : Int) := h4; omega)
       have hw : rreadD r z = (r.stays.getD z.toNat [], 0) := by unfold rreadD; rw [if_neg (by simp [h1]), if_neg (by omega), if_neg (by omega), if_pos h4']
       refine To.R (C := (0 ≤ z ∧ z < r.stays.length) ∧ z.toNat < r.stays.length ∧ True ∧ (r.stays.getD z.toNat default).length ≤ 1000000) (h := ?_)
       refine To.E (AV.tup [AV.by8 (r.stays.getD z.toNat default), AV.v (Value.int IntKind.i64 0)]) (hq := ?_)
       rw [hw]
       refine ⟨(of_eqP (C := r.stays.getD z.toNat default = r.stays.getD z.toNat [] ∧ (Same IntKind.i64 ∧ Same (0 : Int)) ∧ True) (by kernel_rfl) ?_), (endL_cons (B0 := AB.mem 58 none [AV.ow 1 r.stays.length, AV.ow 2 r.cache.length, AV.sy (Value.int IntKind.i64 r.c.w), AV.im 1 r.c.keep.length (intsF r.c.keep), AV.sy (Value.int IntKind.i64 r.c.torn), AV.sy (Value.int IntKind.i64 r.c.at_), AV.sy (Value.int IntKind.i64 r.many), AV.sy (Value.bool r.down)]) (by kernel_rfl) (of_eqP (C := 58 = 58 ∧ (none : Option Nat) = none ∧ (Same 1 ∧ Same r.stays.length) ∧ (Same 2 ∧ Same r.cache.length) ∧ (Same IntKind.i64 ∧ Same r.c.w) ∧ (Same 1 ∧ Same r.c.keep.length ∧ (∀ (r_1 : Nat), r_1 < r.c.keep.length → intsF r.c.keep r_1 = intsF r.c.keep r_1)) ∧ (Same IntKind.i64 ∧ Same r.c.torn) ∧ (Same IntKind.i64 ∧ Same r.c.at_) ∧ (Same IntKind.i64 ∧ Same r.many) ∧ Same r.down ∧ True) (by kernel_rfl) (by (and_intros <;> try exact cl))) (endL_cons (B0 := AB.rw 36 1 r.stays.length (bysF r.stays)) (by kernel_rfl) (of_eqP (C := 36 = 36 ∧ Same 1 ∧ Same r.stays.length ∧ (∀ (r_1 : Nat), r_1 < r.stays.length → bysF r.stays r_1 = bysF r.stays r_1)) (by kernel_rfl) (by (and_intros <;> try exact cl))) (endL_cons (B0 := AB.rw 36 1 r.cache.length (bysF r.cache)) (by kernel_rfl) (of_eqP (C := 36 = 36 ∧ Same 1 ∧ Same r.cache.length ∧ (∀ (r_1 : Nat), r_1 < r.cache.length → bysF r.cache r_1 = bysF r.cache r_1)) (by kernel_rfl) (by (and_intros <;> try exact cl))) endL_nil)))⟩
       exact ⟨rfl, ⟨rfl, rfl⟩, trivial⟩
   · intro h3
     have hw : rreadD r z = ([], 30) := by unfold rreadD; rw [if_neg (by simp [h1]), if_neg (by omega), if_pos (by omega)]
     refine To.R (h := ?_)
     refine To.E (AV.tup [AV.v (Value.slice none 0 0), AV.v (Value.int IntKind.i64 30)]) (hq := ?_)
     rw [hw]
     refine ⟨(of_eqP (C := ([] : List UInt8) = [] ∧ (Same IntKind.i64 ∧ Same (30 : Int)) ∧ True) (by kernel_rfl) (by (and_intros <;> try exact cl))), (endL_cons (B0 := AB.mem 58 none [AV.ow 1 r.stays.length, AV.ow 2 r.cache.length, AV.sy (Value.int IntKind.i64 r.c.w), AV.im 1 r.c.keep.length (intsF r.c.keep), AV.sy (Value.int IntKind.i64 r.c.torn), AV.sy (Value.int IntKind.i64 r.c.at_), AV.sy (Value.int IntKind.i64 r.many), AV.sy (Value.bool r.down)]) (by kernel_rfl) (of_eqP (C := 58 = 58 ∧ (none : Option Nat) = none ∧ (Same 1 ∧ Same r.stays.length) ∧ (Same 2 ∧ Same r.cache.length) ∧ (Same IntKind.i64 ∧ Same r.c.w) ∧ (Same 1 ∧ Same r.c.keep.length ∧ (∀ (r_1 : Nat), r_1 < r.c.keep.length → intsF r.c.keep r_1 = intsF r.c.keep r_1)) ∧ (Same IntKind.i64 ∧ Same r.c.torn) ∧ (Same IntKind.i64 ∧ Same r.c.at_) ∧ (Same IntKind.i64 ∧ Same r.many) ∧ Same r.down ∧ True) (by kernel_rfl) (by (and_intros <;> try exact cl))) (endL_cons (B0 := AB.rw 36 1 r.stays.length (bysF r.stays)) (by kernel_rfl) (of_eqP (C := 36 = 36 ∧ Same 1 ∧ Same r.stays.length ∧ (∀ (r_1 : Nat), r_1 < r.stays.length → bysF r.stays r_1 = bysF r.stays r_1)) (by kernel_rfl) (by (and_intros <;> try exact cl))) (endL_cons (B0 := AB.rw 36 1 r.cache.length (bysF r.cache)) (by kernel_rfl) (of_eqP (C := 36 = 36 ∧ Same 1 ∧ Same r.cache.length ∧ (∀ (r_1 : Nat), r_1 < r.cache.length → bysF r.cache r_1 = bysF r.cache r_1)) (by kernel_rfl) (by (and_intros <;> try exact cl))) endL_nil)))⟩
 · intro h2
   have hw : rreadD r z = ([], 30) := by unfold rreadD; rw [if_neg (by simp [h1]), if_pos (by omega)]
   refine To.R (h := ?_)
   refine To.E (AV.tup [AV.v (Value.slice none 0 0), AV.v (Value.int IntKind.i64 30)]) (hq := ?_)
   rw [hw]
   refine ⟨(of_eqP (C := ([] : List UInt8) = [] ∧ (Same IntKind.i64 ∧ Same (30 : Int)) ∧ True) (by kernel_rfl) (by (and_intros <;> try exact cl))), (endL_cons (B0 := AB.mem 58 none [AV.ow 1 r.stays.length, AV.ow 2 r.cache.length, AV.sy (Value.int IntKind.i64 r.c.w), AV.im 1 r.c.keep.length (intsF r.c.keep), AV.sy (Value.int IntKind.i64 r.c.torn), AV.sy (Value.int IntKind.i64 r.c.at_), AV.sy (Value.int IntKind.i64 r.many), AV.sy (Value.bool r.down)]) (by kernel_rfl) (of_eqP (C := 58 = 58 ∧ (none : Option Nat) = none ∧ (Same 1 ∧ Same r.stays.length) ∧ (Same 2 ∧ Same r.cache.length) ∧ (Same IntKind.i64 ∧ Same r.c.w) ∧ (Same 1 ∧ Same r.c.keep.length ∧ (∀ (r_1 : Nat), r_1 < r.c.keep.length → intsF r.c.keep r_1 = intsF r.c.keep r_1)) ∧ (Same IntKind.i64 ∧ Same r.c.torn) ∧ (Same IntKind.i64 ∧ Same r.c.at_) ∧ (Same IntKind.i64 ∧ Same r.many) ∧ Same r.down ∧ True) (by kernel_rfl) (by (and_intros <;> try exact cl))) (endL_cons (B0 := AB.rw 36 1 r.stays.length (bysF r.stays)) (by kernel_rfl) (of_eqP (C := 36 = 36 ∧ Same 1 ∧ Same r.stays.length ∧ (∀ (r_1 : Nat), r_1 < r.stays.length → bysF r.stays r_1 = bysF r.stays r_1)) (by kernel_rfl) (by (and_intros <;> try exact cl))) (endL_cons (B0 := AB.rw 36 1 r.cache.length (bysF r.cache)) (by kernel_rfl) (of_eqP (C := 36 = 36 ∧ Same 1 ∧ Same r.cache.length ∧ (∀ (r_1 : Nat), r_1 < r.cache.length → bysF r.cache r_1 = bysF r.cache r_1)) (by kernel_rfl) (by (and_intros <;> try exact cl))) endL_nil)))⟩
set_option maxHeartbeats 4000000 in
set_option maxRecDepth 100000 in
theorem rflush_to (hok : S16.Ok Try.prog) (r : RD) (hr : r.Ok) :
   To S16 Try.prog 41 (startOf Try.prog 41 [.ptr 0 0] (memF (rblk r) 0 .e) 3)
     (fun x H' _ => leA x (ivA (rflushD r).2) ∧ endL (rblk (rflushD r).1) 0 H') := by
 have hlen := hr.len
 have hle := hr.le
 refine To.R (h := ?_)
 refine To.bool2 7 (r.down) (by kernel_rfl) (by kernel_rfl) ?_ ?_
 · intro h1
   have hw : rflushD r = (r, 31) := by unfold rflushD; rw [if_pos h1]
   refine To.R (h := ?_)
   refine To.E (AV.v (Value.int IntKind.i64 31)) (hq := ?_)
   rw [hw]
   refine ⟨(of_eqP (C := Same IntKind.i64 ∧ Same (31 : Int)) (by kernel_rfl) (by (and_intros <;> try exact cl))), (endL_cons (B0 := AB.mem 58 none [AV.ow 1 r.stays.length, AV.ow 2 r.cache.length, AV.sy (Value.int IntKind.i64 r.c.w), AV.im 1 r.c.keep.length (intsF r.c.keep), AV.sy (Value.int IntKind.i64 r.c.torn), AV.sy (Value.int IntKind.i64 r.c.at_), AV.sy (Value.int IntKind.i64 r.many), AV.sy (Value.bool r.down)]) (by kernel_rfl) (of_eqP (C := 58 = 58 ∧ (none : Option Nat) = none ∧ (Same 1 ∧ Same r.stays.length) ∧ (Same 2 ∧ Same r.cache.length) ∧ (Same IntKind.i64 ∧ Same r.c.w) ∧ (Same 1 ∧ Same r.c.keep.length ∧ (∀ (r_1 : Nat), r_1 < r.c.keep.length → intsF r.c.keep r_1 = intsF r.c.keep r_1)) ∧ (Same IntKind.i64 ∧ Same r.c.torn) ∧ (Same IntKind.i64 ∧ Same r.c.at_) ∧ (Same IntKind.i64 ∧ Same r.many) ∧ Same r.down ∧ True) (by kernel_rfl) (by (and_intros <;> try exact cl))) (endL_cons (B0 := AB.rw 36 1 r.stays.length (bysF r.stays)) (by kernel_rfl) (of_eqP (C := 36 = 36 ∧ Same 1 ∧ Same r.stays.length ∧ (∀ (r_1 : Nat), r_1 < r.stays.length → bysF r.stays r_1 = bysF r.stays r_1)) (by kernel_rfl) (by (and_intros <;> try exact cl))) (endL_cons (B0 := AB.rw 36 1 r.cache.length (bysF r.cache)) (by kernel_rfl) (of_eqP (C := 36 = 36 ∧ Same 1 ∧ Same r.cache.length ∧ (∀ (r_1 : Nat), r_1 < r.cache.length → bysF r.cache r_1 = bysF r.cache r_1)) (by kernel_rfl) (by (and_intros <;> try exact cl))) endL_nil)))⟩
 intro h1
 refine To.R (k := 9) (h := ?_)
 refine To.L (L := []) (kp := [3, 0]) (C := (Same IntKind.i64 ∧ (0 : Int) = (↑(0 : Nat) : Int)) ∧ (Same 36 ∧ Same 1 ∧ Same r.stays.length ∧ (∀ (r_1 : Nat), r_1 < r.stays.length → bysF r.stays r_1 = bysF (rflS r 0) r_1)) ∧ Same 36 ∧ Same 1 ∧ Same r.cache.length ∧ (∀ (r_1 : Nat), r_1 < r.cache.length → bysF r.cache r_1 = bysF (rfallC r 0) r_1)) (st := fun (a : Nat) => (⟨(⟨41, 45, (slotT 45 [(0, AV.ptr 0 0), (3, AV.sy (Value.int IntKind.i64 a))]), ARg.no, [(AItem.code (subC (bodyC Try.prog 41) [1, 1, 0, 1, 0, 0])), (AItem.inLoop (subC (bodyC Try.prog 41) [1, 1, 0, 1, 0, 0])), (AItem.inBlock 0), (AItem.code (subC (bodyC Try.prog 41) [1, 1, 1]))], [], false, none, 3⟩ : AFr), [], memF [AB.mem 58 none [AV.ow 1 r.stays.length, AV.ow 2 r.cache.length, AV.sy (Value.int IntKind.i64 r.c.w), AV.im 1 r.c.keep.length (intsF r.c.keep), AV.sy (Value.int IntKind.i64 r.c.torn), AV.sy (Value.int IntKind.i64 r.c.at_), AV.sy (Value.int IntKind.i64 r.many), AV.sy (Value.bool r.down)], AB.rw 36 1 r.stays.length (bysF (rflS r a)), AB.rw 36 1 r.cache.length (bysF (rfallC r a))] 0 Tr.e, 3⟩ : ASt)) (hc := ?_) (h := ?_) (fun (a : Nat) => [(3, ivA (a : Int))]) (fun a => [(1, .rw 36 1 r.stays.length (bysF (rflS r a))), (2, .rw 36 1 r.cache.length (bysF (rfallC r a)))]) (fun a => a ≤ r.cache.length) (fun a => r.cache.length - a) (0)
 · refine ⟨⟨rfl, rfl⟩, ⟨rfl, rfl, rfl, fun k hk => ?_⟩, rfl, rfl, rfl, fun k hk => ?_⟩
   · rw [bysF_get, bysF_get, rflS_at hk]; rfl
   · rw [bysF_get, bysF_get, rfallC_at hk]; rfl
 intro t ha ih
 refine To.R (h := ?_)
 refine To.Bd ((t : Int) < r.cache.length) (h := ?_) (g := ?_)
 · intro h2
   have hac : t < r.cache.length := by omega
   have has : t < r.stays.length := by omega
   have hv := rfallC_at (a := t) hac
   rw [if_neg (by omega)] at hv
   have hi1 : t + 1 ≤ r.cache.length := hac
   have hi2 : r.cache.length - (t + 1) < r.cache.length - t := by omega
   refine To.R (C := ((0 : Int) ≤ t ∧ (t : Int) < r.cache.length) ∧ t < r.cache.length ∧ True) (h := ?_)
   refine To.Bd ((0 : Int) < ((rfallC r t).getD t default).length) (h := ?_) (g := ?_)
   · intro h3
     have hne : r.cache.getD t [] ≠ [] := fun e => by
       rw [← hv] at e
       rw [show (rfallC r t).getD t default = [] from e] at h3; exact absurd h3 (by decide)
     refine To.R (k := 35) (C := ((0 : Int) ≤ t ∧ (t : Int) < r.cache.length) ∧ t < r.cache.length ∧ ((0 : Int) ≤ t ∧ (t : Int) < r.stays.length) ∧ t < r.stays.length ∧ ((0 : Int) ≤ t ∧ (t : Int) < r.cache.length) ∧ t < r.cache.length ∧ fits IntKind.i64 (t + 1)) (h := ?_)
     refine To.rows 2 (bysF (rfallC r (t + 1))) (by kernel_rfl) (C := (∀ (r_1 : Nat), r_1 < r.cache.length → leL (rwSet (bysF (rfallC r t)) t 0 [AV.v (Value.slice none 0 0)] r_1) (bysF (rfallC r (t + 1)) r_1) ∧ bareL (bysF (rfallC r (t + 1)) r_1) = true)) (by kernel_rfl) ?_ ?_
     · intro q hq
       rw [bysF_get, ← rfallC_next hq]
       unfold rwSet
       rw [beq_dec]
       by_cases e : q = t
       · subst e; simp only [decide_true, cond_true, if_true]; exact ⟨⟨rfl, trivial⟩, rfl⟩
       · simp only [e, decide_false, cond_false, if_false]; exact ⟨leL_refl _, rfl⟩
     refine To.K (L := []) (kp := [3, 0]) (ov := [(3, AV.sy (Value.int IntKind.i64 (↑(t + 1) : Int)))]) (ob := [(1, AB.rw 36 1 r.stays.length (bysF (rflS r (t + 1))))]) (C := (Same IntKind.i64 ∧ (↑t : Int) + 1 = (↑(t + 1) : Int)) ∧ 36 = 36 ∧ Same 1 ∧ Same r.stays.length ∧ (∀ (r_1 : Nat), r_1 < r.stays.length → rwSet (bysF (rflS r t)) t 0 [AV.by8 ((rfallC r t).getD t default)] r_1 = bysF (rflS r (t + 1)) r_1)) (hc := ?_) (ih (t + 1) hi1 hi2)
     refine ⟨⟨rfl, Int.natCast_succ _⟩, rfl, rfl, rfl, fun q hq => ?_⟩
     rw [rwSet_bys, bysF_get, rflS_at hq, rflS_at hq]
     by_cases e : q = t
     · subst e
       rw [if_pos rfl, if_pos ⟨by omega, hne⟩]
       exact congrArg (fun x => [AV.by8 x]) hv
     · rw [if_neg e]
       by_cases q1 : q < t
       · simp only [q1, show q < t + 1 by omega]
       · simp only [q1, show ¬ q < t + 1 by omega]
   · intro h3
     have he : r.cache.getD t [] = [] := by
       rw [← hv]
       exact List.eq_nil_of_length_eq_zero (by have : ¬ (0 : Int) < (((rfallC r t).getD t []).length : Int) := h3; omega)
     refine To.R (k := 10) (C := fits IntKind.i64 (t + 1)) (h := ?_)
     refine To.K (L := []) (kp := [3, 0]) (ov := [(3, AV.sy (Value.int IntKind.i64 (↑(t + 1) : Int)))]) (ob := [(1, AB.rw 36 1 r.stays.length (bysF (rflS r (t + 1)))), (2, AB.rw 36 1 r.cache.length (bysF (rfallC r (t + 1))))]) (C := (Same IntKind.i64 ∧ (↑t : Int) + 1 = (↑(t + 1) : Int)) ∧ (36 = 36 ∧ Same 1 ∧ Same r.stays.length ∧ (∀ (r_1 : Nat), r_1 < r.stays.length → bysF (rflS r t) r_1 = bysF (rflS r (t + 1)) r_1)) ∧ 36 = 36 ∧ Same 1 ∧ Same r.cache.length ∧ (∀ (r_1 : Nat), r_1 < r.cache.length → bysF (rfallC r t) r_1 = bysF (rfallC r (t + 1)) r_1)) (hc := ?_) (ih (t + 1) hi1 hi2)
     refine ⟨⟨rfl, Int.natCast_succ _⟩, ⟨rfl, rfl, rfl, fun k hk => ?_⟩, rfl, rfl, rfl, fun k hk => ?_⟩
     · rw [bysF_get, bysF_get, rflS_at hk, rflS_at hk]
       by_cases q1 : k < t
       · simp only [q1, show k < t + 1 by omega]
       · by_cases q2 : k = t
         · subst q2; rw [if_neg (fun h => h.2 he), if_neg (fun h => h.2 he)]
         · simp only [q1, show ¬ k < t + 1 by omega]
     · rw [bysF_get, bysF_get, rfallC_same hk he]
 · intro h2
   have hw : rflushD r = ({ r with stays := rflS r t, cache := rfallC r t }, 0) := by
     unfold rflushD
     rw [if_neg (by simp [h1])]
     have e1 : rflushL r = rflS r t := by
       refine rows_ext (by simp [rflushL, rflS]) fun k hk => ?_
       have hk' : k < r.stays.length := by simpa [rflushL] using hk
       rw [rflS_at hk']
       unfold rflushL
       rw [List.getD_eq_getElem?_getD, List.getElem?_map, List.getElem?_range hk']
       simp only [Option.map_some, Option.getD_some]
       by_cases e : r.cache.getD k [] = []
       · rw [if_pos e, if_neg (fun h => h.2 e)]
       · rw [if_neg e, if_pos ⟨by omega, e⟩]
     have e2 : List.replicate r.cache.length ([] : List UInt8) = rfallC r t := by
       refine rows_ext (by simp [rfallC]) fun k hk => ?_
       have hk' : k < r.cache.length := by simpa using hk
       rw [rfallC_at hk', if_pos (by omega), List.getD_eq_getElem?_getD, List.getElem?_replicate, if_pos hk']; rfl
     rw [e1, e2]
   have e3 : (rflS r t).length = r.stays.length := by simp [rflS]
   have e4 := rfallC_len r t
   refine To.R (h := ?_)
   refine To.E (AV.v (Value.int IntKind.i64 0)) (hq := ?_)
   rw [hw]
   refine ⟨(of_eqP (C := Same IntKind.i64 ∧ Same (0 : Int)) (by kernel_rfl) (by (and_intros <;> try exact cl))), (endL_cons (B0 := AB.mem 58 none [AV.ow 1 r.stays.length, AV.ow 2 r.cache.length, AV.sy (Value.int IntKind.i64 r.c.w), AV.im 1 r.c.keep.length (intsF r.c.keep), AV.sy (Value.int IntKind.i64 r.c.torn), AV.sy (Value.int IntKind.i64 r.c.at_), AV.sy (Value.int IntKind.i64 r.many), AV.sy (Value.bool r.down)]) (by kernel_rfl) (of_eqP (C := 58 = 58 ∧ (none : Option Nat) = none ∧ (Same 1 ∧ r.stays.length = (rflS r t).length) ∧ (Same 2 ∧ r.cache.length = (rfallC r t).length) ∧ (Same IntKind.i64 ∧ Same r.c.w) ∧ (Same 1 ∧ Same r.c.keep.length ∧ (∀ (r_1 : Nat), r_1 < r.c.keep.length → intsF r.c.keep r_1 = intsF r.c.keep r_1)) ∧ (Same IntKind.i64 ∧ Same r.c.torn) ∧ (Same IntKind.i64 ∧ Same r.c.at_) ∧ (Same IntKind.i64 ∧ Same r.many) ∧ Same r.down ∧ True) (by kernel_rfl) (by (and_intros <;> try exact cl))) (endL_cons (B0 := AB.rw 36 1 r.stays.length (bysF (rflS r t))) (by kernel_rfl) (of_eqP (C := 36 = 36 ∧ Same 1 ∧ r.stays.length = (rflS r t).length ∧ (∀ (r_1 : Nat), r_1 < r.stays.length → bysF (rflS r t) r_1 = bysF (rflS r t) r_1)) (by kernel_rfl) (by (and_intros <;> try exact cl))) (endL_cons (B0 := AB.rw 36 1 r.cache.length (bysF (rfallC r t))) (by kernel_rfl) (of_eqP (C := 36 = 36 ∧ Same 1 ∧ r.cache.length = (rfallC r t).length ∧ (∀ (r_1 : Nat), r_1 < r.cache.length → bysF (rfallC r t) r_1 = bysF (rfallC r t) r_1)) (by kernel_rfl) (by (and_intros <;> try exact cl))) endL_nil)))⟩
   all_goals first | exact ⟨rfl, rfl, ⟨rfl, e3.symm⟩, ⟨rfl, e4.symm⟩, ⟨rfl, rfl⟩, ⟨rfl, rfl, fun _ _ => rfl⟩, ⟨rfl, rfl⟩, ⟨rfl, rfl⟩, ⟨rfl, rfl⟩, rfl, trivial⟩ | exact ⟨rfl, rfl, e3.symm, fun _ _ => rfl⟩ | exact ⟨rfl, rfl, e4.symm, fun _ _ => rfl⟩
set_option maxHeartbeats 4000000 in
set_option maxRecDepth 100000 in
theorem rwaits_to (hok : S16.Ok Try.prog) (r : RD) (hr : r.Ok) :
   To S16 Try.prog 52 (startOf Try.prog 52 [.ptr 0 0] (memF (rblk r) 0 .e) 3)
     (fun x H' _ => leA x (.im 1 (rwaitsD r).length (intsF (rwaitsD r))) ∧ endL (rblk r) 0 H') := by
 have hlen := hr.len
 have hle := hr.le
 refine To.R (k := 15) (h := ?_)
 refine To.L (L := [LN.new (AB.rw 3 1 0 (intsF (rwl r 0)))]) (kp := [4, 3, 0]) (C := (Same IntKind.i64 ∧ (0 : Int) = (↑(0 : Nat) : Int)) ∧ Same 0 ∧ 3 = 3 ∧ Same 1 ∧ Same 0 ∧ (∀ (r_1 : Nat), r_1 < 0 → intsF (rwl r 0) r_1 = intsF (rwl r 0) r_1)) (st := fun (a : Nat) => (⟨(⟨52, 28, (slotT 28 [(0, AV.ptr 0 0), (3, AV.ow 3 (rwl r a).length), (4, AV.sy (Value.int IntKind.i64 a))]), ARg.no, [(AItem.code (subC (bodyC Try.prog 52) [1, 1, 0, 1, 0, 0])), (AItem.inLoop (subC (bodyC Try.prog 52) [1, 1, 0, 1, 0, 0])), (AItem.inBlock 0), (AItem.code (subC (bodyC Try.prog 52) [1, 1, 1]))], [], false, none, 3⟩ : AFr), [], memF [AB.mem 58 none [AV.ow 1 r.stays.length, AV.ow 2 r.cache.length, AV.sy (Value.int IntKind.i64 r.c.w), AV.im 1 r.c.keep.length (intsF r.c.keep), AV.sy (Value.int IntKind.i64 r.c.torn), AV.sy (Value.int IntKind.i64 r.c.at_), AV.sy (Value.int IntKind.i64 r.many), AV.sy (Value.bool r.down)], AB.rw 36 1 r.stays.length (bysF r.stays), AB.rw 36 1 r.cache.length (bysF r.cache), AB.rw 3 1 (rwl r a).length (intsF (rwl r a))] 0 Tr.e, 4⟩ : ASt)) (h := ?_) (fun (a : Nat) => [(4, ivA (a : Int)), (3, .ow 3 (rwl r a).length)]) (fun a => [(3, .rw 3 1 (rwl r a).length (intsF (rwl r a)))]) (fun a => a ≤ r.cache.length) (fun a => r.cache.length - a) (0)
 intro t ha ih
 have hll := rwl_len r t
 refine To.R (h := ?_)
 refine To.Bd ((t : Int) < r.cache.length) (h := ?_) (g := ?_)
 · intro h2
   have hac : t < r.cache.length := by omega
   have hi1 : t + 1 ≤ r.cache.length := hac
   have hi2 : r.cache.length - (t + 1) < r.cache.length - t := by omega
   have hs := rwl_succ r t
   refine To.R (C := ((0 : Int) ≤ t ∧ (t : Int) < r.cache.length) ∧ t < r.cache.length ∧ True) (h := ?_)
   refine To.Bd ((0 : Int) < (r.cache.getD t default).length) (h := ?_) (g := ?_)
   · intro h3
     have hne : r.cache.getD t [] ≠ [] := fun e => by
       rw [show r.cache.getD t default = [] from e] at h3; exact absurd h3 (by decide)
     rw [if_neg hne] at hs
     have hsl : (rwl r (t + 1)).length = (rwl r t).length + 1 := by rw [hs]; simp
     refine To.R (k := 16) (C := (Same (rwl r t).length ∧ (rwl r t).length ≤ 1073741824) ∧ fits IntKind.i64 (t + 1)) (h := ?_)
     refine To.K (L := [LN.old 5]) (kp := [4, 3, 0]) (ov := [(4, AV.sy (Value.int IntKind.i64 (↑(t + 1) : Int))), (3, AV.ow 3 (rwl r (t + 1)).length)]) (ob := [(3, AB.rw 3 1 (rwl r (t + 1)).length (intsF (rwl r (t + 1))))]) (C := (Same IntKind.i64 ∧ (↑t : Int) + 1 = (↑(t + 1) : Int)) ∧ (Same 3 ∧ (rwl r t).length + 1 = (rwl r (t + 1)).length) ∧ 3 = 3 ∧ Same 1 ∧ (rwl r t).length + 1 = (rwl r (t + 1)).length ∧ (∀ (r_1 : Nat), r_1 < (rwl r t).length + 1 → rwPush (intsF (rwl r t)) (rwl r t).length [AV.sy (Value.int IntKind.i64 t)] r_1 = intsF (rwl r (t + 1)) r_1)) (hc := ?_) (ih (t + 1) hi1 hi2)
     refine ⟨⟨rfl, Int.natCast_succ _⟩, ⟨rfl, hsl.symm⟩, rfl, rfl, hsl.symm, fun q hq => ?_⟩
     rw [hs]
     exact intsF_push _ _ q hq
   · intro h3
     have he : r.cache.getD t [] = [] := List.eq_nil_of_length_eq_zero (by have : ¬ (0 : Int) < ((r.cache.getD t []).length : Int) := h3; omega)
     rw [if_pos he] at hs
     refine To.R (k := 10) (C := fits IntKind.i64 (t + 1)) (h := ?_)
     refine To.K (L := [LN.old 3]) (kp := [4, 3, 0]) (ov := [(4, AV.sy (Value.int IntKind.i64 (↑(t + 1) : Int))), (3, AV.ow 3 (rwl r (t + 1)).length)]) (ob := [(3, AB.rw 3 1 (rwl r (t + 1)).length (intsF (rwl r (t + 1))))]) (C := (Same IntKind.i64 ∧ (↑t : Int) + 1 = (↑(t + 1) : Int)) ∧ (Same 3 ∧ (rwl r t).length = (rwl r (t + 1)).length) ∧ 3 = 3 ∧ Same 1 ∧ (rwl r t).length = (rwl r (t + 1)).length ∧ (∀ (r_1 : Nat), r_1 < (rwl r t).length → intsF (rwl r t) r_1 = intsF (rwl r (t + 1)) r_1)) (hc := ?_) (ih (t + 1) hi1 hi2)
     rw [hs]
     exact ⟨⟨rfl, Int.natCast_succ _⟩, ⟨rfl, rfl⟩, rfl, rfl, rfl, fun _ _ => rfl⟩
 · intro h2
   have hw : rwaitsD r = rwl r t := by
     unfold rwaitsD rwl
     rw [show r.cache.length = t by omega]
   refine To.R (k := 1) (h := ?_)
   refine To.frz 3 false [11, 4, 3, 0] (by kernel_rfl) (C := (rwl r t).length ≤ (rwl r t).length) (by kernel_rfl) (by and_intros <;> exact cl) ?_
   refine To.R (h := ?_)
   refine To.E (AV.im 1 (rwl r t).length (intsF (rwl r t))) (hq := ?_)
   rw [hw]
   refine ⟨(of_eqP (C := Same 1 ∧ Same (rwl r t).length ∧ (∀ (r_1 : Nat), r_1 < (rwl r t).length → intsF (rwl r t) r_1 = intsF (rwl r t) r_1)) (by kernel_rfl) (by (and_intros <;> try exact cl))), (endL_cons (B0 := AB.mem 58 none [AV.ow 1 r.stays.length, AV.ow 2 r.cache.length, AV.sy (Value.int IntKind.i64 r.c.w), AV.im 1 r.c.keep.length (intsF r.c.keep), AV.sy (Value.int IntKind.i64 r.c.torn), AV.sy (Value.int IntKind.i64 r.c.at_), AV.sy (Value.int IntKind.i64 r.many), AV.sy (Value.bool r.down)]) (by kernel_rfl) (of_eqP (C := 58 = 58 ∧ (none : Option Nat) = none ∧ (Same 1 ∧ Same r.stays.length) ∧ (Same 2 ∧ Same r.cache.length) ∧ (Same IntKind.i64 ∧ Same r.c.w) ∧ (Same 1 ∧ Same r.c.keep.length ∧ (∀ (r_1 : Nat), r_1 < r.c.keep.length → intsF r.c.keep r_1 = intsF r.c.keep r_1)) ∧ (Same IntKind.i64 ∧ Same r.c.torn) ∧ (Same IntKind.i64 ∧ Same r.c.at_) ∧ (Same IntKind.i64 ∧ Same r.many) ∧ Same r.down ∧ True) (by kernel_rfl) (by (and_intros <;> try exact cl))) (endL_cons (B0 := AB.rw 36 1 r.stays.length (bysF r.stays)) (by kernel_rfl) (of_eqP (C := 36 = 36 ∧ Same 1 ∧ Same r.stays.length ∧ (∀ (r_1 : Nat), r_1 < r.stays.length → bysF r.stays r_1 = bysF r.stays r_1)) (by kernel_rfl) (by (and_intros <;> try exact cl))) (endL_cons (B0 := AB.rw 36 1 r.cache.length (bysF r.cache)) (by kernel_rfl) (of_eqP (C := 36 = 36 ∧ Same 1 ∧ Same r.cache.length ∧ (∀ (r_1 : Nat), r_1 < r.cache.length → bysF r.cache r_1 = bysF r.cache r_1)) (by kernel_rfl) (by (and_intros <;> try exact cl))) endL_nil)))⟩
set_option maxHeartbeats 4000000 in
set_option maxRecDepth 100000 in
theorem rarm_to (hok : S16.Ok Try.prog) (r : RD) (c : CrashD) (hr : r.Ok) (hk : c.keep.length ≤ 1000000) :
   To S16 Try.prog 45 (startOf Try.prog 45 [.ptr 0 0, .agg (crashF c)] (memF (rblk r) 0 .e) 3)
     (fun x H' _ => leA x (ivA (rarmD r c).2) ∧ endL (rblk (rarmD r c).1) 0 H') := by
 have hone : ∀ r, r < c.keep.length → (intsF c.keep r).all oneA = true := fun _ _ => rfl
 refine To.R (h := ?_)
 refine To.Bd (c.w < 1) (h := ?_) (g := ?_)
 · intro h1
   have hw : rarmD r c = (r, 2) := by unfold rarmD; rw [if_pos h1]
   refine To.R (h := ?_)
   refine To.E (AV.v (Value.int IntKind.i64 2)) (hq := ?_)
   rw [hw]
   refine ⟨(of_eqP (C := Same IntKind.i64 ∧ Same (2 : Int)) (by kernel_rfl) (by (and_intros <;> try exact cl))), (endL_cons (B0 := AB.mem 58 none [AV.ow 1 r.stays.length, AV.ow 2 r.cache.length, AV.sy (Value.int IntKind.i64 r.c.w), AV.im 1 r.c.keep.length (intsF r.c.keep), AV.sy (Value.int IntKind.i64 r.c.torn), AV.sy (Value.int IntKind.i64 r.c.at_), AV.sy (Value.int IntKind.i64 r.many), AV.sy (Value.bool r.down)]) (by kernel_rfl) (of_eqP (C := 58 = 58 ∧ (none : Option Nat) = none ∧ (Same 1 ∧ Same r.stays.length) ∧ (Same 2 ∧ Same r.cache.length) ∧ (Same IntKind.i64 ∧ Same r.c.w) ∧ (Same 1 ∧ Same r.c.keep.length ∧ (∀ (r_1 : Nat), r_1 < r.c.keep.length → intsF r.c.keep r_1 = intsF r.c.keep r_1)) ∧ (Same IntKind.i64 ∧ Same r.c.torn) ∧ (Same IntKind.i64 ∧ Same r.c.at_) ∧ (Same IntKind.i64 ∧ Same r.many) ∧ Same r.down ∧ True) (by kernel_rfl) (by (and_intros <;> try exact cl))) (endL_cons (B0 := AB.rw 36 1 r.stays.length (bysF r.stays)) (by kernel_rfl) (of_eqP (C := 36 = 36 ∧ Same 1 ∧ Same r.stays.length ∧ (∀ (r_1 : Nat), r_1 < r.stays.length → bysF r.stays r_1 = bysF r.stays r_1)) (by kernel_rfl) (by (and_intros <;> try exact cl))) (endL_cons (B0 := AB.rw 36 1 r.cache.length (bysF r.cache)) (by kernel_rfl) (of_eqP (C := 36 = 36 ∧ Same 1 ∧ Same r.cache.length ∧ (∀ (r_1 : Nat), r_1 < r.cache.length → bysF r.cache r_1 = bysF r.cache r_1)) (by kernel_rfl) (by (and_intros <;> try exact cl))) endL_nil)))⟩
 · intro h1
   have hw : rarmD r c = ({ r with c := c }, 0) := by unfold rarmD; rw [if_neg h1]
   refine To.R (C := True ∧ c.keep.length ≤ 1073741824 ∧ (∀ (r : Nat), r < c.keep.length → (intsF c.keep r).all oneA = true)) (h := ?_)
   refine To.frz 4 false [4] (by kernel_rfl) (C := c.keep.length ≤ c.keep.length) (by kernel_rfl) (by and_intros <;> exact cl) ?_
   refine To.E (AV.v (Value.int IntKind.i64 0)) (hq := ?_)
   rw [hw]
   refine ⟨(of_eqP (C := Same IntKind.i64 ∧ Same (0 : Int)) (by kernel_rfl) (by (and_intros <;> try exact cl))), (endL_cons (B0 := AB.mem 58 none [AV.ow 1 r.stays.length, AV.ow 2 r.cache.length, AV.sy (Value.int IntKind.i64 c.w), AV.im 1 c.keep.length (intsF c.keep), AV.sy (Value.int IntKind.i64 c.torn), AV.sy (Value.int IntKind.i64 c.at_), AV.sy (Value.int IntKind.i64 r.many), AV.sy (Value.bool r.down)]) (by kernel_rfl) (of_eqP (C := 58 = 58 ∧ (none : Option Nat) = none ∧ (Same 1 ∧ Same r.stays.length) ∧ (Same 2 ∧ Same r.cache.length) ∧ (Same IntKind.i64 ∧ Same c.w) ∧ (Same 1 ∧ Same c.keep.length ∧ (∀ (r : Nat), r < c.keep.length → intsF c.keep r = intsF c.keep r)) ∧ (Same IntKind.i64 ∧ Same c.torn) ∧ (Same IntKind.i64 ∧ Same c.at_) ∧ (Same IntKind.i64 ∧ Same r.many) ∧ Same r.down ∧ True) (by kernel_rfl) (by (and_intros <;> try exact cl))) (endL_cons (B0 := AB.rw 36 1 r.stays.length (bysF r.stays)) (by kernel_rfl) (of_eqP (C := 36 = 36 ∧ Same 1 ∧ Same r.stays.length ∧ (∀ (r_1 : Nat), r_1 < r.stays.length → bysF r.stays r_1 = bysF r.stays r_1)) (by kernel_rfl) (by (and_intros <;> try exact cl))) (endL_cons (B0 := AB.rw 36 1 r.cache.length (bysF r.cache)) (by kernel_rfl) (of_eqP (C := 36 = 36 ∧ Same 1 ∧ Same r.cache.length ∧ (∀ (r_1 : Nat), r_1 < r.cache.length → bysF r.cache r_1 = bysF r.cache r_1)) (by kernel_rfl) (by (and_intros <;> try exact cl))) endL_nil)))⟩
set_option maxHeartbeats 4000000 in
set_option maxRecDepth 100000 in
theorem rdown_to (hok : S16.Ok Try.prog) (r : RD) (c : CrashD) (hr : r.Ok) (hk : c.keep.length ≤ 1000000) :
   To S16 Try.prog 43 (startOf Try.prog 43 [.ptr 0 0, .agg (crashF c)] (memF (rblk r) 0 .e) 3)
     (fun x H' _ => leA x (ivA (rdownD r c).2) ∧ endL (rblk (rdownD r c).1) 0 H') := by
 have e1 := recs_bys r.stays
 have e2 := recs_bys r.cache
 have e3 := numsF_ints r.c.keep
 have e4 := numsF_ints c.keep
 refine To.R (h := ?_)
 refine To.bool2 8 (r.down) (by kernel_rfl) (by kernel_rfl) ?_ ?_
 · intro h1
   have hw : rdownD r c = (r, 31) := by unfold rdownD; rw [if_pos h1]
   refine To.R (h := ?_)
   refine To.E (AV.v (Value.int IntKind.i64 31)) (hq := ?_)
   rw [hw]
   refine ⟨(of_eqP (C := Same IntKind.i64 ∧ Same (31 : Int)) (by kernel_rfl) (by (and_intros <;> try exact cl))), (endL_cons (B0 := AB.mem 58 none [AV.ow 1 r.stays.length, AV.ow 2 r.cache.length, AV.sy (Value.int IntKind.i64 r.c.w), AV.im 1 r.c.keep.length (intsF r.c.keep), AV.sy (Value.int IntKind.i64 r.c.torn), AV.sy (Value.int IntKind.i64 r.c.at_), AV.sy (Value.int IntKind.i64 r.many), AV.sy (Value.bool r.down)]) (by kernel_rfl) (of_eqP (C := 58 = 58 ∧ (none : Option Nat) = none ∧ (Same 1 ∧ Same r.stays.length) ∧ (Same 2 ∧ Same r.cache.length) ∧ (Same IntKind.i64 ∧ Same r.c.w) ∧ (Same 1 ∧ Same r.c.keep.length ∧ (∀ (r_1 : Nat), r_1 < r.c.keep.length → intsF r.c.keep r_1 = intsF r.c.keep r_1)) ∧ (Same IntKind.i64 ∧ Same r.c.torn) ∧ (Same IntKind.i64 ∧ Same r.c.at_) ∧ (Same IntKind.i64 ∧ Same r.many) ∧ Same r.down ∧ True) (by kernel_rfl) (by (and_intros <;> try exact cl))) (endL_cons (B0 := AB.rw 36 1 r.stays.length (bysF r.stays)) (by kernel_rfl) (of_eqP (C := 36 = 36 ∧ Same 1 ∧ Same r.stays.length ∧ (∀ (r_1 : Nat), r_1 < r.stays.length → bysF r.stays r_1 = bysF r.stays r_1)) (by kernel_rfl) (by (and_intros <;> try exact cl))) (endL_cons (B0 := AB.rw 36 1 r.cache.length (bysF r.cache)) (by kernel_rfl) (of_eqP (C := 36 = 36 ∧ Same 1 ∧ Same r.cache.length ∧ (∀ (r_1 : Nat), r_1 < r.cache.length → bysF r.cache r_1 = bysF r.cache r_1)) (by kernel_rfl) (by (and_intros <;> try exact cl))) endL_nil)))⟩
 · intro h1
   have hX : (⟨recsF r.stays.length (bysF r.stays), recsF r.cache.length (bysF r.cache), ⟨r.c.w, numsF r.c.keep.length (intsF r.c.keep), r.c.torn, r.c.at_⟩, r.many, r.down⟩ : RD) = r := by
     rw [e1, e2, e3]
   have hY : (⟨c.w, numsF c.keep.length (intsF c.keep), c.torn, c.at_⟩ : CrashD) = c := by
     rw [e4]
   have hw : rdownD r c = (rfallD ⟨recsF r.stays.length (bysF r.stays), recsF r.cache.length (bysF r.cache), ⟨r.c.w, numsF r.c.keep.length (intsF r.c.keep), r.c.torn, r.c.at_⟩, r.many, r.down⟩ ⟨c.w, numsF c.keep.length (intsF c.keep), c.torn, c.at_⟩, 0) := by
     rw [hX, hY]
     unfold rdownD; rw [if_neg (by simp [h1])]
   refine To.R (C := (Same r.stays.length ∧ Same r.cache.length ∧ (∀ (r_1 : Nat), r_1 < r.stays.length → bysF r.stays r_1 = bysF (recsF r.stays.length (bysF r.stays)) r_1) ∧ (∀ (r_1 : Nat), r_1 < r.cache.length → bysF r.cache r_1 = bysF (recsF r.cache.length (bysF r.cache)) r_1) ∧ (∀ (r_1 : Nat), r_1 < r.c.keep.length → intsF r.c.keep r_1 = intsF (numsF r.c.keep.length (intsF r.c.keep)) r_1)) ∧ (RD.mk (recsF r.stays.length (bysF r.stays)) (recsF r.cache.length (bysF r.cache)) (CrashD.mk r.c.w (numsF r.c.keep.length (intsF r.c.keep)) r.c.torn r.c.at_) r.many r.down).Ok ∧ (∀ (r : Nat), r < c.keep.length → intsF c.keep r = intsF (numsF c.keep.length (intsF c.keep)) r) ∧ (numsF c.keep.length (intsF c.keep)).length ≤ 1000000) (hc := ?_) (h := ?_); (and_intros <;> try exact cl)
   · rw [e1]; exact fun _ _ => rfl
   · rw [e2]; exact fun _ _ => rfl
   · rw [e3]; exact fun _ _ => rfl
   · rw [hX]; exact hr
   · rw [e4]; exact fun _ _ => rfl
   · rw [e4]; exact hk
   refine To.R (h := ?_)
   refine To.E (AV.v (Value.int IntKind.i64 0)) (hq := ?_)
   rw [hw]
   refine ⟨(of_eqP (C := Same IntKind.i64 ∧ Same (0 : Int)) (by kernel_rfl) (by (and_intros <;> try exact cl))), (endL_cons (B0 := AB.mem 58 none [AV.ow 1 (rfallD (RD.mk (recsF r.stays.length (bysF r.stays)) (recsF r.cache.length (bysF r.cache)) (CrashD.mk r.c.w (numsF r.c.keep.length (intsF r.c.keep)) r.c.torn r.c.at_) r.many r.down) (CrashD.mk c.w (numsF c.keep.length (intsF c.keep)) c.torn c.at_)).stays.length, AV.ow 2 (rfallD (RD.mk (recsF r.stays.length (bysF r.stays)) (recsF r.cache.length (bysF r.cache)) (CrashD.mk r.c.w (numsF r.c.keep.length (intsF r.c.keep)) r.c.torn r.c.at_) r.many r.down) (CrashD.mk c.w (numsF c.keep.length (intsF c.keep)) c.torn c.at_)).cache.length, AV.sy (Value.int IntKind.i64 (rfallD (RD.mk (recsF r.stays.length (bysF r.stays)) (recsF r.cache.length (bysF r.cache)) (CrashD.mk r.c.w (numsF r.c.keep.length (intsF r.c.keep)) r.c.torn r.c.at_) r.many r.down) (CrashD.mk c.w (numsF c.keep.length (intsF c.keep)) c.torn c.at_)).c.w), AV.im 1 0 (intsF (rfallD (RD.mk (recsF r.stays.length (bysF r.stays)) (recsF r.cache.length (bysF r.cache)) (CrashD.mk r.c.w (numsF r.c.keep.length (intsF r.c.keep)) r.c.torn r.c.at_) r.many r.down) (CrashD.mk c.w (numsF c.keep.length (intsF c.keep)) c.torn c.at_)).c.keep), AV.sy (Value.int IntKind.i64 (rfallD (RD.mk (recsF r.stays.length (bysF r.stays)) (recsF r.cache.length (bysF r.cache)) (CrashD.mk r.c.w (numsF r.c.keep.length (intsF r.c.keep)) r.c.torn r.c.at_) r.many r.down) (CrashD.mk c.w (numsF c.keep.length (intsF c.keep)) c.torn c.at_)).c.torn), AV.sy (Value.int IntKind.i64 (rfallD (RD.mk (recsF r.stays.length (bysF r.stays)) (recsF r.cache.length (bysF r.cache)) (CrashD.mk r.c.w (numsF r.c.keep.length (intsF r.c.keep)) r.c.torn r.c.at_) r.many r.down) (CrashD.mk c.w (numsF c.keep.length (intsF c.keep)) c.torn c.at_)).c.at_), AV.sy (Value.int IntKind.i64 (rfallD (RD.mk (recsF r.stays.length (bysF r.stays)) (recsF r.cache.length (bysF r.cache)) (CrashD.mk r.c.w (numsF r.c.keep.length (intsF r.c.keep)) r.c.torn r.c.at_) r.many r.down) (CrashD.mk c.w (numsF c.keep.length (intsF c.keep)) c.torn c.at_)).many), AV.sy (Value.bool (rfallD (RD.mk (recsF r.stays.length (bysF r.stays)) (recsF r.cache.length (bysF r.cache)) (CrashD.mk r.c.w (numsF r.c.keep.length (intsF r.c.keep)) r.c.torn r.c.at_) r.many r.down) (CrashD.mk c.w (numsF c.keep.length (intsF c.keep)) c.torn c.at_)).down)]) (by kernel_rfl) (of_eqP (C := 58 = 58 ∧ (none : Option Nat) = none ∧ (Same 1 ∧ Same (rfallD (RD.mk (recsF r.stays.length (bysF r.stays)) (recsF r.cache.length (bysF r.cache)) (CrashD.mk r.c.w (numsF r.c.keep.length (intsF r.c.keep)) r.c.torn r.c.at_) r.many r.down) (CrashD.mk c.w (numsF c.keep.length (intsF c.keep)) c.torn c.at_)).stays.length) ∧ (Same 2 ∧ Same (rfallD (RD.mk (recsF r.stays.length (bysF r.stays)) (recsF r.cache.length (bysF r.cache)) (CrashD.mk r.c.w (numsF r.c.keep.length (intsF r.c.keep)) r.c.torn r.c.at_) r.many r.down) (CrashD.mk c.w (numsF c.keep.length (intsF c.keep)) c.torn c.at_)).cache.length) ∧ (Same IntKind.i64 ∧ Same (rfallD (RD.mk (recsF r.stays.length (bysF r.stays)) (recsF r.cache.length (bysF r.cache)) (CrashD.mk r.c.w (numsF r.c.keep.length (intsF r.c.keep)) r.c.torn r.c.at_) r.many r.down) (CrashD.mk c.w (numsF c.keep.length (intsF c.keep)) c.torn c.at_)).c.w) ∧ (Same 1 ∧ Same 0 ∧ (∀ (r_1 : Nat), r_1 < 0 → intsF (rfallD (RD.mk (recsF r.stays.length (bysF r.stays)) (recsF r.cache.length (bysF r.cache)) (CrashD.mk r.c.w (numsF r.c.keep.length (intsF r.c.keep)) r.c.torn r.c.at_) r.many r.down) (CrashD.mk c.w (numsF c.keep.length (intsF c.keep)) c.torn c.at_)).c.keep r_1 = intsF (rfallD (RD.mk (recsF r.stays.length (bysF r.stays)) (recsF r.cache.length (bysF r.cache)) (CrashD.mk r.c.w (numsF r.c.keep.length (intsF r.c.keep)) r.c.torn r.c.at_) r.many r.down) (CrashD.mk c.w (numsF c.keep.length (intsF c.keep)) c.torn c.at_)).c.keep r_1)) ∧ (Same IntKind.i64 ∧ Same (rfallD (RD.mk (recsF r.stays.length (bysF r.stays)) (recsF r.cache.length (bysF r.cache)) (CrashD.mk r.c.w (numsF r.c.keep.length (intsF r.c.keep)) r.c.torn r.c.at_) r.many r.down) (CrashD.mk c.w (numsF c.keep.length (intsF c.keep)) c.torn c.at_)).c.torn) ∧ (Same IntKind.i64 ∧ Same (rfallD (RD.mk (recsF r.stays.length (bysF r.stays)) (recsF r.cache.length (bysF r.cache)) (CrashD.mk r.c.w (numsF r.c.keep.length (intsF r.c.keep)) r.c.torn r.c.at_) r.many r.down) (CrashD.mk c.w (numsF c.keep.length (intsF c.keep)) c.torn c.at_)).c.at_) ∧ (Same IntKind.i64 ∧ Same (rfallD (RD.mk (recsF r.stays.length (bysF r.stays)) (recsF r.cache.length (bysF r.cache)) (CrashD.mk r.c.w (numsF r.c.keep.length (intsF r.c.keep)) r.c.torn r.c.at_) r.many r.down) (CrashD.mk c.w (numsF c.keep.length (intsF c.keep)) c.torn c.at_)).many) ∧ Same (rfallD (RD.mk (recsF r.stays.length (bysF r.stays)) (recsF r.cache.length (bysF r.cache)) (CrashD.mk r.c.w (numsF r.c.keep.length (intsF r.c.keep)) r.c.torn r.c.at_) r.many r.down) (CrashD.mk c.w (numsF c.keep.length (intsF c.keep)) c.torn c.at_)).down ∧ True) (by kernel_rfl) (by (and_intros <;> try exact cl))) (endL_cons (B0 := AB.rw 36 1 (rfallD (RD.mk (recsF r.stays.length (bysF r.stays)) (recsF r.cache.length (bysF r.cache)) (CrashD.mk r.c.w (numsF r.c.keep.length (intsF r.c.keep)) r.c.torn r.c.at_) r.many r.down) (CrashD.mk c.w (numsF c.keep.length (intsF c.keep)) c.torn c.at_)).stays.length (bysF (rfallD (RD.mk (recsF r.stays.length (bysF r.stays)) (recsF r.cache.length (bysF r.cache)) (CrashD.mk r.c.w (numsF r.c.keep.length (intsF r.c.keep)) r.c.torn r.c.at_) r.many r.down) (CrashD.mk c.w (numsF c.keep.length (intsF c.keep)) c.torn c.at_)).stays)) (by kernel_rfl) (of_eqP (C := 36 = 36 ∧ Same 1 ∧ Same (rfallD (RD.mk (recsF r.stays.length (bysF r.stays)) (recsF r.cache.length (bysF r.cache)) (CrashD.mk r.c.w (numsF r.c.keep.length (intsF r.c.keep)) r.c.torn r.c.at_) r.many r.down) (CrashD.mk c.w (numsF c.keep.length (intsF c.keep)) c.torn c.at_)).stays.length ∧ (∀ (r_1 : Nat), r_1 < (rfallD (RD.mk (recsF r.stays.length (bysF r.stays)) (recsF r.cache.length (bysF r.cache)) (CrashD.mk r.c.w (numsF r.c.keep.length (intsF r.c.keep)) r.c.torn r.c.at_) r.many r.down) (CrashD.mk c.w (numsF c.keep.length (intsF c.keep)) c.torn c.at_)).stays.length → bysF (rfallD (RD.mk (recsF r.stays.length (bysF r.stays)) (recsF r.cache.length (bysF r.cache)) (CrashD.mk r.c.w (numsF r.c.keep.length (intsF r.c.keep)) r.c.torn r.c.at_) r.many r.down) (CrashD.mk c.w (numsF c.keep.length (intsF c.keep)) c.torn c.at_)).stays r_1 = bysF (rfallD (RD.mk (recsF r.stays.length (bysF r.stays)) (recsF r.cache.length (bysF r.cache)) (CrashD.mk r.c.w (numsF r.c.keep.length (intsF r.c.keep)) r.c.torn r.c.at_) r.many r.down) (CrashD.mk c.w (numsF c.keep.length (intsF c.keep)) c.torn c.at_)).stays r_1)) (by kernel_rfl) (by (and_intros <;> try exact cl))) (endL_cons (B0 := AB.rw 36 1 (rfallD (RD.mk (recsF r.stays.length (bysF r.stays)) (recsF r.cache.length (bysF r.cache)) (CrashD.mk r.c.w (numsF r.c.keep.length (intsF r.c.keep)) r.c.torn r.c.at_) r.many r.down) (CrashD.mk c.w (numsF c.keep.length (intsF c.keep)) c.torn c.at_)).cache.length (bysF (rfallD (RD.mk (recsF r.stays.length (bysF r.stays)) (recsF r.cache.length (bysF r.cache)) (CrashD.mk r.c.w (numsF r.c.keep.length (intsF r.c.keep)) r.c.torn r.c.at_) r.many r.down) (CrashD.mk c.w (numsF c.keep.length (intsF c.keep)) c.torn c.at_)).cache)) (by kernel_rfl) (of_eqP (C := 36 = 36 ∧ Same 1 ∧ Same (rfallD (RD.mk (recsF r.stays.length (bysF r.stays)) (recsF r.cache.length (bysF r.cache)) (CrashD.mk r.c.w (numsF r.c.keep.length (intsF r.c.keep)) r.c.torn r.c.at_) r.many r.down) (CrashD.mk c.w (numsF c.keep.length (intsF c.keep)) c.torn c.at_)).cache.length ∧ (∀ (r_1 : Nat), r_1 < (rfallD (RD.mk (recsF r.stays.length (bysF r.stays)) (recsF r.cache.length (bysF r.cache)) (CrashD.mk r.c.w (numsF r.c.keep.length (intsF r.c.keep)) r.c.torn r.c.at_) r.many r.down) (CrashD.mk c.w (numsF c.keep.length (intsF c.keep)) c.torn c.at_)).cache.length → bysF (rfallD (RD.mk (recsF r.stays.length (bysF r.stays)) (recsF r.cache.length (bysF r.cache)) (CrashD.mk r.c.w (numsF r.c.keep.length (intsF r.c.keep)) r.c.torn r.c.at_) r.many r.down) (CrashD.mk c.w (numsF c.keep.length (intsF c.keep)) c.torn c.at_)).cache r_1 = bysF (rfallD (RD.mk (recsF r.stays.length (bysF r.stays)) (recsF r.cache.length (bysF r.cache)) (CrashD.mk r.c.w (numsF r.c.keep.length (intsF r.c.keep)) r.c.torn r.c.at_) r.many r.down) (CrashD.mk c.w (numsF c.keep.length (intsF c.keep)) c.torn c.at_)).cache r_1)) (by kernel_rfl) (by (and_intros <;> try exact cl))) endL_nil)))⟩
set_option maxHeartbeats 4000000 in
set_option maxRecDepth 100000 in
theorem rspoil_to (hok : S16.Ok Try.prog) (r : RD) (z : Int) (b : List UInt8) (hr : r.Ok) (hb : b.length ≤ 1000000) :
   To S16 Try.prog 46 (startOf Try.prog 46 [.ptr 0 0, ivA z, .by8 b] (memF (rblk r) 0 .e) 3)
     (fun x H' _ => leA x (ivA (rspoilD r z b).2) ∧ endL (rblk (rspoilD r z b).1) 0 H') := by
 have hle := hr.le
 refine To.R (h := ?_)
 refine To.Bd (0 ≤ z) (h := ?_) (g := ?_)
 · intro h2
   refine To.R (h := ?_)
   refine To.Bd (z < r.stays.length) (h := ?_) (g := ?_)
   · intro h3
     refine To.R (h := ?_)
     refine To.Bn (b.length = (128 : Int)) (h := ?_) (g := ?_)
     · intro h4
       have hw : rspoilD r z b = (r, 30) := by unfold rspoilD; rw [if_neg (by omega), if_neg (by omega), if_pos (by omega)]
       refine To.R (h := ?_)
       refine To.E (AV.v (Value.int IntKind.i64 30)) (hq := ?_)
       rw [hw]
       refine ⟨(of_eqP (C := Same IntKind.i64 ∧ Same (30 : Int)) (by kernel_rfl) (by (and_intros <;> try exact cl))), (endL_cons (B0 := AB.mem 58 none [AV.ow 1 r.stays.length, AV.ow 2 r.cache.length, AV.sy (Value.int IntKind.i64 r.c.w), AV.im 1 r.c.keep.length (intsF r.c.keep), AV.sy (Value.int IntKind.i64 r.c.torn), AV.sy (Value.int IntKind.i64 r.c.at_), AV.sy (Value.int IntKind.i64 r.many), AV.sy (Value.bool r.down)]) (by kernel_rfl) (of_eqP (C := 58 = 58 ∧ (none : Option Nat) = none ∧ (Same 1 ∧ Same r.stays.length) ∧ (Same 2 ∧ Same r.cache.length) ∧ (Same IntKind.i64 ∧ Same r.c.w) ∧ (Same 1 ∧ Same r.c.keep.length ∧ (∀ (r_1 : Nat), r_1 < r.c.keep.length → intsF r.c.keep r_1 = intsF r.c.keep r_1)) ∧ (Same IntKind.i64 ∧ Same r.c.torn) ∧ (Same IntKind.i64 ∧ Same r.c.at_) ∧ (Same IntKind.i64 ∧ Same r.many) ∧ Same r.down ∧ True) (by kernel_rfl) (by (and_intros <;> try exact cl))) (endL_cons (B0 := AB.rw 36 1 r.stays.length (bysF r.stays)) (by kernel_rfl) (of_eqP (C := 36 = 36 ∧ Same 1 ∧ Same r.stays.length ∧ (∀ (r_1 : Nat), r_1 < r.stays.length → bysF r.stays r_1 = bysF r.stays r_1)) (by kernel_rfl) (by (and_intros <;> try exact cl))) (endL_cons (B0 := AB.rw 36 1 r.cache.length (bysF r.cache)) (by kernel_rfl) (of_eqP (C := 36 = 36 ∧ Same 1 ∧ Same r.cache.length ∧ (∀ (r_1 : Nat), r_1 < r.cache.length → bysF r.cache r_1 = bysF r.cache r_1)) (by kernel_rfl) (by (and_intros <;> try exact cl))) endL_nil)))⟩
     · intro h4
       have hw : rspoilD r z b = ({ r with stays := r.stays.set z.toNat b }, 0) := by unfold rspoilD; rw [if_neg (by omega), if_neg (by omega), if_neg (by omega)]
       have hsl : (r.stays.set z.toNat b).length = r.stays.length := List.length_set ..
       refine To.R (C := (True ∧ b.length ≤ 1000000) ∧ Same (AV.ow 1 r.stays.length) ∧ (0 ≤ z ∧ z < r.stays.length) ∧ z.toNat < r.stays.length) (h := ?_)
       refine To.E (AV.v (Value.int IntKind.i64 0)) (hq := ?_)
       rw [hw]
       refine ⟨(of_eqP (C := Same IntKind.i64 ∧ Same (0 : Int)) (by kernel_rfl) (by (and_intros <;> try exact cl))), (endL_cons (B0 := AB.mem 58 none [AV.ow 1 r.stays.length, AV.ow 2 r.cache.length, AV.sy (Value.int IntKind.i64 r.c.w), AV.im 1 r.c.keep.length (intsF r.c.keep), AV.sy (Value.int IntKind.i64 r.c.torn), AV.sy (Value.int IntKind.i64 r.c.at_), AV.sy (Value.int IntKind.i64 r.many), AV.sy (Value.bool r.down)]) (by kernel_rfl) (of_eqP (C := 58 = 58 ∧ (none : Option Nat) = none ∧ (Same 1 ∧ r.stays.length = (r.stays.set z.toNat b).length) ∧ (Same 2 ∧ Same r.cache.length) ∧ (Same IntKind.i64 ∧ Same r.c.w) ∧ (Same 1 ∧ Same r.c.keep.length ∧ (∀ (r_1 : Nat), r_1 < r.c.keep.length → intsF r.c.keep r_1 = intsF r.c.keep r_1)) ∧ (Same IntKind.i64 ∧ Same r.c.torn) ∧ (Same IntKind.i64 ∧ Same r.c.at_) ∧ (Same IntKind.i64 ∧ Same r.many) ∧ Same r.down ∧ True) (by kernel_rfl) (by (and_intros <;> try exact cl))) (endL_cons (B0 := AB.rw 36 1 r.stays.length (rwSet (bysF r.stays) z.toNat 0 [AV.by8 b])) (by kernel_rfl) (of_eqP (C := 36 = 36 ∧ Same 1 ∧ r.stays.length = (r.stays.set z.toNat b).length ∧ (∀ (r_1 : Nat), r_1 < r.stays.length → rwSet (bysF r.stays) z.toNat 0 [AV.by8 b] r_1 = bysF (r.stays.set z.toNat b) r_1)) (by kernel_rfl) ?_) (endL_cons (B0 := AB.rw 36 1 r.cache.length (bysF r.cache)) (by kernel_rfl) (of_eqP (C := 36 = 36 ∧ Same 1 ∧ Same r.cache.length ∧ (∀ (r_1 : Nat), r_1 < r.cache.length → bysF r.cache r_1 = bysF r.cache r_1)) (by kernel_rfl) (by (and_intros <;> try exact cl))) endL_nil)))⟩
       all_goals first | exact ⟨rfl, rfl, ⟨rfl, hsl.symm⟩, ⟨rfl, rfl⟩, ⟨rfl, rfl⟩, ⟨rfl, rfl, fun _ _ => rfl⟩, ⟨rfl, rfl⟩, ⟨rfl, rfl⟩, ⟨rfl, rfl⟩, rfl, trivial⟩ | exact ⟨rfl, rfl, hsl.symm, fun q hq => bysF_set r.stays z.toNat b q hq⟩ | exact fun q hq => bysF_set r.stays z.toNat b q hq
   · intro h3
     have hw : rspoilD r z b = (r, 30) := by unfold rspoilD; rw [if_neg (by omega), if_pos (by omega)]
     refine To.R (h := ?_)
     refine To.E (AV.v (Value.int IntKind.i64 30)) (hq := ?_)
     rw [hw]
     refine ⟨(of_eqP (C := Same IntKind.i64 ∧ Same (30 : Int)) (by kernel_rfl) (by (and_intros <;> try exact cl))), (endL_cons (B0 := AB.mem 58 none [AV.ow 1 r.stays.length, AV.ow 2 r.cache.length, AV.sy (Value.int IntKind.i64 r.c.w), AV.im 1 r.c.keep.length (intsF r.c.keep), AV.sy (Value.int IntKind.i64 r.c.torn), AV.sy (Value.int IntKind.i64 r.c.at_), AV.sy (Value.int IntKind.i64 r.many), AV.sy (Value.bool r.down)]) (by kernel_rfl) (of_eqP (C := 58 = 58 ∧ (none : Option Nat) = none ∧ (Same 1 ∧ Same r.stays.length) ∧ (Same 2 ∧ Same r.cache.length) ∧ (Same IntKind.i64 ∧ Same r.c.w) ∧ (Same 1 ∧ Same r.c.keep.length ∧ (∀ (r_1 : Nat), r_1 < r.c.keep.length → intsF r.c.keep r_1 = intsF r.c.keep r_1)) ∧ (Same IntKind.i64 ∧ Same r.c.torn) ∧ (Same IntKind.i64 ∧ Same r.c.at_) ∧ (Same IntKind.i64 ∧ Same r.many) ∧ Same r.down ∧ True) (by kernel_rfl) (by (and_intros <;> try exact cl))) (endL_cons (B0 := AB.rw 36 1 r.stays.length (bysF r.stays)) (by kernel_rfl) (of_eqP (C := 36 = 36 ∧ Same 1 ∧ Same r.stays.length ∧ (∀ (r_1 : Nat), r_1 < r.stays.length → bysF r.stays r_1 = bysF r.stays r_1)) (by kernel_rfl) (by (and_intros <;> try exact cl))) (endL_cons (B0 := AB.rw 36 1 r.cache.length (bysF r.cache)) (by kernel_rfl) (of_eqP (C := 36 = 36 ∧ Same 1 ∧ Same r.cache.length ∧ (∀ (r_1 : Nat), r_1 < r.cache.length → bysF r.cache r_1 = bysF r.cache r_1)) (by kernel_rfl) (by (and_intros <;> try exact cl))) endL_nil)))⟩
 · intro h2
   have hw : rspoilD r z b = (r, 30) := by unfold rspoilD; rw [if_pos (by omega)]
   refine To.R (h := ?_)
   refine To.E (AV.v (Value.int IntKind.i64 30)) (hq := ?_)
   rw [hw]
   refine ⟨(of_eqP (C := Same IntKind.i64 ∧ Same (30 : Int)) (by kernel_rfl) (by (and_intros <;> try exact cl))), (endL_cons (B0 := AB.mem 58 none [AV.ow 1 r.stays.length, AV.ow 2 r.cache.length, AV.sy (Value.int IntKind.i64 r.c.w), AV.im 1 r.c.keep.length (intsF r.c.keep), AV.sy (Value.int IntKind.i64 r.c.torn), AV.sy (Value.int IntKind.i64 r.c.at_), AV.sy (Value.int IntKind.i64 r.many), AV.sy (Value.bool r.down)]) (by kernel_rfl) (of_eqP (C := 58 = 58 ∧ (none : Option Nat) = none ∧ (Same 1 ∧ Same r.stays.length) ∧ (Same 2 ∧ Same r.cache.length) ∧ (Same IntKind.i64 ∧ Same r.c.w) ∧ (Same 1 ∧ Same r.c.keep.length ∧ (∀ (r_1 : Nat), r_1 < r.c.keep.length → intsF r.c.keep r_1 = intsF r.c.keep r_1)) ∧ (Same IntKind.i64 ∧ Same r.c.torn) ∧ (Same IntKind.i64 ∧ Same r.c.at_) ∧ (Same IntKind.i64 ∧ Same r.many) ∧ Same r.down ∧ True) (by kernel_rfl) (by (and_intros <;> try exact cl))) (endL_cons (B0 := AB.rw 36 1 r.stays.length (bysF r.stays)) (by kernel_rfl) (of_eqP (C := 36 = 36 ∧ Same 1 ∧ Same r.stays.length ∧ (∀ (r_1 : Nat), r_1 < r.stays.length → bysF r.stays r_1 = bysF r.stays r_1)) (by kernel_rfl) (by (and_intros <;> try exact cl))) (endL_cons (B0 := AB.rw 36 1 r.cache.length (bysF r.cache)) (by kernel_rfl) (of_eqP (C := 36 = 36 ∧ Same 1 ∧ Same r.cache.length ∧ (∀ (r_1 : Nat), r_1 < r.cache.length → bysF r.cache r_1 = bysF r.cache r_1)) (by kernel_rfl) (by (and_intros <;> try exact cl))) endL_nil)))⟩
theorem push_rep {x : AV} {b : List UInt8} (h : leA x (.by8 b)) (t : Nat) : ∀ r, r < t + 1 → leL (rwPush (bysF (List.replicate t b)) t [x] r) (bysF (List.replicate (t + 1) b) r) ∧ bareL (bysF (List.replicate (t + 1) b) r) = true := fun r hr => by
 have e : bysF (List.replicate (t + 1) b) r = [.by8 b] := by
   rw [bysF_get, List.getD_eq_getElem?_getD, List.getElem?_replicate, if_pos hr]; rfl
 rw [e]
 refine ⟨?_, rfl⟩
 unfold rwPush
 by_cases q : r < t
 · have e : Nat.blt r t = true := by rw [Nat.blt_eq]; exact q
   rw [e, cond_true, bysF_get, List.getD_eq_getElem?_getD, List.getElem?_replicate, if_pos q]
   exact leL_refl _
 · have e : Nat.blt r t = false := by
     cases h : Nat.blt r t with
     | false => rfl
     | true => rw [Nat.blt_eq] at h; omega
   rw [e, cond_false]
   exact ⟨h, trivial⟩
set_option maxHeartbeats 4000000 in
set_option maxRecDepth 100000 in
theorem rnew_to (hok : S16.Ok Try.prog) (n : Int) (h1 : 1 ≤ n) (h2 : n ≤ 4096) :
   To S16 Try.prog 15 (startOf Try.prog 15 [ivA n] .e 0) (fun x H' _ => leA x (.tup [.ptr 0 0, ivA 0]) ∧ endL (rblk (rnewD n.toNat)) 0 H') := by
 refine To.R (h := ?_)
 refine To.Nd (n < 1) (h := ?_)
 refine To.R (h := ?_)
 refine To.Nd (4096 < n) (h := ?_)
 refine To.R (k := 17) (h := ?_)
 refine To.L (L := [LN.old 0, LN.new (AB.rw 36 1 0 (bysF (List.replicate 0 (List.replicate 128 0)))), LN.new (AB.rw 36 1 0 (bysF (List.replicate 0 [])))]) (kp := [5, 4, 0]) (C := (Same IntKind.i64 ∧ (0 : Int) = (↑(0 : Nat) : Int)) ∧ (58 = 58 ∧ (none : Option Nat) = none ∧ Same 0 ∧ Same 0 ∧ (Same IntKind.i64 ∧ Same (0 : Int)) ∧ Same 0 ∧ (Same IntKind.i64 ∧ Same (0 : Int)) ∧ (Same IntKind.i64 ∧ Same (0 : Int)) ∧ (Same IntKind.i64 ∧ Same (0 : Int)) ∧ Same false ∧ True) ∧ (36 = 36 ∧ Same 1 ∧ Same 0 ∧ (∀ (r : Nat), r < 0 → bysF (List.replicate 0 (List.replicate 128 0)) r = bysF (List.replicate 0 (List.replicate 128 0)) r)) ∧ 36 = 36 ∧ Same 1 ∧ Same 0 ∧ (∀ (r : Nat), r < 0 → bysF (List.replicate 0 []) r = bysF (List.replicate 0 []) r)) (st := fun (a : Nat) => (⟨(⟨15, 39, (slotT 39 [(0, AV.sy (Value.int IntKind.i64 n)), (4, AV.ptr 0 0), (5, AV.sy (Value.int IntKind.i64 a))]), ARg.no, [(AItem.code (subC (bodyC Try.prog 15) [1, 1, 1, 0, 1, 0, 0])), (AItem.inLoop (subC (bodyC Try.prog 15) [1, 1, 1, 0, 1, 0, 0])), (AItem.inBlock 0), (AItem.code (subC (bodyC Try.prog 15) [1, 1, 1, 1]))], [], false, none, 0⟩ : AFr), [], memF [AB.mem 58 none [AV.ow 1 a, AV.ow 2 a, AV.sy (Value.int IntKind.i64 0), AV.im 1 0 (intsF []), AV.sy (Value.int IntKind.i64 0), AV.sy (Value.int IntKind.i64 0), AV.sy (Value.int IntKind.i64 0), AV.sy (Value.bool false)], AB.rw 36 1 a (bysF (List.replicate a (List.replicate 128 0))), AB.rw 36 1 a (bysF (List.replicate a []))] 0 Tr.e, 3⟩ : ASt)) (h := ?_) (fun (a : Nat) => [(5, ivA (a : Int))]) (fun a => [(0, .mem 58 none [.ow 1 a, .ow 2 a, ivA 0, .im 1 0 (intsF []), ivA 0, ivA 0, ivA 0, .sy (.bool false)]), (1, .rw 36 1 a (bysF (List.replicate a (List.replicate 128 0)))), (2, .rw 36 1 a (bysF (List.replicate a [])))]) (fun a => (a : Int) ≤ n) (fun a => n.toNat - a) (0)
 intro t ha ih
 refine To.R (h := ?_)
 refine To.Bd (t < n) (h := ?_) (g := ?_)
 · intro h3
   have hi1 : ((t + 1 : Nat) : Int) ≤ n := by omega
   have hi2 : n.toNat - (t + 1) < n.toNat - t := by omega
   refine To.R (k := 38) (C := (((((0 : Int) ≤ 0 ∧ (0 : Int) < 256) ∧ ((0 : Int) ≤ 0 ∧ (0 : Int) < 256) ∧ ((0 : Int) ≤ 0 ∧ (0 : Int) < 256) ∧ ((0 : Int) ≤ 0 ∧ (0 : Int) < 256) ∧ ((0 : Int) ≤ 0 ∧ (0 : Int) < 256) ∧ ((0 : Int) ≤ 0 ∧ (0 : Int) < 256) ∧ ((0 : Int) ≤ 0 ∧ (0 : Int) < 256) ∧ ((0 : Int) ≤ 0 ∧ (0 : Int) < 256) ∧ ((0 : Int) ≤ 0 ∧ (0 : Int) < 256) ∧ ((0 : Int) ≤ 0 ∧ (0 : Int) < 256) ∧ ((0 : Int) ≤ 0 ∧ (0 : Int) < 256) ∧ ((0 : Int) ≤ 0 ∧ (0 : Int) < 256) ∧ ((0 : Int) ≤ 0 ∧ (0 : Int) < 256) ∧ ((0 : Int) ≤ 0 ∧ (0 : Int) < 256) ∧ ((0 : Int) ≤ 0 ∧ (0 : Int) < 256) ∧ ((0 : Int) ≤ 0 ∧ (0 : Int) < 256) ∧ ((0 : Int) ≤ 0 ∧ (0 : Int) < 256) ∧ ((0 : Int) ≤ 0 ∧ (0 : Int) < 256) ∧ ((0 : Int) ≤ 0 ∧ (0 : Int) < 256) ∧ ((0 : Int) ≤ 0 ∧ (0 : Int) < 256) ∧ ((0 : Int) ≤ 0 ∧ (0 : Int) < 256) ∧ ((0 : Int) ≤ 0 ∧ (0 : Int) < 256) ∧ ((0 : Int) ≤ 0 ∧ (0 : Int) < 256) ∧ ((0 : Int) ≤ 0 ∧ (0 : Int) < 256) ∧ ((0 : Int) ≤ 0 ∧ (0 : Int) < 256) ∧ ((0 : Int) ≤ 0 ∧ (0 : Int) < 256) ∧ ((0 : Int) ≤ 0 ∧ (0 : Int) < 256) ∧ ((0 : Int) ≤ 0 ∧ (0 : Int) < 256) ∧ ((0 : Int) ≤ 0 ∧ (0 : Int) < 256) ∧ ((0 : Int) ≤ 0 ∧ (0 : Int) < 256) ∧ ((0 : Int) ≤ 0 ∧ (0 : Int) < 256) ∧ ((0 : Int) ≤ 0 ∧ (0 : Int) < 256) ∧ ((0 : Int) ≤ 0 ∧ (0 : Int) < 256) ∧ ((0 : Int) ≤ 0 ∧ (0 : Int) < 256) ∧ ((0 : Int) ≤ 0 ∧ (0 : Int) < 256) ∧ ((0 : Int) ≤ 0 ∧ (0 : Int) < 256) ∧ ((0 : Int) ≤ 0 ∧ (0 : Int) < 256) ∧ ((0 : Int) ≤ 0 ∧ (0 : Int) < 256) ∧ ((0 : Int) ≤ 0 ∧ (0 : Int) < 256) ∧ ((0 : Int) ≤ 0 ∧ (0 : Int) < 256) ∧ ((0 : Int) ≤ 0 ∧ (0 : Int) < 256) ∧ ((0 : Int) ≤ 0 ∧ (0 : Int) < 256) ∧ ((0 : Int) ≤ 0 ∧ (0 : Int) < 256) ∧ ((0 : Int) ≤ 0 ∧ (0 : Int) < 256) ∧ ((0 : Int) ≤ 0 ∧ (0 : Int) < 256) ∧ ((0 : Int) ≤ 0 ∧ (0 : Int) < 256) ∧ ((0 : Int) ≤ 0 ∧ (0 : Int) < 256) ∧ ((0 : Int) ≤ 0 ∧ (0 : Int) < 256) ∧ ((0 : Int) ≤ 0 ∧ (0 : Int) < 256) ∧ ((0 : Int) ≤ 0 ∧ (0 : Int) < 256) ∧ ((0 : Int) ≤ 0 ∧ (0 : Int) < 256) ∧ ((0 : Int) ≤ 0 ∧ (0 : Int) < 256) ∧ ((0 : Int) ≤ 0 ∧ (0 : Int) < 256) ∧ ((0 : Int) ≤ 0 ∧ (0 : Int) < 256) ∧ ((0 : Int) ≤ 0 ∧ (0 : Int) < 256) ∧ ((0 : Int) ≤ 0 ∧ (0 : Int) < 256) ∧ ((0 : Int) ≤ 0 ∧ (0 : Int) < 256) ∧ ((0 : Int) ≤ 0 ∧ (0 : Int) < 256) ∧ ((0 : Int) ≤ 0 ∧ (0 : Int) < 256) ∧ ((0 : Int) ≤ 0 ∧ (0 : Int) < 256) ∧ ((0 : Int) ≤ 0 ∧ (0 : Int) < 256) ∧ ((0 : Int) ≤ 0 ∧ (0 : Int) < 256) ∧ ((0 : Int) ≤ 0 ∧ (0 : Int) < 256) ∧ ((0 : Int) ≤ 0 ∧ (0 : Int) < 256) ∧ ((0 : Int) ≤ 0 ∧ (0 : Int) < 256) ∧ ((0 : Int) ≤ 0 ∧ (0 : Int) < 256) ∧ ((0 : Int) ≤ 0 ∧ (0 : Int) < 256) ∧ ((0 : Int) ≤ 0 ∧ (0 : Int) < 256) ∧ ((0 : Int) ≤ 0 ∧ (0 : Int) < 256) ∧ ((0 : Int) ≤ 0 ∧ (0 : Int) < 256) ∧ ((0 : Int) ≤ 0 ∧ (0 : Int) < 256) ∧ ((0 : Int) ≤ 0 ∧ (0 : Int) < 256) ∧ ((0 : Int) ≤ 0 ∧ (0 : Int) < 256) ∧ ((0 : Int) ≤ 0 ∧ (0 : Int) < 256) ∧ ((0 : Int) ≤ 0 ∧ (0 : Int) < 256) ∧ ((0 : Int) ≤ 0 ∧ (0 : Int) < 256) ∧ ((0 : Int) ≤ 0 ∧ (0 : Int) < 256) ∧ ((0 : Int) ≤ 0 ∧ (0 : Int) < 256) ∧ ((0 : Int) ≤ 0 ∧ (0 : Int) < 256) ∧ ((0 : Int) ≤ 0 ∧ (0 : Int) < 256) ∧ ((0 : Int) ≤ 0 ∧ (0 : Int) < 256) ∧ ((0 : Int) ≤ 0 ∧ (0 : Int) < 256) ∧ ((0 : Int) ≤ 0 ∧ (0 : Int) < 256) ∧ ((0 : Int) ≤ 0 ∧ (0 : Int) < 256) ∧ ((0 : Int) ≤ 0 ∧ (0 : Int) < 256) ∧ ((0 : Int) ≤ 0 ∧ (0 : Int) < 256) ∧ ((0 : Int) ≤ 0 ∧ (0 : Int) < 256) ∧ ((0 : Int) ≤ 0 ∧ (0 : Int) < 256) ∧ ((0 : Int) ≤ 0 ∧ (0 : Int) < 256) ∧ ((0 : Int) ≤ 0 ∧ (0 : Int) < 256) ∧ ((0 : Int) ≤ 0 ∧ (0 : Int) < 256) ∧ ((0 : Int) ≤ 0 ∧ (0 : Int) < 256) ∧ ((0 : Int) ≤ 0 ∧ (0 : Int) < 256) ∧ ((0 : Int) ≤ 0 ∧ (0 : Int) < 256) ∧ ((0 : Int) ≤ 0 ∧ (0 : Int) < 256) ∧ ((0 : Int) ≤ 0 ∧ (0 : Int) < 256) ∧ ((0 : Int) ≤ 0 ∧ (0 : Int) < 256) ∧ ((0 : Int) ≤ 0 ∧ (0 : Int) < 256) ∧ ((0 : Int) ≤ 0 ∧ (0 : Int) < 256) ∧ ((0 : Int) ≤ 0 ∧ (0 : Int) < 256) ∧ ((0 : Int) ≤ 0 ∧ (0 : Int) < 256) ∧ ((0 : Int) ≤ 0 ∧ (0 : Int) < 256) ∧ ((0 : Int) ≤ 0 ∧ (0 : Int) < 256) ∧ ((0 : Int) ≤ 0 ∧ (0 : Int) < 256) ∧ ((0 : Int) ≤ 0 ∧ (0 : Int) < 256) ∧ ((0 : Int) ≤ 0 ∧ (0 : Int) < 256) ∧ ((0 : Int) ≤ 0 ∧ (0 : Int) < 256) ∧ ((0 : Int) ≤ 0 ∧ (0 : Int) < 256) ∧ ((0 : Int) ≤ 0 ∧ (0 : Int) < 256) ∧ ((0 : Int) ≤ 0 ∧ (0 : Int) < 256) ∧ ((0 : Int) ≤ 0 ∧ (0 : Int) < 256) ∧ ((0 : Int) ≤ 0 ∧ (0 : Int) < 256) ∧ ((0 : Int) ≤ 0 ∧ (0 : Int) < 256) ∧ ((0 : Int) ≤ 0 ∧ (0 : Int) < 256) ∧ ((0 : Int) ≤ 0 ∧ (0 : Int) < 256) ∧ ((0 : Int) ≤ 0 ∧ (0 : Int) < 256) ∧ ((0 : Int) ≤ 0 ∧ (0 : Int) < 256) ∧ ((0 : Int) ≤ 0 ∧ (0 : Int) < 256) ∧ ((0 : Int) ≤ 0 ∧ (0 : Int) < 256) ∧ ((0 : Int) ≤ 0 ∧ (0 : Int) < 256) ∧ ((0 : Int) ≤ 0 ∧ (0 : Int) < 256) ∧ ((0 : Int) ≤ 0 ∧ (0 : Int) < 256) ∧ ((0 : Int) ≤ 0 ∧ (0 : Int) < 256) ∧ ((0 : Int) ≤ 0 ∧ (0 : Int) < 256) ∧ ((0 : Int) ≤ 0 ∧ (0 : Int) < 256) ∧ ((0 : Int) ≤ 0 ∧ (0 : Int) < 256) ∧ ((0 : Int) ≤ 0 ∧ (0 : Int) < 256) ∧ ((0 : Int) ≤ 0 ∧ (0 : Int) < 256) ∧ True) ∧ True) ∧ Same t ∧ t ≤ 1073741824) ∧ (Same t ∧ t ≤ 1073741824) ∧ fits IntKind.i64 (t + 1)) (h := ?_)
   refine To.rows 7 (bysF (List.replicate (t + 1) [])) (by kernel_rfl) (C := (∀ (r : Nat), r < t + 1 → leL (rwPush (bysF (List.replicate t [])) t [AV.v (Value.slice none 0 0)] r) (bysF (List.replicate (t + 1) []) r) ∧ bareL (bysF (List.replicate (t + 1) []) r) = true)) (by kernel_rfl) ?_ ?_
   · exact push_rep (by unfold leA; rfl) t
   refine To.rows 5 (bysF (List.replicate (t + 1) (List.replicate 128 0))) (by kernel_rfl) (C := (∀ (r : Nat), r < t + 1 → leL (rwPush (bysF (List.replicate t (List.replicate 128 0))) t [AV.by8 (List.take 128 [UInt8.ofNat 0, UInt8.ofNat 0, UInt8.ofNat 0, UInt8.ofNat 0, UInt8.ofNat 0, UInt8.ofNat 0, UInt8.ofNat 0, UInt8.ofNat 0, UInt8.ofNat 0, UInt8.ofNat 0, UInt8.ofNat 0, UInt8.ofNat 0, UInt8.ofNat 0, UInt8.ofNat 0, UInt8.ofNat 0, UInt8.ofNat 0, UInt8.ofNat 0, UInt8.ofNat 0, UInt8.ofNat 0, UInt8.ofNat 0, UInt8.ofNat 0, UInt8.ofNat 0, UInt8.ofNat 0, UInt8.ofNat 0, UInt8.ofNat 0, UInt8.ofNat 0, UInt8.ofNat 0, UInt8.ofNat 0, UInt8.ofNat 0, UInt8.ofNat 0, UInt8.ofNat 0, UInt8.ofNat 0, UInt8.ofNat 0, UInt8.ofNat 0, UInt8.ofNat 0, UInt8.ofNat 0, UInt8.ofNat 0, UInt8.ofNat 0, UInt8.ofNat 0, UInt8.ofNat 0, UInt8.ofNat 0, UInt8.ofNat 0, UInt8.ofNat 0, UInt8.ofNat 0, UInt8.ofNat 0, UInt8.ofNat 0, UInt8.ofNat 0, UInt8.ofNat 0, UInt8.ofNat 0, UInt8.ofNat 0, UInt8.ofNat 0, UInt8.ofNat 0, UInt8.ofNat 0, UInt8.ofNat 0, UInt8.ofNat 0, UInt8.ofNat 0, UInt8.ofNat 0, UInt8.ofNat 0, UInt8.ofNat 0, UInt8.ofNat 0, UInt8.ofNat 0, UInt8.ofNat 0, UInt8.ofNat 0, UInt8.ofNat 0, UInt8.ofNat 0, UInt8.ofNat 0, UInt8.ofNat 0, UInt8.ofNat 0, UInt8.ofNat 0, UInt8.ofNat 0, UInt8.ofNat 0, UInt8.ofNat 0, UInt8.ofNat 0, UInt8.ofNat 0, UInt8.ofNat 0, UInt8.ofNat 0, UInt8.ofNat 0, UInt8.ofNat 0, UInt8.ofNat 0, UInt8.ofNat 0, UInt8.ofNat 0, UInt8.ofNat 0, UInt8.ofNat 0, UInt8.ofNat 0, UInt8.ofNat 0, UInt8.ofNat 0, UInt8.ofNat 0, UInt8.ofNat 0, UInt8.ofNat 0, UInt8.ofNat 0, UInt8.ofNat 0, UInt8.ofNat 0, UInt8.ofNat 0, UInt8.ofNat 0, UInt8.ofNat 0, UInt8.ofNat 0, UInt8.ofNat 0, UInt8.ofNat 0, UInt8.ofNat 0, UInt8.ofNat 0, UInt8.ofNat 0, UInt8.ofNat 0, UInt8.ofNat 0, UInt8.ofNat 0, UInt8.ofNat 0, UInt8.ofNat 0, UInt8.ofNat 0, UInt8.ofNat 0, UInt8.ofNat 0, UInt8.ofNat 0, UInt8.ofNat 0, UInt8.ofNat 0, UInt8.ofNat 0, UInt8.ofNat 0, UInt8.ofNat 0, UInt8.ofNat 0, UInt8.ofNat 0, UInt8.ofNat 0, UInt8.ofNat 0, UInt8.ofNat 0, UInt8.ofNat 0, UInt8.ofNat 0, UInt8.ofNat 0, UInt8.ofNat 0, UInt8.ofNat 0, UInt8.ofNat 0, UInt8.ofNat 0, UInt8.ofNat 0])] r) (bysF (List.replicate (t + 1) (List.replicate 128 0)) r) ∧ bareL (bysF (List.replicate (t + 1) (List.replicate 128 0)) r) = true)) (by kernel_rfl) ?_ ?_
   · exact push_rep (by unfold leA; rfl) t
   refine To.K (L := [LN.old 0, LN.old 5, LN.old 7]) (kp := [5, 4, 0]) (ov := [(5, AV.sy (Value.int IntKind.i64 (↑(t + 1) : Int)))]) (C := Same IntKind.i64 ∧ (↑t : Int) + 1 = (↑(t + 1) : Int)) (ih (t + 1) hi1 hi2)
 · intro h3
   have hnt : n.toNat = t := by omega
   refine To.R (h := ?_)
   refine To.E (AV.tup [AV.ptr 0 0, AV.v (Value.int IntKind.i64 0)]) (hq := ?_)
   rw [hnt]
   have e1 : (rnewD t).stays.length = t := by simp [rnewD]
   have e2 : (rnewD t).cache.length = t := by simp [rnewD]
   refine ⟨(of_eqP (C := Same (AV.ptr 0 0) ∧ (Same IntKind.i64 ∧ Same (0 : Int)) ∧ True) (by kernel_rfl) (by (and_intros <;> try exact cl))), (endL_cons (B0 := AB.mem 58 none [AV.ow 1 t, AV.ow 2 t, AV.sy (Value.int IntKind.i64 0), AV.im 1 0 (intsF []), AV.sy (Value.int IntKind.i64 0), AV.sy (Value.int IntKind.i64 0), AV.sy (Value.int IntKind.i64 0), AV.sy (Value.bool false)]) (by kernel_rfl) (of_eqP (C := 58 = 58 ∧ (none : Option Nat) = none ∧ (Same 1 ∧ t = (rnewD t).stays.length) ∧ (Same 2 ∧ t = (rnewD t).cache.length) ∧ (Same IntKind.i64 ∧ 0 = (rnewD t).c.w) ∧ (Same 1 ∧ Same 0 ∧ (∀ (r : Nat), r < 0 → intsF [] r = intsF (rnewD t).c.keep r)) ∧ (Same IntKind.i64 ∧ 0 = (rnewD t).c.torn) ∧ (Same IntKind.i64 ∧ 0 = (rnewD t).c.at_) ∧ (Same IntKind.i64 ∧ 0 = (rnewD t).many) ∧ false = (rnewD t).down ∧ True) (by kernel_rfl) ?_) (endL_cons (B0 := AB.rw 36 1 t (bysF (List.replicate t (List.replicate 128 0)))) (by kernel_rfl) (of_eqP (C := 36 = 36 ∧ Same 1 ∧ t = (rnewD t).stays.length ∧ (∀ (r : Nat), r < t → bysF (List.replicate t (List.replicate 128 0)) r = bysF (rnewD t).stays r)) (by kernel_rfl) ?_) (endL_cons (B0 := AB.rw 36 1 t (bysF (List.replicate t []))) (by kernel_rfl) (of_eqP (C := 36 = 36 ∧ Same 1 ∧ t = (rnewD t).cache.length ∧ (∀ (r : Nat), r < t → bysF (List.replicate t []) r = bysF (rnewD t).cache r)) (by kernel_rfl) ?_) endL_nil)))⟩
   · exact ⟨rfl, rfl, ⟨rfl, e1.symm⟩, ⟨rfl, e2.symm⟩, ⟨rfl, rfl⟩, ⟨rfl, rfl, fun _ _ => rfl⟩, ⟨rfl, rfl⟩, ⟨rfl, rfl⟩, ⟨rfl, rfl⟩, rfl, trivial⟩
   · exact ⟨rfl, rfl, e1.symm, fun _ _ => rfl⟩
   · exact ⟨rfl, rfl, e2.symm, fun _ _ => rfl⟩
set_option maxHeartbeats 4000000 in
set_option maxRecDepth 100000 in
theorem rnewE_to (hok : S16.Ok Try.prog) (n : Int) (h : ¬ (1 ≤ n ∧ n ≤ 4096)) :
   To S16 Try.prog 15 (startOf Try.prog 15 [ivA n] .e 0) (fun x H' _ => leA x (.tup [.v (.pointer none), .v (iv 30)])) := by
 refine To.R (h := ?_)
 refine To.Bd (n < 1) (h := ?_) (g := ?_)
 · intro h1
   refine To.R (h := ?_)
   refine To.E (AV.tup [AV.v (Value.pointer none), AV.v (Value.int IntKind.i64 30)]) (hq := ?_)
   refine (of_eqP (C := Same (AV.v (Value.pointer none)) ∧ Same (AV.v (Value.int IntKind.i64 30)) ∧ True) (by kernel_rfl) (by (and_intros <;> try exact cl)))
 · intro h1
   refine To.R (h := ?_)
   refine To.Yd (4096 < n) (h := ?_)
   refine To.R (h := ?_)
   refine To.E (AV.tup [AV.v (Value.pointer none), AV.v (Value.int IntKind.i64 30)]) (hq := ?_)
   refine (of_eqP (C := Same (AV.v (Value.pointer none)) ∧ Same (AV.v (Value.int IntKind.i64 30)) ∧ True) (by kernel_rfl) (by (and_intros <;> try exact cl)))
structure RW where
 n : Nat
 sf : Nat → List AV
 cf : Nat → List AV
 w : Int
 kn : Nat
 kf : Nat → List AV
 torn : Int
 at_ : Int
 many : Int
 down : Bool
def RW.toL (x : RW) : RD := ⟨recsF x.n x.sf, recsF x.n x.cf, ⟨x.w, numsF x.kn x.kf, x.torn, x.at_⟩, x.many, x.down⟩
def RD.raw (r : RD) : RW := ⟨r.stays.length, bysF r.stays, bysF r.cache, r.c.w, r.c.keep.length, intsF r.c.keep, r.c.torn, r.c.at_, r.many, r.down⟩
structure RW.Ok (x : RW) : Prop where
 ok : x.toL.Ok
 s : ∀ k, k < x.n → x.sf k = bysF (recsF x.n x.sf) k
 c : ∀ k, k < x.n → x.cf k = bysF (recsF x.n x.cf) k
 k : ∀ r, r < x.kn → x.kf r = intsF (numsF x.kn x.kf) r
theorem raw_toL {r : RD} (h : r.cache.length = r.stays.length) : r.raw.toL = r := by
 unfold RD.raw RW.toL
 simp only
 rw [recs_bys, numsF_ints, ← h, recs_bys]
theorem raw_ok {r : RD} (h : r.Ok) : r.raw.Ok := by
 refine ⟨by rw [raw_toL h.len]; exact h, fun k _ => ?_, fun k _ => ?_, fun k _ => ?_⟩
 · show bysF r.stays k = bysF (recsF r.stays.length (bysF r.stays)) k
   rw [recs_bys]
 · show bysF r.cache k = bysF (recsF r.stays.length (bysF r.cache)) k
   rw [← h.len, recs_bys]
 · show intsF r.c.keep k = intsF (numsF r.c.keep.length (intsF r.c.keep)) k
   rw [numsF_ints]
def rwB (x : RW) : List AB := [.mem 58 none [.ow 1 x.n, .ow 2 x.n, ivA x.w, .im 1 x.kn x.kf, ivA x.torn, ivA x.at_, ivA x.many, .sy (.bool x.down)], .rw 36 1 x.n x.sf, .rw 36 1 x.n x.cf]
theorem rwB_raw {r : RD} (h : r.cache.length = r.stays.length) : rwB r.raw = rblk r := by
 unfold rwB rblk RD.raw
 simp only
 rw [h]
def isrcR (x : AV) : Option (Nat × (Nat → List AV)) :=
 match x with
 | .v (.slice none 0 0) => some (0, fun _ => [])
 | .im 1 n f => some (n, f)
 | _ => none
theorem isrcR_le {x : AV} {r : Nat × (Nat → List AV)} (h : isrcR x = some r) (hk : ∀ q, q < r.1 → r.2 q = intsF (numsF r.1 r.2) q) (σ : Nat → Option Nat) : leA (renA σ x) (.im 1 (numsF r.1 r.2).length (intsF (numsF r.1 r.2))) := by
 unfold isrcR at h
 split at h
 · cases h; simp only [renA]; unfold leA; rfl
 · cases h; simp only [renA]; unfold leA; exact ⟨rfl, (numsF_len _ _).symm, hk⟩
 · cases h
def rOfW (H : Tr AB) (i : Nat) : Option (RW × (Nat × Nat) × Prop) :=
 match H.get i with
 | some (.mem T none [.ow p N, .ow q M, cw, kp, ct, ca, mn, dn]) => match H.get p, H.get q with
   | some (.rw T1 w1 N' f), some (.rw T2 w2 M' g) => match intA cw, isrcR kp, intA ct, intA ca, intA mn, boolA dn with
     | some (.i64, w), some ks, some (.i64, t), some (.i64, a), some (.i64, m), some b =>
       cond (Nat.beq T 58 && Nat.beq T1 36 && Nat.beq T2 36 && Nat.beq w1 1 && Nat.beq w2 1 && !(Nat.beq i p) && !(Nat.beq i q) && !(Nat.beq p q))
         (some (⟨N, f, g, w, ks.1, ks.2, t, a, m, b⟩, (p, q), N' = N ∧ M' = N ∧ M = N)) none
     | _, _, _, _, _, _ => none
   | _, _ => none
 | _ => none
theorem rOfW_seen {H : Tr AB} {i p q : Nat} {x : RW} {C : Prop} (h : rOfW H i = some (x, (p, q), C)) (hC : C) (hx : x.Ok) : (i ≠ p ∧ i ≠ q ∧ p ≠ q) ∧ seenL H (inS [i, p, q]) [i, p, q] (rblk x.toL) ∧ (∀ (T : TypeId) (l : List AV), H.get p ≠ some (.mem T none l)) ∧ (∀ (T : TypeId) (l : List AV), H.get q ≠ some (.mem T none l)) := by
 unfold rOfW at h
 split at h
 · rename_i T p' N q' M cw kp ct ca mn dn h0
   split at h
   · rename_i T1 w1 N' f T2 w2 M' g h1 h2
     split at h
     · rename_i w ks t a m b hw hk ht ha hm hd
       cases hb : (Nat.beq T 58 && Nat.beq T1 36 && Nat.beq T2 36 && Nat.beq w1 1 && Nat.beq w2 1 && !(Nat.beq i p') && !(Nat.beq i q') && !(Nat.beq p' q')) with
       | false => rw [hb] at h; cases h
       | true =>
         rw [hb] at h
         cases h
         simp only [Bool.and_eq_true, Bool.not_eq_true', beq_dec, decide_eq_true_eq, decide_eq_false_iff_not] at hb
         obtain ⟨⟨⟨⟨⟨⟨⟨rfl, rfl⟩, rfl⟩, rfl⟩, rfl⟩, n1⟩, n2⟩, n3⟩ := hb
         obtain ⟨rfl, rfl, rfl⟩ := hC
         refine ⟨⟨n1, n2, n3⟩, ⟨⟨_, h0, rfl, rfl, rfl, ?_⟩, ⟨_, h1, rfl, rfl, rfl, (recsF_len _ _).symm, hx.s⟩, ⟨_, h2, rfl, rfl, rfl, (recsF_len _ _).symm, hx.c⟩, trivial⟩, ⟨fun T l e => ?_, fun T l e => ?_⟩⟩
         · simp only [renL, renA, inR2 n1, inR3 n2 n3]
           exact ⟨⟨rfl, (recsF_len _ _).symm⟩, ⟨rfl, (recsF_len _ _).symm⟩, intA_leS hw _, isrcR_le hk hx.k _, intA_leS ht _, intA_leS ha _, intA_leS hm _, boolA_leS hd _, trivial⟩
         · rw [h1] at e; cases e
         · rw [h2] at e; cases e
     · cases h
   · cases h
 · cases h
abbrev WFn := RW → List AV → Option ((List AV × AV × RW) × Prop)
def wK (f : WFn) (args : List AV) (H : Tr AB) : Option Ex := match args with
 | .ptr i 0 :: rest => match rOfW H i with
   | some (x, (p, q), C) => match f x rest with
     | some ((ys, v, x'), C') => some { μ := [i, p, q], args := .ptr 0 0 :: ys, L := rblk x.toL, res := v, L' := rwB x', E := [], C := C ∧ x.Ok ∧ C' }
     | none => none
   | none => none
 | _ => none
theorem wX_ok {S : Sy} (hok : S.Ok Try.prog) {F : FuncId} {fn : Func} (hF : Try.prog.funcs[F]? = some fn) (hb : fn.body.isSome = true) {f : WFn}
   (h : ∀ {x rest ys v x' C}, f x rest = some ((ys, v, x'), C) → x.Ok → C → (∀ σ, leL (renL σ rest) ys) ∧ (startF (tabOf Try.prog) F (.ptr 0 0 :: ys) (memF (rblk x.toL) 0 .e) 3).isSome = true ∧ To S Try.prog F (startOf Try.prog F (.ptr 0 0 :: ys) (memF (rblk x.toL) 0 .e) 3) (fun y H' _ => leA y v ∧ endL (rwB x') 0 H')) :
   FOk Try.prog (oneX F (wK f)) := oneX_ok hok tab hF hb fun {args H n e} hk hC => by
 unfold wK at hk
 split at hk
 · rename_i i rest
   split at hk
   · rename_i x p q C hr
     split at hk
     · rename_i ys v x' C' hf
       cases hk
       obtain ⟨c1, c2, c3⟩ : C ∧ x.Ok ∧ C' := hC
       obtain ⟨⟨n1, n2, n3⟩, hs, hp, hq⟩ := rOfW_seen hr c1 c2
       obtain ⟨g0, g1, g2⟩ := h hf c2 c3
       refine ⟨by simp [n1, n2, n3], hs, rfl, ?_, ⟨by simp, by simp⟩, ?_, g1, To.mono g2 fun y H' n' hq => ⟨hq.1, hq.2, trivial⟩⟩
       · simp only [renL, renA, inR1]
         exact ⟨leA_refl _, g0 _⟩
       · intro w0 ρ w vs hr0 hv j hj
         simp at hj
         rcases hj with rfl | rfl | rfl
         · exact .inl (VRs.bind hv (j, True) (by simp [bindL, bindA]) trivial)
         · exact .inr hp
         · exact .inr hq
     · cases hk
   · cases hk
 · cases hk
structure CW where
 w : Int
 kn : Nat
 kf : Nat → List AV
 torn : Int
 at_ : Int
def CW.toL (c : CW) : CrashD := ⟨c.w, numsF c.kn c.kf, c.torn, c.at_⟩
def crashW (x : AV) : Option CW := match x with
 | .agg [cw, kp, ct, ca] => match intA cw, isrcR kp, intA ct, intA ca with
   | some (.i64, w), some ks, some (.i64, t), some (.i64, a) => some ⟨w, ks.1, ks.2, t, a⟩
   | _, _, _, _ => none
 | _ => none
theorem crashW_le {x : AV} {c : CW} (h : crashW x = some c) (hk : ∀ q, q < c.kn → c.kf q = intsF (numsF c.kn c.kf) q) (σ : Nat → Option Nat) : leA (renA σ x) (.agg (crashF c.toL)) := by
 unfold crashW at h
 split at h
 · split at h
   · rename_i hw hq ht ha
     cases h
     simp only [renA, renL]
     exact ⟨intA_leS hw _, isrcR_le hq hk _, intA_leS ht _, intA_leS ha _, trivial⟩
   · cases h
 · cases h
def by8A : AV → Option (List UInt8)
 | .by8 b => some b
 | .v (.slice none 0 0) => some []
 | _ => none
theorem by8A_le {x : AV} {b : List UInt8} (h : by8A x = some b) (σ : Nat → Option Nat) : leA (renA σ x) (.by8 b) := by
 unfold by8A at h
 split at h
 · cases h; exact leA_refl _
 · cases h; simp only [renA]; unfold leA; rfl
 · cases h
theorem leA_im {x : AV} {w n : Nat} {f g : Nat → List AV} (h : leA x (.im w n f)) (hf : ∀ r, r < n → f r = g r) : leA x (.im w n g) := by
 generalize hy : AV.im w n f = y at h
 unfold leA at h
 split at h <;> first | (cases hy; done) | skip
 · cases hy
   subst h
   unfold leA
   rfl
 · cases hy
   obtain ⟨rfl, rfl, h3⟩ := h
   exact ⟨rfl, rfl, fun r hr => (h3 r hr).trans (hf r hr)⟩
 · subst hy
   subst h
   exact ⟨rfl, rfl, hf⟩
theorem leB_rwf {B : AB} {T : TypeId} {w n : Nat} {f g : Nat → List AV} (h : leB B (.rw T w n f)) (hf : ∀ r, r < n → f r = g r) : leB B (.rw T w n g) := by
 cases B with
 | rw T' w' n' f' =>
   obtain ⟨h1, h2, h3, h4⟩ := h
   exact ⟨h1, h2, h3, fun r hr => (h4 r hr).trans (hf r (by rw [← h3]; exact hr))⟩
 | _ => simp [leB] at h
theorem leB_im3 {B : AB} {T : TypeId} {a b c : AV} {w n : Nat} {f g : Nat → List AV} {l : List AV} (h : leB B (.mem T none (a :: b :: c :: .im w n f :: l))) (hf : ∀ r, r < n → f r = g r) : leB B (.mem T none (a :: b :: c :: .im w n g :: l)) := by
 cases B with
 | mem T' z' l' =>
   obtain ⟨h1, h2, h3⟩ := h
   refine ⟨h1, h2, ?_⟩
   match l', h3 with
   | x1 :: x2 :: x3 :: x4 :: l', h3 =>
     exact ⟨h3.1, h3.2.1, h3.2.2.1, leA_im h3.2.2.2.1 hf, h3.2.2.2.2⟩
 | _ => simp [leB] at h
theorem end_same {x : RW} (hx : x.Ok) {H : Tr AB} (h : endL (rblk x.toL) 0 H) : endL (rwB x) 0 H := by
 obtain ⟨⟨B0, a0, b0⟩, ⟨B1, a1, b1⟩, ⟨B2, a2, b2⟩, _⟩ := h
 have e1 : x.toL.stays.length = x.n := recsF_len _ _
 have e2 : x.toL.cache.length = x.n := recsF_len _ _
 have e3 : x.toL.c.keep.length = x.kn := numsF_len _ _
 rw [e1, e2, e3] at b0
 rw [e1] at b1
 rw [e2] at b2
 exact ⟨⟨B0, a0, leB_im3 b0 (fun r hr => (hx.k r hr).symm)⟩, ⟨B1, a1, leB_rwf b1 (fun r hr => (hx.s r hr).symm)⟩, ⟨B2, a2, leB_rwf b2 (fun r hr => (hx.c r hr).symm)⟩, trivial⟩
def liftW (g : RD → RD × Int) (x : RW) : RW × Int := ((g x.toL).1.raw, (g x.toL).2)
def rwriteW (x : RW) (z : Int) (b : List UInt8) : RW × Int := liftW (fun r => rwriteD r z b) x
def rspoilW (x : RW) (z : Int) (b : List UInt8) : RW × Int := liftW (fun r => rspoilD r z b) x
def rflushW (x : RW) : RW × Int := liftW rflushD x
def rdownW (x : RW) (c : CrashD) : RW × Int := liftW (fun r => rdownD r c) x
def rarmW (x : RW) (c : CrashD) : RW × Int := liftW (fun r => rarmD r c) x
def rreadW (x : RW) (z : Int) : List UInt8 × Int := rreadD x.toL z
def wfB (gW : RW → Int → List UInt8 → RW × Int) (C : RD → Prop) : WFn := fun x rest => match rest with
 | [a, y] => match intA a, by8A y with
   | some (.i64, z), some b => some (([ivA z, .by8 b], ivA (gW x z b).2, (gW x z b).1), C x.toL ∧ b.length ≤ 1000000)
   | _, _ => none
 | _ => none
def wf0 (gW : RW → RW × Int) : WFn := fun x rest => match rest with
 | [] => some (([], ivA (gW x).2, (gW x).1), True)
 | _ => none
def wfC (gW : RW → CrashD → RW × Int) : WFn := fun x rest => match rest with
 | [a] => match crashW a with
   | some c => some (([.agg (crashF c.toL)], ivA (gW x c.toL).2, (gW x c.toL).1), (∀ q, q < c.kn → c.kf q = intsF (numsF c.kn c.kf) q) ∧ c.kn ≤ 1000000)
   | none => none
 | _ => none
theorem wfB_ok {F : FuncId} {fn : Func} (hF : Try.prog.funcs[F]? = some fn) (hb : fn.body.isSome = true) {g : RD → Int → List UInt8 → RD × Int} {gW : RW → Int → List UInt8 → RW × Int} (hg : ∀ x z b, gW x z b = liftW (fun r => g r z b) x) {C : RD → Prop} (hlen : ∀ r z b, r.Ok → (g r z b).1.cache.length = (g r z b).1.stays.length)
   (h0 : ∀ r z b, (startF (tabOf Try.prog) F [.ptr 0 0, ivA z, .by8 b] (memF (rblk r) 0 .e) 3).isSome = true)
   (h : ∀ r z b, r.Ok → C r → b.length ≤ 1000000 → To S16 Try.prog F (startOf Try.prog F [.ptr 0 0, ivA z, .by8 b] (memF (rblk r) 0 .e) 3) (fun x H' _ => leA x (ivA (g r z b).2) ∧ endL (rblk (g r z b).1) 0 H')) : FOk Try.prog (oneX F (wK (wfB gW C))) :=
 wX_ok s16_ok hF hb fun {x rest ys v x' D} hh hx hC => by
   unfold wfB at hh
   split at hh
   · split at hh
     · rename_i z b hz hy
       cases hh
       obtain ⟨h2, h3⟩ : C x.toL ∧ b.length ≤ 1000000 := hC
       refine ⟨fun σ => ?_, h0 x.toL z b, ?_⟩
       · simp only [renL]
         exact ⟨intA_leS hz σ, by8A_le hy σ, trivial⟩
       · rw [hg]
         unfold liftW
         simp only
         rw [rwB_raw (hlen x.toL z b hx.ok)]
         exact h x.toL z b hx.ok h2 h3
     · cases hh
   · cases hh
theorem wf0_ok {F : FuncId} {fn : Func} (hF : Try.prog.funcs[F]? = some fn) (hb : fn.body.isSome = true) {g : RD → RD × Int} {gW : RW → RW × Int} (hg : ∀ x, gW x = liftW g x) (hlen : ∀ r, r.Ok → (g r).1.cache.length = (g r).1.stays.length)
   (h0 : ∀ r, (startF (tabOf Try.prog) F [.ptr 0 0] (memF (rblk r) 0 .e) 3).isSome = true)
   (h : ∀ r, r.Ok → To S16 Try.prog F (startOf Try.prog F [.ptr 0 0] (memF (rblk r) 0 .e) 3) (fun x H' _ => leA x (ivA (g r).2) ∧ endL (rblk (g r).1) 0 H')) : FOk Try.prog (oneX F (wK (wf0 gW))) :=
 wX_ok s16_ok hF hb fun {x rest ys v x' D} hh hx hC => by
   unfold wf0 at hh
   split at hh
   · cases hh
     refine ⟨fun σ => trivial, h0 x.toL, ?_⟩
     rw [hg]
     unfold liftW
     simp only
     rw [rwB_raw (hlen x.toL hx.ok)]
     exact h x.toL hx.ok
   · cases hh
theorem wfC_ok {F : FuncId} {fn : Func} (hF : Try.prog.funcs[F]? = some fn) (hb : fn.body.isSome = true) {g : RD → CrashD → RD × Int} {gW : RW → CrashD → RW × Int} (hg : ∀ x c, gW x c = liftW (fun r => g r c) x) (hlen : ∀ r c, r.Ok → (g r c).1.cache.length = (g r c).1.stays.length)
   (h0 : ∀ r c, (startF (tabOf Try.prog) F [.ptr 0 0, .agg (crashF c)] (memF (rblk r) 0 .e) 3).isSome = true)
   (h : ∀ r c, r.Ok → c.keep.length ≤ 1000000 → To S16 Try.prog F (startOf Try.prog F [.ptr 0 0, .agg (crashF c)] (memF (rblk r) 0 .e) 3) (fun x H' _ => leA x (ivA (g r c).2) ∧ endL (rblk (g r c).1) 0 H')) : FOk Try.prog (oneX F (wK (wfC gW))) :=
 wX_ok s16_ok hF hb fun {x rest ys v x' D} hh hx hC => by
   unfold wfC at hh
   split at hh
   · split at hh
     · rename_i c hc
       cases hh
       obtain ⟨h2, h3⟩ := hC
       refine ⟨fun σ => ?_, h0 x.toL c.toL, ?_⟩
       · simp only [renL]
         exact ⟨crashW_le hc h2 σ, trivial⟩
       · rw [hg]
         unfold liftW
         simp only
         rw [rwB_raw (hlen x.toL c.toL hx.ok)]
         exact h x.toL c.toL hx.ok (by show (numsF c.kn c.kf).length ≤ 1000000; rw [numsF_len]; exact h3)
     · cases hh
   · cases hh
theorem rfallD_len (r : RD) (c : CrashD) (h : r.cache.length = r.stays.length) : (rfallD r c).cache.length = (rfallD r c).stays.length := by simp [rfallD, h]
theorem rwriteD_len {r : RD} (z : Int) (b : List UInt8) (h : r.Ok) : (rwriteD r z b).1.cache.length = (rwriteD r z b).1.stays.length := by
 have hp : (r.put z b).cache.length = (r.put z b).stays.length := by
   show (r.cache.set z.toNat b).length = r.stays.length
   rw [List.length_set]; exact h.len
 unfold rwriteD
 split
 · exact h.len
 · split
   · exact h.len
   · split
     · exact h.len
     · split
       · exact h.len
       · split
         · exact hp
         · split
           · exact hp
           · exact rfallD_len _ _ hp
theorem rflushD_len {r : RD} (h : r.Ok) : (rflushD r).1.cache.length = (rflushD r).1.stays.length := by
 unfold rflushD
 split
 · exact h.len
 · simp [rflushL, h.len]
theorem rdownD_len {r : RD} (c : CrashD) (h : r.Ok) : (rdownD r c).1.cache.length = (rdownD r c).1.stays.length := by
 unfold rdownD
 split
 · exact h.len
 · exact rfallD_len _ _ h.len
theorem rarmD_len {r : RD} (c : CrashD) (h : r.Ok) : (rarmD r c).1.cache.length = (rarmD r c).1.stays.length := by
 unfold rarmD
 split
 · exact h.len
 · exact h.len
theorem rspoilD_len {r : RD} (z : Int) (b : List UInt8) (h : r.Ok) : (rspoilD r z b).1.cache.length = (rspoilD r z b).1.stays.length := by
 unfold rspoilD
 split
 · exact h.len
 · split
   · exact h.len
   · split
     · exact h.len
     · show r.cache.length = (r.stays.set _ _).length
       rw [List.length_set]; exact h.len
def rwriteF : CF := oneX 40 (wK (wfB rwriteW (fun r => r.many < 4000000000000000000)))
def rspoilF : CF := oneX 46 (wK (wfB rspoilW (fun _ => True)))
def rflushF : CF := oneX 41 (wK (wf0 rflushW))
def rdownF : CF := oneX 43 (wK (wfC rdownW))
def rarmF : CF := oneX 45 (wK (wfC rarmW))
def rreadF : CF := oneX 19 (wK fun x rest => match rest with
 | [a] => match intA a with
   | some (.i64, z) => some (([ivA z], .tup [.by8 (rreadW x z).1, ivA (rreadW x z).2], x), True)
   | _ => none
 | _ => none)
def rwaitsF : CF := oneX 52 (wK fun x rest => match rest with
 | [] => some (([], .im 1 (rwaitsD x.toL).length (intsF (rwaitsD x.toL)), x), True)
 | _ => none)
theorem rwriteF_ok : FOk Try.prog rwriteF := wfB_ok Try.func40 (by kernel_rfl) (fun _ _ _ => rfl) (fun _ z b h => rwriteD_len z b h) (fun _ _ _ => by kernel_rfl) (fun r z b h1 h2 h3 => rwrite_to s16_ok r z b h1 h2 h3)
theorem rspoilF_ok : FOk Try.prog rspoilF := wfB_ok Try.func46 (by kernel_rfl) (fun _ _ _ => rfl) (fun _ z b h => rspoilD_len z b h) (fun _ _ _ => by kernel_rfl) (fun r z b h1 _ h3 => rspoil_to s16_ok r z b h1 h3)
theorem rflushF_ok : FOk Try.prog rflushF := wf0_ok Try.func41 (by kernel_rfl) (fun _ => rfl) (fun _ h => rflushD_len h) (fun _ => by kernel_rfl) (fun r h1 => rflush_to s16_ok r h1)
theorem rdownF_ok : FOk Try.prog rdownF := wfC_ok Try.func43 (by kernel_rfl) (fun _ _ => rfl) (fun _ c h => rdownD_len c h) (fun _ _ => by kernel_rfl) (fun r c h1 h2 => rdown_to s16_ok r c h1 h2)
theorem rarmF_ok : FOk Try.prog rarmF := wfC_ok Try.func45 (by kernel_rfl) (fun _ _ => rfl) (fun _ c h => rarmD_len c h) (fun _ _ => by kernel_rfl) (fun r c h1 h2 => rarm_to s16_ok r c h1 h2)
theorem rreadF_ok : FOk Try.prog rreadF := wX_ok s16_ok Try.func19 (by kernel_rfl) fun {x rest ys v x' D} hh hx hC => by
 split at hh
 · split at hh
   · rename_i z hz
     cases hh
     refine ⟨fun σ => ?_, by kernel_rfl, ?_⟩
     · simp only [renL]
       exact ⟨intA_leS hz σ, trivial⟩
     · exact (rread_to s16_ok x.toL z hx.ok).mono fun y H' n' h => ⟨h.1, end_same hx h.2⟩
   · cases hh
 · cases hh
theorem rwaitsF_ok : FOk Try.prog rwaitsF := wX_ok s16_ok Try.func52 (by kernel_rfl) fun {x rest ys v x' D} hh hx hC => by
 split at hh
 · cases hh
   refine ⟨fun σ => trivial, by kernel_rfl, ?_⟩
   exact (rwaits_to s16_ok x.toL hx.ok).mono fun y H' n' h => ⟨h.1, end_same hx h.2⟩
 · cases hh
def rnewG : CG := oneXG 15 fun args _ => match args with
 | [x] => match intA x with
   | some (.i64, n) => some (decide (1 ≤ n ∧ n ≤ 4096), True, fun b => cond b
       { μ := [], args := [ivA n], L := [], res := .tup [.ptr 0 0, ivA 0], L' := [], E := [(0, .mem 58 none [.ow 1 (rnewD n.toNat).raw.n, .ow 2 (rnewD n.toNat).raw.n, ivA (rnewD n.toNat).raw.w, .im 1 (rnewD n.toNat).raw.kn (rnewD n.toNat).raw.kf, ivA (rnewD n.toNat).raw.torn, ivA (rnewD n.toNat).raw.at_, ivA (rnewD n.toNat).raw.many, .sy (.bool (rnewD n.toNat).raw.down)]), (1, .rw 36 1 (rnewD n.toNat).raw.n (rnewD n.toNat).raw.sf), (2, .rw 36 1 (rnewD n.toNat).raw.n (rnewD n.toNat).raw.cf)], C := True }
       { μ := [], args := [ivA n], L := [], res := .tup [.v (.pointer none), .v (iv 30)], L' := [], E := [], C := True })
   | _ => none
 | _ => none
theorem rnewG_ok : GOk Try.prog rnewG := oneXG_ok s16_ok tab Try.func15 (by kernel_rfl) fun {args H n r} h hC => by
 split at h
 · rename_i x
   split at h
   · rename_i m hx
     cases h
     have harg : leL (renL (inS []) [x]) [ivA m] := by simp only [renL]; exact ⟨intA_leS hx _, trivial⟩
     by_cases he : 1 ≤ m ∧ m ≤ 4096
     · simp only [decide_eq_true he, cond_true]
       refine ⟨by simp, trivial, rfl, harg, ⟨by simp, by simp⟩, ?_, by kernel_rfl, To.mono (rnew_to s16_ok m he.1 he.2) fun y H' n' hq => ?_⟩
       · intro w0 ρ w vs hr hv j hj; cases hj
       · obtain ⟨q1, q2⟩ := hq
         rw [← rwB_raw (r := rnewD m.toNat) (by simp [rnewD])] at q2
         obtain ⟨⟨B0, a0, b0⟩, ⟨B1, a1, b1⟩, ⟨B2, a2, b2⟩, _⟩ := q2
         exact ⟨q1, trivial, ⟨B0, a0, b0⟩, ⟨B1, a1, b1⟩, ⟨B2, a2, b2⟩, trivial⟩
     · simp only [decide_eq_false he, cond_false]
       refine ⟨by simp, trivial, rfl, harg, ⟨by simp, by simp⟩, ?_, by kernel_rfl, To.mono (rnewE_to s16_ok m he) fun y H' n' hq => ⟨hq, trivial, trivial⟩⟩
       intro w0 ρ w vs hr hv j hj; cases hj
   · cases h
 · cases h
structure GoesW (d : DiskD) (x : RW) : Prop where
 ok : x.Ok
 goes : GoesR d x.toL
theorem goesW {d : DiskD} {r : RD} (h : GoesR d r) (hd : d.Fine) : GoesW d r.raw := ⟨raw_ok (h.ok hd), by rw [raw_toL (h.ok hd).len]; exact h⟩
theorem GoesW.write {d : DiskD} {x : RW} (h : GoesW d x) {n : Nat} (hd : d.In n) (hn : n < 1000000000) (z : Int) (b : List UInt8) : GoesW (writeD d z b).1 (rwriteW x z b).1 ∧ (rwriteW x z b).2 = (writeD d z b).2 :=
 ⟨goesW (h.goes.write hd.fine.ok z b).1 (hd.write hn z b).fine, (h.goes.write hd.fine.ok z b).2⟩
theorem GoesW.spoil {d : DiskD} {x : RW} (h : GoesW d x) {n : Nat} (hd : d.In n) (z : Int) (b : List UInt8) : GoesW (spoilD d z b).1 (rspoilW x z b).1 ∧ (rspoilW x z b).2 = (spoilD d z b).2 :=
 ⟨goesW (h.goes.spoil z b).1 (hd.spoil z b).fine, (h.goes.spoil z b).2⟩
theorem GoesW.flush {d : DiskD} {x : RW} (h : GoesW d x) {n : Nat} (hd : d.In n) : GoesW (flushD d).1 (rflushW x).1 ∧ (rflushW x).2 = (flushD d).2 :=
 ⟨goesW (h.goes.flush hd.fine.ok).1 hd.flush.fine, (h.goes.flush hd.fine.ok).2⟩
theorem GoesW.down {d : DiskD} {x : RW} (h : GoesW d x) {n : Nat} (hd : d.In n) (c : CrashD) : GoesW (downD d c).1 (rdownW x c).1 ∧ (rdownW x c).2 = (downD d c).2 :=
 ⟨goesW (h.goes.down_ hd.fine.ok c).1 (hd.down c).fine, (h.goes.down_ hd.fine.ok c).2⟩
theorem GoesW.arm {d : DiskD} {x : RW} (h : GoesW d x) {n : Nat} (hd : d.In n) {c : CrashD} (hc : c.Wf) (hk : c.keep.length ≤ 1000000) : GoesW (armD d c).1 (rarmW x c).1 ∧ (rarmW x c).2 = (armD d c).2 :=
 ⟨goesW (h.goes.arm c).1 (hd.arm hc hk).fine, (h.goes.arm c).2⟩
theorem GoesW.read {d : DiskD} {x : RW} (h : GoesW d x) (hd : d.Ok) (z : Int) : rreadW x z = ((readD d z).1.getD [], (readD d z).2) := h.goes.read hd z
theorem GoesW.boot {d : DiskD} {x : RW} (h : GoesW d x) : GoesW (bootD d) { x with down := false } := ⟨⟨⟨h.ok.ok.len, h.ok.ok.le, h.ok.ok.st, h.ok.ok.ca, h.ok.ok.cw, h.ok.ok.keep, h.ok.ok.many⟩, h.ok.s, h.ok.c, h.ok.k⟩, h.goes.boot⟩
theorem goesW_new {k : Nat} (h1 : 1 ≤ k) (h2 : k ≤ 4096) : GoesW (newD k) (rnewD k).raw := goesW goes_new (newD_in h1 h2).fine
end Go.Proofs.Ytnfdknnbaebagaa.Sm
namespace Go.Proofs
open Go.Shelf
def Ytnfdknnbaebagaa.mcloneL_ren : Go.Shelf.Ren := ⟨fun | 5 => 69 | 7 => 85 | n => n, fun | 23 => 64 | 25 => 3 | 3 => 89 | 4 => 4 | 20 => 20 | n => n, fun | n => n⟩
theorem Ytnfdknnbaebagaa.mcloneL : Go.Proofs.SlLaysW.n5 Try.prog Ytnfdknnbaebagaa.mcloneL_ren := {
 mixed := by kernel_rfl
 f5 := ⟨Try.f69.name, by decide, Try.func69.trans (congrArg some (by kernel_rfl))⟩
 f7 := Try.func85.trans (congrArg some (by kernel_rfl))
 t4 := Try.underlying4
 a4 := Try.isAgg4
 z4 := Try.sizeOf4
 v4 := Try.zeroValue4
 t20 := Try.underlying20
 a20 := Try.isAgg20
 z20 := Try.sizeOf20
 v20 := Try.zeroValue20
 t23 := Try.underlying64
 a23 := Try.isAgg64
 z23 := Try.sizeOf64
 v23 := Try.zeroValue64 }
end Go.Proofs
namespace Go.Proofs.Ytnfdknnbaebagaa.Sm
open Go Go.RowKit
def cloneMF : CF := oneF 69 fun args H n => match args with
 | [.mp q] => match H.get q with
   | some (.obj (.wmap m)) => some ((.mp n, tput H n (.obj (.wmap m)), n + 1), True)
   | _ => none
 | _ => none
theorem cloneMF_ok : FOk Try.prog cloneMF := oneF_ok tab Try.func69 (by kernel_rfl) fun {args H n r} h _ {w0 ρ w vs} hr hv => by
 split at h
 · rename_i q
   split at h
   · rename_i m hq
     cases h
     cases hv with
     | cons e1 t =>
     cases t
     cases e1 with
     | @mp _ b c hm =>
       obtain ⟨F, hF, hrep, _⟩ := hr.obj hm hq
       obtain ⟨es, clock, hb, hst, hes⟩ := hrep.2
       refine Calls.mono (AnyW.maps_Clone Ytnfdknnbaebagaa.mcloneL b es clock w hb) ?_
       rintro e w' ⟨rfl, rfl⟩
       have hnew := heap_alloc_new w (.map es clock)
       obtain ⟨k1, k2⟩ := hr.newX (x := .wmap m) (g := w.heap.size) (c := 0) (F' := fun k => k = w.heap.size) ((Fr.refl No w).alloc _) ⟨fun _ => Iff.rfl, es, clock, hnew, hst, hes⟩ rfl (fun k hk => by
         subst hk; exact ⟨Nat.le_refl _, (Array.getElem?_eq_some_iff.1 hnew).1⟩)
       exact ⟨_, _, rfl, .mp (Env.set_same _ _ _), k1, k2⟩
   · cases h
 · cases h
def rowBs (ll : List (List UInt8)) (r : Nat) : List AV := (ll.getD r []).map fun x => .sy (byt x)
theorem rowBs_VR (I : Im) : ∀ l : List UInt8, VRs0 I (l.map fun x => AV.sy (byt x)) (l.map byt)
 | [] => .nil
 | _ :: l => .cons (.sy _) (rowBs_VR I l)
theorem rowBs_inv (I : Im) : ∀ (l : List UInt8) (vs : List Value), VRs0 I (l.map fun x => AV.sy (byt x)) vs → vs = l.map byt
 | [], vs, h => by cases h; rfl
 | x :: l, vs, h => by
   cases h with
   | cons e t => cases e; rw [rowBs_inv I l _ t]; rfl
theorem rows_flat : ∀ {ll : List (List UInt8)} {vs : List Value}, (∀ l ∈ ll, l.length = 128) → vs.length = ll.length * 128 → (∀ r, r < ll.length → (vs.drop (r * 128)).take 128 = (ll.getD r []).map byt) → vs = ll.flatten.map byt
 | [], vs, _, hl, _ => by simpa using hl
 | l :: ll, vs, h, hl, hr => by
   have h0 := hr 0 (by simp)
   simp at h0
   have ih := rows_flat (ll := ll) (vs := vs.drop 128) (fun x hx => h x (by simp [hx])) (by simp [hl, Nat.succ_mul]) (fun r hr' => by
     have := hr (r + 1) (by simpa using hr')
     rw [List.drop_drop]
     simpa [Nat.succ_mul, Nat.add_comm] using this)
   rw [List.flatten_cons, List.map_append, ← ih, ← h0, List.take_append_drop]
set_option maxRecDepth 100000 in
theorem cloneS_to1 (hok : S0.Ok Try.prog) (ad : Addr) (c k : Nat) (f : Nat → List AV) (hk : k + 1 ≤ 1000000) (hf : ∀ r, r < k + 1 → (f r).all oneA = true) : To S0 Try.prog 68 (startOf Try.prog 68 [.ix (some ad) c 128 (Nat.succ k) f] .e 0) (fun x H _ => x = .ow 1 (k + 1) ∧ H.get 1 = some (.rw 89 128 (k + 1) f)) := by
 refine To.R (C := True ∧ k + 1 ≤ 1073741824 ∧ (∀ (r : Nat), r < k + 1 → (f r).all oneA = true)) (h := ?_)
 refine To.E (AV.ow 1 (k + 1)) (hq := ?_)
 exact ⟨rfl, by kernel_rfl⟩
set_option maxRecDepth 100000 in
theorem cloneS_to2 (hok : S0.Ok Try.prog) (ad : Addr) (c : Nat) (f : Nat → List AV) : To S0 Try.prog 68 (startOf Try.prog 68 [.ix (some ad) c 128 0 f] .e 0) (fun x _ _ => ∃ q o, x = .sl q o 0 0) := by
 refine To.R (C := True ∧ True) (h := ?_)
 refine To.E (AV.sl 0 0 0 0) (hq := ?_)
 exact ⟨_, _, rfl⟩
set_option maxRecDepth 100000 in
theorem cloneS_to3 (hok : S0.Ok Try.prog) : To S0 Try.prog 68 (startOf Try.prog 68 [.v (.slice none 0 0)] .e 0) (fun x _ _ => x = .v (.slice none 0 0)) := by
 refine To.R (h := ?_)
 refine To.E (AV.v (Value.slice none 0 0)) (hq := ?_)
 rfl
def cloneSF0 : CF := oneF 68 (cloneK 89 128)
theorem cloneSF0_ok : FOk Try.prog cloneSF0 := cloneF_ok s0_ok tab Try.func68 (by kernel_rfl) (cloneS_to1 s0_ok) (cloneS_to2 s0_ok) (cloneS_to3 s0_ok) (fun _ _ _ _ => by kernel_rfl) (fun _ _ _ => by kernel_rfl) (by kernel_rfl)
def cloneSF : CF := oneF 68 fun args H n => match args with
 | [.ow i N] => match H.get i with
   | some (.obj (.rows 128 ll)) => some ((.ow n N, tput H n (.obj (.rows 128 ll)), n + 1), N = ll.length ∧ N ≠ 0 ∧ N ≤ 1000000)
   | _ => none
 | _ => none
theorem cloneSF_ok : FOk Try.prog cloneSF := oneF_ok tab Try.func68 (by kernel_rfl) fun {args H n r} h hC {w0 ρ w vs} hr hv => by
 split at h
 · rename_i i N
   split at h
   · rename_i ll hB
     cases h
     obtain ⟨rfl, hne, hle⟩ : N = ll.length ∧ N ≠ 0 ∧ N ≤ 1000000 := hC
     cases hv with
     | cons e1 t =>
     cases t
     generalize hN : ll.length = N at e1 hne hle
     cases e1 with
     | ow0 => exact absurd rfl hne
     | @ow _ b c _ hi hn hc =>
       obtain ⟨F, hF, hrep, _⟩ := hr.obj hi hB
       obtain ⟨T, fz, sp, hb, hfz, hrow⟩ := hrep.2
       have hfl := flat_len hrow
       have hx : VR (envOf w) (.im 128 N (rowBs ll)) (.slice (some ⟨b, 0, none⟩) N c) := by
         refine .im (vs := ll.flatten.map byt) ⟨by simp only [List.length_map]; rw [hfl, hN], hn, hc, (fun e => by cases e), fun ad had j u hu => ?_⟩ (fun r hr' => ?_)
         · cases had
           rw [Addr.add_lit]
           refine imOf_cell ?_
           rw [cells_cell hb, Nat.zero_add, List.getElem?_append_left (List.getElem?_eq_some_iff.1 hu).1]; exact hu
         · rw [← List.map_drop, ← List.map_take, flat_row hrow (by rw [hN]; exact hr')]
           exact rowBs_VR _ _
       obtain ⟨k, rfl⟩ : ∃ k, N = k + 1 := ⟨N - 1, by omega⟩
       have hcl := (cloneSF0_ok.ok (f := 68) (args := [.im 128 (k + 1) (rowBs ll)]) (H := .e) (n := 0) (r := ((.ow 0 (k + 1), tput .e 0 (.rw 89 128 (k + 1) (rowBs ll)), 1), k + 1 ≤ 1000000 ∧ ∀ r, r < k + 1 → (rowBs ll r).all oneA = true)) (by kernel_rfl) ⟨hle, fun r _ => by simp [rowBs, oneA, byt, Value.oneCell']⟩).2 (HR.all w) (.cons hx .nil)
       refine Calls.mono hcl ?_
       rintro e w' ⟨ρ', v, rfl, hv', hr', _⟩
       generalize hK : k + 1 = K at hv'
       cases hv' with
       | ow0 => omega
       | @ow _ b' c' _ hi' hn' hc' =>
         subst hK
         obtain ⟨o, ho, us, sp', rfl, g1, g2, g3, g4, g5⟩ := hr'.blk (B := .rw 89 128 (k + 1) (rowBs ll)) hi' (by show (tput .e 0 _).get 0 = _; rw [get_tput, if_pos rfl])
         have hus : us = ll.flatten.map byt := rows_flat hrow (by rw [g1, hN]) (fun r hr2 => by
           have := g5 r (by rw [← hN]; exact hr2)
           exact rowBs_inv _ _ _ this)
         subst hus
         have hnew : w.heap.size ≤ b' := by
           rcases (hr'.base hi').1 with h | h
           · exact absurd h (No.no b')
           · exact h
         obtain ⟨k1, k2⟩ := hr.newX (x := .rows 128 ll) (g := b') (c := c') (F' := fun k => k = b') hr'.fr ⟨fun _ => Iff.rfl, _, _, sp', ho, .inl rfl, hrow⟩ rfl (fun k hk => by
           subst hk; exact ⟨hnew, (hr'.base hi').2⟩)
         exact ⟨_, _, rfl, .ow _ (Env.set_same _ _ _) hn' hc', k1, k2⟩
   · cases h
 · cases h
noncomputable abbrev S6 : Sy := sym Try.prog (orF cloneSF cloneMF) noG
theorem s6_ok : S6.Ok Try.prog := sym_ok (orF_ok cloneSF_ok cloneMF_ok) (noG_ok _) tab mix
set_option maxHeartbeats 4000000 in
set_option maxRecDepth 100000 in
theorem copy_to (hok : S6.Ok Try.prog) (T : TypeId) (d : DiskD) (ka : Option Addr) (kc : Nat) (hd : d.Fine) :
   To S6 Try.prog 47 (startOf Try.prog 47 [.ptr 0 0] (memF (diskH T d ka kc) 0 .e) 3)
     (fun x H' _ => x = .ptr 3 0 ∧ DEnd 0 ka kc d.crash.keep d H' [3, 4, 5] ∧ H'.get 3 = some (.mem 66 none [.ow 4 d.stays.length, .mp 5, ivA d.crash.w, .ix ka kc 1 d.crash.keep.length (intsF d.crash.keep), ivA d.crash.torn, ivA d.crash.at_, ivA d.writes, .sy (.bool d.down)]) ∧ H'.get 4 = some (.obj (.rows 128 d.stays)) ∧ H'.get 5 = some (.obj (.wmap d.waits))) := by
 have w1 := hd.ok.npos
 have w2 := hd.ok.le
 refine To.R (h := ?_)
 refine To.Nd (d.stays.length = (0 : Int)) (h := ?_)
 refine To.R (C := (Same d.stays.length ∧ d.stays.length ≠ 0 ∧ d.stays.length ≤ 1000000) ∧ Same (AV.mp 2) ∧ True) (h := ?_)
 refine To.E (AV.ptr 3 0) (hq := ?_)
 exact ⟨rfl, DEnd.upM (T := T) [3, 4, 5] (by decide) (by kernel_rfl) (by kernel_rfl) (by kernel_rfl) w1, by kernel_rfl, by kernel_rfl, by kernel_rfl⟩
def copyF : CF := oneF 47 fun args H n => match args with
 | [.ptr i 0] => match H.get i with
   | some (.obj (.disk d)) => some ((.ptr n 0, tput (tput H i (.obj (.disk d))) n (.obj (.disk d)), n + 1), d.Fine)
   | _ => none
 | _ => none
theorem copyF_ok : FOk Try.prog copyF := oneF_ok tab Try.func47 (by kernel_rfl) fun {args H n r} h hC {w0 ρ w vs} hr hv => by
 split at h
 · rename_i i
   split at h
   · rename_i d hB
     cases h
     have hd : d.Fine := hC
     cases hv with
     | cons e1 t =>
     cases t
     cases e1 with
     | @ptr _ b c _ hi =>
       obtain ⟨F, hF⟩ := hr.foot
       refine (disk_core s6_ok (rest := []) (Q := fun ka kc x H' => x = .ptr 3 0 ∧ DEnd 0 ka kc d.crash.keep d H' [3, 4, 5] ∧ H'.get 3 = some (.mem 66 none [.ow 4 d.stays.length, .mp 5, ivA d.crash.w, .ix ka kc 1 d.crash.keep.length (intsF d.crash.keep), ivA d.crash.torn, ivA d.crash.at_, ivA d.writes, .sy (.bool d.down)]) ∧ H'.get 4 = some (.obj (.rows 128 d.stays)) ∧ H'.get 5 = some (.obj (.wmap d.waits))) (fun T ka kc => by kernel_rfl) (fun T ka kc => copy_to s6_ok T d ka kc hd) hr hF hi hB .nil).mono ?_
       rintro e w' ⟨ka, kc, x, H', n', ρ', v, bs0, cs, bm, ⟨rfl, he, h3, h4, h5⟩, rfl, hv, hdi, hr'⟩
       obtain ⟨F', g1, g2, g3, g4⟩ := disk_put hr hF hi hB hdi hr' he
       cases hv with
       | @ptr _ bg cg _ hg =>
         obtain ⟨F2, k1, k2, k3, _, k5⟩ := hr'.closeG (J := ρ.im) (d' := d) hg h3 h4 rfl (.map h5) rfl (fun v hv => KeepAs.was.win hdi.keep hv) rfl rfl rfl rfl hd.ok.npos
         have named : ∀ k, F2 k → ∃ g cg' B, g ∈ [3, 4, 5] ∧ ρ' g = some (k, cg') ∧ H'.get g = some B ∧ B.live = true := fun k hk => by
           rcases k5 k hk with rfl | ⟨c1, e⟩ | ⟨q, c1, e0, e, B, e2, e3⟩
           · exact ⟨3, _, _, by simp, hg, h3, rfl⟩
           · exact ⟨4, _, _, by simp, e, h4, rfl⟩
           · cases e0; exact ⟨5, _, _, by simp, e, e2, e3⟩
         obtain ⟨j1, j2⟩ := g1.nameX (B := .obj (.disk d)) (g := bg) (c := cg) (F2 := F2) g3 k2 (fun k hk => by
           obtain ⟨a, b', _⟩ : (F i k ∨ w.heap.size ≤ k) ∧ k < w'.heap.size ∧ _ := k3 k hk
           refine ⟨?_, b', ?_⟩
           · rcases a with h | h
             · exact (hF.there hi hB rfl h).1
             · exact .inr (Nat.le_trans hr.fr.size h)
           · rcases a with h | h
             · exact (hF.there hi hB rfl h).2.2
             · cases hk' : ρ.im k with
               | none => rfl
               | some cc => have := hr.imlt hk'; omega) (fun {j k p C} e1 e2 e3 e4 e5 => by
           obtain ⟨a, b', _⟩ : (F i k ∨ w.heap.size ≤ k) ∧ k < w'.heap.size ∧ _ := k3 k e5
           by_cases hj : j = i
           · subst hj; simp only [if_true] at e4
             obtain ⟨g, cg', B, hm, q1, q2, q3⟩ := named k e5
             exact g4 hm q1 q2 q3 e4
           · simp only [if_neg hj] at e4
             rw [get_tput, if_neg hj] at e2
             rcases a with h | h
             · exact hj (hF.apart e1 hi e2 hB e3 rfl e4 h)
             · have := (hF.there e1 e2 e3 e4).2.1; omega) (by
           obtain ⟨o, ho, _⟩ := hr'.blk hg h3
           exact ⟨o, ho, trivial⟩) (fun h => by cases h) (fun x e => by cases e; exact k1)
         exact ⟨_, _, rfl, .ptr 0 (Env.set_same _ _ _), j1, g2.trans j2⟩
   · cases h
 · cases h
end Go.Proofs.Ytnfdknnbaebagaa.Sm
