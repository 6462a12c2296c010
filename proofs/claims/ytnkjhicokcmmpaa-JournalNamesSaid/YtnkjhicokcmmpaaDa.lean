/-
  What waits, as the map's keys, sorted.
-/
import Derived.Test.YtnkjhicokcmmpaaLd
import Derived.Test.YtnkjhicokcmmpaaBytes
namespace Go.Proofs.Ytnkjhicokcmmpaa
open Go.RowKit Go.Maps Go.Sort Go.Shelf Go.MapKept Go.WideShapes

/-- A map whose keys are these ints. -/
def MapZ (w : World) (b : Nat) (ks : List Int) : Prop := ∃ es clock, w.heap[b]? = some (.map es clock) ∧ Stamped es clock ∧ es.toList.map (·.key) = ks.map encZ ∧ es.size ≤ 1000000 ∧ ∀ k ∈ ks, (Lit.int .i64 k).wf = true
def rAny (_ : Value) : Option (DataW Unit × List MemPlace) := some (.lit (.bool true), [])

theorem MapZ.own {w : World} {b : Nat} {ks : List Int} (h : MapZ w b ks) : ∃ D : DataW Unit, w.ownsMap Try.prog 3 rAny b ks.length D ∧ (intKeys D).Perm ks ∧ Maps.size D = ks.length := by
  obtain ⟨es, clock, hb, hs, hk, hsz, hwf⟩ := h
  have hlen : es.size = ks.length := by
    have := congrArg List.length hk
    simpa using this
  have hrd : ∀ x ∈ es.toList, ∃ k : Int, x.key = encZ k ∧ k ∈ ks := by
    intro x hx
    have : x.key ∈ es.toList.map (·.key) := List.mem_map.2 ⟨x, hx, rfl⟩
    rw [hk] at this
    obtain ⟨k, hk, e⟩ := List.mem_map.1 this
    exact ⟨k, e.symm, hk⟩
  have hread : ∀ x ∈ es.toList, ∀ k : Int, x.key = encZ k → k ∈ ks → Go.WideElems.rd Try.prog 3 rAny x = some (.int .i64 k, .lit (.bool true)) := by
    intro x hx k e hk
    have hkey : keyOf Try.prog 3 x.key = some (.int .i64 k) := by
      rw [e]
      exact keyOf_int_mk Try.underlying3 (hwf k hk)
    unfold Go.WideElems.rd rAny
    simp [hkey]
  refine ⟨_, ⟨es, clock, hb, ⟨by unfold maxLen; omega, hs, fun x hx => ?_⟩, by omega, rfl⟩, ?_, ?_⟩
  · obtain ⟨k, e, hk⟩ := hrd x hx
    exact ⟨_, hread x hx k e hk⟩
  · have hp := sorted_perm (es.toList.map (Go.WideElems.rg Try.prog 3 rAny))
    have : intKeys (H := Unit) (DataW.map ((es.toList.map (Go.WideElems.rg Try.prog 3 rAny)).foldr DataW.insert [])) = ((es.toList.map (Go.WideElems.rg Try.prog 3 rAny)).foldr DataW.insert []).map (fun p : Lit × DataW Unit => Go.intOf p.1) := rfl
    rw [this]
    refine (hp.map _).trans (List.Perm.of_eq ?_)
    have hmap : (es.toList.map (Go.WideElems.rg Try.prog 3 rAny)).map (fun p => encZ (Go.intOf p.1)) = es.toList.map (·.key) := by
      rw [List.map_map]
      refine List.map_congr_left fun x hx => ?_
      obtain ⟨k, e, hk⟩ := hrd x hx
      have := hread x hx k e hk
      simp [Function.comp, Go.WideElems.rg_of this, Go.intOf, e]
    have h2 : (((es.toList.map (Go.WideElems.rg Try.prog 3 rAny)).map fun p => Go.intOf p.1).map encZ) = ks.map encZ := by
      rw [← hk, ← hmap]
      simp
    exact (List.map_inj_right (fun x y e => encZ_inj e)).1 h2
  · have hp := (sorted_perm (es.toList.map (Go.WideElems.rg Try.prog 3 rAny))).length_eq
    show ((es.toList.map (Go.WideElems.rg Try.prog 3 rAny)).foldr DataW.insert []).length = _
    rw [hp]
    simpa using hlen

theorem sortsA (m : Nat) : AnyZI.SortsIn Try.prog Ytnkjhicokcmmpaa.sortedL_ren Fence.wide m :=
  ⟨fun blk off cap ss W hH hblk hsz => callsIn_wide.2 (AnyM.slices_Sort_int Ytnkjhicokcmmpaa.sortL blk off cap ss W hH hblk hsz),
   fun p cap W => callsIn_wide.2 (AnyM.slices_Sort_int_none Ytnkjhicokcmmpaa.sortL p cap W)⟩

def sortZ (ks : List Int) : List Int := ks.mergeSort leI


/-- A disk's first two cells. -/
theorem noneD_ok (b n c : Nat) (a : Option Addr) (w : World) (h0 : w.cell? ⟨b, 0, none⟩ = some (.slice a n c)) (hn : n ≤ 100000) :
    Calls Try.prog 81 #[.pointer (some ⟨b, 0, none⟩)] w fun e w' => e = .returned (.bool (n == 0)) ∧ w = w' := by
  have hn' : ((n : Int) == 0) = (n == 0) := by
    rw [Bool.eq_iff_iff]; simp
  go_enter Try.func81, Try.ntmps81
  go_wp2
  go_ret
  exact ⟨by simp [hn'], rfl⟩
theorem noneD_nil (w : World) : Calls Try.prog 81 #[.pointer none] w fun e w' => e = .returned (.bool true) ∧ w = w' := by
  go_enter Try.func81, Try.ntmps81
  go_wp2
  go_ret
  exact ⟨rfl, rfl⟩

set_option maxHeartbeats 2000000 in
theorem waits_ok (b m n c : Nat) (a : Option Addr) (ks : List Int) (w : World) (h0 : w.cell? ⟨b, 0, none⟩ = some (.slice a n c)) (hn0 : 0 < n) (hn : n ≤ 100000) (h1 : w.cell? ⟨b, 1, none⟩ = some (.map (some m))) (hm : MapZ w m ks) :
    Calls Try.prog 50 #[.pointer (some ⟨b, 0, none⟩)] w fun e w' => ∃ v, e = .returned v ∧ Own w' 3 1 v ks.length ((sortZ ks).map encZ) ∧ (v = .slice none 0 0 ↔ ks = []) ∧ (∀ k, v.ownBlock = some k → w.heap.size ≤ k) ∧ Fr No w w' := by
  refine (callsIn_wide (n := 6)).1 ?_
  obtain ⟨D0, hown, hperm, hsize⟩ := hm.own
  have hksz : ks.length ≤ 1000000 := by
    obtain ⟨es, clock, _, _, hk, hsz, _⟩ := hm
    have := congrArg List.length hk
    simp at this
    omega
  have hmax : Maps.size D0 ≤ maxLen := by rw [hsize]; unfold maxLen; omega
  have hbytes : Maps.size D0 * 8 ≤ 140737488355328 := by rw [hsize]; omega
  have hbl := hown.lt
  have hseq : SeqGives Fence.wide 2 Try.prog 117 #[.pointer (some ⟨w.heap.size, 0, none⟩)] encZ (fun ss => ss.Perm (intKeys D0)) (Maps.size D0) (w.alloc (.cells #[.map (some m)] 106)) :=
    AnyZI.keys_gives (ρ := Ytnkjhicokcmmpaa.keysL_ren) { Ytnkjhicokcmmpaa.keysL with } Fence.wide _ trivial rfl (by omega) w.heap.size m ks.length D0 _ (by simp) (by simp) (by
      obtain ⟨es, clock, hb, Ft, hs, hD⟩ := hown
      exact ⟨es, clock, (Below.heap_alloc _ _ m hbl).trans hb, Ft, hs, hD⟩)
  have cK : ∀ mb W, CallsIn Fence.wide 5 Try.prog 93 #[.map mb] W fun e w' => e = .returned (.func (.func 117) #[] #[.pointer (some ⟨W.heap.size, 0, none⟩)]) ∧ w' = W.alloc (.cells #[.map mb] 106) := fun mb W => AnyZI.keys_in Ytnkjhicokcmmpaa.keysL Fence.wide 5 trivial rfl mb W
  have cS := AnyZI.sorted_in Ytnkjhicokcmmpaa.sortedL Fence.wide 5 trivial trivial trivial trivial rfl (by omega) (sortsA _) (enters_of Try.func116 (by kernel_rfl) rfl) 117 #[.pointer (some ⟨w.heap.size, 0, none⟩)] trivial (enters_of Try.func117 (by kernel_rfl) rfl) _ _ hmax hbytes _ hseq
  change CallsIn _ _ Try.prog 92 _ _ _ at cS
  have cN : CallsIn Fence.wide 5 Try.prog 81 #[.pointer (some ⟨b, 0, none⟩)] w fun e w' => e = .returned (.bool false) ∧ w = w' :=
    callsIn_wide.2 ((noneD_ok b n c a w h0 hn).mono fun e w' ⟨he, hw⟩ => ⟨by rw [he]; congr 2; simp; omega, hw⟩)
  have hfK : Fence.wide.fn 93 := trivial
  have hfS : Fence.wide.fn 92 := trivial
  have hfN : Fence.wide.fn 81 := trivial
  refine callsIn_of_wp Try.func50 rfl trivial ?_ rfl
  simp only [Try.ntmps50, List.size_toArray, List.length_cons, List.length_nil, Nat.reduceAdd, Nat.reduceSub, Array.replicate_succ, Array.replicate_zero, List.push_toArray, List.append_toArray, List.nil_append, List.cons_append]
  gi_wp2_with (first
    | (gi_at_call 81; refine cN.mono ?_; rintro e w' ⟨rfl, rfl⟩)
    | (gi_at_call 93; refine (cK _ _).mono ?_; rintro e w' ⟨rfl, rfl⟩)
    | (gi_at_call 92; refine cS.mono ?_; rintro e w' ⟨v, ss, rfl, hS, hrow, hnil, hb⟩))
  go_ret
  have hp : ss.Perm ks := hS.trans hperm
  have hsort : ss.mergeSort (fun x y => decide (x ≤ y)) = sortZ ks := mergeSort_of_perm_i hp
  rw [hsort, hp.length_eq] at hrow
  refine ⟨v, rfl, Own.weak hrow, ?_, fun k hk => ?_, ?_⟩
  · rw [hnil]
    constructor
    · rintro rfl; exact hp.nil_eq.symm
    · rintro rfl; exact hp.eq_nil
  · have := (World.ownsRow.lt hrow k hk).1
    simp at this
    omega
  · exact ((Fr.refl No w).alloc _).thn (Fr.of_below hb)
end Go.Proofs.Ytnkjhicokcmmpaa
