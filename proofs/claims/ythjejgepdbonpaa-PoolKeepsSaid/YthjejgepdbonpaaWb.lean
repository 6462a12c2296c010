/-
  What the place of a key in the frames comes to.
-/
import Derived.Test.YthjejgepdbonpaaWa
import Derived.Deep.RegionHeld3
import Derived.Deep.RegionWith
namespace Go.Proofs.Ythjejgepdbonpaa
open Go.RowKit

theorem key_eq (x y p q : Int) (w : World) : (binOp .eql 31 (.agg #[.int .i64 x, .int .i64 y]) (.agg #[.int .i64 p, .int .i64 q])).run Try.prog w = .ok (.bool (x == p && y == q)) w := by
  have e1 : (x == p) = true ∨ (x == p) = false := by cases (x == p) <;> simp
  rcases e1 with h | h
  · go_simp
    by_cases hy : y = q <;> simp [hy]
  · go_simp

theorem key_ne (x y p q : Int) (w : World) : (binOp .neq 31 (.agg #[.int .i64 x, .int .i64 y]) (.agg #[.int .i64 p, .int .i64 q])).run Try.prog w = .ok (.bool (!(x == p && y == q))) w := by
  have e1 : (x == p) = true ∨ (x == p) = false := by cases (x == p) <;> simp
  rcases e1 with h | h
  · go_simp
    by_cases hy : y = q <;> simp [hy]
  · go_simp

set_option maxHeartbeats 400000 in
theorem at1_any (b kb : Nat) (x y p q : Int) (w : World) (hb : b < w.heap.size) (h0 : w.cell? ⟨b, 0, none⟩ = some (.int .i64 x)) (h1 : w.cell? ⟨b, 1, none⟩ = some (.int .i64 y))
    (hk : kb < w.heap.size) (h2 : w.cell? ⟨kb, 0, none⟩ = some (.int .i64 p)) (h3 : w.cell? ⟨kb, 1, none⟩ = some (.int .i64 q)) :
    Calls Try.prog 33 #[.pointer (some ⟨b, 0, none⟩), .pointer (some ⟨kb, 0, none⟩)] w fun e w' => e = .returned (.bool (x == p && y == q)) ∧ Fr No w w' := by
  have hke := key_eq
  go_enter Try.func33, Try.ntmps33
  go_wp2
  go_region_with (go_at_call 27; refine (key_any b x y _ ?_ ?_ ?_).mono ?_; exact hb; exact h0; exact h1; rintro e w1 ⟨rfl, hf⟩; have h2' : w1.cell? ⟨kb, 0, none⟩ = _ := (hf.cell hk (No.no _)).trans h2; have h3' : w1.cell? ⟨kb, 1, none⟩ = _ := (hf.cell hk (No.no _)).trans h3)
  all_goals go_wp2
  all_goals go_ret
  all_goals exact ⟨rfl, ((Fr.refl No w).drew).thn hf⟩

/-- A frame's block and key. -/
structure FK where
  b : Nat
  x : Int
  y : Int

def FK.is (p q : Int) (f : FK) : Bool := f.x == p && f.y == q
def FK.ptr (f : FK) : Value := .pointer (some ⟨f.b, 0, none⟩)
/-- The place of the first frame with that key, or -1. -/
def place (fs : List FK) (p q : Int) : Int := match fs.findIdx? (FK.is p q) with | some i => i | none => -1
/-- Each of these blocks begins with its key. -/
def KeysAt (w : World) (fs : List FK) : Prop := ∀ f ∈ fs, ∃ r, Blk w f.b 67 (.int .i64 f.x :: .int .i64 f.y :: r)
theorem KeysAt.fr {S : Nat → Prop} {w w' : World} {fs : List FK} (h : KeysAt w fs) (hf : Fr S w w') (hn : ∀ f ∈ fs, ¬ S f.b) : KeysAt w' fs := fun f hm => let ⟨r, hr⟩ := h f hm; ⟨r, hr.fr hf (hn f hm)⟩
theorem KeysAt.no {w w' : World} {fs : List FK} (h : KeysAt w fs) (hf : Fr No w w') : KeysAt w' fs := h.fr hf (fun _ _ => No.no _)

theorem place_hit {fs : List FK} {p q : Int} {k : Nat} (hk : k < fs.length) (h : ∀ j (hj : j < k), (fs[j]'(by omega)).is p q = false) (hh : fs[k].is p q = true) : place fs p q = k := by
  unfold place
  rw [(List.findIdx?_eq_some_iff_getElem (i := k)).2 ⟨hk, hh, fun j hj => by simp [h j hj]⟩]
theorem place_miss {fs : List FK} {p q : Int} (h : ∀ j (hj : j < fs.length), fs[j].is p q = false) : place fs p q = -1 := by
  unfold place
  have e : fs.findIdx? (FK.is p q) = none := by
    rw [List.findIdx?_eq_none_iff]
    intro f hf
    obtain ⟨j, hj, rfl⟩ := List.mem_iff_getElem.1 hf
    exact h j hj
  rw [e]

set_option maxHeartbeats 400000 in
theorem indexFunc_some (g n c kb : Nat) (fs : List FK) (p q : Int) (w : World) (ho : Own w 68 1 (.slice (some ⟨g, 0, none⟩) n c) n (fs.map FK.ptr)) (hm : n ≤ 1000000)
    (hk : Blk w kb 31 [.int .i64 p, .int .i64 q]) (hK : KeysAt w fs) :
    Calls Try.prog 32 #[.slice (some ⟨g, 0, none⟩) n c, .func (.func 33) #[] #[.pointer (some ⟨kb, 0, none⟩)]] w fun e w' => e = .returned (.int .i64 (place fs p q)) ∧ Fr No w w' := by
  have hl : n = fs.length := by have := ho.1; simpa using this.symm
  have HL : Hid (n = fs.length) := hl
  clear hl
  go_enter Try.func32, Try.ntmps32
  go_wp2
  go_loopw [8] (fun i wr => ∃ k : Nat, k ≤ n ∧ i = .int .i64 k ∧ (∀ j (hj : j < k) (hl : j < fs.length), fs[j].is p q = false) ∧ Fr No w wr) (fun i _ => n - (intOf i).toNat)
  case atStart => exact ⟨0, Nat.zero_le _, rfl, fun j hj => absurd hj (by omega), Fr.refl _ _⟩
  case round =>
    obtain ⟨k, hk1, rfl, hno, hfr⟩ := hrel
    have HNO : Hid (∀ j (hj : j < k) (hl : j < fs.length), fs[j].is p q = false) := hno
    clear hno
    by_cases hlt : k < n
    · have hlf : k < fs.length := by rw [← HL.out]; exact hlt
      obtain ⟨r, hr⟩ := hK.no hfr fs[k] (List.getElem_mem hlf)
      have hcell : wr.cell? ⟨g, k, none⟩ = some (.pointer (some ⟨(fs[k]'hlf).b, 0, none⟩)) := by
        have := (ho.fr hfr (fun _ _ => No.no _)).cells (g := g) rfl k (fs[k]'hlf).ptr (by simp [hlf])
        simpa [FK.ptr, Addr.add_lit] using this
      have e1 := hr.cell (j := 0) rfl
      have e2 := hr.cell (j := 1) rfl
      have hkr := hk.fr hfr (No.no _)
      obtain ⟨bb, hbb⟩ : ∃ bb, bb = (fs[k]'hlf).b := ⟨_, rfl⟩
      obtain ⟨x, hx⟩ : ∃ x, x = (fs[k]'hlf).x := ⟨_, rfl⟩
      obtain ⟨y, hy⟩ : ∃ y, y = (fs[k]'hlf).y := ⟨_, rfl⟩
      rw [← hbb] at hr hcell e1 e2
      rw [← hx] at hr e1
      rw [← hy] at hr e2
      have HB : Hid (bb = (fs[k]'hlf).b ∧ x = (fs[k]'hlf).x ∧ y = (fs[k]'hlf).y) := ⟨hbb, hx, hy⟩
      clear hbb hx hy
      have HT : (x == p && y == q) = true ∨ (x == p && y == q) = false := by cases (x == p && y == q) <;> simp
      rcases HT with ht | ht
      · go_wp2_with (go_at_call 33; refine (at1_any bb kb x y p q _ ?_ ?_ ?_ ?_ ?_ ?_).mono ?_; exact hr.lt; exact e1; exact e2; exact hkr.lt; exact hkr.cell (j := 0) rfl; exact hkr.cell (j := 1) rfl; rintro e w1 ⟨rfl, hf⟩)
        go_ret
        refine ⟨?_, hfr.thn hf⟩
        rw [place_hit hlf (fun j hj => HNO.out j hj _) (by unfold FK.is; rw [← HB.out.2.1, ← HB.out.2.2]; exact ht)]
        rfl
      · go_wp2_with (go_at_call 33; refine (at1_any bb kb x y p q _ ?_ ?_ ?_ ?_ ?_ ?_).mono ?_; exact hr.lt; exact e1; exact e2; exact hkr.lt; exact hkr.cell (j := 0) rfl; exact hkr.cell (j := 1) rfl; rintro e w1 ⟨rfl, hf⟩)
        go_roundw
        case rel =>
          refine ⟨k + 1, by omega, by go_num, ?_, hfr.thn hf⟩
          intro j hj hl
          by_cases e : j = k
          · subst e
            unfold FK.is
            rw [← HB.out.2.1, ← HB.out.2.2]
            exact ht
          · exact HNO.out j (by omega) hl
        case measure => simp [intOf]; omega
    · go_wp2
      go_ret
      refine ⟨?_, hfr⟩
      rw [place_miss (fun j hj => HNO.out j (by have := HL.out; omega) hj)]
      rfl

set_option maxHeartbeats 400000 in
theorem indexFunc_nil (kb : Nat) (w : World) :
    Calls Try.prog 32 #[.slice none 0 0, .func (.func 33) #[] #[.pointer (some ⟨kb, 0, none⟩)]] w fun e w' => e = .returned (.int .i64 (-1)) ∧ w = w' := by
  go_enter Try.func32, Try.ntmps32
  go_wp2
  refine wp_loop_rounds 1 ?_
  rw [rounds_succ]
  go_wp2
  go_ret
  exact ⟨rfl, rfl⟩

set_option maxHeartbeats 400000 in
theorem at_any (pb kb : Nat) (v0 v1 fv : Value) (fs : List FK) (p q : Int) (w : World) (hP : Blk w pb 64 [v0, v1, fv]) (ho : Own w 68 1 fv fs.length (fs.map FK.ptr)) (hm : fs.length ≤ 1000000) (hK : KeysAt w fs) :
    Calls Try.prog 23 #[.pointer (some ⟨pb, 0, none⟩), .agg #[.int .i64 p, .int .i64 q]] w fun e w' => e = .returned (.int .i64 (place fs p q)) ∧ Fr No w w' := by
  have c2 := hP.cell (j := 2) rfl
  have hlt := hP.lt
  rcases ho.cases with ⟨rfl, h1, h2⟩ | ⟨g, c, rfl⟩
  · have e : fs = [] := List.eq_nil_of_length_eq_zero h1
    subst e
    go_enter Try.func23, Try.ntmps23
    go_wp2_with (go_at_call 32; refine (indexFunc_nil _ _).mono ?_; rintro e w1 ⟨rfl, rfl⟩)
    go_ret
    exact ⟨rfl, (Fr.refl No w).alloc _⟩
  · go_enter Try.func23, Try.ntmps23
    go_wp2_with (go_at_call 32; refine (indexFunc_some g _ c _ fs p q _ ?_ ?_ ?_ ?_).mono ?_; exact ho.fr ((Fr.refl No w).alloc _) (fun _ _ => No.no _); exact hm; exact Blk.new w _ _; exact hK.no ((Fr.refl No w).alloc _); rintro e w1 ⟨rfl, hf⟩)
    go_ret
    exact ⟨rfl, ((Fr.refl No w).alloc _).thn hf⟩

end Go.Proofs.Ythjejgepdbonpaa
