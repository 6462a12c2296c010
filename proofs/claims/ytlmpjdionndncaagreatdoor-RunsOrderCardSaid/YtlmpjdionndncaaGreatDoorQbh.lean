/-
  Texts of this claim, laid together: Rl, Rm.
-/
import Derived.Test.YtlmpjdionndncaaGreatDoorQaa
import Derived.IntWalk
import Derived.Lib.Hide
import Derived.Deep.RegionWith
import Derived.Deep.RegionHeld3
import Derived.BigQuiet

namespace Go.Proofs.YtlmpjdionndncaaGreatDoor
open Go Go.RowKit
theorem blk1 {w w1 : World} {S : Nat → Prop} {o1 o3 : Obj} {T : TypeId} {l : List Value} (h : Fr S (((w.alloc o1).alloc (.cells l.toArray T)).alloc o3) w1) (hn : ¬ S (w.heap.size + 1)) : Blk w1 (w.heap.size + 1) T l := by
 have := (Blk.new (w.alloc o1) T l).alloc o3
 rw [show (w.alloc o1).heap.size = w.heap.size + 1 by simp] at this
 exact this.fr h hn
theorem blk2 {w w1 : World} {S : Nat → Prop} {o1 o2 : Obj} {T : TypeId} {l : List Value} (h : Fr S (((w.alloc o1).alloc o2).alloc (.cells l.toArray T)) w1) (hn : ¬ S (w.heap.size + 1 + 1)) : Blk w1 (w.heap.size + 1 + 1) T l := by
 have := Blk.new ((w.alloc o1).alloc o2) T l
 rw [show ((w.alloc o1).alloc o2).heap.size = w.heap.size + 1 + 1 by simp] at this
 exact this.fr h hn
theorem blk0 {w w1 : World} {S : Nat → Prop} {o2 o3 : Obj} {T : TypeId} {l : List Value} (h : Fr S (((w.alloc (.cells l.toArray T)).alloc o2).alloc o3) w1) (hn : ¬ S w.heap.size) : Blk w1 w.heap.size T l :=
 (((Blk.new w T l).alloc o2).alloc o3).fr h hn
def cmpZ (x y : Int) : Int := if x < y then -1 else if y < x then 1 else 0
theorem nan_any (x : Int) (w : World) : Calls Tryz.prog 96 #[.int .i64 x] w (fun e w' => e = .returned (.bool false) ∧ Fr No w w') := by
 go_enter Tryz.func96, Tryz.ntmps96
 go_wp2
 go_ret
 exact ⟨by simp, Fr.refl No w⟩
set_option maxHeartbeats 1000000 in
theorem cmp_any (x y : Int) (w : World) : Calls Tryz.prog 57 #[.int .i64 x, .int .i64 y] w (fun e w' => e = .returned (.int .i64 (cmpZ x y)) ∧ Fr No w w') := by
 have hs : (x < y ∧ cmpZ x y = -1) ∨ (¬ x < y ∧ y < x ∧ cmpZ x y = 1) ∨ (¬ x < y ∧ ¬ y < x ∧ cmpZ x y = 0) := by
   unfold cmpZ
   by_cases h1 : x < y
   · exact .inl ⟨h1, if_pos h1⟩
   · by_cases h2 : y < x
     · exact .inr (.inl ⟨h1, h2, by rw [if_neg h1, if_pos h2]⟩)
     · exact .inr (.inr ⟨h1, h2, by rw [if_neg h1, if_neg h2]⟩)
 rcases hs with ⟨h1, hv⟩ | ⟨h1, h2, hv⟩ | ⟨h1, h2, hv⟩
 · have d1 : decide (x < y) = true := by simpa using h1
   rw [hv]
   clear hv
   go_enter Tryz.func57, Tryz.ntmps57
   go_wp2_with (first | (go_at_call 96; refine (nan_any _ _).mono ?_; rintro e w1 ⟨rfl, hf1⟩) | fail)
   go_ret
   exact ⟨rfl, Fr.thn (by assumption) hf1⟩
 · have d1 : decide (x < y) = false := by simpa using h1
   have d2 : decide (y < x) = true := by simpa using h2
   rw [hv]
   clear hv
   go_enter Tryz.func57, Tryz.ntmps57
   go_wp2_with (first | (go_at_call 96; refine (nan_any _ _).mono ?_; rintro e w1 ⟨rfl, hf1⟩) | fail)
   go_ret
   exact ⟨rfl, Fr.thn (by assumption) hf1⟩
 · have d1 : decide (x < y) = false := by simpa using h1
   have d2 : decide (y < x) = false := by simpa using h2
   rw [hv]
   clear hv
   go_enter Tryz.func57, Tryz.ntmps57
   go_wp2_with (first | (go_at_call 96; refine (nan_any _ _).mono ?_; rintro e w1 ⟨rfl, hf1⟩) | fail)
   go_ret
   exact ⟨rfl, Fr.thn (by assumption) hf1⟩
def orZ (n m : Int) : Int := if n = 0 then m else n
set_option maxHeartbeats 1000000 in
theorem or_any (g : Nat) (n m : Int) (w : World) (h0 : w.cell? ⟨g, 0, none⟩ = some (.int .i64 n)) (h1 : w.cell? ⟨g, 1, none⟩ = some (.int .i64 m)) :
   Calls Tryz.prog 58 #[.slice (some ⟨g, 0, none⟩) 2 2] w (fun e w' => e = .returned (.int .i64 (orZ n m)) ∧ Fr No w w') := by
 have hf0 : Fr No w w := Fr.refl No w
 by_cases hn : n = 0
 · subst hn
   have hv : orZ 0 m = m := if_pos rfl
   rw [hv]
   clear hv
   by_cases hm : m = 0
   · subst hm
     go_enter Tryz.func58, Tryz.ntmps58
     go_wp2
     refine wp_loop_rounds 3 ?_
     rw [rounds_succ]
     go_wp2
     rw [rounds_succ]
     go_wp2
     rw [rounds_succ]
     go_wp2
     go_ret
     exact ⟨rfl, hf0⟩
   · have dm : (m != 0) = true := by simpa using hm
     go_enter Tryz.func58, Tryz.ntmps58
     go_wp2
     refine wp_loop_rounds 2 ?_
     rw [rounds_succ]
     go_wp2
     rw [rounds_succ]
     go_wp2
     go_ret
     exact ⟨rfl, hf0⟩
 · have hv : orZ n m = n := if_neg hn
   have dn : (n != 0) = true := by simpa using hn
   rw [hv]
   clear hv
   go_enter Tryz.func58, Tryz.ntmps58
   go_wp2
   refine wp_loop_rounds 2 ?_
   rw [rounds_succ]
   go_wp2
   go_ret
   exact ⟨rfl, hf0⟩
def ordZ (d : Bool) (a p b q : Int) : Int := orZ (if d then -(cmpZ a b) else cmpZ a b) (cmpZ p q)
theorem cmpZ_cases (x y : Int) : cmpZ x y = -1 ∨ cmpZ x y = 0 ∨ cmpZ x y = 1 := by
 unfold cmpZ; split
 · exact .inl rfl
 · split
   · exact .inr (.inr rfl)
   · exact .inr (.inl rfl)
set_option maxHeartbeats 2000000 in
set_option maxRecDepth 100000 in
theorem ord_at (d : Bool) (a p b q n r : Int) (hn : n = -1 ∨ n = 0 ∨ n = 1) (ha : cmpZ a b = n) (hr : r = orZ (if d then -n else n) (cmpZ p q)) (w : World) :
   Calls Tryz.prog 31 #[.agg #[.bool d], .agg #[.int .i64 a, .int .i64 p], .agg #[.int .i64 b, .int .i64 q]] w (fun e w' => e = .returned (.int .i64 r) ∧ Fr No w w') := by
 have HA := Lib.hid ha
 have HR := Lib.hid hr
 clear ha hr
 rcases hn with rfl | rfl | rfl <;> cases d
 case inl.false =>
   go_enter Tryz.func31, Tryz.ntmps31
   go_wp2_with (go_at_call 57; refine (cmp_any _ _ _).mono ?_; rw [HA.out]; rintro e w1 ⟨rfl, hf1⟩; have k0 := blk0 (l := [_]) hf1 (No.no _); have k1 := blk1 (l := [_, _]) hf1 (No.no _); have k2 := blk2 (l := [_, _]) hf1 (No.no _); have c0 := k0.cell (j := 0) rfl; have c1 := k1.cell (j := 1) rfl; have c2 := k2.cell (j := 1) rfl; clear k0 k1 k2)
   refine (cmp_any _ _ _).mono ?_
   rintro e w2 ⟨rfl, hf2⟩
   go_wp2_with (go_at_call 58; refine (or_any w2.heap.size (-1) (cmpZ p q) _ (by simp) (by simp)).mono ?_; rintro e w3 ⟨rfl, hf3⟩)
   go_ret
   exact ⟨by rw [HR.out]; simp, ((((((Fr.refl No w).alloc _).alloc _).alloc _).thn hf1).thn hf2 |>.alloc _).thn hf3⟩
 case inl.true =>
   go_enter Tryz.func31, Tryz.ntmps31
   go_wp2_with (go_at_call 57; refine (cmp_any _ _ _).mono ?_; rw [HA.out]; rintro e w1 ⟨rfl, hf1⟩; have k0 := blk0 (l := [_]) hf1 (No.no _); have k1 := blk1 (l := [_, _]) hf1 (No.no _); have k2 := blk2 (l := [_, _]) hf1 (No.no _); have c0 := k0.cell (j := 0) rfl; have c1 := k1.cell (j := 1) rfl; have c2 := k2.cell (j := 1) rfl; clear k0 k1 k2)
   refine (cmp_any _ _ _).mono ?_
   rintro e w2 ⟨rfl, hf2⟩
   go_wp2_with (go_at_call 58; refine (or_any w2.heap.size 1 (cmpZ p q) _ (by simp) (by simp)).mono ?_; rintro e w3 ⟨rfl, hf3⟩)
   go_ret
   exact ⟨by rw [HR.out]; simp, ((((((Fr.refl No w).alloc _).alloc _).alloc _).thn hf1).thn hf2 |>.alloc _).thn hf3⟩
 case inr.inl.false =>
   go_enter Tryz.func31, Tryz.ntmps31
   go_wp2_with (go_at_call 57; refine (cmp_any _ _ _).mono ?_; rw [HA.out]; rintro e w1 ⟨rfl, hf1⟩; have k0 := blk0 (l := [_]) hf1 (No.no _); have k1 := blk1 (l := [_, _]) hf1 (No.no _); have k2 := blk2 (l := [_, _]) hf1 (No.no _); have c0 := k0.cell (j := 0) rfl; have c1 := k1.cell (j := 1) rfl; have c2 := k2.cell (j := 1) rfl; clear k0 k1 k2)
   refine (cmp_any _ _ _).mono ?_
   rintro e w2 ⟨rfl, hf2⟩
   go_wp2_with (go_at_call 58; refine (or_any w2.heap.size 0 (cmpZ p q) _ (by simp) (by simp)).mono ?_; rintro e w3 ⟨rfl, hf3⟩)
   go_ret
   exact ⟨by rw [HR.out]; simp, ((((((Fr.refl No w).alloc _).alloc _).alloc _).thn hf1).thn hf2 |>.alloc _).thn hf3⟩
 case inr.inl.true =>
   go_enter Tryz.func31, Tryz.ntmps31
   go_wp2_with (go_at_call 57; refine (cmp_any _ _ _).mono ?_; rw [HA.out]; rintro e w1 ⟨rfl, hf1⟩; have k0 := blk0 (l := [_]) hf1 (No.no _); have k1 := blk1 (l := [_, _]) hf1 (No.no _); have k2 := blk2 (l := [_, _]) hf1 (No.no _); have c0 := k0.cell (j := 0) rfl; have c1 := k1.cell (j := 1) rfl; have c2 := k2.cell (j := 1) rfl; clear k0 k1 k2)
   refine (cmp_any _ _ _).mono ?_
   rintro e w2 ⟨rfl, hf2⟩
   go_wp2_with (go_at_call 58; refine (or_any w2.heap.size 0 (cmpZ p q) _ (by simp) (by simp)).mono ?_; rintro e w3 ⟨rfl, hf3⟩)
   go_ret
   exact ⟨by rw [HR.out]; simp, ((((((Fr.refl No w).alloc _).alloc _).alloc _).thn hf1).thn hf2 |>.alloc _).thn hf3⟩
 case inr.inr.false =>
   go_enter Tryz.func31, Tryz.ntmps31
   go_wp2_with (go_at_call 57; refine (cmp_any _ _ _).mono ?_; rw [HA.out]; rintro e w1 ⟨rfl, hf1⟩; have k0 := blk0 (l := [_]) hf1 (No.no _); have k1 := blk1 (l := [_, _]) hf1 (No.no _); have k2 := blk2 (l := [_, _]) hf1 (No.no _); have c0 := k0.cell (j := 0) rfl; have c1 := k1.cell (j := 1) rfl; have c2 := k2.cell (j := 1) rfl; clear k0 k1 k2)
   refine (cmp_any _ _ _).mono ?_
   rintro e w2 ⟨rfl, hf2⟩
   go_wp2_with (go_at_call 58; refine (or_any w2.heap.size 1 (cmpZ p q) _ (by simp) (by simp)).mono ?_; rintro e w3 ⟨rfl, hf3⟩)
   go_ret
   exact ⟨by rw [HR.out]; simp, ((((((Fr.refl No w).alloc _).alloc _).alloc _).thn hf1).thn hf2 |>.alloc _).thn hf3⟩
 case inr.inr.true =>
   go_enter Tryz.func31, Tryz.ntmps31
   go_wp2_with (go_at_call 57; refine (cmp_any _ _ _).mono ?_; rw [HA.out]; rintro e w1 ⟨rfl, hf1⟩; have k0 := blk0 (l := [_]) hf1 (No.no _); have k1 := blk1 (l := [_, _]) hf1 (No.no _); have k2 := blk2 (l := [_, _]) hf1 (No.no _); have c0 := k0.cell (j := 0) rfl; have c1 := k1.cell (j := 1) rfl; have c2 := k2.cell (j := 1) rfl; clear k0 k1 k2)
   refine (cmp_any _ _ _).mono ?_
   rintro e w2 ⟨rfl, hf2⟩
   go_wp2_with (go_at_call 58; refine (or_any w2.heap.size (-1) (cmpZ p q) _ (by simp) (by simp)).mono ?_; rintro e w3 ⟨rfl, hf3⟩)
   go_ret
   exact ⟨by rw [HR.out]; simp, ((((((Fr.refl No w).alloc _).alloc _).alloc _).thn hf1).thn hf2 |>.alloc _).thn hf3⟩
theorem ord_any (d : Bool) (a p b q : Int) (w : World) :
   Calls Tryz.prog 31 #[.agg #[.bool d], .agg #[.int .i64 a, .int .i64 p], .agg #[.int .i64 b, .int .i64 q]] w (fun e w' => e = .returned (.int .i64 (ordZ d a p b q)) ∧ Fr No w w') :=
 ord_at d a p b q _ _ (cmpZ_cases a b) rfl rfl w
def lessZ (d : Bool) (a p b q : Int) : Bool := decide (ordZ d a p b q < 0)
set_option maxHeartbeats 2000000 in
set_option maxRecDepth 100000 in
theorem less_any (d : Bool) (a p b q : Int) (w : World) :
   Calls Tryz.prog 8 #[.bool d, .agg #[.int .i64 a, .int .i64 p], .agg #[.int .i64 b, .int .i64 q]] w (fun e w' => e = .returned (.bool (lessZ d a p b q)) ∧ Fr No w w') := by
 unfold lessZ
 go_enter Tryz.func8, Tryz.ntmps8
 go_wp2_with (go_at_call 31; refine (ord_any _ _ _ _ _ _).mono ?_; rintro e w1 ⟨rfl, hf1⟩)
 go_ret
 exact ⟨rfl, (((Fr.refl No w).alloc _).alloc _).thn hf1⟩
theorem lessZ_iff (d : Bool) (a p b q : Int) : lessZ d a p b q = true ↔ ((a < b ∧ d = false) ∨ (b < a ∧ d = true) ∨ (a = b ∧ p < q)) := by
 unfold lessZ ordZ orZ cmpZ
 rw [decide_eq_true_eq]
 cases d
 · simp only [Bool.false_eq_true, if_false]
   by_cases h1 : a < b
   · simp [h1]
   · by_cases h2 : b < a
     · simp [h1, h2]; omega
     · have : a = b := by omega
       subst this
       simp
       by_cases h3 : p < q
       · simp [h3]
       · by_cases h4 : q < p <;> simp [h3, h4]
 · simp only [if_true]
   by_cases h1 : a < b
   · simp [h1]; omega
   · by_cases h2 : b < a
     · simp [h1, h2]
     · have : a = b := by omega
       subst this
       simp
       by_cases h3 : p < q
       · simp [h3]
       · by_cases h4 : q < p <;> simp [h3, h4]
theorem lessZ_false (d : Bool) (a p b q : Int) : lessZ d a p b q = false ↔ ¬ ((a < b ∧ d = false) ∨ (b < a ∧ d = true) ∨ (a = b ∧ p < q)) := by
 rw [← lessZ_iff, Bool.not_eq_true]
theorem two_cells {w : World} {b c : Nat} {T : TypeId} {x0 x1 y0 y1 : Value} (h : Blk w b T [x0, x1]) (k : Blk w c T [y0, y1]) : w.cell? ⟨b, 0, none⟩ = some x0 ∧ w.cell? ⟨b, 1, none⟩ = some x1 ∧ w.cell? ⟨c, 0, none⟩ = some y0 ∧ w.cell? ⟨c, 1, none⟩ = some y1 := ⟨h.cell rfl, h.cell rfl, k.cell rfl, k.cell rfl⟩
set_option maxHeartbeats 4000000 in
set_option maxRecDepth 100000 in
theorem order_walk (HW : ∀ w, Calls Tryz.prog 7 #[] w (fun e w' => e = .returned (.bool true) ∧ Fr No w w')) (a b c p q r : Int) (d : Bool) (w : World) :
   Calls Tryz.prog 3 #[.int .i64 a, .int .i64 b, .int .i64 c, .int .i64 p, .int .i64 q, .int .i64 r, .bool d] w (fun e w' => e = .returned (.bool true) ∧ Fr No w w') := by
 have HA := Lib.hid HW
 clear HW
 obtain ⟨o1, h1⟩ : ∃ o, o = lessZ d a p b q := ⟨_, rfl⟩
 obtain ⟨o2, h2⟩ : ∃ o, o = lessZ d b q a p := ⟨_, rfl⟩
 have H1 := Lib.hid h1.symm
 have H2 := Lib.hid h2.symm
 clear h1 h2
 go_enter Tryz.func3, Tryz.ntmps3
 go_wp2_with (go_at_call 7; refine (HA.out _).mono ?_; rintro e w1 ⟨rfl, hf1⟩)
 have X := blk0 (l := [_, _]) (Fr.refl No (((w1.alloc (Obj.cells #[Value.int IntKind.i64 a, Value.int IntKind.i64 p] 24)).alloc (Obj.cells #[Value.int IntKind.i64 b, Value.int IntKind.i64 q] 24)).alloc (Obj.cells #[Value.int IntKind.i64 c, Value.int IntKind.i64 r] 24))) (No.no _)
 have Y := blk1 (l := [_, _]) (Fr.refl No (((w1.alloc (Obj.cells #[Value.int IntKind.i64 a, Value.int IntKind.i64 p] 24)).alloc (Obj.cells #[Value.int IntKind.i64 b, Value.int IntKind.i64 q] 24)).alloc (Obj.cells #[Value.int IntKind.i64 c, Value.int IntKind.i64 r] 24))) (No.no _)
 have Z := blk2 (l := [_, _]) (Fr.refl No (((w1.alloc (Obj.cells #[Value.int IntKind.i64 a, Value.int IntKind.i64 p] 24)).alloc (Obj.cells #[Value.int IntKind.i64 b, Value.int IntKind.i64 q] 24)).alloc (Obj.cells #[Value.int IntKind.i64 c, Value.int IntKind.i64 r] 24))) (No.no _)
 have hF := ((hf1.alloc (Obj.cells #[Value.int IntKind.i64 a, Value.int IntKind.i64 p] 24)).alloc (Obj.cells #[Value.int IntKind.i64 b, Value.int IntKind.i64 q] 24)).alloc (Obj.cells #[Value.int IntKind.i64 c, Value.int IntKind.i64 r] 24)
 obtain ⟨W, hW⟩ : ∃ W, W = (((w1.alloc (Obj.cells #[Value.int IntKind.i64 a, Value.int IntKind.i64 p] 24)).alloc (Obj.cells #[Value.int IntKind.i64 b, Value.int IntKind.i64 q] 24)).alloc (Obj.cells #[Value.int IntKind.i64 c, Value.int IntKind.i64 r] 24)) := ⟨_, rfl⟩
 rw [← hW] at X Y Z hF ⊢
 clear hW hf1
 obtain ⟨gx, hgx⟩ : ∃ g, g = w1.heap.size := ⟨_, rfl⟩
 obtain ⟨gy, hgy⟩ : ∃ g, g = w1.heap.size + 1 := ⟨_, rfl⟩
 obtain ⟨gz, hgz⟩ : ∃ g, g = w1.heap.size + 1 + 1 := ⟨_, rfl⟩
 rw [← hgz] at Z ⊢
 rw [← hgy] at Y ⊢
 rw [← hgx] at X ⊢
 clear hgx hgy hgz
 have x0 := X.cell (j := 0) rfl
 have x1 := X.cell (j := 1) rfl
 have y0 := Y.cell (j := 0) rfl
 have y1 := Y.cell (j := 1) rfl
 go_region_held3 (fun w' => w'.cell? ⟨gx, 0, none⟩ = some (.int .i64 a) ∧ w'.cell? ⟨gx, 1, none⟩ = some (.int .i64 p) ∧ w'.cell? ⟨gy, 0, none⟩ = some (.int .i64 b) ∧ w'.cell? ⟨gy, 1, none⟩ = some (.int .i64 q)) (first | exact two_cells X3 Y3 | exact two_cells X2 Y2 | exact two_cells X.drew Y.drew)
   (first | (have hq := X2; go_at_call 8; refine (less_any d b q a p _).mono ?_; rw [H2.out]; rintro e w3 ⟨rfl, hf3⟩; have X3 := X2.fr hf3 (No.no _); have Y3 := Y2.fr hf3 (No.no _)) | (go_at_call 8; refine (less_any d a p b q _).mono ?_; rw [H1.out]; rintro e w2 ⟨rfl, hf2⟩; have X2 := X.drew.fr hf2 (No.no _); have Y2 := Y.drew.fr hf2 (No.no _)))
 have Z3 := (Z.drew.fr hf2 (No.no _)).fr hf3 (No.no _)
 have hF3 := hF.thn (((Fr.refl No W).drew).thn hf2 |>.thn hf3)
 clear x0 x1 y0 y1 X2 Y2 hq X Y Z hf2 hf3 hF
 have x0 := X3.cell (j := 0) rfl
 have x1 := X3.cell (j := 1) rfl
 have y0 := Y3.cell (j := 0) rfl
 have y1 := Y3.cell (j := 1) rfl
 have z0 := Z3.cell (j := 0) rfl
 have z1 := Z3.cell (j := 1) rfl
 have HX := Lib.hid X3
 have HY := Lib.hid Y3
 have HZ := Lib.hid Z3
 have HF := Lib.hid hF3
 clear X3 Y3 Z3 hF3
 rename_i hHeld
 clear hHeld
 cases o1 <;> cases o2
 all_goals go_wp2_with (go_at_call 8; refine (less_any _ _ _ _ _ _).mono ?_; rintro e w4 ⟨rfl, hf4⟩; have HX := Lib.hid (HX.out.fr hf4 (No.no _)); have HY := Lib.hid (HY.out.fr hf4 (No.no _)); have HZ := Lib.hid (HZ.out.fr hf4 (No.no _)); have HF := Lib.hid (HF.out.thn hf4); have x0 := HX.out.cell (j := 0) rfl; have x1 := HX.out.cell (j := 1) rfl; have y0 := HY.out.cell (j := 0) rfl; have y1 := HY.out.cell (j := 1) rfl; have z0 := HZ.out.cell (j := 0) rfl; have z1 := HZ.out.cell (j := 1) rfl)
 all_goals go_ret
 all_goals refine ⟨congrArg (fun b => Ending.returned (Value.bool b)) (?_ : _ = true), HF.out⟩
 all_goals
   have e1 := H1.out
   have e2 := H2.out
   clear H1 H2 HF HX HY HZ x0 x1 y0 y1 z0 z1
   cases d <;> simp only [Bool.not_eq_true', Bool.not_eq_false', Bool.not_eq_true, Bool.not_eq_false, Bool.true_eq_false, Bool.false_eq_true, and_true, and_false, true_and, false_and, or_false, false_or, not_false_eq_true, not_true_eq_false, Bool.and_eq_true, Bool.not_true, Bool.not_false, beq_iff_eq, beq_eq_false_iff_ne, ne_eq, decide_eq_true_eq, decide_eq_false_iff_not, lessZ_iff, lessZ_false] at * <;> omega
end Go.Proofs.YtlmpjdionndncaaGreatDoor
