/-
  A sector's record: what the program's Decode comes to.
-/
import Derived.Test.YtnkjhicokcmmpaaJc
namespace Go.Proofs.Ytnkjhicokcmmpaa
open Go.RowKit Go.Shelf

theorem decRec_of_some {b : List UInt8} {e n : Nat} {p : List UInt8} (h : decRec b = some ⟨e, n, p⟩) : decRecOf b = ⟨e, n, p⟩ ∧ decRecE b = 0 := by
  unfold decRecOf decRecE
  rw [h]
  exact ⟨rfl, rfl⟩
theorem decRec_of_none {b : List UInt8} (h : decRec b = none) : decRecOf b = .zero ∧ decRecE b = 80 := by
  unfold decRecOf decRecE
  rw [h]
  exact ⟨rfl, rfl⟩
theorem OIn.nil (N : Nat) (w : World) : OIn N w (.slice none 0 0) [] := ⟨World.ownsRow_nil _ _ _ _, fun k hk => by simp [Value.ownBlock] at hk⟩

set_option maxRecDepth 100000 in
set_option maxHeartbeats 1000000 in
theorem jdecode_any (a : Option Addr) (n c : Nat) (b : List UInt8) (w : World) (h : Win w a n c (b.map byt)) (hb : n ≤ 1000) :
    Calls Try.prog 35 #[.slice a n c] w fun o w' => ∃ v, o = .returned (.tuple #[.int .u64 (decRecOf b).e, .int .u64 (decRecOf b).n, v, .int .i64 (decRecE b)]) ∧ OIn w.heap.size w' v (decRecOf b).p ∧ Fr No w w' := by
  have hbl : b.length = n := by have := h.len; simpa using this
  have hbm : b.length ≤ 1000000 := by omega
  have HBL := Lib.hid hbl
  clear hbl
  go_enter Try.func35, Try.ntmps35
  go_wp2_with fail
  refine (readN a n c b _ h (by omega)).mono ?_
  rintro o w1 ⟨rb, v, rfl, h1, g1⟩
  go_wp2_with fail
  refine (rrawN w.heap.size rb 0 3 v b hbm _ g1.size h1).mono ?_
  rintro o w2 ⟨u2, c2, m2, p2, cs2, rfl, _, _, _, e2, h2, g2⟩
  have E2 := Lib.hid e2
  clear e2 h1
  go_wp2_with fail
  refine (rnumN w.heap.size rb p2 1 v b hbm (by omega) _ h2).mono ?_
  rintro o w3 ⟨x3, c3, p3, rfl, l3, e3, h3, g3⟩
  have E3 := Lib.hid e3
  clear e3 h2
  go_wp2_with fail
  refine (rnumN w.heap.size rb p3 8 v b hbm (by omega) _ h3).mono ?_
  rintro o w4 ⟨x4, c4, p4, rfl, l4, e4, h4, g4⟩
  have E4 := Lib.hid e4
  clear e4 h3
  go_wp2_with fail
  refine (rnumN w.heap.size rb p4 8 v b hbm (by omega) _ h4).mono ?_
  rintro o w5 ⟨x5, c5, p5, rfl, l5, e5, h5, g5⟩
  have E5 := Lib.hid e5
  clear e5 h4
  have hw3 : wrap64 (x3 : Int) = (x3 : Int) := Go.IntWalk.wrap64_in _ (by simp at l3; omega)
  have hall5 : From w.heap.size w w5 := From.t (g1.no_any) ((From.t g2 g3).t (From.t g4 g5))
  clear g1 g2 g3 g4 g5
  go_wp2_with fail
  refine (rrawN w.heap.size rb p5 x3 v b hbm _ hall5.size h5).mono ?_
  rintro o w6 ⟨u6, c6, m6, p6, p, rfl, o6, m6l, n6, e6, h6, g6⟩
  have E6 := Lib.hid e6
  clear e6 h5 h6
  obtain rfl : m6 = p.length := by have := o6.1; simpa using this.symm
  have hX : b.length = 128 → x3 = recSize b ∧ x4 = wh ((b.drop 4).take 8) ∧ x5 = wh ((b.drop 12).take 8) := by
    intro hl
    obtain ⟨-, -, hp2⟩ := E2.out (by omega)
    obtain ⟨hx3, hp3⟩ := E3.out (by omega)
    obtain ⟨hx4, hp4⟩ := E4.out (by omega)
    obtain ⟨hx5, hp5⟩ := E5.out (by omega)
    unfold recSize
    rw [hx3, hx4, hx5, hp4, hp3, hp2]
    exact ⟨rfl, rfl, rfl⟩
  have hP : b.length = 128 → 20 + x3 ≤ 128 → p = (b.drop 20).take x3 := by
    intro hl hs
    obtain ⟨-, -, hp2⟩ := E2.out (by omega)
    obtain ⟨hx3, hp3⟩ := E3.out (by omega)
    obtain ⟨hx4, hp4⟩ := E4.out (by omega)
    obtain ⟨hx5, hp5⟩ := E5.out (by omega)
    obtain ⟨hx6, _, _⟩ := E6.out (by omega)
    rw [hx6, show p5 = 20 by omega]
  have hlo6 : ∀ k, u6.ownBlock = some k → w.heap.size ≤ k := fun k hk => Nat.le_trans hall5.size (n6 k hk)
  have hall : From w.heap.size w w6 := hall5.t g6
  have hO6 : OIn w.heap.size w6 u6 p := ⟨o6, hlo6⟩
  have l4' : x4 < 2 ^ 64 := by simpa using l4
  have l5' : x5 < 2 ^ 64 := by simpa using l5
  have HX := Lib.hid hX
  have HP := Lib.hid hP
  have HO := Lib.hid hO6
  obtain ⟨au, cu, rfl, wu⟩ := Win.of_own o6
  have HWU := Lib.hid wu
  have HW := Lib.hid h
  clear l3 l4 l5 E2 E3 E4 E5 E6 o6 hlo6 n6 hX hP hO6 g6 hall5 m6l wu h
  rcases Bool.eq_false_or_eq_true (recOk x5 p.length) with hok | hok
  · have h50 : x5 ≠ 0 := by intro h0; simp [recOk, h0] at hok
    have hpl : p.length ≤ 64 := by simp [recOk] at hok; omega
    have HOK := Lib.hid hok
    have H50 := Lib.hid h50
    clear hok h50
    go_wp2_with fail
    refine (jencode_ok x4 x5 l4' l5' H50.out au cu p hpl _ HWU.out).mono ?_
    rintro o w7 ⟨g7, c7, rfl, o7, n7, f7⟩
    have hw7 : Win w7 a n c (b.map byt) := HW.out.old (S := fun k => w.heap.size ≤ k) (hall.t f7.no_any) (fun k hk => by omega)
    obtain ⟨Y, hY⟩ : ∃ Y, Y = recBytes x4 x5 p := ⟨_, rfl⟩
    rw [← hY] at o7
    have HY := Lib.hid hY
    clear hY
    have hO7 := Lib.hid (HO.out.no f7)
    have hfin : Fr No w w7 := (hall.t f7.no_any).no (Nat.le_refl _)
    by_cases heq : Y = b
    · have hd : decide (Y = b) = true := decide_eq_true heq
      have hdec := decRec_of_some (rec_some HX.out HP.out H50.out hpl (by rw [← HY.out]; exact heq))
      have HD := Lib.hid hdec
      clear hdec heq
      go_wp2_with (go_at_call 74; refine (equal_any _ _ 128 c7 n c Y b _ (Win.of_own' o7) hw7).mono ?_; rintro o w8 ⟨rfl, rfl⟩; rw [hd])
      refine bodyPost_ret (v := .tuple #[.int .u64 x4, .int .u64 x5, .slice au p.length cu, .int .i64 0]) (by simp [results, Try.results35, go_sem]) rfl ?_
      refine ⟨.slice au p.length cu, ?_, ?_, hfin⟩
      · rw [HD.out.1, HD.out.2]
      · rw [HD.out.1]; exact hO7.out
    · have hd : decide (Y = b) = false := decide_eq_false heq
      have hdec := decRec_of_none (rec_none HX.out HP.out (.inr (by rw [← HY.out]; exact heq)))
      have HD := Lib.hid hdec
      clear hdec heq
      go_wp2_with (go_at_call 74; refine (equal_any _ _ 128 c7 n c Y b _ (Win.of_own' o7) hw7).mono ?_; rintro o w8 ⟨rfl, rfl⟩; rw [hd])
      refine bodyPost_ret (v := .tuple #[.int .u64 0, .int .u64 0, .slice none 0 0, .int .i64 80]) (by simp [results, Try.results35, go_sem]) rfl ?_
      refine ⟨.slice none 0 0, ?_, ?_, hfin⟩
      · rw [HD.out.1, HD.out.2]; rfl
      · rw [HD.out.1]; exact OIn.nil _ _
  · have hdec := decRec_of_none (rec_none HX.out HP.out (.inl hok))
    have HD := Lib.hid hdec
    have HOK := Lib.hid hok
    clear hdec hok
    go_wp2_with fail
    refine (jencode_bad x4 x5 au p.length cu HOK.out _).mono ?_
    rintro o w7 ⟨rfl, f7⟩
    have hfin : Fr No w w7 := (hall.t f7.no_any).no (Nat.le_refl _)
    go_wp2
    refine bodyPost_ret (v := .tuple #[.int .u64 0, .int .u64 0, .slice none 0 0, .int .i64 80]) (by simp [results, Try.results35, go_sem]) rfl ?_
    refine ⟨.slice none 0 0, ?_, ?_, hfin⟩
    · rw [HD.out.1, HD.out.2]; rfl
    · rw [HD.out.1]; exact OIn.nil _ _

end Go.Proofs.Ytnkjhicokcmmpaa
