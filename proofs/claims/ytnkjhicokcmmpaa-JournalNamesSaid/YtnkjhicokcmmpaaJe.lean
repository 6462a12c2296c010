/-
  A sector's record: what the document's Decode comes to.
-/
import Derived.Test.YtnkjhicokcmmpaaJd
import Derived.Test.YtnkjhicokcmmpaaRe
namespace Go.Proofs.Ytnkjhicokcmmpaa
open Go.RowKit Go.Shelf

theorem recSize_at {b : List UInt8} (hb : b.length = 128) : ∃ x : UInt8, b[3]? = some x ∧ recSize b = x.toNat := by
  refine ⟨b[3], List.getElem?_eq_getElem (by omega), ?_⟩
  unfold recSize
  rw [List.drop_eq_getElem_cons (by omega : 3 < b.length), List.take_succ_cons, List.take_zero]
  unfold wh
  simp only [List.foldl]
  omega
theorem wh8_lt (l : List UInt8) : wh (l.take 8) < 2 ^ 64 := by
  refine Nat.lt_of_lt_of_le (wh_lt _) ?_
  have : (l.take 8).length ≤ 8 := by simp; omega
  exact Nat.le_trans (Nat.pow_le_pow_right (by decide) this) (by decide)

set_option maxRecDepth 100000 in
set_option maxHeartbeats 1000000 in
theorem jrefDecode_short (a : Option Addr) (n c : Nat) (b : List UInt8) (w : World) (h : Win w a n c (b.map byt)) (hn : n ≠ 128) :
    Calls Try.prog 36 #[.slice a n c] w fun o w' => ∃ v, o = .returned (.tuple #[.int .u64 (decRecOf b).e, .int .u64 (decRecOf b).n, v, .int .i64 (decRecE b)]) ∧ OIn w.heap.size w' v (decRecOf b).p ∧ Fr No w w' := by
  have hbl : b.length = n := by have := h.len; simpa using this
  have hdec : decRec b = none := by
    unfold decRec
    refine if_neg (fun hc => hn (by rw [← hbl]; exact hc.1))
  have HD := Lib.hid (decRec_of_none hdec)
  have hd : (n == 128) = false := by simp; exact hn
  have hd' : (n != 128) = true := by simp; exact hn
  clear hdec hbl
  go_enter Try.func36, Try.ntmps36
  go_wp2
  refine bodyPost_ret (v := .tuple #[.int .u64 0, .int .u64 0, .slice none 0 0, .int .i64 80]) (by simp [results, Try.results36, go_sem]) rfl ?_
  refine ⟨.slice none 0 0, ?_, ?_, Fr.refl No w⟩
  · rw [HD.out.1, HD.out.2]; rfl
  · rw [HD.out.1]; exact OIn.nil _ _

set_option maxRecDepth 100000 in
set_option maxHeartbeats 1000000 in
theorem jrefDecode_128 (ad : Addr) (c : Nat) (b : List UInt8) (w : World) (h : Win w (some ad) 128 c (b.map byt)) :
    Calls Try.prog 36 #[.slice (some ad) 128 c] w fun o w' => ∃ v, o = .returned (.tuple #[.int .u64 (decRecOf b).e, .int .u64 (decRecOf b).n, v, .int .i64 (decRecE b)]) ∧ OIn w.heap.size w' v (decRecOf b).p ∧ Fr No w w' := by
  have hbl : b.length = 128 := by have := h.len; simpa using this
  have hcap := h.cap
  have hmax := h.max
  unfold maxLen at hmax
  have m12 : (12 : Int) ≤ (c : Int) := by omega
  have m20 : (20 : Int) ≤ (c : Int) := by omega
  have n4 : ¬ c = 4 := by omega
  have n12 : ¬ c = 12 := by omega
  have n20 : ¬ c = 20 := by omega
  obtain ⟨x, hx, hsz⟩ := recSize_at hbl
  have hcell : w.cell? ⟨ad.block, ad.off + 3, none⟩ = some (byt x) := by
    have := h.cell ad rfl 3 (byt x) (by rw [List.getElem?_map, hx]; rfl)
    simpa [Addr.add] using this
  obtain ⟨s, hs⟩ : ∃ s, s = x.toNat := ⟨_, rfl⟩
  unfold byt at hcell
  rw [← hs] at hcell hsz
  have hs2 : s < 256 := by rw [hs]; exact x.toNat_lt
  have HBL := Lib.hid hbl
  have HSZ := Lib.hid hsz
  have HW := Lib.hid h
  clear hbl hx hs hsz h
  by_cases h64 : 64 < s
  · have hdec : decRec b = none := by
      unfold decRec
      refine if_neg (fun hc => ?_)
      have := hc.2.1
      rw [HSZ.out] at this
      omega
    have HD := Lib.hid (decRec_of_none hdec)
    have hd : decide (64 < (s : Int)) = true := by simp; omega
    clear hdec
    go_enter Try.func36, Try.ntmps36
    go_wp2
    refine bodyPost_ret (v := .tuple #[.int .u64 0, .int .u64 0, .slice none 0 0, .int .i64 80]) (by simp [results, Try.results36, go_sem]) rfl ?_
    refine ⟨.slice none 0 0, ?_, ?_, Fr.refl No w⟩
    · rw [HD.out.1, HD.out.2]; rfl
    · rw [HD.out.1]; exact OIn.nil _ _
  · have hd : decide (64 < (s : Int)) = false := by simp; omega
    have hs64 : s ≤ 64 := by omega
    have hsc : (20 : Int) + (s : Int) ≤ (c : Int) := by omega
    go_enter Try.func36, Try.ntmps36
    go_wp2_with fail
    refine (whole_part HW.out (Fr.refl No w) 4 8 (by decide) (by decide) n4 (by decide)).mono ?_
    rintro o w1 ⟨rfl, rfl⟩
    go_wp2_with fail
    refine (whole_part HW.out (Fr.refl No w) 12 8 (by decide) (by decide) n12 (by decide)).mono ?_
    rintro o w1 ⟨rfl, rfl⟩
    go_wp2_with fail
    obtain ⟨p, hpd⟩ : ∃ p, p = (b.drop 20).take s := ⟨_, rfl⟩
    have hpl : s = p.length := by rw [hpd, List.length_take, List.length_drop, HBL.out]; omega
    have hwP : Win w (some ⟨ad.block, ad.off + 20, none⟩) s (c - 20) (p.map byt) := by
      have h1 := (HW.out.drop (k := 20) (by omega)).take (k := s) (by omega)
      rw [if_neg n20, ← List.map_drop, ← List.map_take, ← hpd] at h1
      have e : Option.map (·.add 20) (some ad) = some ⟨ad.block, ad.off + 20, none⟩ := by simp [Addr.add]
      rw [e] at h1
      exact h1
    have l4 := wh8_lt (b.drop 4)
    have l5 := wh8_lt (b.drop 12)
    obtain ⟨x4, h4⟩ : ∃ x4, x4 = wh ((b.drop 4).take 8) := ⟨_, rfl⟩
    obtain ⟨x5, h5⟩ : ∃ x5, x5 = wh ((b.drop 12).take 8) := ⟨_, rfl⟩
    rw [← h4] at l4 ⊢
    rw [← h5] at l5 ⊢
    have HX : Hid (b.length = 128 → s = recSize b ∧ x4 = wh ((b.drop 4).take 8) ∧ x5 = wh ((b.drop 12).take 8)) := fun _ => ⟨HSZ.out.symm, h4, h5⟩
    have HP : Hid (b.length = 128 → 20 + s ≤ 128 → p = (b.drop 20).take s) := fun _ _ => hpd
    clear hpd h4 h5
    refine (twin_any _ s _ p w hwP (by omega)).mono ?_
    rintro o w2 ⟨v2, rfl, o2, n2, _, f2⟩
    subst hpl
    have HO := Lib.hid (⟨o2, n2⟩ : OIn w.heap.size w2 v2 p)
    obtain ⟨a2, c2, rfl, wn2⟩ := Win.of_own o2
    have HWN := Lib.hid wn2
    have HW2 := Lib.hid (HW.out.no f2)
    clear hwP o2 n2 wn2 hcell
    rcases Bool.eq_false_or_eq_true (recOk x5 p.length) with hok | hok
    · have h50 : x5 ≠ 0 := by intro h0; simp [recOk, h0] at hok
      have H50 := Lib.hid h50
      clear hok h50
      go_wp2_with fail
      refine (jrefEncode_ok x4 x5 l4 l5 H50.out a2 c2 p hs64 _ HWN.out).mono ?_
      rintro o w6 ⟨v6, rfl, o6, f6⟩
      have ho6 := o6.own
      rw [recBytes_len x4 x5 p hs64] at ho6
      obtain ⟨a6, c6, rfl, wn6⟩ := Win.of_own ho6
      have hO7 := Lib.hid (HO.out.no f6)
      have hfin : Fr No w w6 := f2.thn f6
      have s1 := run_str (P := Try.prog) (src := 26) (dst := 9) Try.underlying26 Try.underlying5 Try.underlying9 wn6
      have s2 := run_str (P := Try.prog) (src := 26) (dst := 9) Try.underlying26 Try.underlying5 Try.underlying9 (HW2.out.no f6)
      clear o6 ho6 wn6
      by_cases heq : recBytes x4 x5 p = b
      · have HD := Lib.hid (decRec_of_some (rec_some HX.out HP.out H50.out hs64 heq))
        have hd : ((str (recBytes x4 x5 p)).toList == (str b).toList) = true := by rw [heq]; simp
        have hd' : ((str (recBytes x4 x5 p)).toList != (str b).toList) = false := by rw [heq]; simp
        clear heq
        go_wp2
        refine bodyPost_ret (v := .tuple #[.int .u64 x4, .int .u64 x5, .slice a2 p.length c2, .int .i64 0]) (by simp [results, Try.results36, go_sem]) rfl ?_
        refine ⟨.slice a2 p.length c2, ?_, ?_, hfin⟩
        · rw [HD.out.1, HD.out.2]
        · rw [HD.out.1]; exact hO7.out
      · have HD := Lib.hid (decRec_of_none (rec_none HX.out HP.out (.inr heq)))
        have hne : (str (recBytes x4 x5 p)).toList ≠ (str b).toList := by rw [str_list, str_list]; exact heq
        have hd : ((str (recBytes x4 x5 p)).toList == (str b).toList) = false := by simpa using hne
        have hd' : ((str (recBytes x4 x5 p)).toList != (str b).toList) = true := by simpa using hne
        clear heq hne
        go_wp2
        refine bodyPost_ret (v := .tuple #[.int .u64 0, .int .u64 0, .slice none 0 0, .int .i64 80]) (by simp [results, Try.results36, go_sem]) rfl ?_
        refine ⟨.slice none 0 0, ?_, ?_, hfin⟩
        · rw [HD.out.1, HD.out.2]; rfl
        · rw [HD.out.1]; exact OIn.nil _ _
    · have HD := Lib.hid (decRec_of_none (rec_none HX.out HP.out (.inl hok)))
      have HOK := Lib.hid hok
      clear hok
      go_wp2_with fail
      refine (jrefEncode_bad x4 x5 a2 p.length c2 HOK.out _).mono ?_
      rintro o w6 ⟨rfl, f6⟩
      have hfin : Fr No w w6 := f2.thn f6
      go_wp2
      refine bodyPost_ret (v := .tuple #[.int .u64 0, .int .u64 0, .slice none 0 0, .int .i64 80]) (by simp [results, Try.results36, go_sem]) rfl ?_
      refine ⟨.slice none 0 0, ?_, ?_, hfin⟩
      · rw [HD.out.1, HD.out.2]; rfl
      · rw [HD.out.1]; exact OIn.nil _ _

end Go.Proofs.Ytnkjhicokcmmpaa
