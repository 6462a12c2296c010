/-
  Texts of this claim, laid together: Iv, Pg, Ph, Pi, Pt, Pu, Pv, Pj, Pw, Pk.
-/
import Derived.Test.YtnjhocjgpppeaaaQd

namespace Go.Proofs.Ytnjhocjgpppeaaa
open Go.RowKit
theorem Own.of_take {w : World} {T : TypeId} {k g n c : Nat} {X xs : List Value} (h : Blk w g T X) (h1 : X.take (n * k) = xs) (h2 : X.length = c * k) (h3 : n ≤ c) (h4 : c ≤ maxLen) : Own w T k (.slice (some ⟨g, 0, none⟩) n c) n xs := by
 have hle : n * k ≤ c * k := Nat.mul_le_mul_right _ h3
 refine Own.of_blk (sp := X.drop (n * k)) (by rw [← h1, List.take_append_drop]; exact h) (by rw [← h1, List.length_take]; omega) ?_ h3 h4
 rw [← h1, List.take_append_drop]; exact h2
theorem Blk.heap {w w' : World} {b : Nat} {T : TypeId} {L : List Value} (h : Blk w b T L) (e : w'.heap = w.heap) : Blk w' b T L := by unfold Blk; rw [e]; exact h
theorem splice_take {α : Type} {A Y : List α} {p k : Nat} (h : p + Y.length ≤ A.length) (hk : k ≤ p) : (A.take p ++ Y ++ A.drop (p + Y.length)).take k = A.take k := by
 rw [List.append_assoc, List.take_append_of_le_length (by rw [List.length_take]; omega), List.take_take, Nat.min_eq_left hk]
theorem splice_take2 {α : Type} {A Y : List α} {p : Nat} (h : p + Y.length ≤ A.length) : (A.take p ++ Y ++ A.drop (p + Y.length)).take (p + Y.length) = A.take p ++ Y :=
 List.take_left' (by rw [List.length_append, List.length_take]; omega)
theorem splice_len {α : Type} {A Y : List α} {p : Nat} (h : p + Y.length ≤ A.length) : (A.take p ++ Y ++ A.drop (p + Y.length)).length = A.length := by
 simp only [List.length_append, List.length_take, List.length_drop]; omega
theorem splice_drop {α : Type} {A Y : List α} {p : Nat} (h : p ≤ A.length) : (A.take p ++ Y ++ A.drop (p + Y.length)).drop p = Y ++ A.drop (p + Y.length) := by
 rw [List.append_assoc]; exact List.drop_left' (by rw [List.length_take]; omega)
inductive PartsAs (w : World) (v : Value) : Value → List Ext → Prop
 | none : PartsAs w v (.slice none 0 0) []
 | some {d mc : Nat} {ps : List Ext} (h1 : 1 ≤ ps.length) (h2 : ps.length ≤ 2) (hs : Src w d (exs ps)) (hne : v.ownBlock ≠ some d) : PartsAs w v (.slice (some ⟨d, 0, none⟩) ps.length mc) ps
theorem replace_any (v u : Value) (l ps : List Ext) (i : Nat) (w : World) (h : Own w 31 2 v l.length (exs l)) (hi : i < l.length) (hl : l.length ≤ 10000) (hu : PartsAs w v u ps) :
   Calls Try.prog 34 #[v, .int .i64 i, .int .i64 ((i : Int) + 1), u] w fun e w' =>
     ∃ v', e = .returned v' ∧ Own w' 31 2 v' (l.length - 1 + ps.length) (exs (l.take i ++ (ps ++ l.drop (i + 1)))) ∧ Fr (fun k => v.ownBlock = some k) w w' ∧ (v'.ownBlock = v.ownBlock ∨ ∃ k, v'.ownBlock = some k ∧ w.heap.size ≤ k) := by
 obtain ⟨g, c, rfl⟩ : ∃ g c, v = .slice (some ⟨g, 0, none⟩) l.length c := by
   rcases h.cases with ⟨e, h1, _⟩ | ⟨g, c, e⟩
   · omega
   · exact ⟨g, c, e⟩
 have hO := h
 obtain ⟨sp, hb, h1, h2, h3, h4⟩ := h.blk
 obtain ⟨n, hn⟩ : ∃ n, n = l.length := ⟨_, rfl⟩
 rw [← hn] at hi hl h1 h3 hO ⊢
 have g0 : (exs l).length = n * 2 := h1
 obtain ⟨L, hLd⟩ : ∃ L, L = exs l ++ sp := ⟨_, rfl⟩
 rw [← hLd] at hb h2
 have h1c : ∀ u ∈ L.take (n * 2), u.oneCell' = true := by
   rw [hLd, List.take_left' g0]
   exact exs_one l
 have hA : L.take (i * 2) = exs (l.take i) := by rw [hLd, List.take_append_of_le_length (by omega), exs_take]
 have hM : (L.drop ((i + 1) * 2)).take ((n - (i + 1)) * 2) = exs (l.drop (i + 1)) := by
   have e0 : (exs (l.drop (i + 1))).length = (n - (i + 1)) * 2 := by rw [exs_length, List.length_drop, hn]
   rw [hLd, List.drop_append_of_le_length (by omega), exs_drop]
   exact List.take_left' e0
 have hMl : (exs (l.drop (i + 1))).length = (n - (i + 1)) * 2 := by rw [exs_length, List.length_drop, hn]
 have own : (Value.slice (some ⟨g, 0, none⟩) n c).ownBlock = some g := rfl
 have frg : ∀ {W W' : World}, Fr (fun k => k = g) W W' → Fr (fun k => (Value.slice (some ⟨g, 0, none⟩) n c).ownBlock = some k) W W' := fun hf => hf.mono fun k hk => by rw [own, hk]
 have hAl : (L.take (i * 2)).length = i * 2 := by rw [List.length_take]; omega
 cases hu with
 | none =>
   rcases Nat.lt_or_ge (i + 1) n with hlt | hge
   · refine (replace_mid0 w g n c i L hb h2 hlt h3 hl h1c).mono ?_
     rintro e w' ⟨rfl, w1, hw1, hf1, rfl⟩
     rw [hM]
     have hb1 := Blk.setCells (exs (l.drop (i + 1))) (i * 2) (hb.heap hw1) (by omega)
     have hx1 := splice_len (A := L) (Y := exs (l.drop (i + 1))) (p := i * 2) (by omega)
     have hb2 := Blk.setCells zex ((n - 1) * 2) hb1 (by rw [hx1]; simp [zex]; omega)
     have hx2 := splice_len (A := L.take (i * 2) ++ exs (l.drop (i + 1)) ++ L.drop (i * 2 + (exs (l.drop (i + 1))).length)) (Y := zex) (p := (n - 1) * 2) (by rw [hx1]; simp [zex]; omega)
     refine ⟨_, rfl, ?_, frg (Fr.setCells _ _ (Fr.setCells _ _ hf1.no_any (.inl rfl)) (.inl rfl)), .inl rfl⟩
     refine Own.of_take hb2 ?_ (by rw [hx2, hx1, h2]) (by simp; omega) h4
     rw [splice_take (by rw [hx1]; simp [zex]; omega) (by simp)]
     rw [show (n - 1) * 2 = i * 2 + (exs (l.drop (i + 1))).length by rw [hMl]; omega, splice_take2 (by omega), hA, List.nil_append, exs_append]
   · have hin : i + 1 = n := by omega
     refine (replace_end0 w g n c i L hb h2 hin h3 hl).mono ?_
     rintro e w' ⟨rfl, rfl⟩
     have hb1 := Blk.setCells zex (i * 2) hb (by simp [zex]; omega)
     have hx1 := splice_len (A := L) (Y := zex) (p := i * 2) (by simp [zex]; omega)
     have hd0 : l.drop (i + 1) = [] := List.drop_eq_nil_of_le (by omega)
     refine ⟨_, rfl, ?_, frg (Fr.setCells _ _ (Fr.refl _ _) (.inl rfl)), .inl rfl⟩
     rw [show n - 1 + [].length = i by simp; omega]
     refine Own.of_take hb1 ?_ (by rw [hx1, h2]) (by omega) h4
     rw [splice_take (by simp [zex]; omega) (Nat.le_refl _), hA, hd0, List.nil_append, List.append_nil]
 | @some d mc _ p1 p2 hs hne =>
   have hcs : (exs ps).length = ps.length * 2 := exs_length ps
   have hdg : d ≠ g := fun e => hne (by rw [e]; rfl)
   rcases Nat.lt_or_ge (i + 1) n with hlt | hge
   · have hnew : exs (l.take i ++ (ps ++ l.drop (i + 1))) = L.take (i * 2) ++ exs ps ++ exs (l.drop (i + 1)) := by rw [exs_append, exs_append, hA, List.append_assoc]
     obtain h1p | h2p : ps.length = 1 ∨ ps.length = 2 := by omega
     · rw [h1p] at hcs ⊢
       refine (replace_mid1 w g n c i d mc L (exs ps) hb h2 hlt h3 hl h1c hs hcs hdg (exs_one ps)).mono ?_
       rintro e w' ⟨rfl, w1, hw1, hf1, w2, hw2, hf2, rfl⟩
       rw [hM]
       have hb1 := (Blk.setCells (exs ps) (i * 2) (hb.heap hw1) (by omega)).heap hw2
       have hx1 := splice_len (A := L) (Y := exs ps) (p := i * 2) (by omega)
       have hb2 := Blk.setCells (exs (l.drop (i + 1))) ((i + 1) * 2) hb1 (by rw [hx1]; omega)
       have hx2 := splice_len (A := L.take (i * 2) ++ exs ps ++ L.drop (i * 2 + (exs ps).length)) (Y := exs (l.drop (i + 1))) (p := (i + 1) * 2) (by rw [hx1]; omega)
       rw [show n - 1 + 1 = n by omega]
       refine ⟨_, rfl, Own.of_take hb2 ?_ (by rw [hx2, hx1, h2]) h3 h4, frg (Fr.setCells _ _ hf2 (.inl rfl)), .inl rfl⟩
       rw [show n * 2 = (i + 1) * 2 + (exs (l.drop (i + 1))).length by omega, splice_take2 (by rw [hx1]; omega), show (i + 1) * 2 = i * 2 + (exs ps).length by omega, splice_take2 (by omega), hnew]
     · rw [h2p] at hcs ⊢
       by_cases hroom : n + 1 ≤ c
       · refine (replace_mid2 w g n c i d mc L (exs ps) hb h2 hlt hroom h4 hl h1c hs hcs hdg (exs_one ps)).mono ?_
         rintro e w' ⟨rfl, w1, hw1, hf1, w2, hw2, hf2, rfl⟩
         rw [hM] at hw2
         have hb1 := (Blk.setCells (exs (l.drop (i + 1))) ((i + 2) * 2) (hb.heap hw1) (by omega)).heap hw2
         have hx1 := splice_len (A := L) (Y := exs (l.drop (i + 1))) (p := (i + 2) * 2) (by omega)
         have hb2 := Blk.setCells (exs ps) (i * 2) hb1 (by rw [hx1]; omega)
         have hx2 := splice_len (A := L.take ((i + 2) * 2) ++ exs (l.drop (i + 1)) ++ L.drop ((i + 2) * 2 + (exs (l.drop (i + 1))).length)) (Y := exs ps) (p := i * 2) (by rw [hx1]; omega)
         rw [show n - 1 + 2 = n + 1 by omega]
         refine ⟨_, rfl, Own.of_take hb2 ?_ (by rw [hx2, hx1, h2]) hroom h4, frg (Fr.setCells _ _ hf2 (.inl rfl)), .inl rfl⟩
         have q1 := splice_take (A := L) (Y := exs (l.drop (i + 1))) (p := (i + 2) * 2) (k := i * 2) (by omega) (by omega)
         have q2 := splice_drop (A := L) (Y := exs (l.drop (i + 1))) (p := (i + 2) * 2) (by omega)
         rw [show i * 2 + (exs ps).length = (i + 2) * 2 by omega, q1, q2, hnew]
         have ha : (L.take (i * 2) ++ exs ps).length = (i + 2) * 2 := by rw [List.length_append, hAl]; omega
         rw [← List.append_assoc]
         exact List.take_left' (by rw [List.length_append, ha]; omega)
       · refine (replace_grow w g d n c i mc L (exs ps) hb hs hlt h3 (by omega) hl h2 h1c hcs (exs_one ps)).mono ?_
         rintro e w' ⟨G, N, R, hN, hG, hGm, hRl, hRt, rfl, hf, hb'⟩
         rw [hM] at hb'
         have hx1 := splice_len (A := R) (Y := exs ps) (p := i * 2) (by omega)
         have hx2 := splice_len (A := R.take (i * 2) ++ exs ps ++ R.drop (i * 2 + (exs ps).length)) (Y := exs (l.drop (i + 1))) (p := (i + 2) * 2) (by rw [hx1]; omega)
         rw [show n - 1 + 2 = n + 1 by omega]
         refine ⟨_, rfl, Own.of_take hb' ?_ (by rw [hx2, hx1, hRl]) hG hGm, hf.no_any, .inr ⟨N, rfl, hN⟩⟩
         rw [show (n + 1) * 2 = (i + 2) * 2 + (exs (l.drop (i + 1))).length by omega, splice_take2 (by rw [hx1]; omega), show (i + 2) * 2 = i * 2 + (exs ps).length by omega, splice_take2 (by omega), hnew, hRt]
   · have hin : i + 1 = n := by omega
     have hd0 : l.drop (i + 1) = [] := List.drop_eq_nil_of_le (by omega)
     refine (replace_end w g n c i d mc l ps (by rw [hn]; rw [hn] at hO; exact hO) hin hs.cell p1 p2 hl).mono ?_
     rintro e w' ⟨v', rfl, hap⟩
     refine ⟨v', rfl, ?_, hap.fr, hap.blk⟩
     rw [hd0, List.append_nil, exs_append, show n - 1 + ps.length = i + ps.length by omega]
     exact hap.own
end Go.Proofs.Ytnjhocjgpppeaaa
namespace Go.Proofs.Ytnjhocjgpppeaaa.Sm
open Go Go.RowKit
theorem withB_yes {x y : ExD} (h : y.at_ ≤ x.at_) (g : w64 (x.at_ + x.n) ≤ w64 (y.at_ + y.n)) : withB x y = true := by unfold withB; rw [Bool.and_eq_true]; exact ⟨decide_eq_true h, decide_eq_true g⟩
theorem withB_no1 {x y : ExD} (h : ¬ y.at_ ≤ x.at_) : ¬ withB x y = true := by unfold withB; rw [Bool.and_eq_true]; exact fun q => h (of_decide_eq_true q.1)
theorem withB_no2 {x y : ExD} (h : ¬ w64 (x.at_ + x.n) ≤ w64 (y.at_ + y.n)) : ¬ withB x y = true := by unfold withB; rw [Bool.and_eq_true]; exact fun q => h (of_decide_eq_true q.2)
set_option maxHeartbeats 4000000 in
set_option maxRecDepth 100000 in
theorem idxW_to (hok : SE.Ok Try.prog) (l : List ExD) (hn : l.length ≤ 5000) (x : ExD) : To SE Try.prog 31 (startOf Try.prog 31 [.ow 0 l.length, .fn (.func 32) [] [.ptr 1 0]] (memF [.rw exT 2 l.length (exF l), .mem exT none (exA x)] 0 .e) 2)
   (fun v H' _ => leA v (ivA (idxD (withB x) l)) ∧ endL [.rw exT 2 l.length (exF l), .mem exT none (exA x)] 0 H' ∧ endE [] H') := by
 refine To.R (k := 13) (h := ?_)
 refine To.L (L := []) (kp := [8, 7, 1, 0]) (C := Same IntKind.i64 ∧ (0 : Int) = (↑(0 : Nat) : Int)) (st := fun (a : Nat) => (⟨(⟨31, 19, (slotT 19 [(0, AV.ow 0 l.length), (1, AV.fn (Fn.func 32) [] [AV.ptr 1 0]), (7, AV.sy (Value.int IntKind.i64 l.length)), (8, AV.sy (Value.int IntKind.i64 a))]), ARg.no, [(AItem.code (subC (bodyC Try.prog 31) [1, 0, 1, 0, 0])), (AItem.inLoop (subC (bodyC Try.prog 31) [1, 0, 1, 0, 0])), (AItem.inBlock 0), (AItem.code (subC (bodyC Try.prog 31) [1, 1]))], [], false, none, 2⟩ : AFr), [], memF [AB.rw 31 2 l.length (exF l), AB.mem 31 none [AV.sy (Value.int IntKind.i64 x.at_), AV.sy (Value.int IntKind.i64 x.n)]] 0 Tr.e, 2⟩ : ASt)) (hI := ?_) (h := ?_) (fun (k : Nat) => [(8, ivA (k : Int))]) (fun _ => []) (fun k => k ≤ l.length ∧ idxA (withB x) k (l.drop k) = idxD (withB x) l) (fun k => l.length - k) (0)
 · exact ⟨Nat.zero_le _, rfl⟩
 intro k ⟨hk, h1⟩ ih
 refine To.R (h := ?_)
 refine To.Bd ((k : Int) < l.length) (h := ?_) (g := ?_)
 · intro h2
   have hlt : k < l.length := by omega
   rw [drop_at hlt] at h1
   unfold idxA at h1
   have hi1 : k + 1 ≤ l.length := by omega
   have hi2 : l.length - (k + 1) < l.length - k := by omega
   refine To.R (C := ((0 : Int) ≤ k ∧ (k : Int) < l.length) ∧ k < l.length) (h := ?_)
   refine To.Bd ((l.getD k default).at_ ≤ x.at_) (h := ?_) (g := ?_)
   · intro h3
     refine To.R (C := True ∧ Same (AV.agg [AV.sy (Value.int IntKind.i64 (l.getD k default).at_), AV.sy (Value.int IntKind.i64 (l.getD k default).n)]) ∧ True) (h := ?_)
     refine To.Bd (w64 (x.at_ + x.n) ≤ w64 ((l.getD k default).at_ + (l.getD k default).n)) (h := ?_) (g := ?_)
     · intro h4
       rw [if_pos (withB_yes h3 h4)] at h1
       refine To.R (h := ?_)
       refine To.E (AV.sy (Value.int IntKind.i64 k)) (hq := ?_)
       refine ⟨(of_eqP (C := Same IntKind.i64 ∧ k = idxD (withB x) l) (by kernel_rfl) (by (and_intros <;> try exact cl))), ⟨(endL_cons (B0 := AB.rw 31 2 l.length (exF l)) (by kernel_rfl) (of_eqP (C := 31 = exT ∧ Same 2 ∧ Same l.length ∧ (∀ (r : Nat), r < l.length → exF l r = exF l r)) (by kernel_rfl) (by (and_intros <;> try exact cl))) (endL_cons (B0 := AB.mem 31 none [AV.sy (Value.int IntKind.i64 x.at_), AV.sy (Value.int IntKind.i64 x.n)]) (by kernel_rfl) (of_eqP (C := 31 = exT ∧ (none : Option Nat) = none ∧ (Same IntKind.i64 ∧ Same x.at_) ∧ (Same IntKind.i64 ∧ Same x.n) ∧ True) (by kernel_rfl) (by (and_intros <;> try exact cl))) endL_nil)), endE_nil⟩⟩
     · intro h4
       rw [if_neg (withB_no2 h4)] at h1
       refine To.R (k := 18) (C := fits IntKind.i64 (k + 1)) (h := ?_)
       refine To.K (L := []) (kp := [8, 7, 1, 0]) (ov := [(8, AV.sy (Value.int IntKind.i64 (↑(k + 1) : Int)))]) (C := Same IntKind.i64 ∧ (↑k : Int) + 1 = (↑(k + 1) : Int)) (ih (k + 1) ⟨hi1, h1⟩ hi2)
   · intro h3
     rw [if_neg (withB_no1 h3)] at h1
     refine To.R (k := 24) (C := fits IntKind.i64 (k + 1)) (h := ?_)
     refine To.K (L := []) (kp := [8, 7, 1, 0]) (ov := [(8, AV.sy (Value.int IntKind.i64 (↑(k + 1) : Int)))]) (C := Same IntKind.i64 ∧ (↑k : Int) + 1 = (↑(k + 1) : Int)) (ih (k + 1) ⟨hi1, h1⟩ hi2)
 · intro h2
   have hk2 : k = l.length := by omega
   rw [hk2, List.drop_length] at h1
   have h6 : -1 = idxD (withB x) l := h1
   refine To.R (h := ?_)
   refine To.E (AV.v (Value.int IntKind.i64 (-1))) (hq := ?_)
   refine ⟨(of_eqP (C := Same IntKind.i64 ∧ -1 = idxD (withB x) l) (by kernel_rfl) (by (and_intros <;> try exact cl))), ⟨(endL_cons (B0 := AB.rw 31 2 l.length (exF l)) (by kernel_rfl) (of_eqP (C := 31 = exT ∧ Same 2 ∧ Same l.length ∧ (∀ (r : Nat), r < l.length → exF l r = exF l r)) (by kernel_rfl) (by (and_intros <;> try exact cl))) (endL_cons (B0 := AB.mem 31 none [AV.sy (Value.int IntKind.i64 x.at_), AV.sy (Value.int IntKind.i64 x.n)]) (by kernel_rfl) (of_eqP (C := 31 = exT ∧ (none : Option Nat) = none ∧ (Same IntKind.i64 ∧ Same x.at_) ∧ (Same IntKind.i64 ∧ Same x.n) ∧ True) (by kernel_rfl) (by (and_intros <;> try exact cl))) endL_nil)), endE_nil⟩⟩
def idxWK (args : List AV) (H : Tr AB) : Option Ex := match args with
 | [.ow i n, .fn (.func g) [] [.ptr j 0]] => match H.get i, H.get j with
   | some (.rw T w m f), some (.mem T2 none [a, b]) => match intA a, intA b with
     | some (.i64, p), some (.i64, q) => cond (Nat.beq g 32 && Nat.beq T exT && Nat.beq w 2 && Nat.beq T2 exT && !(Nat.beq i j))
       (some { μ := [i, j], args := [.ow 0 n, .fn (.func 32) [] [.ptr 1 0]], L := [.rw exT 2 n (exF (exsF n f)), .mem exT none (exA ⟨p, q⟩)], res := ivA (idxD (withB ⟨p, q⟩) (exsF n f)), L' := [.rw exT 2 n f, .mem exT none (exA ⟨p, q⟩)], E := [], C := m = n ∧ n ≤ 5000 ∧ ∀ r, r < n → f r = exF (exsF n f) r }) none
     | _, _ => none
   | _, _ => none
 | _ => none
def idxWF : CF := oneX 31 idxWK
theorem idxWF_ok : FOk Try.prog idxWF := oneX_ok se_ok tab Try.func31 (by kernel_rfl) fun {args H n e} hk hC => by
 unfold idxWK at hk
 split at hk
 · rename_i i m g j
   split at hk
   · rename_i T w m' f T2 a b hi hj
     split at hk
     · rename_i p q hp hq0
       cases hq : (Nat.beq g 32 && Nat.beq T exT && Nat.beq w 2 && Nat.beq T2 exT && !(Nat.beq i j)) with
       | false => rw [hq] at hk; cases hk
       | true =>
         rw [hq] at hk
         cases hk
         simp only [Bool.and_eq_true, Bool.not_eq_true', beq_dec, decide_eq_true_eq, decide_eq_false_iff_not] at hq
         obtain ⟨⟨⟨⟨rfl, rfl⟩, rfl⟩, rfl⟩, hne⟩ := hq
         obtain ⟨rfl, c2, c4⟩ := hC
         have hlen := exsF_len m' f
         have hT := idxW_to se_ok (exsF m' f) (by rw [hlen]; exact c2) ⟨p, q⟩
         rw [hlen] at hT
         refine ⟨by simp [hne], ⟨⟨_, hi, rfl, rfl, rfl, rfl, c4⟩, ⟨_, hj, rfl, rfl, rfl, intA_leS hp _, intA_leS hq0 _, trivial⟩, trivial⟩, rfl, ?_, ⟨List.nodup_nil, fun p hp => by cases hp⟩, ?_, by kernel_rfl, ?_⟩
         · simp only [renL, renA, inP1, inP2 hne]
           exact ⟨⟨rfl, rfl⟩, leA_refl _, trivial⟩
         · intro w0 ρ w vs hr0 hv q hq
           simp at hq
           rcases hq with rfl | rfl
           · exact .inr fun T l e => by rw [hi] at e; cases e
           · exact .inl (VRs.bind hv (q, True) (by simp [bindL, bindA]) trivial)
         · exact To.mono hT fun y H' n' hq => ⟨hq.1, rd_same c4 hq.2.1, hq.2.2⟩
     · cases hk
   · cases hk
 · cases hk
def prtP (y : AV) (H : Tr AB) : Option (List ExD) := match y with
 | .v (.slice none 0 0) => some []
 | .su j 0 1 _ _ => match H.get j with
   | some (.mem _ _ (a :: b :: _)) => match intA a, intA b with
     | some (.i64, p), some (.i64, q) => some [⟨p, q⟩]
     | _, _ => none
   | _ => none
 | .su j 0 2 _ _ => match H.get j with
   | some (.mem _ _ (a :: b :: c :: d :: _)) => match intA a, intA b, intA c, intA d with
     | some (.i64, p), some (.i64, q), some (.i64, p'), some (.i64, q') => some [⟨p, q⟩, ⟨p', q'⟩]
     | _, _, _, _ => none
   | _ => none
 | _ => none
theorem prtP_sound {w0 : Bs} {ρ : Env} {H : Tr AB} {n : Nat} {w : World} (hr : HR w0 ρ H n w) {y : AV} {ps : List ExD} {u v : Value} {i m : Nat} {T : TypeId} {k : Nat} {f : Nat → List AV} (hp : prtP y H = some ps) (hpos : ∀ x ∈ ps, x.pos) (hy : VR ρ y u) (hB : H.get i = some (.rw T k m f)) (hv : VR ρ (.ow i m) v) :
   PartsAs w v u (ps.map ExD.nat) := by
 have hne : ∀ {j b c : Nat} {T2 : TypeId} {z : Option Nat} {l : List AV}, ρ j = some (b, c) → H.get j = some (.mem T2 z l) → v.ownBlock ≠ some b := fun {j b c T2 z l} hj hD e => by
   cases hv with
   | @ow _ b' c' _ hi hn hc =>
     have hbd : b' = b := by simpa [Value.ownBlock] using e
     subst hbd
     have := hr.inj hi hj hB hD rfl rfl
     subst this
     rw [hB] at hD; cases hD
   | ow0 => cases e
 unfold prtP at hp
 split at hp
 · cases hp
   cases hy
   exact .none
 · rename_i j k1 q1
   split at hp
   · rename_i T2 z a b tl hD
     split at hp
     · rename_i p q ha hb
       cases hp
       cases hy with
       | @su _ bb c _ _ _ _ hj hn =>
         obtain ⟨o, ho, vs, sp, fz, hvs, rfl, _, _⟩ := hr.blk hj hD
         cases hvs with
         | @cons _ v0 _ _ a0 tv =>
         cases tv with
         | @cons _ v1 _ vs' a1 tv =>
         obtain rfl := intA_sound ha a0
         obtain rfl := intA_sound hb a1
         exact PartsAs.some (w := w) (v := v) (d := bb) (ps := [(⟨p, q⟩ : ExD)].map ExD.nat) (Nat.le_refl 1) (show 1 ≤ 2 by omega) ⟨T2, fz, vs' ++ sp, by rw [exs_nat hpos]; exact ho⟩ (hne hj hD)
     · cases hp
   · cases hp
 · rename_i j k1 q1
   split at hp
   · rename_i T2 z a b c' d' tl hD
     split at hp
     · rename_i p q p' q' ha hb hc hd
       cases hp
       cases hy with
       | @su _ bb c _ _ _ _ hj hn =>
         obtain ⟨o, ho, vs, sp, fz, hvs, rfl, _, _⟩ := hr.blk hj hD
         cases hvs with
         | @cons _ v0 _ _ a0 tv =>
         cases tv with
         | @cons _ v1 _ _ a1 tv =>
         cases tv with
         | @cons _ v2 _ _ a2 tv =>
         cases tv with
         | @cons _ v3 _ vs' a3 tv =>
         obtain rfl := intA_sound ha a0
         obtain rfl := intA_sound hb a1
         obtain rfl := intA_sound hc a2
         obtain rfl := intA_sound hd a3
         exact PartsAs.some (w := w) (v := v) (d := bb) (ps := [(⟨p, q⟩ : ExD), ⟨p', q'⟩].map ExD.nat) (show 1 ≤ 2 by omega) (Nat.le_refl 2) ⟨T2, fz, vs' ++ sp, by rw [exs_nat hpos]; exact ho⟩ (hne hj hD)
     · cases hp
   · cases hp
 · cases hp
def repD (l : List ExD) (k : Nat) (ps : List ExD) : List ExD := l.take k ++ (ps ++ l.drop (k + 1))
def repEK (args : List AV) (H : Tr AB) (n : Nat) : Option ((AV × Tr AB × Nat) × Prop) := match args with
 | [.ow i m, ix, iy, y] => match H.get i, intA ix, intA iy, prtP y H with
   | some (.rw T k m' f), some (.i64, z), some (.i64, z'), some ps => cond (Nat.beq T exT && Nat.beq k 2)
         (some ((.ow n (m - 1 + ps.length), tput (tput H i .dead) n (.rw exT 2 (m - 1 + ps.length) (exF (repD (exsF m f) z.toNat ps))), n + 1), m' = m ∧ m ≤ 10000 ∧ 0 ≤ z ∧ z < m ∧ z' = z + 1 ∧ (∀ x ∈ ps, x.pos) ∧ (∀ r, r < m → f r = exF (exsF m f) r) ∧ ∀ x ∈ exsF m f, x.pos)) none
   | _, _, _, _ => none
 | _ => none
def repEF : CF := oneF 34 repEK
theorem repEF_ok : FOk Try.prog repEF := by
 refine oneF_ok tab Try.func34 (by kernel_rfl) ?_
 intro args H n r h hC w0 ρ w vs hr hvs
 unfold repEK at h
 split at h
 · rename_i i m ix iy y
   split at h
   · rename_i T k m' f z z' ps hB hz hz' hp
     cases hb : (Nat.beq T exT && Nat.beq k 2) with
     | false => rw [hb] at h; cases h
     | true =>
       rw [hb] at h
       cases h
       simp only [Bool.and_eq_true, beq_dec, decide_eq_true_eq] at hb
       obtain ⟨rfl, rfl⟩ := hb
       obtain ⟨rfl, h1, hz0, hz1, rfl, hps, h2, h3⟩ := hC
       cases hvs with
       | @cons _ u _ _ e1 t =>
       cases t with
       | @cons _ u2 _ _ e2 t =>
       cases t with
       | @cons _ u3 _ _ e3 t =>
       cases t with
       | @cons _ u4 _ _ e4 t =>
       cases t
       obtain rfl := intA_sound hz e2
       obtain rfl := intA_sound hz' e3
       have hlen := exsF_len m' f
       have e1' : VR ρ (.ow i (exsF m' f).length) u := by rw [hlen]; exact e1
       have hB' : H.get i = some (.rw exT 2 (exsF m' f).length f) := by rw [hlen]; exact hB
       have hown := ow_vals hr exV2_len e1' hB' (fun r hr => by rw [hlen] at hr; exact h2 r hr)
       rw [← exs_nat h3, ← List.length_map ExD.nat] at hown
       obtain ⟨zn, rfl⟩ := Int.eq_ofNat_of_zero_le hz0
       have hpa := prtP_sound hr hp hps e4 hB e1
       refine (replace_any u u4 ((exsF m' f).map ExD.nat) (ps.map ExD.nat) zn w hown (by rw [List.length_map, hlen]; omega) (by rw [List.length_map, hlen]; exact h1) hpa).mono ?_
       rintro e w' ⟨v', rfl, ho', hfr, hblk⟩
       have hnew : ∀ x ∈ repD (exsF m' f) zn ps, x.pos := fun x hx => by
         rcases List.mem_append.1 hx with hx | hx
         · exact h3 x (List.mem_of_mem_take hx)
         · rcases List.mem_append.1 hx with hx | hx
           · exact hps x hx
           · exact h3 x (List.mem_of_mem_drop hx)
       have hmap : ((exsF m' f).map ExD.nat).take zn ++ (ps.map ExD.nat ++ ((exsF m' f).map ExD.nat).drop (zn + 1)) = (repD (exsF m' f) zn ps).map ExD.nat := by simp [repD]
       rw [hmap, exs_nat hnew, List.length_map, List.length_map, hlen] at ho'
       have hlen2 : (repD (exsF m' f) zn ps).length = m' - 1 + ps.length := by simp [repD, hlen]; omega
       obtain ⟨ρ', g1, g2, g3⟩ := hr.turned (f := exF (repD (exsF m' f) zn ps)) e1 hB ho' hfr hblk (fun r hr => gF_rows (I := ρ.im) exV2_len (l := repD (exsF m' f) zn ps) (by rw [hlen2]; exact hr))
       exact ⟨ρ', v', rfl, g1, g2, g3⟩
   · cases h
 · cases h
noncomputable abbrev SG0 : Sy := sym Try.prog (orF endF (orF idxWF repEF)) noG
theorem sg0_ok : SG0.Ok Try.prog := sym_ok (orF_ok endF_ok (orF_ok idxWF_ok repEF_ok)) (noG_ok _) tab mix
def giveB (s : SpD) (x : ExD) : Bool := mayD s x && decide (0 ≤ idxD (withB x) s.l)
def partL (x y : ExD) : List ExD := (if 0 < x.at_ - y.at_ then [⟨y.at_, x.at_ - y.at_⟩] else []) ++ (if 0 < y.end - x.end then [⟨x.end, y.end - x.end⟩] else [])
def SpD.give (s : SpD) (x : ExD) : SpD := { s with l := repD s.l (idxD (withB x) s.l).toNat (partL x (s.l.getD (idxD (withB x) s.l).toNat default)) }
theorem idxA_in {p : ExD → Bool} : ∀ {l : List ExD} {k : Nat}, 0 ≤ idxA p k l → k ≤ (idxA p k l).toNat ∧ (idxA p k l).toNat < k + l.length ∧ p (l.getD ((idxA p k l).toNat - k) default) = true
 | [], k, h => by simp [idxA] at h
 | x :: l, k, h => by
   unfold idxA at h ⊢
   by_cases hp : p x = true
   · rw [if_pos hp]; simp [hp]
   · rw [if_neg hp] at h ⊢
     obtain ⟨h1, h2, h3⟩ := idxA_in h
     refine ⟨by omega, by simp; omega, ?_⟩
     rw [show (idxA p (k + 1) l).toNat - k = (idxA p (k + 1) l).toNat - (k + 1) + 1 by omega]
     simpa using h3
theorem idxD_in {p : ExD → Bool} {l : List ExD} (h : 0 ≤ idxD p l) : (idxD p l).toNat < l.length ∧ p (l.getD (idxD p l).toNat default) = true := by
 obtain ⟨_, h2, h3⟩ := idxA_in (p := p) (l := l) (k := 0) h
 exact ⟨by simpa [idxD] using h2, by simpa [idxD] using h3⟩
theorem withB_is {x y : ExD} (h : withB x y = true) : y.at_ ≤ x.at_ ∧ w64 (x.at_ + x.n) ≤ w64 (y.at_ + y.n) := by
 unfold withB at h
 rw [Bool.and_eq_true] at h
 exact ⟨of_decide_eq_true h.1, of_decide_eq_true h.2⟩
theorem repD_len {l : List ExD} {k : Nat} {ps : List ExD} (h : k < l.length) : (repD l k ps).length = l.length - 1 + ps.length := by simp [repD]; omega
theorem part_pos {x y : ExD} (h1 : y.at_ ≤ x.at_) (h2 : x.at_ + x.n ≤ y.at_ + y.n) (h3 : 0 ≤ y.at_) (h4 : 0 ≤ x.at_ + x.n) : ∀ z ∈ partL x y, z.pos := fun z hz => by
 unfold partL at hz
 rcases List.mem_append.1 hz with hz | hz
 · split at hz
   · rw [List.mem_singleton.1 hz]; exact ⟨h3, by show 0 ≤ x.at_ - y.at_; omega⟩
   · cases hz
 · split at hz
   · rw [List.mem_singleton.1 hz]; exact ⟨h4, by show 0 ≤ y.at_ + y.n - (x.at_ + x.n); omega⟩
   · cases hz
set_option maxHeartbeats 4000000 in
set_option maxRecDepth 100000 in
theorem give_to (hok : SG0.Ok Try.prog) (s : SpD) (hs : s.Ok) (x : ExD) : To SG0 Try.prog 13 (startOf Try.prog 13 [.ptr 0 0, .agg (exA x)] (memF (spB s) 0 .e) 2)
   (fun v H' _ => (giveB s x = false ∧ leA v (ivA 40) ∧ endL (spB s) 0 H') ∨ (giveB s x = true ∧ leA v (ivA 0) ∧ endL (spB' (s.give x) 2) 0 H' ∧ endE (spE (s.give x) 2) H')) := by
 have hl := hs.len
 have hn : s.l.length ≤ 5000 := by omega
 have hn2 : s.l.length ≤ 10000 := by omega
 have hf1 : ∀ r, r < s.l.length → exF s.l r = exF (exsF s.l.length (exF s.l)) r := by rw [exsF_exF]; exact fun _ _ => rfl
 have hf2 : ∀ x ∈ exsF s.l.length (exF s.l), x.pos := by rw [exsF_exF]; exact hs.pos
 have e1 : exsF s.l.length (exF s.l) = s.l := exsF_exF s.l
 have hs1 := hs.lo
 have hs2 := hs.le
 have hs3 := hs.hi
 refine To.R (h := ?_)
 refine To.Bd (1 ≤ x.n) (h := ?_) (g := ?_)
 · intro q1
   refine To.R (h := ?_)
   refine To.Bd (s.lo ≤ x.at_) (h := ?_) (g := ?_)
   · intro q2
     refine To.R (h := ?_)
     refine To.Bd (x.at_ < s.hi) (h := ?_) (g := ?_)
     · intro q3
       refine To.R (C := fits IntKind.i64 (s.hi - x.at_)) (h := ?_)
       refine To.Bd (x.n ≤ s.hi - x.at_) (h := ?_) (g := ?_)
       · intro q4
         have hm : mayD s x = true := by unfold mayD; simp [q1, q2, q3, q4]
         refine To.R (C := Same s.l.length ∧ s.l.length ≤ 5000 ∧ (∀ (r : Nat), r < s.l.length → exF s.l r = exF (exsF s.l.length (exF s.l)) r)) (h := ?_)
         refine To.Bd (idxD (withB x) (exsF s.l.length (exF s.l)) < 0) (h := ?_) (g := ?_)
         · intro q5
           rw [e1] at q5
           have hcl : giveB s x = false := by unfold giveB; rw [hm, Bool.true_and]; exact decide_eq_false (by omega)
           refine To.R (h := ?_)
           refine To.E (AV.v (Value.int IntKind.i64 40)) (hq := ?_)
           refine .inl ⟨hcl, ?_⟩
           refine ⟨(of_eqP (C := Same IntKind.i64 ∧ Same (40 : Int)) (by kernel_rfl) (by (and_intros <;> try exact cl))), (endL_cons (B0 := AB.mem 52 none [AV.v (Value.bool true), AV.sy (Value.int IntKind.i64 s.lo), AV.sy (Value.int IntKind.i64 s.hi), AV.ow 1 s.l.length]) (by kernel_rfl) (of_eqP (C := 52 = spT ∧ (none : Option Nat) = none ∧ Same (AV.v (Value.bool true)) ∧ (Same IntKind.i64 ∧ Same s.lo) ∧ (Same IntKind.i64 ∧ Same s.hi) ∧ (Same 1 ∧ Same s.l.length) ∧ True) (by kernel_rfl) (by (and_intros <;> try exact cl))) (endL_cons (B0 := AB.rw 31 2 s.l.length (exF s.l)) (by kernel_rfl) (of_eqP (C := 31 = exT ∧ Same 2 ∧ Same s.l.length ∧ (∀ (r : Nat), r < s.l.length → exF s.l r = exF s.l r)) (by kernel_rfl) (by (and_intros <;> try exact cl))) endL_nil))⟩
         · intro q5
           have q5' : 0 ≤ idxD (withB x) s.l := by rw [e1] at q5; omega
           have hcl : giveB s x = true := by unfold giveB; rw [hm, Bool.true_and]; exact decide_eq_true q5'
           obtain ⟨i1, i2⟩ := idxD_in q5'
           obtain ⟨i3, i4⟩ := withB_is i2
           have i5 := hs.inD _ (mem_getD i1)
           have i6 := Can.all hs.can _ (mem_getD i1)
           rw [← e1] at q5' i1
           have hj1 : (idxD (withB x) (exsF s.l.length (exF s.l))).toNat < s.l.length := by rw [e1]; exact (idxD_in (by rw [e1] at q5'; exact q5')).1
           have hj1' : (idxD (withB x) (exsF s.l.length (exF s.l))).toNat < (exsF s.l.length (exF s.l)).length := by rw [exsF_len]; exact hj1
           have hj2 : idxD (withB x) (exsF s.l.length (exF s.l)) < (s.l.length : Int) := by omega
           obtain ⟨y, hy⟩ : ∃ y, y = s.l.getD (idxD (withB x) (exsF s.l.length (exF s.l))).toNat default := ⟨_, rfl⟩
           have hy' : y = s.l.getD (idxD (withB x) s.l).toNat default := by rw [hy, e1]
           rw [← hy'] at i3 i4 i5 i6
           have hw1 : w64 (y.at_ + y.n) = y.at_ + y.n := w64_of (by omega) (by omega)
           have hw2 : w64 (x.at_ + x.n) = x.at_ + x.n := w64_of (by omega) (by omega)
           rw [hw1, hw2] at i4
           have hfa : fits .i64 (x.at_ - y.at_) := fits_i64 (by omega) (by omega)
           have hfb : fits .i64 (w64 (y.at_ + y.n) - w64 (x.at_ + x.n)) := by rw [hw1, hw2]; exact fits_i64 (by omega) (by omega)
           rw [hy] at hfa hfb
           refine To.R (C := (0 ≤ idxD (withB x) (exsF s.l.length (exF s.l)) ∧ idxD (withB x) (exsF s.l.length (exF s.l)) < s.l.length) ∧ (idxD (withB x) (exsF s.l.length (exF s.l))).toNat < s.l.length ∧ fits IntKind.i64 (x.at_ - (s.l.getD (idxD (withB x) (exsF s.l.length (exF s.l))).toNat default).at_) ∧ True ∧ Same (AV.agg [AV.sy (Value.int IntKind.i64 x.at_), AV.sy (Value.int IntKind.i64 x.n)]) ∧ Same (AV.agg [AV.sy (Value.int IntKind.i64 (s.l.getD (idxD (withB x) (exsF s.l.length (exF s.l))).toNat default).at_), AV.sy (Value.int IntKind.i64 (s.l.getD (idxD (withB x) (exsF s.l.length (exF s.l))).toNat default).n)]) ∧ Same (AV.sy (Value.int IntKind.i64 (s.l.getD (idxD (withB x) (exsF s.l.length (exF s.l))).toNat default).at_)) ∧ Same (AV.sy (Value.int IntKind.i64 x.at_)) ∧ Same (AV.sy (Value.int IntKind.i64 (s.l.getD (idxD (withB x) (exsF s.l.length (exF s.l))).toNat default).at_)) ∧ True ∧ Same (AV.agg [AV.sy (Value.int IntKind.i64 x.at_), AV.sy (Value.int IntKind.i64 x.n)]) ∧ Same (AV.sy (Value.int IntKind.i64 (s.l.getD (idxD (withB x) (exsF s.l.length (exF s.l))).toNat default).at_)) ∧ Same (AV.sy (Value.int IntKind.i64 x.at_)) ∧ Same (AV.sy (Value.int IntKind.i64 (s.l.getD (idxD (withB x) (exsF s.l.length (exF s.l))).toNat default).at_)) ∧ True ∧ Same (AV.sy (Value.int IntKind.i64 (s.l.getD (idxD (withB x) (exsF s.l.length (exF s.l))).toNat default).at_)) ∧ Same (AV.sy (Value.int IntKind.i64 x.at_)) ∧ Same (AV.sy (Value.int IntKind.i64 (s.l.getD (idxD (withB x) (exsF s.l.length (exF s.l))).toNat default).at_)) ∧ fits IntKind.i64 (w64 ((s.l.getD (idxD (withB x) (exsF s.l.length (exF s.l))).toNat default).at_ + (s.l.getD (idxD (withB x) (exsF s.l.length (exF s.l))).toNat default).n) - w64 (x.at_ + x.n))) (h := ?_)
           refine To.Bd (0 < x.at_ - (s.l.getD (idxD (withB x) (exsF s.l.length (exF s.l))).toNat default).at_) (h := ?_) (g := ?_)
           · intro q6
             rw [← hy] at q6
             refine To.R (h := ?_)
             refine To.Bd (0 < w64 ((s.l.getD (idxD (withB x) (exsF s.l.length (exF s.l))).toNat default).at_ + (s.l.getD (idxD (withB x) (exsF s.l.length (exF s.l))).toNat default).n) - w64 (x.at_ + x.n)) (h := ?_) (g := ?_)
             · intro q7
               rw [← hy, hw1, hw2] at q7
               have hp1 : partL x y = [(⟨y.at_, x.at_ - y.at_⟩ : ExD), (⟨x.end, y.end - x.end⟩ : ExD)] := by unfold partL; rw [if_pos q6, if_pos q7]; rfl
               have hp0 : [(⟨(s.l.getD (idxD (withB x) (exsF s.l.length (exF s.l))).toNat default).at_, x.at_ - (s.l.getD (idxD (withB x) (exsF s.l.length (exF s.l))).toNat default).at_⟩ : ExD), (⟨w64 (x.at_ + x.n), w64 ((s.l.getD (idxD (withB x) (exsF s.l.length (exF s.l))).toNat default).at_ + (s.l.getD (idxD (withB x) (exsF s.l.length (exF s.l))).toNat default).n) - w64 (x.at_ + x.n)⟩ : ExD)] = partL x y := by rw [← hy, hw1, hw2]; exact hp1.symm
               have hp2 : ∀ z ∈ [(⟨(s.l.getD (idxD (withB x) (exsF s.l.length (exF s.l))).toNat default).at_, x.at_ - (s.l.getD (idxD (withB x) (exsF s.l.length (exF s.l))).toNat default).at_⟩ : ExD), (⟨w64 (x.at_ + x.n), w64 ((s.l.getD (idxD (withB x) (exsF s.l.length (exF s.l))).toNat default).at_ + (s.l.getD (idxD (withB x) (exsF s.l.length (exF s.l))).toNat default).n) - w64 (x.at_ + x.n)⟩ : ExD)], z.pos := by rw [hp0]; exact part_pos i3 i4 i5.1 (by omega)
               have hg1 : (s.give x).l = repD (exsF s.l.length (exF s.l)) (idxD (withB x) (exsF s.l.length (exF s.l))).toNat [(⟨(s.l.getD (idxD (withB x) (exsF s.l.length (exF s.l))).toNat default).at_, x.at_ - (s.l.getD (idxD (withB x) (exsF s.l.length (exF s.l))).toNat default).at_⟩ : ExD), (⟨w64 (x.at_ + x.n), w64 ((s.l.getD (idxD (withB x) (exsF s.l.length (exF s.l))).toNat default).at_ + (s.l.getD (idxD (withB x) (exsF s.l.length (exF s.l))).toNat default).n) - w64 (x.at_ + x.n)⟩ : ExD)] := by rw [hp0, e1, hy']; rfl
               have hg2 : s.l.length - 1 + [(⟨(s.l.getD (idxD (withB x) (exsF s.l.length (exF s.l))).toNat default).at_, x.at_ - (s.l.getD (idxD (withB x) (exsF s.l.length (exF s.l))).toNat default).at_⟩ : ExD), (⟨w64 (x.at_ + x.n), w64 ((s.l.getD (idxD (withB x) (exsF s.l.length (exF s.l))).toNat default).at_ + (s.l.getD (idxD (withB x) (exsF s.l.length (exF s.l))).toNat default).n) - w64 (x.at_ + x.n)⟩ : ExD)].length = (s.give x).l.length := by rw [hg1, e1]; exact (repD_len (by rw [← e1]; exact hj1')).symm
               have hg3 : ∀ r, r < s.l.length - 1 + [(⟨(s.l.getD (idxD (withB x) (exsF s.l.length (exF s.l))).toNat default).at_, x.at_ - (s.l.getD (idxD (withB x) (exsF s.l.length (exF s.l))).toNat default).at_⟩ : ExD), (⟨w64 (x.at_ + x.n), w64 ((s.l.getD (idxD (withB x) (exsF s.l.length (exF s.l))).toNat default).at_ + (s.l.getD (idxD (withB x) (exsF s.l.length (exF s.l))).toNat default).n) - w64 (x.at_ + x.n)⟩ : ExD)].length → exF (repD (exsF s.l.length (exF s.l)) (idxD (withB x) (exsF s.l.length (exF s.l))).toNat [(⟨(s.l.getD (idxD (withB x) (exsF s.l.length (exF s.l))).toNat default).at_, x.at_ - (s.l.getD (idxD (withB x) (exsF s.l.length (exF s.l))).toNat default).at_⟩ : ExD), (⟨w64 (x.at_ + x.n), w64 ((s.l.getD (idxD (withB x) (exsF s.l.length (exF s.l))).toNat default).at_ + (s.l.getD (idxD (withB x) (exsF s.l.length (exF s.l))).toNat default).n) - w64 (x.at_ + x.n)⟩ : ExD)]) r = exF (s.give x).l r := by rw [hg1]; exact fun _ _ => rfl
               refine To.R (C := fits IntKind.i64 (idxD (withB x) (exsF s.l.length (exF s.l)) + 1) ∧ Same s.l.length ∧ s.l.length ≤ 10000 ∧ 0 ≤ idxD (withB x) (exsF s.l.length (exF s.l)) ∧ idxD (withB x) (exsF s.l.length (exF s.l)) < s.l.length ∧ Same (idxD (withB x) (exsF s.l.length (exF s.l)) + 1) ∧ (∀ (x_1 : ExD), x_1 ∈ [ExD.mk (s.l.getD (idxD (withB x) (exsF s.l.length (exF s.l))).toNat default).at_ (x.at_ - (s.l.getD (idxD (withB x) (exsF s.l.length (exF s.l))).toNat default).at_), ExD.mk (w64 (x.at_ + x.n)) (w64 ((s.l.getD (idxD (withB x) (exsF s.l.length (exF s.l))).toNat default).at_ + (s.l.getD (idxD (withB x) (exsF s.l.length (exF s.l))).toNat default).n) - w64 (x.at_ + x.n))] → x_1.pos) ∧ (∀ (r : Nat), r < s.l.length → exF s.l r = exF (exsF s.l.length (exF s.l)) r) ∧ (∀ (x : ExD), x ∈ exsF s.l.length (exF s.l) → x.pos)) (h := ?_)
               refine To.L (L := [LN.old 12]) (kp := [4]) (st := fun (a : Unit) => (⟨(⟨13, 73, (slotT 73 [(4, AV.v (Value.int IntKind.i64 0))]), ARg.no, [(AItem.code Go.Code.ret)], [], true, none, 2⟩ : AFr), [], memF [AB.mem 52 none [AV.v (Value.bool true), AV.sy (Value.int IntKind.i64 s.lo), AV.sy (Value.int IntKind.i64 s.hi), AV.ow 2 (s.l.length - 1 + [ExD.mk (s.l.getD (idxD (withB x) (exsF s.l.length (exF s.l))).toNat default).at_ (x.at_ - (s.l.getD (idxD (withB x) (exsF s.l.length (exF s.l))).toNat default).at_), ExD.mk (w64 (x.at_ + x.n)) (w64 ((s.l.getD (idxD (withB x) (exsF s.l.length (exF s.l))).toNat default).at_ + (s.l.getD (idxD (withB x) (exsF s.l.length (exF s.l))).toNat default).n) - w64 (x.at_ + x.n))].length)], AB.dead, AB.rw 31 2 (s.l.length - 1 + [ExD.mk (s.l.getD (idxD (withB x) (exsF s.l.length (exF s.l))).toNat default).at_ (x.at_ - (s.l.getD (idxD (withB x) (exsF s.l.length (exF s.l))).toNat default).at_), ExD.mk (w64 (x.at_ + x.n)) (w64 ((s.l.getD (idxD (withB x) (exsF s.l.length (exF s.l))).toNat default).at_ + (s.l.getD (idxD (withB x) (exsF s.l.length (exF s.l))).toNat default).n) - w64 (x.at_ + x.n))].length) (exF (repD (exsF s.l.length (exF s.l)) (idxD (withB x) (exsF s.l.length (exF s.l))).toNat [ExD.mk (s.l.getD (idxD (withB x) (exsF s.l.length (exF s.l))).toNat default).at_ (x.at_ - (s.l.getD (idxD (withB x) (exsF s.l.length (exF s.l))).toNat default).at_), ExD.mk (w64 (x.at_ + x.n)) (w64 ((s.l.getD (idxD (withB x) (exsF s.l.length (exF s.l))).toNat default).at_ + (s.l.getD (idxD (withB x) (exsF s.l.length (exF s.l))).toNat default).n) - w64 (x.at_ + x.n))]))] 0 Tr.e, 3⟩ : ASt)) (h := ?_) (fun (_ : Unit) => []) (fun _ => []) (fun _ => True) (fun _ => 0) (())
               intro _ _ _
               refine To.E (AV.v (Value.int IntKind.i64 0)) (hq := ?_)
               refine .inr ⟨hcl, ?_⟩
               refine ⟨(of_eqP (C := Same IntKind.i64 ∧ Same (0 : Int)) (by kernel_rfl) (by (and_intros <;> try exact cl))), ⟨(endL_cons (B0 := AB.mem 52 none [AV.v (Value.bool true), AV.sy (Value.int IntKind.i64 s.lo), AV.sy (Value.int IntKind.i64 s.hi), AV.ow 2 (s.l.length - 1 + [ExD.mk (s.l.getD (idxD (withB x) (exsF s.l.length (exF s.l))).toNat default).at_ (x.at_ - (s.l.getD (idxD (withB x) (exsF s.l.length (exF s.l))).toNat default).at_), ExD.mk (w64 (x.at_ + x.n)) (w64 ((s.l.getD (idxD (withB x) (exsF s.l.length (exF s.l))).toNat default).at_ + (s.l.getD (idxD (withB x) (exsF s.l.length (exF s.l))).toNat default).n) - w64 (x.at_ + x.n))].length)]) (by kernel_rfl) (of_eqP (C := 52 = spT ∧ (none : Option Nat) = none ∧ Same (AV.v (Value.bool true)) ∧ (Same IntKind.i64 ∧ s.lo = (s.give x).lo) ∧ (Same IntKind.i64 ∧ s.hi = (s.give x).hi) ∧ (Same 2 ∧ s.l.length - 1 + [ExD.mk (s.l.getD (idxD (withB x) (exsF s.l.length (exF s.l))).toNat default).at_ (x.at_ - (s.l.getD (idxD (withB x) (exsF s.l.length (exF s.l))).toNat default).at_), ExD.mk (w64 (x.at_ + x.n)) (w64 ((s.l.getD (idxD (withB x) (exsF s.l.length (exF s.l))).toNat default).at_ + (s.l.getD (idxD (withB x) (exsF s.l.length (exF s.l))).toNat default).n) - w64 (x.at_ + x.n))].length = (s.give x).l.length) ∧ True) (by kernel_rfl) ?_) (endL_cons (B0 := AB.dead) (by kernel_rfl) (of_eqP (C := True) (by kernel_rfl) (by (and_intros <;> try exact cl))) endL_nil)), (endE_cons (B0 := AB.rw 31 2 (s.l.length - 1 + [ExD.mk (s.l.getD (idxD (withB x) (exsF s.l.length (exF s.l))).toNat default).at_ (x.at_ - (s.l.getD (idxD (withB x) (exsF s.l.length (exF s.l))).toNat default).at_), ExD.mk (w64 (x.at_ + x.n)) (w64 ((s.l.getD (idxD (withB x) (exsF s.l.length (exF s.l))).toNat default).at_ + (s.l.getD (idxD (withB x) (exsF s.l.length (exF s.l))).toNat default).n) - w64 (x.at_ + x.n))].length) (exF (repD (exsF s.l.length (exF s.l)) (idxD (withB x) (exsF s.l.length (exF s.l))).toNat [ExD.mk (s.l.getD (idxD (withB x) (exsF s.l.length (exF s.l))).toNat default).at_ (x.at_ - (s.l.getD (idxD (withB x) (exsF s.l.length (exF s.l))).toNat default).at_), ExD.mk (w64 (x.at_ + x.n)) (w64 ((s.l.getD (idxD (withB x) (exsF s.l.length (exF s.l))).toNat default).at_ + (s.l.getD (idxD (withB x) (exsF s.l.length (exF s.l))).toNat default).n) - w64 (x.at_ + x.n))]))) (by kernel_rfl) (of_eqP (C := 31 = exT ∧ Same 2 ∧ s.l.length - 1 + [ExD.mk (s.l.getD (idxD (withB x) (exsF s.l.length (exF s.l))).toNat default).at_ (x.at_ - (s.l.getD (idxD (withB x) (exsF s.l.length (exF s.l))).toNat default).at_), ExD.mk (w64 (x.at_ + x.n)) (w64 ((s.l.getD (idxD (withB x) (exsF s.l.length (exF s.l))).toNat default).at_ + (s.l.getD (idxD (withB x) (exsF s.l.length (exF s.l))).toNat default).n) - w64 (x.at_ + x.n))].length = (s.give x).l.length ∧ (∀ (r : Nat), r < s.l.length - 1 + [ExD.mk (s.l.getD (idxD (withB x) (exsF s.l.length (exF s.l))).toNat default).at_ (x.at_ - (s.l.getD (idxD (withB x) (exsF s.l.length (exF s.l))).toNat default).at_), ExD.mk (w64 (x.at_ + x.n)) (w64 ((s.l.getD (idxD (withB x) (exsF s.l.length (exF s.l))).toNat default).at_ + (s.l.getD (idxD (withB x) (exsF s.l.length (exF s.l))).toNat default).n) - w64 (x.at_ + x.n))].length → exF (repD (exsF s.l.length (exF s.l)) (idxD (withB x) (exsF s.l.length (exF s.l))).toNat [ExD.mk (s.l.getD (idxD (withB x) (exsF s.l.length (exF s.l))).toNat default).at_ (x.at_ - (s.l.getD (idxD (withB x) (exsF s.l.length (exF s.l))).toNat default).at_), ExD.mk (w64 (x.at_ + x.n)) (w64 ((s.l.getD (idxD (withB x) (exsF s.l.length (exF s.l))).toNat default).at_ + (s.l.getD (idxD (withB x) (exsF s.l.length (exF s.l))).toNat default).n) - w64 (x.at_ + x.n))]) r = exF (s.give x).l r)) (by kernel_rfl) (by (and_intros <;> try exact cl))) endE_nil)⟩⟩
               exact ⟨rfl, rfl, rfl, ⟨rfl, rfl⟩, ⟨rfl, rfl⟩, ⟨rfl, hg2⟩, trivial⟩
             · intro q7
               rw [← hy, hw1, hw2] at q7
               have hp1 : partL x y = [(⟨y.at_, x.at_ - y.at_⟩ : ExD)] := by unfold partL; rw [if_pos q6, if_neg q7]; rfl
               have hp0 : [(⟨(s.l.getD (idxD (withB x) (exsF s.l.length (exF s.l))).toNat default).at_, x.at_ - (s.l.getD (idxD (withB x) (exsF s.l.length (exF s.l))).toNat default).at_⟩ : ExD)] = partL x y := by rw [← hy]; exact hp1.symm
               have hp2 : ∀ z ∈ [(⟨(s.l.getD (idxD (withB x) (exsF s.l.length (exF s.l))).toNat default).at_, x.at_ - (s.l.getD (idxD (withB x) (exsF s.l.length (exF s.l))).toNat default).at_⟩ : ExD)], z.pos := by rw [hp0]; exact part_pos i3 i4 i5.1 (by omega)
               have hg1 : (s.give x).l = repD (exsF s.l.length (exF s.l)) (idxD (withB x) (exsF s.l.length (exF s.l))).toNat [(⟨(s.l.getD (idxD (withB x) (exsF s.l.length (exF s.l))).toNat default).at_, x.at_ - (s.l.getD (idxD (withB x) (exsF s.l.length (exF s.l))).toNat default).at_⟩ : ExD)] := by rw [hp0, e1, hy']; rfl
               have hg2 : s.l.length - 1 + [(⟨(s.l.getD (idxD (withB x) (exsF s.l.length (exF s.l))).toNat default).at_, x.at_ - (s.l.getD (idxD (withB x) (exsF s.l.length (exF s.l))).toNat default).at_⟩ : ExD)].length = (s.give x).l.length := by rw [hg1, e1]; exact (repD_len (by rw [← e1]; exact hj1')).symm
               have hg3 : ∀ r, r < s.l.length - 1 + [(⟨(s.l.getD (idxD (withB x) (exsF s.l.length (exF s.l))).toNat default).at_, x.at_ - (s.l.getD (idxD (withB x) (exsF s.l.length (exF s.l))).toNat default).at_⟩ : ExD)].length → exF (repD (exsF s.l.length (exF s.l)) (idxD (withB x) (exsF s.l.length (exF s.l))).toNat [(⟨(s.l.getD (idxD (withB x) (exsF s.l.length (exF s.l))).toNat default).at_, x.at_ - (s.l.getD (idxD (withB x) (exsF s.l.length (exF s.l))).toNat default).at_⟩ : ExD)]) r = exF (s.give x).l r := by rw [hg1]; exact fun _ _ => rfl
               refine To.R (C := fits IntKind.i64 (idxD (withB x) (exsF s.l.length (exF s.l)) + 1) ∧ Same s.l.length ∧ s.l.length ≤ 10000 ∧ 0 ≤ idxD (withB x) (exsF s.l.length (exF s.l)) ∧ idxD (withB x) (exsF s.l.length (exF s.l)) < s.l.length ∧ Same (idxD (withB x) (exsF s.l.length (exF s.l)) + 1) ∧ (∀ (x_1 : ExD), x_1 ∈ [ExD.mk (s.l.getD (idxD (withB x) (exsF s.l.length (exF s.l))).toNat default).at_ (x.at_ - (s.l.getD (idxD (withB x) (exsF s.l.length (exF s.l))).toNat default).at_)] → x_1.pos) ∧ (∀ (r : Nat), r < s.l.length → exF s.l r = exF (exsF s.l.length (exF s.l)) r) ∧ (∀ (x : ExD), x ∈ exsF s.l.length (exF s.l) → x.pos)) (h := ?_)
               refine To.L (L := [LN.old 10]) (kp := [4]) (st := fun (a : Unit) => (⟨(⟨13, 73, (slotT 73 [(4, AV.v (Value.int IntKind.i64 0))]), ARg.no, [(AItem.code Go.Code.ret)], [], true, none, 2⟩ : AFr), [], memF [AB.mem 52 none [AV.v (Value.bool true), AV.sy (Value.int IntKind.i64 s.lo), AV.sy (Value.int IntKind.i64 s.hi), AV.ow 2 (s.l.length - 1 + [ExD.mk (s.l.getD (idxD (withB x) (exsF s.l.length (exF s.l))).toNat default).at_ (x.at_ - (s.l.getD (idxD (withB x) (exsF s.l.length (exF s.l))).toNat default).at_)].length)], AB.dead, AB.rw 31 2 (s.l.length - 1 + [ExD.mk (s.l.getD (idxD (withB x) (exsF s.l.length (exF s.l))).toNat default).at_ (x.at_ - (s.l.getD (idxD (withB x) (exsF s.l.length (exF s.l))).toNat default).at_)].length) (exF (repD (exsF s.l.length (exF s.l)) (idxD (withB x) (exsF s.l.length (exF s.l))).toNat [ExD.mk (s.l.getD (idxD (withB x) (exsF s.l.length (exF s.l))).toNat default).at_ (x.at_ - (s.l.getD (idxD (withB x) (exsF s.l.length (exF s.l))).toNat default).at_)]))] 0 Tr.e, 3⟩ : ASt)) (h := ?_) (fun (_ : Unit) => []) (fun _ => []) (fun _ => True) (fun _ => 0) (())
               intro _ _ _
               refine To.E (AV.v (Value.int IntKind.i64 0)) (hq := ?_)
               refine .inr ⟨hcl, ?_⟩
               refine ⟨(of_eqP (C := Same IntKind.i64 ∧ Same (0 : Int)) (by kernel_rfl) (by (and_intros <;> try exact cl))), ⟨(endL_cons (B0 := AB.mem 52 none [AV.v (Value.bool true), AV.sy (Value.int IntKind.i64 s.lo), AV.sy (Value.int IntKind.i64 s.hi), AV.ow 2 (s.l.length - 1 + [ExD.mk (s.l.getD (idxD (withB x) (exsF s.l.length (exF s.l))).toNat default).at_ (x.at_ - (s.l.getD (idxD (withB x) (exsF s.l.length (exF s.l))).toNat default).at_)].length)]) (by kernel_rfl) (of_eqP (C := 52 = spT ∧ (none : Option Nat) = none ∧ Same (AV.v (Value.bool true)) ∧ (Same IntKind.i64 ∧ s.lo = (s.give x).lo) ∧ (Same IntKind.i64 ∧ s.hi = (s.give x).hi) ∧ (Same 2 ∧ s.l.length - 1 + [ExD.mk (s.l.getD (idxD (withB x) (exsF s.l.length (exF s.l))).toNat default).at_ (x.at_ - (s.l.getD (idxD (withB x) (exsF s.l.length (exF s.l))).toNat default).at_)].length = (s.give x).l.length) ∧ True) (by kernel_rfl) ?_) (endL_cons (B0 := AB.dead) (by kernel_rfl) (of_eqP (C := True) (by kernel_rfl) (by (and_intros <;> try exact cl))) endL_nil)), (endE_cons (B0 := AB.rw 31 2 (s.l.length - 1 + [ExD.mk (s.l.getD (idxD (withB x) (exsF s.l.length (exF s.l))).toNat default).at_ (x.at_ - (s.l.getD (idxD (withB x) (exsF s.l.length (exF s.l))).toNat default).at_)].length) (exF (repD (exsF s.l.length (exF s.l)) (idxD (withB x) (exsF s.l.length (exF s.l))).toNat [ExD.mk (s.l.getD (idxD (withB x) (exsF s.l.length (exF s.l))).toNat default).at_ (x.at_ - (s.l.getD (idxD (withB x) (exsF s.l.length (exF s.l))).toNat default).at_)]))) (by kernel_rfl) (of_eqP (C := 31 = exT ∧ Same 2 ∧ s.l.length - 1 + [ExD.mk (s.l.getD (idxD (withB x) (exsF s.l.length (exF s.l))).toNat default).at_ (x.at_ - (s.l.getD (idxD (withB x) (exsF s.l.length (exF s.l))).toNat default).at_)].length = (s.give x).l.length ∧ (∀ (r : Nat), r < s.l.length - 1 + [ExD.mk (s.l.getD (idxD (withB x) (exsF s.l.length (exF s.l))).toNat default).at_ (x.at_ - (s.l.getD (idxD (withB x) (exsF s.l.length (exF s.l))).toNat default).at_)].length → exF (repD (exsF s.l.length (exF s.l)) (idxD (withB x) (exsF s.l.length (exF s.l))).toNat [ExD.mk (s.l.getD (idxD (withB x) (exsF s.l.length (exF s.l))).toNat default).at_ (x.at_ - (s.l.getD (idxD (withB x) (exsF s.l.length (exF s.l))).toNat default).at_)]) r = exF (s.give x).l r)) (by kernel_rfl) (by (and_intros <;> try exact cl))) endE_nil)⟩⟩
               exact ⟨rfl, rfl, rfl, ⟨rfl, rfl⟩, ⟨rfl, rfl⟩, ⟨rfl, hg2⟩, trivial⟩
           · intro q6
             rw [← hy] at q6
             refine To.R (h := ?_)
             refine To.Bd (0 < w64 ((s.l.getD (idxD (withB x) (exsF s.l.length (exF s.l))).toNat default).at_ + (s.l.getD (idxD (withB x) (exsF s.l.length (exF s.l))).toNat default).n) - w64 (x.at_ + x.n)) (h := ?_) (g := ?_)
             · intro q7
               rw [← hy, hw1, hw2] at q7
               have hp1 : partL x y = [(⟨x.end, y.end - x.end⟩ : ExD)] := by unfold partL; rw [if_neg q6, if_pos q7]; rfl
               have hp0 : [(⟨w64 (x.at_ + x.n), w64 ((s.l.getD (idxD (withB x) (exsF s.l.length (exF s.l))).toNat default).at_ + (s.l.getD (idxD (withB x) (exsF s.l.length (exF s.l))).toNat default).n) - w64 (x.at_ + x.n)⟩ : ExD)] = partL x y := by rw [← hy, hw1, hw2]; exact hp1.symm
               have hp2 : ∀ z ∈ [(⟨w64 (x.at_ + x.n), w64 ((s.l.getD (idxD (withB x) (exsF s.l.length (exF s.l))).toNat default).at_ + (s.l.getD (idxD (withB x) (exsF s.l.length (exF s.l))).toNat default).n) - w64 (x.at_ + x.n)⟩ : ExD)], z.pos := by rw [hp0]; exact part_pos i3 i4 i5.1 (by omega)
               have hg1 : (s.give x).l = repD (exsF s.l.length (exF s.l)) (idxD (withB x) (exsF s.l.length (exF s.l))).toNat [(⟨w64 (x.at_ + x.n), w64 ((s.l.getD (idxD (withB x) (exsF s.l.length (exF s.l))).toNat default).at_ + (s.l.getD (idxD (withB x) (exsF s.l.length (exF s.l))).toNat default).n) - w64 (x.at_ + x.n)⟩ : ExD)] := by rw [hp0, e1, hy']; rfl
               have hg2 : s.l.length - 1 + [(⟨w64 (x.at_ + x.n), w64 ((s.l.getD (idxD (withB x) (exsF s.l.length (exF s.l))).toNat default).at_ + (s.l.getD (idxD (withB x) (exsF s.l.length (exF s.l))).toNat default).n) - w64 (x.at_ + x.n)⟩ : ExD)].length = (s.give x).l.length := by rw [hg1, e1]; exact (repD_len (by rw [← e1]; exact hj1')).symm
               have hg3 : ∀ r, r < s.l.length - 1 + [(⟨w64 (x.at_ + x.n), w64 ((s.l.getD (idxD (withB x) (exsF s.l.length (exF s.l))).toNat default).at_ + (s.l.getD (idxD (withB x) (exsF s.l.length (exF s.l))).toNat default).n) - w64 (x.at_ + x.n)⟩ : ExD)].length → exF (repD (exsF s.l.length (exF s.l)) (idxD (withB x) (exsF s.l.length (exF s.l))).toNat [(⟨w64 (x.at_ + x.n), w64 ((s.l.getD (idxD (withB x) (exsF s.l.length (exF s.l))).toNat default).at_ + (s.l.getD (idxD (withB x) (exsF s.l.length (exF s.l))).toNat default).n) - w64 (x.at_ + x.n)⟩ : ExD)]) r = exF (s.give x).l r := by rw [hg1]; exact fun _ _ => rfl
               refine To.R (C := fits IntKind.i64 (idxD (withB x) (exsF s.l.length (exF s.l)) + 1) ∧ Same s.l.length ∧ s.l.length ≤ 10000 ∧ 0 ≤ idxD (withB x) (exsF s.l.length (exF s.l)) ∧ idxD (withB x) (exsF s.l.length (exF s.l)) < s.l.length ∧ Same (idxD (withB x) (exsF s.l.length (exF s.l)) + 1) ∧ (∀ (x_1 : ExD), x_1 ∈ [ExD.mk (w64 (x.at_ + x.n)) (w64 ((s.l.getD (idxD (withB x) (exsF s.l.length (exF s.l))).toNat default).at_ + (s.l.getD (idxD (withB x) (exsF s.l.length (exF s.l))).toNat default).n) - w64 (x.at_ + x.n))] → x_1.pos) ∧ (∀ (r : Nat), r < s.l.length → exF s.l r = exF (exsF s.l.length (exF s.l)) r) ∧ (∀ (x : ExD), x ∈ exsF s.l.length (exF s.l) → x.pos)) (h := ?_)
               refine To.L (L := [LN.old 10]) (kp := [4]) (st := fun (a : Unit) => (⟨(⟨13, 73, (slotT 73 [(4, AV.v (Value.int IntKind.i64 0))]), ARg.no, [(AItem.code Go.Code.ret)], [], true, none, 2⟩ : AFr), [], memF [AB.mem 52 none [AV.v (Value.bool true), AV.sy (Value.int IntKind.i64 s.lo), AV.sy (Value.int IntKind.i64 s.hi), AV.ow 2 (s.l.length - 1 + [ExD.mk (w64 (x.at_ + x.n)) (w64 ((s.l.getD (idxD (withB x) (exsF s.l.length (exF s.l))).toNat default).at_ + (s.l.getD (idxD (withB x) (exsF s.l.length (exF s.l))).toNat default).n) - w64 (x.at_ + x.n))].length)], AB.dead, AB.rw 31 2 (s.l.length - 1 + [ExD.mk (w64 (x.at_ + x.n)) (w64 ((s.l.getD (idxD (withB x) (exsF s.l.length (exF s.l))).toNat default).at_ + (s.l.getD (idxD (withB x) (exsF s.l.length (exF s.l))).toNat default).n) - w64 (x.at_ + x.n))].length) (exF (repD (exsF s.l.length (exF s.l)) (idxD (withB x) (exsF s.l.length (exF s.l))).toNat [ExD.mk (w64 (x.at_ + x.n)) (w64 ((s.l.getD (idxD (withB x) (exsF s.l.length (exF s.l))).toNat default).at_ + (s.l.getD (idxD (withB x) (exsF s.l.length (exF s.l))).toNat default).n) - w64 (x.at_ + x.n))]))] 0 Tr.e, 3⟩ : ASt)) (h := ?_) (fun (_ : Unit) => []) (fun _ => []) (fun _ => True) (fun _ => 0) (())
               intro _ _ _
               refine To.E (AV.v (Value.int IntKind.i64 0)) (hq := ?_)
               refine .inr ⟨hcl, ?_⟩
               refine ⟨(of_eqP (C := Same IntKind.i64 ∧ Same (0 : Int)) (by kernel_rfl) (by (and_intros <;> try exact cl))), ⟨(endL_cons (B0 := AB.mem 52 none [AV.v (Value.bool true), AV.sy (Value.int IntKind.i64 s.lo), AV.sy (Value.int IntKind.i64 s.hi), AV.ow 2 (s.l.length - 1 + [ExD.mk (w64 (x.at_ + x.n)) (w64 ((s.l.getD (idxD (withB x) (exsF s.l.length (exF s.l))).toNat default).at_ + (s.l.getD (idxD (withB x) (exsF s.l.length (exF s.l))).toNat default).n) - w64 (x.at_ + x.n))].length)]) (by kernel_rfl) (of_eqP (C := 52 = spT ∧ (none : Option Nat) = none ∧ Same (AV.v (Value.bool true)) ∧ (Same IntKind.i64 ∧ s.lo = (s.give x).lo) ∧ (Same IntKind.i64 ∧ s.hi = (s.give x).hi) ∧ (Same 2 ∧ s.l.length - 1 + [ExD.mk (w64 (x.at_ + x.n)) (w64 ((s.l.getD (idxD (withB x) (exsF s.l.length (exF s.l))).toNat default).at_ + (s.l.getD (idxD (withB x) (exsF s.l.length (exF s.l))).toNat default).n) - w64 (x.at_ + x.n))].length = (s.give x).l.length) ∧ True) (by kernel_rfl) ?_) (endL_cons (B0 := AB.dead) (by kernel_rfl) (of_eqP (C := True) (by kernel_rfl) (by (and_intros <;> try exact cl))) endL_nil)), (endE_cons (B0 := AB.rw 31 2 (s.l.length - 1 + [ExD.mk (w64 (x.at_ + x.n)) (w64 ((s.l.getD (idxD (withB x) (exsF s.l.length (exF s.l))).toNat default).at_ + (s.l.getD (idxD (withB x) (exsF s.l.length (exF s.l))).toNat default).n) - w64 (x.at_ + x.n))].length) (exF (repD (exsF s.l.length (exF s.l)) (idxD (withB x) (exsF s.l.length (exF s.l))).toNat [ExD.mk (w64 (x.at_ + x.n)) (w64 ((s.l.getD (idxD (withB x) (exsF s.l.length (exF s.l))).toNat default).at_ + (s.l.getD (idxD (withB x) (exsF s.l.length (exF s.l))).toNat default).n) - w64 (x.at_ + x.n))]))) (by kernel_rfl) (of_eqP (C := 31 = exT ∧ Same 2 ∧ s.l.length - 1 + [ExD.mk (w64 (x.at_ + x.n)) (w64 ((s.l.getD (idxD (withB x) (exsF s.l.length (exF s.l))).toNat default).at_ + (s.l.getD (idxD (withB x) (exsF s.l.length (exF s.l))).toNat default).n) - w64 (x.at_ + x.n))].length = (s.give x).l.length ∧ (∀ (r : Nat), r < s.l.length - 1 + [ExD.mk (w64 (x.at_ + x.n)) (w64 ((s.l.getD (idxD (withB x) (exsF s.l.length (exF s.l))).toNat default).at_ + (s.l.getD (idxD (withB x) (exsF s.l.length (exF s.l))).toNat default).n) - w64 (x.at_ + x.n))].length → exF (repD (exsF s.l.length (exF s.l)) (idxD (withB x) (exsF s.l.length (exF s.l))).toNat [ExD.mk (w64 (x.at_ + x.n)) (w64 ((s.l.getD (idxD (withB x) (exsF s.l.length (exF s.l))).toNat default).at_ + (s.l.getD (idxD (withB x) (exsF s.l.length (exF s.l))).toNat default).n) - w64 (x.at_ + x.n))]) r = exF (s.give x).l r)) (by kernel_rfl) (by (and_intros <;> try exact cl))) endE_nil)⟩⟩
               exact ⟨rfl, rfl, rfl, ⟨rfl, rfl⟩, ⟨rfl, rfl⟩, ⟨rfl, hg2⟩, trivial⟩
             · intro q7
               rw [← hy, hw1, hw2] at q7
               have hp1 : partL x y = ([] : List ExD) := by unfold partL; rw [if_neg q6, if_neg q7]; rfl
               have hp0 : ([] : List ExD) = partL x y := by exact hp1.symm
               have hp2 : ∀ z ∈ ([] : List ExD), z.pos := by rw [hp0]; exact part_pos i3 i4 i5.1 (by omega)
               have hg1 : (s.give x).l = repD (exsF s.l.length (exF s.l)) (idxD (withB x) (exsF s.l.length (exF s.l))).toNat ([] : List ExD) := by rw [hp0, e1, hy']; rfl
               have hg2 : s.l.length - 1 + ([] : List ExD).length = (s.give x).l.length := by rw [hg1, e1]; exact (repD_len (by rw [← e1]; exact hj1')).symm
               have hg3 : ∀ r, r < s.l.length - 1 + ([] : List ExD).length → exF (repD (exsF s.l.length (exF s.l)) (idxD (withB x) (exsF s.l.length (exF s.l))).toNat ([] : List ExD)) r = exF (s.give x).l r := by rw [hg1]; exact fun _ _ => rfl
               refine To.R (C := fits IntKind.i64 (idxD (withB x) (exsF s.l.length (exF s.l)) + 1) ∧ Same s.l.length ∧ s.l.length ≤ 10000 ∧ 0 ≤ idxD (withB x) (exsF s.l.length (exF s.l)) ∧ idxD (withB x) (exsF s.l.length (exF s.l)) < s.l.length ∧ Same (idxD (withB x) (exsF s.l.length (exF s.l)) + 1) ∧ (∀ (x : ExD), x ∈ [] → x.pos) ∧ (∀ (r : Nat), r < s.l.length → exF s.l r = exF (exsF s.l.length (exF s.l)) r) ∧ (∀ (x : ExD), x ∈ exsF s.l.length (exF s.l) → x.pos)) (h := ?_)
               refine To.L (L := [LN.old 8]) (kp := [4]) (st := fun (a : Unit) => (⟨(⟨13, 73, (slotT 73 [(4, AV.v (Value.int IntKind.i64 0))]), ARg.no, [(AItem.code Go.Code.ret)], [], true, none, 2⟩ : AFr), [], memF [AB.mem 52 none [AV.v (Value.bool true), AV.sy (Value.int IntKind.i64 s.lo), AV.sy (Value.int IntKind.i64 s.hi), AV.ow 2 (s.l.length - 1 + 0)], AB.dead, AB.rw 31 2 (s.l.length - 1 + 0) (exF (repD (exsF s.l.length (exF s.l)) (idxD (withB x) (exsF s.l.length (exF s.l))).toNat []))] 0 Tr.e, 3⟩ : ASt)) (h := ?_) (fun (_ : Unit) => []) (fun _ => []) (fun _ => True) (fun _ => 0) (())
               intro _ _ _
               refine To.E (AV.v (Value.int IntKind.i64 0)) (hq := ?_)
               refine .inr ⟨hcl, ?_⟩
               refine ⟨(of_eqP (C := Same IntKind.i64 ∧ Same (0 : Int)) (by kernel_rfl) (by (and_intros <;> try exact cl))), ⟨(endL_cons (B0 := AB.mem 52 none [AV.v (Value.bool true), AV.sy (Value.int IntKind.i64 s.lo), AV.sy (Value.int IntKind.i64 s.hi), AV.ow 2 (s.l.length - 1 + 0)]) (by kernel_rfl) (of_eqP (C := 52 = spT ∧ (none : Option Nat) = none ∧ Same (AV.v (Value.bool true)) ∧ (Same IntKind.i64 ∧ s.lo = (s.give x).lo) ∧ (Same IntKind.i64 ∧ s.hi = (s.give x).hi) ∧ (Same 2 ∧ s.l.length - 1 + 0 = (s.give x).l.length) ∧ True) (by kernel_rfl) ?_) (endL_cons (B0 := AB.dead) (by kernel_rfl) (of_eqP (C := True) (by kernel_rfl) (by (and_intros <;> try exact cl))) endL_nil)), (endE_cons (B0 := AB.rw 31 2 (s.l.length - 1 + 0) (exF (repD (exsF s.l.length (exF s.l)) (idxD (withB x) (exsF s.l.length (exF s.l))).toNat []))) (by kernel_rfl) (of_eqP (C := 31 = exT ∧ Same 2 ∧ s.l.length - 1 + 0 = (s.give x).l.length ∧ (∀ (r : Nat), r < s.l.length - 1 + 0 → exF (repD (exsF s.l.length (exF s.l)) (idxD (withB x) (exsF s.l.length (exF s.l))).toNat []) r = exF (s.give x).l r)) (by kernel_rfl) (by (and_intros <;> try exact cl))) endE_nil)⟩⟩
               exact ⟨rfl, rfl, rfl, ⟨rfl, rfl⟩, ⟨rfl, rfl⟩, ⟨rfl, hg2⟩, trivial⟩
       · intro q4
         have hcl : giveB s x = false := by unfold giveB mayD; simp [q4]
         refine To.R (h := ?_)
         refine To.E (AV.v (Value.int IntKind.i64 40)) (hq := ?_)
         refine .inl ⟨hcl, ?_⟩
         refine ⟨(of_eqP (C := Same IntKind.i64 ∧ Same (40 : Int)) (by kernel_rfl) (by (and_intros <;> try exact cl))), (endL_cons (B0 := AB.mem 52 none [AV.v (Value.bool true), AV.sy (Value.int IntKind.i64 s.lo), AV.sy (Value.int IntKind.i64 s.hi), AV.ow 1 s.l.length]) (by kernel_rfl) (of_eqP (C := 52 = spT ∧ (none : Option Nat) = none ∧ Same (AV.v (Value.bool true)) ∧ (Same IntKind.i64 ∧ Same s.lo) ∧ (Same IntKind.i64 ∧ Same s.hi) ∧ (Same 1 ∧ Same s.l.length) ∧ True) (by kernel_rfl) (by (and_intros <;> try exact cl))) (endL_cons (B0 := AB.rw 31 2 s.l.length (exF s.l)) (by kernel_rfl) (of_eqP (C := 31 = exT ∧ Same 2 ∧ Same s.l.length ∧ (∀ (r : Nat), r < s.l.length → exF s.l r = exF s.l r)) (by kernel_rfl) (by (and_intros <;> try exact cl))) endL_nil))⟩
     · intro q3
       have hcl : giveB s x = false := by unfold giveB mayD; simp [q3]
       refine To.R (h := ?_)
       refine To.E (AV.v (Value.int IntKind.i64 40)) (hq := ?_)
       refine .inl ⟨hcl, ?_⟩
       refine ⟨(of_eqP (C := Same IntKind.i64 ∧ Same (40 : Int)) (by kernel_rfl) (by (and_intros <;> try exact cl))), (endL_cons (B0 := AB.mem 52 none [AV.v (Value.bool true), AV.sy (Value.int IntKind.i64 s.lo), AV.sy (Value.int IntKind.i64 s.hi), AV.ow 1 s.l.length]) (by kernel_rfl) (of_eqP (C := 52 = spT ∧ (none : Option Nat) = none ∧ Same (AV.v (Value.bool true)) ∧ (Same IntKind.i64 ∧ Same s.lo) ∧ (Same IntKind.i64 ∧ Same s.hi) ∧ (Same 1 ∧ Same s.l.length) ∧ True) (by kernel_rfl) (by (and_intros <;> try exact cl))) (endL_cons (B0 := AB.rw 31 2 s.l.length (exF s.l)) (by kernel_rfl) (of_eqP (C := 31 = exT ∧ Same 2 ∧ Same s.l.length ∧ (∀ (r : Nat), r < s.l.length → exF s.l r = exF s.l r)) (by kernel_rfl) (by (and_intros <;> try exact cl))) endL_nil))⟩
   · intro q2
     have hcl : giveB s x = false := by unfold giveB mayD; simp [q2]
     refine To.R (h := ?_)
     refine To.E (AV.v (Value.int IntKind.i64 40)) (hq := ?_)
     refine .inl ⟨hcl, ?_⟩
     refine ⟨(of_eqP (C := Same IntKind.i64 ∧ Same (40 : Int)) (by kernel_rfl) (by (and_intros <;> try exact cl))), (endL_cons (B0 := AB.mem 52 none [AV.v (Value.bool true), AV.sy (Value.int IntKind.i64 s.lo), AV.sy (Value.int IntKind.i64 s.hi), AV.ow 1 s.l.length]) (by kernel_rfl) (of_eqP (C := 52 = spT ∧ (none : Option Nat) = none ∧ Same (AV.v (Value.bool true)) ∧ (Same IntKind.i64 ∧ Same s.lo) ∧ (Same IntKind.i64 ∧ Same s.hi) ∧ (Same 1 ∧ Same s.l.length) ∧ True) (by kernel_rfl) (by (and_intros <;> try exact cl))) (endL_cons (B0 := AB.rw 31 2 s.l.length (exF s.l)) (by kernel_rfl) (of_eqP (C := 31 = exT ∧ Same 2 ∧ Same s.l.length ∧ (∀ (r : Nat), r < s.l.length → exF s.l r = exF s.l r)) (by kernel_rfl) (by (and_intros <;> try exact cl))) endL_nil))⟩
 · intro q1
   have hcl : giveB s x = false := by unfold giveB mayD; simp [q1]
   refine To.R (h := ?_)
   refine To.E (AV.v (Value.int IntKind.i64 40)) (hq := ?_)
   refine .inl ⟨hcl, ?_⟩
   refine ⟨(of_eqP (C := Same IntKind.i64 ∧ Same (40 : Int)) (by kernel_rfl) (by (and_intros <;> try exact cl))), (endL_cons (B0 := AB.mem 52 none [AV.v (Value.bool true), AV.sy (Value.int IntKind.i64 s.lo), AV.sy (Value.int IntKind.i64 s.hi), AV.ow 1 s.l.length]) (by kernel_rfl) (of_eqP (C := 52 = spT ∧ (none : Option Nat) = none ∧ Same (AV.v (Value.bool true)) ∧ (Same IntKind.i64 ∧ Same s.lo) ∧ (Same IntKind.i64 ∧ Same s.hi) ∧ (Same 1 ∧ Same s.l.length) ∧ True) (by kernel_rfl) (by (and_intros <;> try exact cl))) (endL_cons (B0 := AB.rw 31 2 s.l.length (exF s.l)) (by kernel_rfl) (of_eqP (C := 31 = exT ∧ Same 2 ∧ Same s.l.length ∧ (∀ (r : Nat), r < s.l.length → exF s.l r = exF s.l r)) (by kernel_rfl) (by (and_intros <;> try exact cl))) endL_nil))⟩
def giveG : CG := oneXG 13 (spKG fun s rest => match rest with
 | [y] => match exP y with
   | some x => some ([.agg (exA x)], giveB s x, True, fun v => cond v (ivA 0, spB' (s.give x) 2, spE (s.give x) 2) (ivA 40, [], []))
   | none => none
 | _ => none)
theorem giveG_ok : GOk Try.prog giveG := spXG_ok sg0_ok Try.func13 (by kernel_rfl) fun {s rest ys b C r} h hs hC => by
 split at h
 · split at h
   · rename_i y x hx
     cases h
     have hT := give_to sg0_ok s hs x
     cases hq : giveB s x with
     | false =>
       refine ⟨fun σ => ⟨exP_le hx σ, trivial⟩, fun h => (nomatch h), ⟨List.nodup_nil, fun p hp => by cases hp⟩, by kernel_rfl, To.mono hT fun v H' _ h => ?_⟩
       rcases h with ⟨_, h1, h2⟩ | ⟨h1, _⟩
       · exact ⟨h1, h2, trivial⟩
       · rw [hq] at h1; cases h1
     | true =>
       refine ⟨fun σ => ⟨exP_le hx σ, trivial⟩, fun _ => rfl, ⟨by simp [spE], by simp [spE]⟩, by kernel_rfl, To.mono hT fun v H' _ h => ?_⟩
       rcases h with ⟨h1, _⟩ | ⟨_, h2, h3, h4⟩
       · rw [hq] at h1; cases h1
       · exact ⟨h2, h3, h4⟩
   · cases h
 · cases h
theorem inE_iff {x : ExD} {z : Int} : inE x z = true ↔ x.at_ ≤ z ∧ z < x.at_ + x.n := by
 unfold inE
 rw [Bool.and_eq_true, decide_eq_true_iff, decide_eq_true_iff]
def hasL (l : List ExD) (z : Int) : Bool := l.any fun x => inE x z
theorem hasL_cons (x : ExD) (l : List ExD) (z : Int) : hasL (x :: l) z = (inE x z || hasL l z) := rfl
theorem hasL_iff {l : List ExD} {z : Int} : hasL l z = true ↔ ∃ x ∈ l, x.at_ ≤ z ∧ z < x.at_ + x.n := by
 unfold hasL
 rw [List.any_eq_true]
 exact ⟨fun ⟨x, h, g⟩ => ⟨x, h, inE_iff.1 g⟩, fun ⟨x, h, g⟩ => ⟨x, h, inE_iff.2 g⟩⟩
def Tch (hi : Int) : Int → List ExD → Prop
 | _, [] => True
 | lo, x :: l => lo ≤ x.at_ ∧ 1 ≤ x.n ∧ x.at_ + x.n ≤ hi ∧ Tch hi (x.at_ + x.n) l
theorem Tch.mono {hi : Int} : ∀ {l : List ExD} {a b : Int}, Tch hi a l → b ≤ a → Tch hi b l
 | [], _, _, _, _ => trivial
 | _ :: _, _, _, h, hb => ⟨Int.le_trans hb h.1, h.2⟩
theorem Can.tch {hi : Int} : ∀ {l : List ExD} {a : Int}, Can hi a l → Tch hi a l
 | [], _, _ => trivial
 | _ :: _, _, h => ⟨h.1, h.2.1, h.2.2.1, (Can.tch h.2.2.2).mono (by omega)⟩
theorem Can.has {hi a z : Int} {l : List ExD} (h : Can hi a l) (g : hasL l z = true) : a ≤ z ∧ z < hi := by
 obtain ⟨x, hx, g1, g2⟩ := hasL_iff.1 g
 have := Can.all h x hx
 omega
theorem can_eq {hi : Int} : ∀ {l m : List ExD} {a : Int}, Can hi a l → Can hi a m → (∀ z, hasL l z = hasL m z) → l = m
 | [], [], _, _, _, _ => rfl
 | [], y :: m, _, _, hm, h => by
   have := h y.at_
   have g : hasL (y :: m) y.at_ = true := hasL_iff.2 ⟨y, by simp, Int.le_refl _, by have := hm.2.1; omega⟩
   rw [g] at this; cases this
 | x :: l, [], _, hl, _, h => by
   have := h x.at_
   have g : hasL (x :: l) x.at_ = true := hasL_iff.2 ⟨x, by simp, Int.le_refl _, by have := hl.2.1; omega⟩
   rw [g] at this; cases this
 | x :: l, y :: m, a, hl, hm, h => by
   obtain ⟨l1, l2, l3, l4⟩ := hl
   obtain ⟨m1, m2, m3, m4⟩ := hm
   have inx : ∀ z, x.at_ ≤ z → z < x.at_ + x.n → hasL (y :: m) z = true := fun z g1 g2 => by rw [← h z]; exact hasL_iff.2 ⟨x, by simp, g1, g2⟩
   have iny : ∀ z, y.at_ ≤ z → z < y.at_ + y.n → hasL (x :: l) z = true := fun z g1 g2 => by rw [h z]; exact hasL_iff.2 ⟨y, by simp, g1, g2⟩
   have ofy : ∀ z, hasL (y :: m) z = true → (y.at_ ≤ z ∧ z < y.at_ + y.n) ∨ y.at_ + y.n + 1 ≤ z := fun z g => by
     rw [hasL_cons, Bool.or_eq_true] at g
     rcases g with g | g
     · exact .inl (inE_iff.1 g)
     · exact .inr (m4.has g).1
   have ofx : ∀ z, hasL (x :: l) z = true → (x.at_ ≤ z ∧ z < x.at_ + x.n) ∨ x.at_ + x.n + 1 ≤ z := fun z g => by
     rw [hasL_cons, Bool.or_eq_true] at g
     rcases g with g | g
     · exact .inl (inE_iff.1 g)
     · exact .inr (l4.has g).1
   have e1 : x.at_ = y.at_ := by
     have g1 := ofy x.at_ (inx _ (Int.le_refl _) (by omega))
     have g2 := ofx y.at_ (iny _ (Int.le_refl _) (by omega))
     omega
   have e2 : x.n = y.n := by
     rcases Int.lt_trichotomy x.n y.n with q | q | q
     · have := ofx (x.at_ + x.n) (iny _ (by omega) (by omega)); omega
     · exact q
     · have := ofy (y.at_ + y.n) (inx _ (by omega) (by omega)); omega
   have e : x = y := by cases x; cases y; simp only at e1 e2; rw [e1, e2]
   subst e
   rw [can_eq l4 m4 fun z => ?_]
   have hz := h z
   rw [hasL_cons, hasL_cons] at hz
   cases hi : inE x z with
   | false => rw [hi] at hz; exact hz
   | true =>
     have hx := inE_iff.1 hi
     have f1 : hasL l z = false := by
       cases q : hasL l z with
       | false => rfl
       | true => have := (l4.has q).1; omega
     have f2 : hasL m z = false := by
       cases q : hasL m z with
       | false => rfl
       | true => have := (m4.has q).1; omega
     rw [f1, f2]
/-! Put. -/
def mrg : ExD → List ExD → List ExD
 | c, [] => [c]
 | c, y :: l => if c.at_ + c.n = y.at_ then mrg ⟨c.at_, c.n + y.n⟩ l else c :: mrg y l
theorem fold_mrg : ∀ (l out : List ExD) (c : ExD), l.foldl mstep (out ++ [c]) = out ++ mrg c l
 | [], out, c => rfl
 | y :: l, out, c => by
   have hlast : (out ++ [c]).getD ((out ++ [c]).length - 1) default = c := by simp [List.getD_eq_getElem?_getD]
   have hset : ∀ z, (out ++ [c]).set ((out ++ [c]).length - 1) z = out ++ [z] := fun z => by simp
   rw [List.foldl_cons]
   unfold mrg
   by_cases h : c.at_ + c.n = y.at_
   · have hm : mstep (out ++ [c]) y = out ++ [⟨c.at_, c.n + y.n⟩] := by unfold mstep; rw [hlast, if_pos ⟨by simp, h⟩, hset]
     rw [hm, if_pos h]
     exact fold_mrg l out _
   · have hm : mstep (out ++ [c]) y = (out ++ [c]) ++ [y] := by unfold mstep; rw [hlast, if_neg (fun q => h q.2)]
     rw [hm, if_neg h, fold_mrg l (out ++ [c]) y, List.append_assoc]; rfl
theorem mergeL_cons (c : ExD) (l : List ExD) : mergeL (c :: l) = mrg c l := by
 unfold mergeL
 rw [List.foldl_cons]
 have : mstep [] c = [] ++ [c] := if_neg (fun q => q.1 rfl)
 rw [this, fold_mrg]; rfl
theorem mrg_can {hi : Int} : ∀ {l : List ExD} {c : ExD} {a : Int}, a ≤ c.at_ → 1 ≤ c.n → c.at_ + c.n ≤ hi → Tch hi (c.at_ + c.n) l → Can hi a (mrg c l)
 | [], c, a, h1, h2, h3, _ => ⟨h1, h2, h3, trivial⟩
 | y :: l, c, a, h1, h2, h3, h4 => by
   obtain ⟨g1, g2, g3, g4⟩ := h4
   unfold mrg
   split
   · rename_i e
     refine mrg_can (c := ⟨c.at_, c.n + y.n⟩) h1 (by show 1 ≤ c.n + y.n; omega) (by show c.at_ + (c.n + y.n) ≤ hi; omega) ?_
     show Tch hi (c.at_ + (c.n + y.n)) l
     rw [show c.at_ + (c.n + y.n) = y.at_ + y.n by omega]; exact g4
   · exact ⟨h1, h2, h3, mrg_can (by omega) g2 g3 g4⟩
theorem mrg_has {hi : Int} (z : Int) : ∀ {l : List ExD} {c : ExD}, 1 ≤ c.n → Tch hi (c.at_ + c.n) l → hasL (mrg c l) z = (inE c z || hasL l z)
 | [], c, _, _ => rfl
 | y :: l, c, h2, h4 => by
   obtain ⟨g1, g2, g3, g4⟩ := h4
   unfold mrg
   split
   · rename_i e
     rw [mrg_has (c := ⟨c.at_, c.n + y.n⟩) z (by show 1 ≤ c.n + y.n; omega) (by show Tch hi (c.at_ + (c.n + y.n)) l; rw [show c.at_ + (c.n + y.n) = y.at_ + y.n by omega]; exact g4), hasL_cons, ← Bool.or_assoc]
     congr 1
     rw [Bool.eq_iff_iff, Bool.or_eq_true, inE_iff, inE_iff, inE_iff]
     show c.at_ ≤ z ∧ z < c.at_ + (c.n + y.n) ↔ _
     omega
   · rw [hasL_cons, mrg_has z g2 g4, hasL_cons]
def sumN : List ExD → Int
 | [] => 0
 | x :: l => x.n + sumN l
theorem mrg_sum : ∀ (l : List ExD) (c : ExD), sumN (mrg c l) = c.n + sumN l
 | [], c => rfl
 | y :: l, c => by
   unfold mrg
   split
   · rw [mrg_sum l]; show c.n + y.n + sumN l = c.n + (y.n + sumN l); omega
   · show c.n + sumN (mrg y l) = c.n + (y.n + sumN l); rw [mrg_sum l]
def insR (x : ExD) : List ExD → List ExD
 | [] => [x]
 | y :: l => if y.at_ < x.at_ then y :: insR x l else x :: y :: l
theorem insD_insR (x : ExD) : ∀ l : List ExD, insD l x = insR x l
 | [] => rfl
 | y :: l => by
   have ih := insD_insR x l
   unfold insD posD at *
   rw [List.takeWhile_cons]
   unfold insR
   by_cases h : y.at_ < x.at_
   · rw [if_pos h, ← ih]; simp [h]
   · rw [if_neg h]; simp [h]
def Off (l : List ExD) (x : ExD) : Prop := ∀ y ∈ l, x.at_ + x.n ≤ y.at_ ∨ y.at_ + y.n ≤ x.at_
theorem insR_tch {hi : Int} {x : ExD} (hx1 : 1 ≤ x.n) (hx2 : x.at_ + x.n ≤ hi) : ∀ {l : List ExD} {a : Int}, Tch hi a l → Off l x → a ≤ x.at_ → Tch hi a (insR x l)
 | [], a, _, _, h => ⟨h, hx1, hx2, trivial⟩
 | y :: l, a, h, ho, ha => by
   obtain ⟨g1, g2, g3, g4⟩ := h
   have hy := ho y (by simp)
   unfold insR
   split
   · exact ⟨g1, g2, g3, insR_tch hx1 hx2 g4 (fun z hz => ho z (by simp [hz])) (by omega)⟩
   · exact ⟨ha, hx1, hx2, by omega, g2, g3, g4⟩
theorem insR_has (x : ExD) (z : Int) : ∀ l : List ExD, hasL (insR x l) z = (inE x z || hasL l z)
 | [] => rfl
 | y :: l => by
   unfold insR
   split
   · rw [hasL_cons, insR_has x z l, hasL_cons, ← Bool.or_assoc, ← Bool.or_assoc, Bool.or_comm (inE y z)]
   · rfl
theorem insR_sum (x : ExD) : ∀ l : List ExD, sumN (insR x l) = x.n + sumN l
 | [] => rfl
 | y :: l => by
   unfold insR
   split
   · show y.n + sumN (insR x l) = x.n + (y.n + sumN l); rw [insR_sum x l]; omega
   · rfl
theorem insR_ne (x : ExD) : ∀ l : List ExD, ∃ c m, insR x l = c :: m
 | [] => ⟨_, _, rfl⟩
 | y :: l => by unfold insR; split <;> exact ⟨_, _, rfl⟩
structure Free (s : SpD) (x : ExD) : Prop where
 pos : 1 ≤ x.n
 lo : s.lo ≤ x.at_
 hi : x.at_ + x.n ≤ s.hi
 off : Off s.l x
theorem SpD.Ok.put {s : SpD} (h : s.Ok) {x : ExD} (hx : Free s x) : (s.put x).Ok ∧ (∀ z, hasL (s.put x).l z = (inE x z || hasL s.l z)) ∧ sumN (s.put x).l = x.n + sumN s.l := by
 have ht := insR_tch hx.pos hx.hi h.can.tch hx.off hx.lo
 obtain ⟨c, m, hcm⟩ := insR_ne x s.l
 have hl : (s.put x).l = mrg c m := by
   show mergeL (insD s.l x) = _
   rw [insD_insR, hcm, mergeL_cons]
 have hz := fun z => insR_has x z s.l
 have hsum := insR_sum x s.l
 rw [hcm] at ht hsum
 obtain ⟨t1, t2, t3, t4⟩ := ht
 refine ⟨⟨h.lo, h.le, h.hi, by show Can s.hi s.lo (s.put x).l; rw [hl]; exact mrg_can t1 t2 t3 t4⟩, fun z => ?_, ?_⟩
 · rw [hl, mrg_has z t2 t4, ← hz z, hcm]; rfl
 · rw [hl, mrg_sum]; exact hsum
/-! Gaps. -/
theorem gap_in {hi : Int} : ∀ {l : List ExD} {a : Int} {g : ExD}, Tch hi a l → a ≤ hi → g ∈ gapsD a (l ++ [⟨hi, 0⟩]) → a ≤ g.at_ ∧ 1 ≤ g.n ∧ g.at_ + g.n ≤ hi ∧ Off l g
 | [], a, g, _, ha, h => by
   simp only [List.nil_append, gapsD] at h
   split at h
   · rw [List.mem_singleton.1 h]; exact ⟨Int.le_refl _, by show 1 ≤ hi - a; omega, by show a + (hi - a) ≤ hi; omega, fun y hy => by cases hy⟩
   · cases h
 | x :: l, a, g, ht, ha, h => by
   obtain ⟨g1, g2, g3, g4⟩ := ht
   rw [List.cons_append, gapsD_cons] at h
   have rec_ : g ∈ gapsD (x.at_ + x.n) (l ++ [⟨hi, 0⟩]) → a ≤ g.at_ ∧ 1 ≤ g.n ∧ g.at_ + g.n ≤ hi ∧ Off (x :: l) g := fun h => by
     obtain ⟨k1, k2, k3, k4⟩ := gap_in g4 g3 h
     refine ⟨by omega, k2, k3, fun y hy => ?_⟩
     rcases List.mem_cons.1 hy with rfl | hy
     · exact .inr k1
     · exact k4 y hy
   split at h
   · rename_i hlt
     rcases List.mem_cons.1 h with rfl | h
     · refine ⟨Int.le_refl _, by show 1 ≤ x.at_ - a; omega, by show a + (x.at_ - a) ≤ hi; omega, fun y hy => .inl ?_⟩
       show a + (x.at_ - a) ≤ y.at_
       rcases List.mem_cons.1 hy with rfl | hy
       · omega
       · have := tch_all g4 y hy; omega
     · exact rec_ h
   · exact rec_ h
where
 tch_all {hi : Int} : ∀ {l : List ExD} {a : Int}, Tch hi a l → ∀ x ∈ l, a ≤ x.at_
   | [], _, _, x, h => by cases h
   | y :: l, a, h, x, hx => by
     rcases List.mem_cons.1 hx with rfl | hx
     · exact h.1
     · have := tch_all h.2.2.2 x hx
       have h1 := h.1
       have h2 := h.2.1
       omega
theorem gap_of {hi : Int} {x : ExD} (hx1 : 1 ≤ x.n) (hx2 : x.at_ + x.n ≤ hi) : ∀ {l : List ExD} {a : Int}, Off l x → a ≤ x.at_ → ∃ g ∈ gapsD a (l ++ [⟨hi, 0⟩]), g.at_ ≤ x.at_ ∧ x.at_ + x.n ≤ g.at_ + g.n
 | [], a, _, ha => by
   refine ⟨⟨a, hi - a⟩, ?_, ha, by show x.at_ + x.n ≤ a + (hi - a); omega⟩
   simp only [List.nil_append, gapsD]
   rw [if_pos (by omega)]; simp
 | y :: l, a, ho, ha => by
   rw [List.cons_append, gapsD_cons]
   rcases ho y (by simp) with h | h
   · rw [if_pos (by omega)]
     exact ⟨⟨a, y.at_ - a⟩, by simp, ha, by show _ ≤ a + (y.at_ - a); omega⟩
   · obtain ⟨g, h1, h2⟩ := gap_of hx1 hx2 (l := l) (fun z hz => ho z (by simp [hz])) h
     refine ⟨g, ?_, h2⟩
     split
     · exact List.mem_cons_of_mem _ h1
     · exact h1
theorem find_first {hi n : Int} {x : ExD} (hx1 : 1 ≤ n) (hxn : x.n = n) (hx2 : x.at_ + x.n ≤ hi) : ∀ {l : List ExD} {a : Int}, Off l x → a ≤ x.at_ → ∃ y, findG n (gapsD a (l ++ [⟨hi, 0⟩])) = some y ∧ y.at_ ≤ x.at_
 | [], a, _, ha => by
   simp only [List.nil_append, gapsD]
   rw [if_pos (by omega)]
   exact ⟨⟨a, n⟩, if_pos (by show n ≤ hi - a; omega), ha⟩
 | y :: l, a, ho, ha => by
   rw [List.cons_append, gapsD_cons]
   by_cases hf : a < y.at_ ∧ n ≤ y.at_ - a
   · rw [if_pos hf.1]
     exact ⟨⟨a, n⟩, if_pos hf.2, ha⟩
   · have hy : y.at_ + y.n ≤ x.at_ := by
       rcases ho y (by simp) with h | h
       · exact absurd ⟨by omega, by omega⟩ hf
       · exact h
     obtain ⟨q, h1, h2⟩ := find_first hx1 hxn hx2 (l := l) (fun z hz => ho z (by simp [hz])) hy
     refine ⟨q, ?_, h2⟩
     split
     · rename_i hlt
       unfold findG
       rw [if_neg (fun h => hf ⟨hlt, h⟩)]; exact h1
     · exact h1
theorem find_in {n : Int} : ∀ {l : List ExD} {y : ExD}, findG n l = some y → ∃ g ∈ l, n ≤ g.n ∧ y = ⟨g.at_, n⟩
 | [], y, h => by cases h
 | g :: l, y, h => by
   unfold findG at h
   split at h
   · cases h; rename_i hg; exact ⟨g, by simp, hg, rfl⟩
   · obtain ⟨g', h1, h2⟩ := find_in h
     exact ⟨g', by simp [h1], h2⟩
theorem Off.sub {l : List ExD} {x g : ExD} (h : Off l g) (h1 : g.at_ ≤ x.at_) (h2 : x.at_ + x.n ≤ g.at_ + g.n) : Off l x := fun y hy => by
 rcases h y hy with q | q
 · exact .inl (by omega)
 · exact .inr (by omega)
theorem take_free {s : SpD} (h : s.Ok) {n : Int} {y : ExD} (hy : takeP s n = some y) : Free s y ∧ y.n = n ∧ 1 ≤ n := by
 unfold takeP at hy
 split at hy
 · cases hy
 · obtain ⟨g, h1, h2, rfl⟩ := find_in hy
   obtain ⟨k1, k2, k3, k4⟩ := gap_in h.can.tch h.le h1
   exact ⟨⟨by show 1 ≤ n; omega, k1, by show g.at_ + n ≤ s.hi; omega, k4.sub (Int.le_refl _) (by show g.at_ + n ≤ _; omega)⟩, rfl, by omega⟩
theorem take_first {s : SpD} {x : ExD} (hx : Free s x) : ∃ y, takeP s x.n = some y ∧ y.at_ ≤ x.at_ := by
 unfold takeP
 rw [if_neg (by have := hx.pos; omega)]
 exact find_first hx.pos rfl hx.hi hx.off hx.lo
theorem off_has {l : List ExD} {x : ExD} : (∀ z, x.at_ ≤ z → z < x.at_ + x.n → hasL l z = false) → (∀ y ∈ l, 1 ≤ y.n) → 1 ≤ x.n → Off l x := fun h hp hx y hy => by
 have h1 := hp y hy
 by_cases q : x.at_ + x.n ≤ y.at_
 · exact .inl q
 · by_cases q2 : y.at_ + y.n ≤ x.at_
   · exact .inr q2
   · exfalso
     by_cases q3 : x.at_ ≤ y.at_
     · have := h y.at_ q3 (by omega)
       rw [hasL_iff.2 ⟨y, hy, Int.le_refl _, by omega⟩] at this; cases this
     · have := h x.at_ (Int.le_refl _) (by omega)
       rw [hasL_iff.2 ⟨y, hy, by omega, by omega⟩] at this; cases this
theorem has_off {l : List ExD} {x : ExD} (h : Off l x) {z : Int} (h1 : x.at_ ≤ z) (h2 : z < x.at_ + x.n) : hasL l z = false := by
 cases q : hasL l z with
 | false => rfl
 | true =>
   obtain ⟨y, hy, g1, g2⟩ := hasL_iff.1 q
   rcases h y hy with k | k <;> omega
theorem hasL_app (l m : List ExD) (z : Int) : hasL (l ++ m) z = (hasL l z || hasL m z) := List.any_append
theorem sumN_app : ∀ l m : List ExD, sumN (l ++ m) = sumN l + sumN m
 | [], m => by show sumN m = 0 + sumN m; omega
 | x :: l, m => by show x.n + sumN (l ++ m) = x.n + sumN l + sumN m; rw [sumN_app l m]; omega
theorem part_has {x y : ExD} (h1 : y.at_ ≤ x.at_) (h2 : x.at_ + x.n ≤ y.at_ + y.n) (h3 : 1 ≤ x.n) (z : Int) : hasL (partL x y) z = (inE y z && !inE x z) := by
 have e : hasL (partL x y) z = true ↔ (y.at_ ≤ z ∧ z < x.at_) ∨ (x.at_ + x.n ≤ z ∧ z < y.at_ + y.n) := by
   have hA : hasL (if 0 < x.at_ - y.at_ then [(⟨y.at_, x.at_ - y.at_⟩ : ExD)] else []) z = true ↔ y.at_ ≤ z ∧ z < x.at_ := by
     split <;> rw [hasL_iff] <;> simp <;> omega
   have hB : hasL (if 0 < y.at_ + y.n - (x.at_ + x.n) then [(⟨x.at_ + x.n, y.at_ + y.n - (x.at_ + x.n)⟩ : ExD)] else []) z = true ↔ x.at_ + x.n ≤ z ∧ z < y.at_ + y.n := by
     split <;> rw [hasL_iff] <;> simp <;> omega
   unfold partL
   rw [hasL_app, Bool.or_eq_true]
   exact or_congr hA hB
 rw [Bool.eq_iff_iff, e, Bool.and_eq_true, inE_iff, Bool.not_eq_true', ← Bool.not_eq_true, inE_iff]
 omega
theorem part_sum {x y : ExD} (h1 : y.at_ ≤ x.at_) (h2 : x.at_ + x.n ≤ y.at_ + y.n) : sumN (partL x y) = y.n - x.n := by
 have hA : sumN (if 0 < x.at_ - y.at_ then [(⟨y.at_, x.at_ - y.at_⟩ : ExD)] else []) = x.at_ - y.at_ := by
   split <;> simp [sumN] <;> omega
 have hB : sumN (if 0 < y.at_ + y.n - (x.at_ + x.n) then [(⟨x.at_ + x.n, y.at_ + y.n - (x.at_ + x.n)⟩ : ExD)] else []) = y.at_ + y.n - (x.at_ + x.n) := by
   split <;> simp [sumN] <;> omega
 unfold partL
 rw [sumN_app]
 show _ + sumN (if 0 < y.at_ + y.n - (x.at_ + x.n) then [(⟨x.at_ + x.n, y.at_ + y.n - (x.at_ + x.n)⟩ : ExD)] else []) = _
 rw [hA, hB]; omega
theorem part_can {hi a : Int} {x y : ExD} {l : List ExD} (h1 : y.at_ ≤ x.at_) (h2 : x.at_ + x.n ≤ y.at_ + y.n) (h3 : 1 ≤ x.n) (ha : a ≤ y.at_) (hy : y.at_ + y.n ≤ hi) (hl : Can hi (y.at_ + y.n + 1) l) : Can hi a (partL x y ++ l) := by
 have q : y.end - x.end = y.at_ + y.n - (x.at_ + x.n) := rfl
 unfold partL
 by_cases c1 : 0 < x.at_ - y.at_ <;> by_cases c2 : 0 < y.end - x.end
 · rw [if_pos c1, if_pos c2]
   refine ⟨ha, by show 1 ≤ x.at_ - y.at_; omega, by show y.at_ + (x.at_ - y.at_) ≤ hi; omega, by show y.at_ + (x.at_ - y.at_) + 1 ≤ x.at_ + x.n; omega, by show 1 ≤ y.at_ + y.n - (x.at_ + x.n); omega, by show x.at_ + x.n + (y.at_ + y.n - (x.at_ + x.n)) ≤ hi; omega, ?_⟩
   show Can hi (x.at_ + x.n + (y.at_ + y.n - (x.at_ + x.n)) + 1) l
   rw [show x.at_ + x.n + (y.at_ + y.n - (x.at_ + x.n)) + 1 = y.at_ + y.n + 1 by omega]; exact hl
 · rw [if_pos c1, if_neg c2]
   refine ⟨ha, by show 1 ≤ x.at_ - y.at_; omega, by show y.at_ + (x.at_ - y.at_) ≤ hi; omega, ?_⟩
   exact hl.mono (by show y.at_ + (x.at_ - y.at_) + 1 ≤ _; omega)
 · rw [if_neg c1, if_pos c2]
   refine ⟨by show a ≤ x.at_ + x.n; omega, by show 1 ≤ y.at_ + y.n - (x.at_ + x.n); omega, by show x.at_ + x.n + (y.at_ + y.n - (x.at_ + x.n)) ≤ hi; omega, ?_⟩
   show Can hi (x.at_ + x.n + (y.at_ + y.n - (x.at_ + x.n)) + 1) l
   rw [show x.at_ + x.n + (y.at_ + y.n - (x.at_ + x.n)) + 1 = y.at_ + y.n + 1 by omega]; exact hl
 · rw [if_neg c1, if_neg c2]
   exact hl.mono (by omega)
theorem rep_all {hi : Int} {x : ExD} (h3 : 1 ≤ x.n) : ∀ {l : List ExD} {k : Nat} {a : Int}, Can hi a l → k < l.length → (l.getD k default).at_ ≤ x.at_ → x.at_ + x.n ≤ (l.getD k default).at_ + (l.getD k default).n →
   Can hi a (repD l k (partL x (l.getD k default))) ∧ (∀ z, hasL (repD l k (partL x (l.getD k default))) z = (hasL l z && !inE x z)) ∧ sumN (repD l k (partL x (l.getD k default))) = sumN l - x.n
 | [], k, a, _, hk, _, _ => by simp at hk
 | y :: l, 0, a, h, _, h1, h2 => by
   obtain ⟨g1, g2, g3, g4⟩ := h
   have e : repD (y :: l) 0 (partL x ((y :: l).getD 0 default)) = partL x y ++ l := by simp [repD]
   simp only [List.getD_cons_zero] at h1 h2
   rw [e]
   refine ⟨part_can h1 h2 h3 g1 g3 g4, fun z => ?_, ?_⟩
   · rw [hasL_app, part_has h1 h2 h3, hasL_cons]
     cases q : hasL l z with
     | false => simp
     | true =>
       have hz := g4.has q
       have hx : inE x z = false := by
         cases p : inE x z with
         | false => rfl
         | true => have := inE_iff.1 p; omega
       rw [hx]; simp
   · rw [sumN_app, part_sum h1 h2]; show y.n - x.n + sumN l = y.n + sumN l - x.n; omega
 | y :: l, k + 1, a, h, hk, h1, h2 => by
   obtain ⟨g1, g2, g3, g4⟩ := h
   have hk' : k < l.length := by simpa using hk
   have e : repD (y :: l) (k + 1) (partL x ((y :: l).getD (k + 1) default)) = y :: repD l k (partL x (l.getD k default)) := by simp [repD]
   simp only [List.getD_cons_succ] at h1 h2
   obtain ⟨r1, r2, r3⟩ := rep_all h3 g4 hk' h1 h2
   have hat := Can.all g4 _ (mem_getD hk')
   rw [e]
   refine ⟨⟨g1, g2, g3, r1⟩, fun z => ?_, ?_⟩
   · rw [hasL_cons, r2, hasL_cons]
     cases q : inE y z with
     | false => simp
     | true =>
       have hz := inE_iff.1 q
       have hx : inE x z = false := by
         cases p : inE x z with
         | false => rfl
         | true => have := inE_iff.1 p; omega
       rw [hx]; simp
   · show y.n + sumN (repD l k (partL x (l.getD k default))) = y.n + sumN l - x.n
     rw [r3]; omega
theorem mayD_iff {s : SpD} {x : ExD} : mayD s x = true ↔ 1 ≤ x.n ∧ s.lo ≤ x.at_ ∧ x.at_ < s.hi ∧ x.n ≤ s.hi - x.at_ := by
 unfold mayD
 simp only [Bool.and_eq_true, decide_eq_true_eq]
 exact ⟨fun ⟨⟨⟨a, b⟩, c⟩, d⟩ => ⟨a, b, c, d⟩, fun ⟨a, b, c, d⟩ => ⟨⟨⟨a, b⟩, c⟩, d⟩⟩
theorem withB_iff {s : SpD} (h : s.Ok) {x y : ExD} (hm : mayD s x = true) (hy : 0 ≤ y.at_ ∧ 0 ≤ y.n ∧ y.at_ + y.n ≤ 4096) : withB x y = true ↔ y.at_ ≤ x.at_ ∧ x.at_ + x.n ≤ y.at_ + y.n := by
 obtain ⟨m1, m2, m3, m4⟩ := mayD_iff.1 hm
 have := h.lo; have := h.hi
 have hw1 : w64 (y.at_ + y.n) = y.at_ + y.n := w64_of (by omega) (by omega)
 have hw2 : w64 (x.at_ + x.n) = x.at_ + x.n := w64_of (by omega) (by omega)
 constructor
 · intro q
   have := withB_is q
   rw [hw1, hw2] at this; exact this
 · intro q
   exact withB_yes q.1 (by rw [hw1, hw2]; exact q.2)
theorem claim_iff {s : SpD} (h : s.Ok) {x : ExD} : claimB s x = true ↔ Free s x := by
 unfold claimB
 rw [Bool.and_eq_true, List.any_eq_true]
 have hlo := h.lo; have hhi := h.hi
 constructor
 · rintro ⟨hm, g, hg, hw⟩
   obtain ⟨k1, k2, k3, k4⟩ := gap_in h.can.tch h.le hg
   have := (withB_iff h hm ⟨by omega, by omega, by omega⟩).1 hw
   obtain ⟨m1, m2, m3, m4⟩ := mayD_iff.1 hm
   exact ⟨m1, m2, by omega, k4.sub this.1 this.2⟩
 · intro hf
   have hm : mayD s x = true := mayD_iff.2 ⟨hf.pos, hf.lo, by have := hf.hi; have := hf.pos; omega, by have := hf.hi; omega⟩
   obtain ⟨g, h1, h2⟩ := gap_of hf.pos hf.hi hf.off hf.lo
   obtain ⟨k1, k2, k3, k4⟩ := gap_in h.can.tch h.le h1
   exact ⟨hm, g, h1, (withB_iff h hm ⟨by omega, by omega, by omega⟩).2 h2⟩
theorem one_of {hi : Int} : ∀ {l : List ExD} {a : Int} {x : ExD}, Can hi a l → 1 ≤ x.n → (∀ z, x.at_ ≤ z → z < x.at_ + x.n → hasL l z = true) → ∃ y ∈ l, y.at_ ≤ x.at_ ∧ x.at_ + x.n ≤ y.at_ + y.n
 | [], a, x, _, hx, h => by have := h x.at_ (Int.le_refl _) (by omega); cases this
 | y :: l, a, x, hc, hx, h => by
   obtain ⟨g1, g2, g3, g4⟩ := hc
   have h0 := h x.at_ (Int.le_refl _) (by omega)
   rw [hasL_cons, Bool.or_eq_true] at h0
   rcases h0 with h0 | h0
   · have h0 := inE_iff.1 h0
     refine ⟨y, by simp, h0.1, ?_⟩
     rcases Int.lt_or_le (y.at_ + y.n) (x.at_ + x.n) with q | q
     · have hz := h (y.at_ + y.n) (by omega) q
       rw [hasL_cons, Bool.or_eq_true] at hz
       rcases hz with hz | hz
       · have := inE_iff.1 hz; omega
       · have := (g4.has hz).1; omega
     · exact q
   · have hx0 := (g4.has h0).1
     obtain ⟨q, h1, h2⟩ := one_of g4 hx (fun z k1 k2 => by
       have hz := h z k1 k2
       rw [hasL_cons, Bool.or_eq_true] at hz
       rcases hz with hz | hz
       · have := inE_iff.1 hz; omega
       · exact hz)
     exact ⟨q, by simp [h1], h2⟩
theorem give_iff {s : SpD} (h : s.Ok) {x : ExD} : giveB s x = true ↔ mayD s x = true ∧ ∀ z, x.at_ ≤ z → z < x.at_ + x.n → hasL s.l z = true := by
 unfold giveB
 rw [Bool.and_eq_true, decide_eq_true_iff]
 constructor
 · rintro ⟨hm, hi⟩
   refine ⟨hm, fun z k1 k2 => ?_⟩
   obtain ⟨j1, j2⟩ := idxD_in hi
   have hin := h.inD _ (mem_getD j1)
   have := (withB_iff h hm hin).1 j2
   exact hasL_iff.2 ⟨_, mem_getD j1, by omega, by omega⟩
 · rintro ⟨hm, ha⟩
   refine ⟨hm, ?_⟩
   obtain ⟨y, hy, h1⟩ := one_of h.can (mayD_iff.1 hm).1 ha
   exact (idxA_any (p := withB x)).2 (List.any_eq_true.2 ⟨y, hy, (withB_iff h hm (h.inD y hy)).2 h1⟩)
theorem SpD.Ok.give {s : SpD} (h : s.Ok) {x : ExD} (hx : giveB s x = true) : (s.give x).Ok ∧ (∀ z, hasL (s.give x).l z = (hasL s.l z && !inE x z)) ∧ sumN (s.give x).l = sumN s.l - x.n := by
 unfold giveB at hx
 rw [Bool.and_eq_true, decide_eq_true_iff] at hx
 obtain ⟨hm, hi⟩ := hx
 obtain ⟨j1, j2⟩ := idxD_in hi
 have hw := (withB_iff h hm (h.inD _ (mem_getD j1))).1 j2
 obtain ⟨r1, r2, r3⟩ := rep_all (mayD_iff.1 hm).1 h.can j1 hw.1 hw.2
 exact ⟨⟨h.lo, h.le, h.hi, r1⟩, r2, r3⟩
theorem sum_gaps {hi : Int} : ∀ {l : List ExD} {a : Int}, Tch hi a l → a ≤ hi → sumG (gapsD a (l ++ [⟨hi, 0⟩])) = hi - a - sumN l
 | [], a, _, ha => by
   simp only [List.nil_append, gapsD]
   split
   · simp [sumG, sumN]
   · simp [sumG, sumN]; omega
 | x :: l, a, h, ha => by
   obtain ⟨g1, g2, g3, g4⟩ := h
   rw [List.cons_append, gapsD_cons]
   have ih := sum_gaps g4 g3
   split
   · show x.at_ - a + sumG _ = hi - a - (x.n + sumN l); rw [ih]; omega
   · rw [ih]; show _ = hi - a - (x.n + sumN l); omega
theorem left_is {s : SpD} (h : s.Ok) : leftD s = s.hi - s.lo - sumN s.l := sum_gaps h.can.tch h.le
theorem maxG_le {n : Int} : ∀ {l : List ExD} {a : Int}, n ≤ maxG a l ↔ n ≤ a ∨ ∃ g ∈ l, n ≤ g.n
 | [], a => by simp [maxG]
 | g :: l, a => by
   rw [maxG_cons, maxG_le (l := l)]
   simp only [List.mem_cons, exists_eq_or_imp]
   constructor
   · rintro (h | h)
     · by_cases q : n ≤ a
       · exact .inl q
       · exact .inr (.inl (by omega))
     · exact .inr (.inr h)
   · rintro (h | h | h)
     · exact .inl (by omega)
     · exact .inl (by omega)
     · exact .inr h
theorem findG_some {n : Int} : ∀ {l : List ExD}, (findG n l).isSome = true ↔ ∃ g ∈ l, n ≤ g.n
 | [] => by simp [findG]
 | g :: l => by
   unfold findG
   split
   · rename_i h; simp [h]
   · rename_i h; rw [findG_some (l := l)]; simp [h]
theorem long_iff {s : SpD} {n : Int} (hn : 1 ≤ n) : n ≤ longD s ↔ (takeP s n).isSome = true := by
 unfold longD takeP
 rw [if_neg (by omega), findG_some, maxG_le]
 exact ⟨fun h => h.elim (fun h => by omega) id, .inr⟩
theorem hasD_is (s : SpD) (z : Int) : hasD s z = hasL s.l z := rfl
structure RfD where
 fr : Int
 l : List Bool
structure RfD.Ok (s : RfD) : Prop where
 lo : 0 ≤ s.fr
 hi : s.fr + s.l.length ≤ 4096
abbrev rfT : TypeId := 68
abbrev boT : TypeId := 4
def boF (l : List Bool) : Nat → List AV := fun r => [.sy (.bool (l.getD r false))]
def boQ : List AV → Bool
 | [.sy (.bool b)] => b
 | _ => false
def bosF (n : Nat) (f : Nat → List AV) : List Bool := (List.range n).map fun r => boQ (f r)
theorem bosF_len (n : Nat) (f : Nat → List AV) : (bosF n f).length = n := by simp [bosF]
theorem bosF_boF (l : List Bool) : bosF l.length (boF l) = l := by
 unfold bosF
 apply List.ext_getElem?
 intro j
 by_cases h : j < l.length
 · simp [h, boF, boQ, List.getD_eq_getElem?_getD]
 · simp [h]
def rfB (s : RfD) : List AB := [.mem rfT none [ivA s.fr, .ow 1 s.l.length], .rw boT 1 s.l.length (boF s.l)]
structure RfW where
 fr : Int
 n : Nat
 f : Nat → List AV
def RfW.toL (x : RfW) : RfD := ⟨x.fr, bosF x.n x.f⟩
def RfD.raw (s : RfD) : RfW := ⟨s.fr, s.l.length, boF s.l⟩
theorem rraw_toL (s : RfD) : s.raw.toL = s := by
 unfold RfD.raw RfW.toL
 rw [bosF_boF]
structure RfW.Ok (x : RfW) : Prop where
 ok : x.toL.Ok
 f : ∀ r, r < x.n → x.f r = boF (bosF x.n x.f) r
theorem rraw_ok {s : RfD} (h : s.Ok) : s.raw.Ok := ⟨by rw [rraw_toL]; exact h, fun r _ => by show boF s.l r = boF (bosF s.l.length (boF s.l)) r; rw [bosF_boF]⟩
def rfwB (x : RfW) : List AB := [.mem rfT none [ivA x.fr, .ow 1 x.n], .rw boT 1 x.n x.f]
def rfOf (H : Tr AB) (i : Nat) : Option (RfW × Nat × Prop) :=
 match H.get i with
 | some (.mem T none [a, .ow p N]) => match H.get p with
   | some (.rw T1 w N' f) => match intA a with
     | some (.i64, lo) => cond (Nat.beq T rfT && Nat.beq T1 boT && Nat.beq w 1 && !(Nat.beq i p)) (some (⟨lo, N, f⟩, p, N' = N)) none
     | _ => none
   | _ => none
 | _ => none
theorem rfOf_seen {H : Tr AB} {i p : Nat} {x : RfW} {C : Prop} (h : rfOf H i = some (x, p, C)) (hC : C) : i ≠ p ∧ (x.Ok → seenL H (inS [i, p]) [i, p] (rfB x.toL)) ∧ seenL H (inS [i, p]) [i, p] (rfwB x) ∧ ∀ (T : TypeId) (l : List AV), H.get p ≠ some (.mem T none l) := by
 unfold rfOf at h
 split at h
 · rename_i T a p' N h0
   split at h
   · rename_i T1 w N' f h1
     split at h
     · rename_i lo ha
       cases hq : (Nat.beq T rfT && Nat.beq T1 boT && Nat.beq w 1 && !(Nat.beq i p')) with
       | false => rw [hq] at h; cases h
       | true =>
         rw [hq] at h
         cases h
         simp only [Bool.and_eq_true, Bool.not_eq_true', beq_dec, decide_eq_true_eq, decide_eq_false_iff_not] at hq
         obtain ⟨⟨⟨rfl, rfl⟩, rfl⟩, hne⟩ := hq
         have hN : N' = N := hC
         subst hN
         have hs : ∀ {L : Nat} {g : Nat → List AV}, L = N' → (∀ r, r < N' → f r = g r) → seenL H (inS [i, p]) [i, p] [.mem rfT none [ivA lo, .ow 1 L], .rw boT 1 L g] := fun {L g} e hg => by
           subst e
           refine ⟨⟨_, h0, rfl, rfl, rfl, ?_⟩, ⟨_, h1, rfl, rfl, rfl, rfl, hg⟩, trivial⟩
           simp only [renL, renA, inP2 hne]
           exact ⟨intA_leS ha _, ⟨rfl, rfl⟩, trivial⟩
         exact ⟨hne, fun hx => hs (bosF_len _ _) hx.f, hs rfl (fun _ _ => rfl), fun T l e => by rw [h1] at e; cases e⟩
     · cases h
   · cases h
 · cases h
theorem rf_same {x : RfW} (hx : x.Ok) {H : Tr AB} (h : endL (rfB x.toL) 0 H) : endL (rfwB x) 0 H := by
 obtain ⟨⟨B0, a0, b0⟩, ⟨B1, a1, b1⟩, _⟩ := h
 have e1 : x.toL.l.length = x.n := bosF_len _ _
 rw [e1] at b0 b1
 exact ⟨⟨B0, a0, b0⟩, ⟨B1, a1, leB_rwf b1 (fun r hr => (hx.f r hr).symm)⟩, trivial⟩
abbrev RfF := RfD → List AV → Option ((List AV × AV × List (Nat × AB)) × Prop)
def rfK (f : RfF) (args : List AV) (H : Tr AB) : Option Ex := match args with
 | .ptr i 0 :: rest => match rfOf H i with
   | some (x, p, C) => match f x.toL rest with
     | some ((ys, v, E), C') => some { μ := [i, p], args := .ptr 0 0 :: ys, L := rfB x.toL, res := v, L' := rfwB x, E := E, C := C ∧ x.Ok ∧ C' }
     | none => none
   | none => none
 | _ => none
theorem rfX_ok {S : Sy} (hok : S.Ok Try.prog) {F : FuncId} {fn : Func} (hF : Try.prog.funcs[F]? = some fn) (hb : fn.body.isSome = true) {f : RfF}
   (h : ∀ {s rest ys v E C}, f s rest = some ((ys, v, E), C) → s.Ok → C → (∀ σ, leL (renL σ rest) ys) ∧ ((E.map (·.1)).Nodup ∧ ∀ p ∈ E, 2 ≤ p.1) ∧ (startF (tabOf Try.prog) F (.ptr 0 0 :: ys) (memF (rfB s) 0 .e) 2).isSome = true ∧
     To S Try.prog F (startOf Try.prog F (.ptr 0 0 :: ys) (memF (rfB s) 0 .e) 2) (fun x H' _ => leA x v ∧ endL (rfB s) 0 H' ∧ endE E H')) :
   FOk Try.prog (oneX F (rfK f)) := oneX_ok hok tab hF hb fun {args H n e} hk hC => by
 unfold rfK at hk
 split at hk
 · rename_i i rest
   split at hk
   · rename_i x p C hr
     split at hk
     · rename_i ys v E C' hf
       cases hk
       obtain ⟨c1, c2, c3⟩ : C ∧ x.Ok ∧ C' := hC
       obtain ⟨n1, hs, _, hp⟩ := rfOf_seen hr c1
       obtain ⟨g0, gE, g1, g2⟩ := h hf c2.ok c3
       refine ⟨by simp [n1], hs c2, rfl, ?_, gE, ?_, g1, To.mono g2 fun y H' n' hq => ⟨hq.1, rf_same c2 hq.2.1, hq.2.2⟩⟩
       · simp only [renL, renA, inP1]
         exact ⟨leA_refl _, g0 _⟩
       · intro w0 ρ w vs hr0 hv j hj
         simp at hj
         rcases hj with rfl | rfl
         · exact .inl (VRs.bind hv (j, True) (by simp [bindL, bindA]) trivial)
         · exact .inr hp
     · cases hk
   · cases hk
 · cases hk
abbrev RfG := RfD → List AV → Option (List AV × Bool × Prop × (Bool → AV × List AB × List (Nat × AB)))
def rfKG (f : RfG) (args : List AV) (H : Tr AB) : Option (Bool × Prop × (Bool → Ex)) := match args with
 | .ptr i 0 :: rest => match rfOf H i with
   | some (x, p, C) => match f x.toL rest with
     | some (ys, b, C', r) => some (b, C ∧ x.Ok ∧ C', fun v => { μ := [i, p], args := .ptr 0 0 :: ys, L := rfB x.toL, res := (r v).1, L' := cond v (r v).2.1 (rfwB x), E := (r v).2.2, C := True })
     | none => none
   | none => none
 | _ => none
theorem rfXG_ok {S : Sy} (hok : S.Ok Try.prog) {F : FuncId} {fn : Func} (hF : Try.prog.funcs[F]? = some fn) (hb : fn.body.isSome = true) {f : RfG}
   (h : ∀ {s rest ys b C r}, f s rest = some (ys, b, C, r) → s.Ok → C → (∀ σ, leL (renL σ rest) ys) ∧ (b = true → ((r b).2.1).length = 2) ∧ (((r b).2.2.map (·.1)).Nodup ∧ ∀ p ∈ (r b).2.2, 2 ≤ p.1) ∧ (startF (tabOf Try.prog) F (.ptr 0 0 :: ys) (memF (rfB s) 0 .e) 2).isSome = true ∧
     To S Try.prog F (startOf Try.prog F (.ptr 0 0 :: ys) (memF (rfB s) 0 .e) 2) (fun x H' _ => leA x (r b).1 ∧ endL (cond b (r b).2.1 (rfB s)) 0 H' ∧ endE (r b).2.2 H')) :
   GOk Try.prog (oneXG F (rfKG f)) := oneXG_ok hok tab hF hb fun {args H n e} hk hC => by
 unfold rfKG at hk
 split at hk
 · rename_i i rest
   split at hk
   · rename_i x p C hr
     split at hk
     · rename_i ys b C' r hf
       cases hk
       obtain ⟨c1, c2, c3⟩ : C ∧ x.Ok ∧ C' := hC
       obtain ⟨n1, hs, _, hp⟩ := rfOf_seen hr c1
       obtain ⟨g0, gL, gE, g1, g2⟩ := h hf c2.ok c3
       refine ⟨by simp [n1], hs c2, ?_, ?_, gE, ?_, g1, To.mono g2 fun y H' n' hq => ⟨hq.1, ?_, hq.2.2⟩⟩
       · cases b with
         | true => exact gL rfl
         | false => rfl
       · simp only [renL, renA, inP1]
         exact ⟨leA_refl _, g0 _⟩
       · intro w0 ρ w vs hr0 hv j hj
         simp at hj
         rcases hj with rfl | rfl
         · exact .inl (VRs.bind hv (j, True) (by simp [bindL, bindA]) trivial)
         · exact .inr hp
       · cases b with
         | true => exact hq.2.1
         | false => exact rf_same c2 hq.2.1
     · cases hk
   · cases hk
 · cases hk
theorem bdrop_at {l : List Bool} {k : Nat} (h : k < l.length) : l.drop k = l.getD k false :: l.drop (k + 1) := by
 rw [List.drop_eq_getElem_cons h, List.getD_eq_getElem?_getD, List.getElem?_eq_getElem h]; rfl
theorem notT {b : Bool} (h : (!b) = true) : b = false := by cases b <;> simp at h ⊢
theorem notF {b : Bool} (h : (!b) = false) : b = true := by cases b <;> simp at h ⊢
def leftL : List Bool → Int
 | [] => 0
 | b :: l => (cond b 0 1) + leftL l
def longL (m n : Int) : List Bool → Int
 | [] => m
 | b :: l => longL (if m < cond b 0 (n + 1) then cond b 0 (n + 1) else m) (cond b 0 (n + 1)) l
def hasR (s : RfD) (z : Int) : Bool := decide (s.fr ≤ z) && decide (z < s.fr + s.l.length) && s.l.getD (z - s.fr).toNat false
def inR (s : RfD) (x : ExD) : Bool := decide (1 ≤ x.n) && decide (s.fr ≤ x.at_) && decide (x.at_ < s.fr + s.l.length) && decide (x.n ≤ s.fr + s.l.length - x.at_)
theorem inR_iff {s : RfD} {x : ExD} : inR s x = true ↔ 1 ≤ x.n ∧ s.fr ≤ x.at_ ∧ x.at_ < s.fr + s.l.length ∧ x.n ≤ s.fr + s.l.length - x.at_ := by
 unfold inR; simp only [Bool.and_eq_true, decide_eq_true_eq, and_assoc]
def allR (s : RfD) (x : ExD) (b : Bool) : Bool := inR s x && (List.range x.n.toNat).all fun i => s.l.getD ((x.at_ - s.fr).toNat + i) false == b
theorem allR_out {s : RfD} {x : ExD} {b : Bool} (h : ¬ (1 ≤ x.n ∧ s.fr ≤ x.at_ ∧ x.at_ < s.fr + s.l.length ∧ x.n ≤ s.fr + s.l.length - x.at_)) : allR s x b = false := by
 unfold allR
 rw [show inR s x = false from Bool.eq_false_iff.2 fun g => h (inR_iff.1 g)]; rfl
theorem allR_no {s : RfD} {x : ExD} {b : Bool} {i : Nat} (h1 : (i : Int) < x.n) (h2 : s.l.getD ((x.at_ - s.fr).toNat + i) false ≠ b) : allR s x b = false := by
 refine Bool.eq_false_iff.2 fun g => h2 ?_
 unfold allR at g
 rw [Bool.and_eq_true, List.all_eq_true] at g
 have := g.2 i (List.mem_range.2 (by omega))
 simpa using this
theorem allR_yes {s : RfD} {x : ExD} {b : Bool} (h : inR s x = true) (h2 : ∀ i : Nat, (i : Int) < x.n → s.l.getD ((x.at_ - s.fr).toNat + i) false = b) : allR s x b = true := by
 unfold allR
 rw [h, Bool.true_and, List.all_eq_true]
 intro i hi
 rw [List.mem_range] at hi
 rw [h2 i (by omega)]
 exact beq_self_eq_true b
structure RlP where
 k : Nat
 acc : Int
structure RmP where
 k : Nat
 m : Int
 n : Int
set_option maxHeartbeats 4000000 in
set_option maxRecDepth 100000 in
theorem rleft_to (hok : S0.Ok Try.prog) (s : RfD) (hs : s.Ok) : To S0 Try.prog 21 (startOf Try.prog 21 [.ptr 0 0] (memF (rfB s) 0 .e) 2) (fun x H' _ => leA x (ivA (leftL s.l)) ∧ endL (rfB s) 0 H' ∧ endE [] H') := by
 have hlo := hs.lo
 have hhi := hs.hi
 refine To.R (k := 15) (h := ?_)
 refine To.L (L := []) (kp := [4, 3, 0]) (C := (Same IntKind.i64 ∧ (0 : Int) = (↑(0 : Nat) : Int)) ∧ Same IntKind.i64 ∧ Same (0 : Int)) (st := fun (a : RlP) => (⟨(⟨21, 25, (slotT 25 [(0, AV.ptr 0 0), (3, AV.sy (Value.int IntKind.i64 a.acc)), (4, AV.sy (Value.int IntKind.i64 a.k))]), ARg.no, [(AItem.code (subC (bodyC Try.prog 21) [1, 1, 0, 1, 0, 0])), (AItem.inLoop (subC (bodyC Try.prog 21) [1, 1, 0, 1, 0, 0])), (AItem.inBlock 0), (AItem.code (subC (bodyC Try.prog 21) [1, 1, 1]))], [], false, none, 2⟩ : AFr), [], memF [AB.mem 68 none [AV.sy (Value.int IntKind.i64 s.fr), AV.ow 1 s.l.length], AB.rw 4 1 s.l.length (boF s.l)] 0 Tr.e, 2⟩ : ASt)) (hI := ?_) (h := ?_) (fun (p : RlP) => [(4, ivA (p.k : Int)), (3, ivA p.acc)]) (fun p => []) (fun p => p.k ≤ s.l.length ∧ 0 ≤ p.acc ∧ p.acc ≤ p.k ∧ p.acc + leftL (s.l.drop p.k) = leftL s.l) (fun p => s.l.length - p.k) (RlP.mk 0 0)
 · exact ⟨Nat.zero_le _, Int.le_refl _, Int.le_refl _, Int.zero_add _⟩
 intro p ⟨hk, h0, h1, h3⟩ ih
 refine To.R (h := ?_)
 refine To.Bd ((p.k : Int) < s.l.length) (h := ?_) (g := ?_)
 · intro h4
   have hlt : p.k < s.l.length := by omega
   rw [bdrop_at hlt] at h3
   have hi1 : p.k + 1 ≤ s.l.length := by omega
   have hi2 : s.l.length - (p.k + 1) < s.l.length - p.k := by omega
   refine To.R (C := ((0 : Int) ≤ p.k ∧ (p.k : Int) < s.l.length) ∧ p.k < s.l.length) (h := ?_)
   refine To.B (!s.l.getD p.k false) (h := ?_) (g := ?_)
   · intro h5
     have h3' : p.acc + 1 + leftL (s.l.drop (p.k + 1)) = leftL s.l := by rw [← h3, notT h5]; show _ = p.acc + (1 + _); omega
     refine To.R (k := 14) (C := fits IntKind.i64 (p.acc + 1) ∧ fits IntKind.i64 (p.k + 1)) (h := ?_)
     refine To.K (L := []) (kp := [4, 3, 0]) (ov := [(4, AV.sy (Value.int IntKind.i64 (RlP.mk (p.k + 1) (p.acc + 1)).k))]) (C := Same IntKind.i64 ∧ (↑p.k : Int) + 1 = (↑(p.k + 1) : Int)) (ih (RlP.mk (p.k + 1) (p.acc + 1)) ⟨hi1, by show 0 ≤ p.acc + 1; omega, by show p.acc + 1 ≤ ((p.k + 1 : Nat) : Int); omega, h3'⟩ hi2)
   · intro h5
     have h3' : p.acc + leftL (s.l.drop (p.k + 1)) = leftL s.l := by rw [← h3, notF h5]; show _ = p.acc + (0 + _); omega
     refine To.R (k := 10) (C := fits IntKind.i64 (p.k + 1)) (h := ?_)
     refine To.K (L := []) (kp := [4, 3, 0]) (ov := [(4, AV.sy (Value.int IntKind.i64 (RlP.mk (p.k + 1) p.acc).k))]) (C := Same IntKind.i64 ∧ (↑p.k : Int) + 1 = (↑(p.k + 1) : Int)) (ih (RlP.mk (p.k + 1) p.acc) ⟨hi1, h0, by show p.acc ≤ ((p.k + 1 : Nat) : Int); omega, h3'⟩ hi2)
 · intro h4
   have hk2 : p.k = s.l.length := by omega
   have h6 : p.acc = leftL s.l := by
     rw [hk2, List.drop_length] at h3
     exact (Int.add_zero _).symm.trans h3
   refine To.R (h := ?_)
   refine To.E (AV.sy (Value.int IntKind.i64 p.acc)) (hq := ?_)
   refine ⟨(of_eqP (C := Same IntKind.i64 ∧ p.acc = leftL s.l) (by kernel_rfl) (by (and_intros <;> try exact cl))), ⟨(endL_cons (B0 := AB.mem 68 none [AV.sy (Value.int IntKind.i64 s.fr), AV.ow 1 s.l.length]) (by kernel_rfl) (of_eqP (C := 68 = rfT ∧ (none : Option Nat) = none ∧ (Same IntKind.i64 ∧ Same s.fr) ∧ (Same 1 ∧ Same s.l.length) ∧ True) (by kernel_rfl) (by (and_intros <;> try exact cl))) (endL_cons (B0 := AB.rw 4 1 s.l.length (boF s.l)) (by kernel_rfl) (of_eqP (C := 4 = boT ∧ Same 1 ∧ Same s.l.length ∧ (∀ (r : Nat), r < s.l.length → boF s.l r = boF s.l r)) (by kernel_rfl) (by (and_intros <;> try exact cl))) endL_nil)), endE_nil⟩⟩
set_option maxHeartbeats 4000000 in
set_option maxRecDepth 100000 in
theorem rlong_to (hok : S0.Ok Try.prog) (s : RfD) (hs : s.Ok) : To S0 Try.prog 40 (startOf Try.prog 40 [.ptr 0 0] (memF (rfB s) 0 .e) 2) (fun x H' _ => leA x (ivA (longL 0 0 s.l)) ∧ endL (rfB s) 0 H' ∧ endE [] H') := by
 have hlo := hs.lo
 have hhi := hs.hi
 refine To.R (k := 19) (h := ?_)
 refine To.L (L := []) (kp := [5, 4, 3, 0]) (C := (Same IntKind.i64 ∧ (0 : Int) = (↑(0 : Nat) : Int)) ∧ (Same IntKind.i64 ∧ Same (0 : Int)) ∧ Same IntKind.i64 ∧ Same (0 : Int)) (st := fun (a : RmP) => (⟨(⟨40, 29, (slotT 29 [(0, AV.ptr 0 0), (3, AV.sy (Value.int IntKind.i64 a.m)), (4, AV.sy (Value.int IntKind.i64 a.n)), (5, AV.sy (Value.int IntKind.i64 a.k))]), ARg.no, [(AItem.code (subC (bodyC Try.prog 40) [1, 1, 1, 0, 1, 0, 0])), (AItem.inLoop (subC (bodyC Try.prog 40) [1, 1, 1, 0, 1, 0, 0])), (AItem.inBlock 0), (AItem.code (subC (bodyC Try.prog 40) [1, 1, 1, 1]))], [], false, none, 2⟩ : AFr), [], memF [AB.mem 68 none [AV.sy (Value.int IntKind.i64 s.fr), AV.ow 1 s.l.length], AB.rw 4 1 s.l.length (boF s.l)] 0 Tr.e, 2⟩ : ASt)) (hI := ?_) (h := ?_) (fun (p : RmP) => [(5, ivA (p.k : Int)), (4, ivA p.n), (3, ivA p.m)]) (fun p => []) (fun p => p.k ≤ s.l.length ∧ 0 ≤ p.n ∧ p.n ≤ p.k ∧ longL p.m p.n (s.l.drop p.k) = longL 0 0 s.l) (fun p => s.l.length - p.k) (RmP.mk 0 0 0)
 · exact ⟨Nat.zero_le _, Int.le_refl _, Int.le_refl _, rfl⟩
 intro p ⟨hk, h0, h1, h3⟩ ih
 refine To.R (h := ?_)
 refine To.Bd ((p.k : Int) < s.l.length) (h := ?_) (g := ?_)
 · intro h4
   have hlt : p.k < s.l.length := by omega
   rw [bdrop_at hlt] at h3
   have hi1 : p.k + 1 ≤ s.l.length := by omega
   have hi2 : s.l.length - (p.k + 1) < s.l.length - p.k := by omega
   have hi3 : 0 ≤ p.n + 1 := by omega
   have hi4 : p.n + 1 ≤ ((p.k + 1 : Nat) : Int) := by omega
   have hi5 : (0 : Int) ≤ ((p.k + 1 : Nat) : Int) := by omega
   refine To.R (C := fits IntKind.i64 (p.n + 1) ∧ ((0 : Int) ≤ p.k ∧ (p.k : Int) < s.l.length) ∧ p.k < s.l.length) (h := ?_)
   refine To.bool2 23 (s.l.getD p.k false) (by kernel_rfl) (by kernel_rfl) ?_ ?_
   · intro h5
     rw [h5] at h3
     refine To.R (h := ?_)
     refine To.Bd (p.m < 0) (h := ?_) (g := ?_)
     · intro h6
       rw [show longL p.m p.n (true :: s.l.drop (p.k + 1)) = longL 0 0 (s.l.drop (p.k + 1)) from congrArg (fun q => longL q 0 _) (if_pos h6)] at h3
       refine To.R (k := 13) (C := fits IntKind.i64 (p.k + 1)) (h := ?_)
       refine To.K (L := []) (kp := [5, 4, 3, 0]) (ov := [(5, AV.sy (Value.int IntKind.i64 (RmP.mk (p.k + 1) 0 0).k)), (4, AV.sy (Value.int IntKind.i64 (RmP.mk (p.k + 1) 0 0).n)), (3, AV.sy (Value.int IntKind.i64 (RmP.mk (p.k + 1) 0 0).m))]) (C := (Same IntKind.i64 ∧ (↑p.k : Int) + 1 = (↑(p.k + 1) : Int)) ∧ (Same IntKind.i64 ∧ Same (0 : Int)) ∧ Same IntKind.i64 ∧ Same (0 : Int)) (ih (RmP.mk (p.k + 1) 0 0) ⟨hi1, Int.le_refl _, hi5, h3⟩ hi2)
     · intro h6
       rw [show longL p.m p.n (true :: s.l.drop (p.k + 1)) = longL p.m 0 (s.l.drop (p.k + 1)) from congrArg (fun q => longL q 0 _) (if_neg h6)] at h3
       refine To.R (k := 10) (C := fits IntKind.i64 (p.k + 1)) (h := ?_)
       refine To.K (L := []) (kp := [5, 4, 3, 0]) (ov := [(5, AV.sy (Value.int IntKind.i64 (RmP.mk (p.k + 1) p.m 0).k)), (4, AV.sy (Value.int IntKind.i64 (RmP.mk (p.k + 1) p.m 0).n))]) (C := (Same IntKind.i64 ∧ (↑p.k : Int) + 1 = (↑(p.k + 1) : Int)) ∧ Same IntKind.i64 ∧ Same (0 : Int)) (ih (RmP.mk (p.k + 1) p.m 0) ⟨hi1, Int.le_refl _, hi5, h3⟩ hi2)
   · intro h5
     rw [h5] at h3
     refine To.R (h := ?_)
     refine To.Bd (p.m < p.n + 1) (h := ?_) (g := ?_)
     · intro h6
       rw [show longL p.m p.n (false :: s.l.drop (p.k + 1)) = longL (p.n + 1) (p.n + 1) (s.l.drop (p.k + 1)) from congrArg (fun q => longL q (p.n + 1) _) (if_pos h6)] at h3
       refine To.R (k := 13) (C := fits IntKind.i64 (p.k + 1)) (h := ?_)
       refine To.K (L := []) (kp := [5, 4, 3, 0]) (ov := [(5, AV.sy (Value.int IntKind.i64 (RmP.mk (p.k + 1) (p.n + 1) (p.n + 1)).k))]) (C := Same IntKind.i64 ∧ (↑p.k : Int) + 1 = (↑(p.k + 1) : Int)) (ih (RmP.mk (p.k + 1) (p.n + 1) (p.n + 1)) ⟨hi1, hi3, hi4, h3⟩ hi2)
     · intro h6
       rw [show longL p.m p.n (false :: s.l.drop (p.k + 1)) = longL p.m (p.n + 1) (s.l.drop (p.k + 1)) from congrArg (fun q => longL q (p.n + 1) _) (if_neg h6)] at h3
       refine To.R (k := 10) (C := fits IntKind.i64 (p.k + 1)) (h := ?_)
       refine To.K (L := []) (kp := [5, 4, 3, 0]) (ov := [(5, AV.sy (Value.int IntKind.i64 (RmP.mk (p.k + 1) p.m (p.n + 1)).k))]) (C := Same IntKind.i64 ∧ (↑p.k : Int) + 1 = (↑(p.k + 1) : Int)) (ih (RmP.mk (p.k + 1) p.m (p.n + 1)) ⟨hi1, hi3, hi4, h3⟩ hi2)
 · intro h4
   have hk2 : p.k = s.l.length := by omega
   have h6 : p.m = longL 0 0 s.l := by
     rw [hk2, List.drop_length] at h3
     exact h3
   refine To.R (h := ?_)
   refine To.E (AV.sy (Value.int IntKind.i64 p.m)) (hq := ?_)
   refine ⟨(of_eqP (C := Same IntKind.i64 ∧ p.m = longL 0 0 s.l) (by kernel_rfl) (by (and_intros <;> try exact cl))), ⟨(endL_cons (B0 := AB.mem 68 none [AV.sy (Value.int IntKind.i64 s.fr), AV.ow 1 s.l.length]) (by kernel_rfl) (of_eqP (C := 68 = rfT ∧ (none : Option Nat) = none ∧ (Same IntKind.i64 ∧ Same s.fr) ∧ (Same 1 ∧ Same s.l.length) ∧ True) (by kernel_rfl) (by (and_intros <;> try exact cl))) (endL_cons (B0 := AB.rw 4 1 s.l.length (boF s.l)) (by kernel_rfl) (of_eqP (C := 4 = boT ∧ Same 1 ∧ Same s.l.length ∧ (∀ (r : Nat), r < s.l.length → boF s.l r = boF s.l r)) (by kernel_rfl) (by (and_intros <;> try exact cl))) endL_nil)), endE_nil⟩⟩
set_option maxHeartbeats 4000000 in
set_option maxRecDepth 100000 in
theorem rhas_to (hok : S0.Ok Try.prog) (s : RfD) (hs : s.Ok) (z : Int) : To S0 Try.prog 41 (startOf Try.prog 41 [.ptr 0 0, ivA z] (memF (rfB s) 0 .e) 2) (fun x H' _ => leA x (.sy (.bool (hasR s z))) ∧ endL (rfB s) 0 H' ∧ endE [] H') := by
 have hlo := hs.lo
 have hhi := hs.hi
 refine To.R (h := ?_)
 refine To.Bd (s.fr ≤ z) (h := ?_) (g := ?_)
 · intro h1
   refine To.R (C := True ∧ fits IntKind.i64 (s.fr + s.l.length)) (h := ?_)
   refine To.Bd (z < s.fr + s.l.length) (h := ?_) (g := ?_)
   · intro h2
     have h3 : (z - s.fr).toNat < s.l.length := by omega
     have h4 : hasR s z = s.l.getD (z - s.fr).toNat false := by
       unfold hasR
       rw [decide_eq_true h1, decide_eq_true h2]; rfl
     refine To.R (C := fits IntKind.i64 (z - s.fr) ∧ (0 ≤ z - s.fr ∧ z - s.fr < s.l.length) ∧ (z - s.fr).toNat < s.l.length) (h := ?_)
     refine To.B (s.l.getD (z - s.fr).toNat false) (h := ?_) (g := ?_)
     · intro h5
       rw [h5] at h4
       refine To.R (h := ?_)
       refine To.E (AV.v (Value.bool true)) (hq := ?_)
       refine ⟨(of_eqP (C := true = hasR s z) (by kernel_rfl) ?_), ⟨(endL_cons (B0 := AB.mem 68 none [AV.sy (Value.int IntKind.i64 s.fr), AV.ow 1 s.l.length]) (by kernel_rfl) (of_eqP (C := 68 = rfT ∧ (none : Option Nat) = none ∧ (Same IntKind.i64 ∧ Same s.fr) ∧ (Same 1 ∧ Same s.l.length) ∧ True) (by kernel_rfl) (by (and_intros <;> try exact cl))) (endL_cons (B0 := AB.rw 4 1 s.l.length (boF s.l)) (by kernel_rfl) (of_eqP (C := 4 = boT ∧ Same 1 ∧ Same s.l.length ∧ (∀ (r : Nat), r < s.l.length → boF s.l r = boF s.l r)) (by kernel_rfl) (by (and_intros <;> try exact cl))) endL_nil)), endE_nil⟩⟩
       exact h4.symm
     · intro h5
       rw [h5] at h4
       refine To.R (h := ?_)
       refine To.E (AV.v (Value.bool false)) (hq := ?_)
       refine ⟨(of_eqP (C := false = hasR s z) (by kernel_rfl) ?_), ⟨(endL_cons (B0 := AB.mem 68 none [AV.sy (Value.int IntKind.i64 s.fr), AV.ow 1 s.l.length]) (by kernel_rfl) (of_eqP (C := 68 = rfT ∧ (none : Option Nat) = none ∧ (Same IntKind.i64 ∧ Same s.fr) ∧ (Same 1 ∧ Same s.l.length) ∧ True) (by kernel_rfl) (by (and_intros <;> try exact cl))) (endL_cons (B0 := AB.rw 4 1 s.l.length (boF s.l)) (by kernel_rfl) (of_eqP (C := 4 = boT ∧ Same 1 ∧ Same s.l.length ∧ (∀ (r : Nat), r < s.l.length → boF s.l r = boF s.l r)) (by kernel_rfl) (by (and_intros <;> try exact cl))) endL_nil)), endE_nil⟩⟩
       exact h4.symm
   · intro h2
     have h4 : hasR s z = false := by unfold hasR; simp [h2]
     refine To.R (h := ?_)
     refine To.E (AV.v (Value.bool false)) (hq := ?_)
     refine ⟨(of_eqP (C := false = hasR s z) (by kernel_rfl) ?_), ⟨(endL_cons (B0 := AB.mem 68 none [AV.sy (Value.int IntKind.i64 s.fr), AV.ow 1 s.l.length]) (by kernel_rfl) (of_eqP (C := 68 = rfT ∧ (none : Option Nat) = none ∧ (Same IntKind.i64 ∧ Same s.fr) ∧ (Same 1 ∧ Same s.l.length) ∧ True) (by kernel_rfl) (by (and_intros <;> try exact cl))) (endL_cons (B0 := AB.rw 4 1 s.l.length (boF s.l)) (by kernel_rfl) (of_eqP (C := 4 = boT ∧ Same 1 ∧ Same s.l.length ∧ (∀ (r : Nat), r < s.l.length → boF s.l r = boF s.l r)) (by kernel_rfl) (by (and_intros <;> try exact cl))) endL_nil)), endE_nil⟩⟩
     exact h4.symm
 · intro h1
   have h4 : hasR s z = false := by unfold hasR; simp [h1]
   refine To.R (h := ?_)
   refine To.E (AV.v (Value.bool false)) (hq := ?_)
   refine ⟨(of_eqP (C := false = hasR s z) (by kernel_rfl) ?_), ⟨(endL_cons (B0 := AB.mem 68 none [AV.sy (Value.int IntKind.i64 s.fr), AV.ow 1 s.l.length]) (by kernel_rfl) (of_eqP (C := 68 = rfT ∧ (none : Option Nat) = none ∧ (Same IntKind.i64 ∧ Same s.fr) ∧ (Same 1 ∧ Same s.l.length) ∧ True) (by kernel_rfl) (by (and_intros <;> try exact cl))) (endL_cons (B0 := AB.rw 4 1 s.l.length (boF s.l)) (by kernel_rfl) (of_eqP (C := 4 = boT ∧ Same 1 ∧ Same s.l.length ∧ (∀ (r : Nat), r < s.l.length → boF s.l r = boF s.l r)) (by kernel_rfl) (by (and_intros <;> try exact cl))) endL_nil)), endE_nil⟩⟩
   exact h4.symm
set_option maxHeartbeats 4000000 in
set_option maxRecDepth 100000 in
theorem rall_to (hok : S0.Ok Try.prog) (s : RfD) (hs : s.Ok) (x : ExD) (b : Bool) : To S0 Try.prog 50 (startOf Try.prog 50 [.ptr 0 0, .agg (exA x), .v (.bool b)] (memF (rfB s) 0 .e) 2) (fun v H' _ => leA v (.sy (.bool (allR s x b))) ∧ endL (rfB s) 0 H' ∧ endE [] H') := by
 have hlo := hs.lo
 have hhi := hs.hi
 refine To.R (h := ?_)
 refine To.Bd (x.n < 1) (h := ?_) (g := ?_)
 · intro h1
   have h4 : allR s x b = false := allR_out (by omega)
   refine To.R (h := ?_)
   refine To.E (AV.v (Value.bool false)) (hq := ?_)
   refine ⟨(of_eqP (C := false = allR s x b) (by kernel_rfl) ?_), ⟨(endL_cons (B0 := AB.mem 68 none [AV.sy (Value.int IntKind.i64 s.fr), AV.ow 1 s.l.length]) (by kernel_rfl) (of_eqP (C := 68 = rfT ∧ (none : Option Nat) = none ∧ (Same IntKind.i64 ∧ Same s.fr) ∧ (Same 1 ∧ Same s.l.length) ∧ True) (by kernel_rfl) (by (and_intros <;> try exact cl))) (endL_cons (B0 := AB.rw 4 1 s.l.length (boF s.l)) (by kernel_rfl) (of_eqP (C := 4 = boT ∧ Same 1 ∧ Same s.l.length ∧ (∀ (r : Nat), r < s.l.length → boF s.l r = boF s.l r)) (by kernel_rfl) (by (and_intros <;> try exact cl))) endL_nil)), endE_nil⟩⟩
   exact h4.symm
 intro h1
 refine To.R (h := ?_)
 refine To.Bd (x.at_ < s.fr) (h := ?_) (g := ?_)
 · intro h2
   have h4 : allR s x b = false := allR_out (by omega)
   refine To.R (h := ?_)
   refine To.E (AV.v (Value.bool false)) (hq := ?_)
   refine ⟨(of_eqP (C := false = allR s x b) (by kernel_rfl) ?_), ⟨(endL_cons (B0 := AB.mem 68 none [AV.sy (Value.int IntKind.i64 s.fr), AV.ow 1 s.l.length]) (by kernel_rfl) (of_eqP (C := 68 = rfT ∧ (none : Option Nat) = none ∧ (Same IntKind.i64 ∧ Same s.fr) ∧ (Same 1 ∧ Same s.l.length) ∧ True) (by kernel_rfl) (by (and_intros <;> try exact cl))) (endL_cons (B0 := AB.rw 4 1 s.l.length (boF s.l)) (by kernel_rfl) (of_eqP (C := 4 = boT ∧ Same 1 ∧ Same s.l.length ∧ (∀ (r : Nat), r < s.l.length → boF s.l r = boF s.l r)) (by kernel_rfl) (by (and_intros <;> try exact cl))) endL_nil)), endE_nil⟩⟩
   exact h4.symm
 intro h2
 refine To.R (C := True ∧ fits IntKind.i64 (s.fr + s.l.length)) (h := ?_)
 refine To.Bd (s.fr + s.l.length ≤ x.at_) (h := ?_) (g := ?_)
 · intro h3
   have h4 : allR s x b = false := allR_out (by omega)
   refine To.R (h := ?_)
   refine To.E (AV.v (Value.bool false)) (hq := ?_)
   refine ⟨(of_eqP (C := false = allR s x b) (by kernel_rfl) ?_), ⟨(endL_cons (B0 := AB.mem 68 none [AV.sy (Value.int IntKind.i64 s.fr), AV.ow 1 s.l.length]) (by kernel_rfl) (of_eqP (C := 68 = rfT ∧ (none : Option Nat) = none ∧ (Same IntKind.i64 ∧ Same s.fr) ∧ (Same 1 ∧ Same s.l.length) ∧ True) (by kernel_rfl) (by (and_intros <;> try exact cl))) (endL_cons (B0 := AB.rw 4 1 s.l.length (boF s.l)) (by kernel_rfl) (of_eqP (C := 4 = boT ∧ Same 1 ∧ Same s.l.length ∧ (∀ (r : Nat), r < s.l.length → boF s.l r = boF s.l r)) (by kernel_rfl) (by (and_intros <;> try exact cl))) endL_nil)), endE_nil⟩⟩
   exact h4.symm
 intro h3
 refine To.R (C := True ∧ fits IntKind.i64 (s.fr + s.l.length) ∧ fits IntKind.i64 (s.fr + s.l.length - x.at_)) (h := ?_)
 refine To.Bd (s.fr + s.l.length - x.at_ < x.n) (h := ?_) (g := ?_)
 · intro h5
   have h4 : allR s x b = false := allR_out (by omega)
   refine To.R (h := ?_)
   refine To.E (AV.v (Value.bool false)) (hq := ?_)
   refine ⟨(of_eqP (C := false = allR s x b) (by kernel_rfl) ?_), ⟨(endL_cons (B0 := AB.mem 68 none [AV.sy (Value.int IntKind.i64 s.fr), AV.ow 1 s.l.length]) (by kernel_rfl) (of_eqP (C := 68 = rfT ∧ (none : Option Nat) = none ∧ (Same IntKind.i64 ∧ Same s.fr) ∧ (Same 1 ∧ Same s.l.length) ∧ True) (by kernel_rfl) (by (and_intros <;> try exact cl))) (endL_cons (B0 := AB.rw 4 1 s.l.length (boF s.l)) (by kernel_rfl) (of_eqP (C := 4 = boT ∧ Same 1 ∧ Same s.l.length ∧ (∀ (r : Nat), r < s.l.length → boF s.l r = boF s.l r)) (by kernel_rfl) (by (and_intros <;> try exact cl))) endL_nil)), endE_nil⟩⟩
   exact h4.symm
 intro h5
 have hin : inR s x = true := inR_iff.2 (by omega)
 refine To.R (k := 11) (h := ?_)
 refine To.L (L := [LN.old 2]) (kp := [7, 4, 2, 0]) (C := Same IntKind.i64 ∧ (0 : Int) = (↑(0 : Nat) : Int)) (st := fun (a : Nat) => (⟨(⟨50, 76, (slotT 76 [(0, AV.ptr 0 0), (2, AV.v (Value.bool b)), (4, AV.ptr 2 0), (7, AV.sy (Value.int IntKind.i64 a))]), ARg.no, [(AItem.code (subC (bodyC Try.prog 50) [1, 1, 0, 1, 0, 0])), (AItem.inLoop (subC (bodyC Try.prog 50) [1, 1, 0, 1, 0, 0])), (AItem.inBlock 0), (AItem.code (subC (bodyC Try.prog 50) [1, 1, 1]))], [], false, none, 2⟩ : AFr), [], memF [AB.mem 68 none [AV.sy (Value.int IntKind.i64 s.fr), AV.ow 1 s.l.length], AB.rw 4 1 s.l.length (boF s.l), AB.mem 31 none [AV.sy (Value.int IntKind.i64 x.at_), AV.sy (Value.int IntKind.i64 x.n)]] 0 Tr.e, 3⟩ : ASt)) (h := ?_) (fun (i : Nat) => [(7, ivA (i : Int))]) (fun _ => []) (fun i => (i : Int) ≤ x.n ∧ ∀ j : Nat, j < i → s.l.getD ((x.at_ - s.fr).toNat + j) false = b) (fun i => x.n.toNat - i) (0)
 intro i ⟨g1, g2⟩ ih
 refine To.R (h := ?_)
 refine To.Bd (i < x.n) (h := ?_) (g := ?_)
 · intro g3
   have hi1 : ((i + 1 : Nat) : Int) ≤ x.n := by omega
   have hi2 : x.n.toNat - (i + 1) < x.n.toNat - i := by omega
   have hix : (x.at_ - s.fr + (i : Int)).toNat = (x.at_ - s.fr).toNat + i := by omega
   refine To.R (C := fits IntKind.i64 (x.at_ - s.fr) ∧ fits IntKind.i64 (x.at_ - s.fr + i) ∧ (0 ≤ x.at_ - s.fr + i ∧ x.at_ - s.fr + i < s.l.length) ∧ (x.at_ - s.fr + i).toNat < s.l.length) (h := ?_)
   refine To.Bn (s.l.getD (x.at_ - s.fr + i).toNat false = b) (h := ?_) (g := ?_)
   · intro g4
     have g5 : s.l.getD ((x.at_ - s.fr).toNat + i) false ≠ b := by
       rw [← hix]
       exact g4
     have h4 : allR s x b = false := allR_no g3 g5
     refine To.R (h := ?_)
     refine To.E (AV.v (Value.bool false)) (hq := ?_)
     refine ⟨(of_eqP (C := false = allR s x b) (by kernel_rfl) ?_), ⟨(endL_cons (B0 := AB.mem 68 none [AV.sy (Value.int IntKind.i64 s.fr), AV.ow 1 s.l.length]) (by kernel_rfl) (of_eqP (C := 68 = rfT ∧ (none : Option Nat) = none ∧ (Same IntKind.i64 ∧ Same s.fr) ∧ (Same 1 ∧ Same s.l.length) ∧ True) (by kernel_rfl) (by (and_intros <;> try exact cl))) (endL_cons (B0 := AB.rw 4 1 s.l.length (boF s.l)) (by kernel_rfl) (of_eqP (C := 4 = boT ∧ Same 1 ∧ Same s.l.length ∧ (∀ (r : Nat), r < s.l.length → boF s.l r = boF s.l r)) (by kernel_rfl) (by (and_intros <;> try exact cl))) endL_nil)), endE_nil⟩⟩
     exact h4.symm
   · intro g4
     have g5 : s.l.getD ((x.at_ - s.fr).toNat + i) false = b := by
       rw [← hix]
       exact g4
     refine To.R (k := 10) (C := fits IntKind.i64 (i + 1)) (h := ?_)
     refine To.K (L := [LN.old 2]) (kp := [7, 4, 2, 0]) (ov := [(7, AV.sy (Value.int IntKind.i64 (↑(i + 1) : Int)))]) (C := Same IntKind.i64 ∧ (↑i : Int) + 1 = (↑(i + 1) : Int)) (ih (i + 1) ⟨hi1, fun j hj => by
       by_cases e : j = i
       · rw [e]; exact g5
       · exact g2 j (by omega)⟩ hi2)
 · intro g3
   have h4 : allR s x b = true := allR_yes hin fun j hj => g2 j (by omega)
   refine To.R (h := ?_)
   refine To.E (AV.v (Value.bool true)) (hq := ?_)
   refine ⟨(of_eqP (C := true = allR s x b) (by kernel_rfl) ?_), ⟨(endL_cons (B0 := AB.mem 68 none [AV.sy (Value.int IntKind.i64 s.fr), AV.ow 1 s.l.length]) (by kernel_rfl) (of_eqP (C := 68 = rfT ∧ (none : Option Nat) = none ∧ (Same IntKind.i64 ∧ Same s.fr) ∧ (Same 1 ∧ Same s.l.length) ∧ True) (by kernel_rfl) (by (and_intros <;> try exact cl))) (endL_cons (B0 := AB.rw 4 1 s.l.length (boF s.l)) (by kernel_rfl) (of_eqP (C := 4 = boT ∧ Same 1 ∧ Same s.l.length ∧ (∀ (r : Nat), r < s.l.length → boF s.l r = boF s.l r)) (by kernel_rfl) (by (and_intros <;> try exact cl))) endL_nil)), endE_nil⟩⟩
   exact h4.symm
def rleftF : CF := oneX 21 (rfK fun s rest => match rest with
 | [] => some (([], ivA (leftL s.l), []), True)
 | _ => none)
theorem rleftF_ok : FOk Try.prog rleftF := rfX_ok s0_ok Try.func21 (by kernel_rfl) fun {s rest ys v E C} h hs hC => by
 split at h
 · cases h
   exact ⟨fun σ => trivial, ⟨List.nodup_nil, fun p hp => by cases hp⟩, by kernel_rfl, rleft_to s0_ok s hs⟩
 · cases h
def rlongF : CF := oneX 40 (rfK fun s rest => match rest with
 | [] => some (([], ivA (longL 0 0 s.l), []), True)
 | _ => none)
theorem rlongF_ok : FOk Try.prog rlongF := rfX_ok s0_ok Try.func40 (by kernel_rfl) fun {s rest ys v E C} h hs hC => by
 split at h
 · cases h
   exact ⟨fun σ => trivial, ⟨List.nodup_nil, fun p hp => by cases hp⟩, by kernel_rfl, rlong_to s0_ok s hs⟩
 · cases h
def rhasF : CF := oneX 41 (rfK fun s rest => match rest with
 | [a] => match intA a with
   | some (.i64, z) => some (([ivA z], .sy (.bool (hasR s z)), []), True)
   | _ => none
 | _ => none)
theorem rhasF_ok : FOk Try.prog rhasF := rfX_ok s0_ok Try.func41 (by kernel_rfl) fun {s rest ys v E C} h hs hC => by
 split at h
 · split at h
   · rename_i z hz
     cases h
     exact ⟨fun σ => ⟨intA_leS hz σ, trivial⟩, ⟨List.nodup_nil, fun p hp => by cases hp⟩, by kernel_rfl, rhas_to s0_ok s hs z⟩
   · cases h
 · cases h
def rallF : CF := oneX 50 (rfK fun s rest => match rest with
 | [y, .v (.bool b)] => match exP y with
   | some x => some (([.agg (exA x), .v (.bool b)], .sy (.bool (allR s x b)), []), True)
   | _ => none
 | _ => none)
theorem rallF_ok : FOk Try.prog rallF := rfX_ok s0_ok Try.func50 (by kernel_rfl) fun {s rest ys v E C} h hs hC => by
 split at h
 · rename_i y b
   split at h
   · rename_i x hx
     cases h
     exact ⟨fun σ => ⟨exP_le hx σ, rfl, trivial⟩, ⟨List.nodup_nil, fun p hp => by cases hp⟩, by kernel_rfl, rall_to s0_ok s hs x b⟩
   · cases h
 · cases h
/-! Sectors are taken, or free. -/
def setL (l : List Bool) (p n : Nat) (b : Bool) : List Bool := (List.range l.length).map fun j => if p ≤ j ∧ j < p + n then b else l.getD j false
theorem setL_len (l : List Bool) (p n : Nat) (b : Bool) : (setL l p n b).length = l.length := by simp [setL]
theorem setL_get {l : List Bool} {p n j : Nat} {b : Bool} (h : j < l.length) : (setL l p n b).getD j false = if p ≤ j ∧ j < p + n then b else l.getD j false := by
 unfold setL
 rw [List.getD_eq_getElem?_getD, List.getElem?_map, List.getElem?_range h]; rfl
theorem setL_zero (l : List Bool) (p : Nat) (b : Bool) : setL l p 0 b = l := by
 apply List.ext_getElem?
 intro j
 by_cases h : j < l.length
 · have := setL_get (p := p) (n := 0) (b := b) h
   rw [if_neg (by omega)] at this
   rw [List.getD_eq_getElem?_getD, List.getD_eq_getElem?_getD] at this
   rw [List.getElem?_eq_getElem (by rw [setL_len]; exact h), List.getElem?_eq_getElem h] at this ⊢
   exact congrArg some this
 · rw [List.getElem?_eq_none (by rw [setL_len]; omega), List.getElem?_eq_none (by omega)]
def setR (s : RfD) (x : ExD) (b : Bool) : RfD := ⟨s.fr, setL s.l (x.at_ - s.fr).toNat x.n.toNat b⟩
theorem setR_rows {l : List Bool} {p i : Nat} {b : Bool} (h : p + i < l.length) {q : Nat} (hq : q = p + i) {c : AV} (hc : c = .sy (.bool b) ∨ c = .v (.bool b)) : ∀ r, r < l.length → leL (rwSet (boF (setL l p i b)) q 0 [c] r) (boF (setL l p (i + 1) b) r) ∧ bareL (boF (setL l p (i + 1) b) r) = true := fun r hr => by
 refine ⟨?_, rfl⟩
 subst hq
 unfold rwSet
 show leL _ [.sy (.bool ((setL l p (i + 1) b).getD r false))]
 rw [setL_get hr]
 cases e : Nat.beq r (p + i) with
 | true =>
   have e' : r = p + i := Nat.eq_of_beq_eq_true e
   rw [if_pos (by omega), cond_true]
   rcases hc with rfl | rfl
   · exact ⟨rfl, trivial⟩
   · exact ⟨rfl, trivial⟩
 | false =>
   have e' : r ≠ p + i := Nat.ne_of_beq_eq_false e
   rw [cond_false]
   show leL [.sy (.bool ((setL l p i b).getD r false))] _
   rw [setL_get hr]
   by_cases g : p ≤ r ∧ r < p + i
   · rw [if_pos g, if_pos (by omega)]; exact leL_refl _
   · rw [if_neg g, if_neg (by omega)]; exact leL_refl _
set_option maxHeartbeats 4000000 in
set_option maxRecDepth 100000 in
theorem rset_to (hok : S0.Ok Try.prog) (s : RfD) (hs : s.Ok) (x : ExD) (b : Bool) (hx : inR s x = true) : To S0 Try.prog 49 (startOf Try.prog 49 [.ptr 0 0, .agg (exA x), .v (.bool b)] (memF (rfB s) 0 .e) 2) (fun v H' _ => leA v (.tup []) ∧ endL (rfB (setR s x b)) 0 H' ∧ endE [] H') := by
 have hlo := hs.lo
 have hhi := hs.hi
 obtain ⟨k1, k2, k3, k4⟩ := inR_iff.1 hx
 obtain ⟨q, hq⟩ : ∃ q, q = (x.at_ - s.fr).toNat := ⟨_, rfl⟩
 refine To.R (k := 10) (h := ?_)
 refine To.L (L := [LN.old 2]) (kp := [6, 4, 2, 0]) (C := (Same IntKind.i64 ∧ (0 : Int) = (↑(0 : Nat) : Int)) ∧ Same boT ∧ Same 1 ∧ Same s.l.length ∧ (∀ (r : Nat), r < s.l.length → boF s.l r = boF (setL s.l q 0 b) r)) (st := fun (a : Nat) => (⟨(⟨49, 28, (slotT 28 [(0, AV.ptr 0 0), (2, AV.v (Value.bool b)), (4, AV.ptr 2 0), (6, AV.sy (Value.int IntKind.i64 a))]), ARg.no, [(AItem.code (subC (bodyC Try.prog 49) [1, 1, 0, 0])), (AItem.inLoop (subC (bodyC Try.prog 49) [1, 1, 0, 0])), (AItem.inBlock 0)], [], false, none, 2⟩ : AFr), [], memF [AB.mem 68 none [AV.sy (Value.int IntKind.i64 s.fr), AV.ow 1 s.l.length], AB.rw 4 1 s.l.length (boF (setL s.l q a b)), AB.mem 31 none [AV.sy (Value.int IntKind.i64 x.at_), AV.sy (Value.int IntKind.i64 x.n)]] 0 Tr.e, 3⟩ : ASt)) (hc := ?_) (h := ?_) (fun (i : Nat) => [(6, ivA (i : Int))]) (fun i => [(1, .rw boT 1 s.l.length (boF (setL s.l q i b)))]) (fun i => (i : Int) ≤ x.n) (fun i => x.n.toNat - i) (0)
 · exact ⟨⟨rfl, rfl⟩, rfl, rfl, rfl, by rw [setL_zero]; exact fun _ _ => rfl⟩
 intro i g1 ih
 refine To.R (h := ?_)
 refine To.Bd (i < x.n) (h := ?_) (g := ?_)
 · intro g3
   have hi1 : ((i + 1 : Nat) : Int) ≤ x.n := by omega
   have hi2 : x.n.toNat - (i + 1) < x.n.toNat - i := by omega
   have hix : (x.at_ - s.fr + (i : Int)).toNat = q + i := by omega
   have hlt : q + i < s.l.length := by omega
   refine To.R (k := 30) (C := fits IntKind.i64 (x.at_ - s.fr) ∧ fits IntKind.i64 (x.at_ - s.fr + i) ∧ (0 ≤ x.at_ - s.fr + i ∧ x.at_ - s.fr + i < s.l.length) ∧ (x.at_ - s.fr + i).toNat < s.l.length ∧ fits IntKind.i64 (i + 1)) (h := ?_)
   refine To.rows 1 (boF (setL s.l q (i + 1) b)) (by kernel_rfl) (C := (∀ (r : Nat), r < s.l.length → leL (rwSet (boF (setL s.l q i b)) (x.at_ - s.fr + i).toNat 0 [AV.v (Value.bool b)] r) (boF (setL s.l q (i + 1) b) r) ∧ bareL (boF (setL s.l q (i + 1) b) r) = true)) (by kernel_rfl) ?_ ?_
   · exact setR_rows hlt hix (.inr rfl)
   refine To.K (L := [LN.old 2]) (kp := [6, 4, 2, 0]) (ov := [(6, AV.sy (Value.int IntKind.i64 (↑(i + 1) : Int)))]) (C := Same IntKind.i64 ∧ (↑i : Int) + 1 = (↑(i + 1) : Int)) (ih (i + 1) hi1 hi2)
 · intro g3
   have hiq : i = x.n.toNat := by omega
   have hsl : (setR s x b).l.length = s.l.length := setL_len _ _ _ _
   refine To.R (h := ?_)
   refine To.E (AV.tup []) (hq := ?_)
   refine ⟨(of_eqP (C := True) (by kernel_rfl) (by (and_intros <;> try exact cl))), ⟨(endL_cons (B0 := AB.mem 68 none [AV.sy (Value.int IntKind.i64 s.fr), AV.ow 1 s.l.length]) (by kernel_rfl) (of_eqP (C := 68 = rfT ∧ (none : Option Nat) = none ∧ (Same IntKind.i64 ∧ s.fr = (setR s x b).fr) ∧ (Same 1 ∧ s.l.length = (setR s x b).l.length) ∧ True) (by kernel_rfl) ?_) (endL_cons (B0 := AB.rw 4 1 s.l.length (boF (setL s.l q i b))) (by kernel_rfl) (of_eqP (C := 4 = boT ∧ Same 1 ∧ s.l.length = (setR s x b).l.length ∧ (∀ (r : Nat), r < s.l.length → boF (setL s.l q i b) r = boF (setR s x b).l r)) (by kernel_rfl) ?_) endL_nil)), endE_nil⟩⟩
   · exact ⟨rfl, rfl, ⟨rfl, rfl⟩, ⟨rfl, hsl.symm⟩, trivial⟩
   · rw [hiq, hq]; exact ⟨rfl, rfl, hsl.symm, fun _ _ => rfl⟩
def rsetF : CF := oneX 49 fun args H => match args with
 | [.ptr i 0, y, .v (.bool b)] => match rfOf H i, exP y with
   | some (w, p, C), some x => some { μ := [i, p], args := [.ptr 0 0, .agg (exA x), .v (.bool b)], L := rfB w.toL, res := .tup [], L' := rfB (setR w.toL x b), E := [], C := C ∧ w.Ok ∧ inR w.toL x = true }
   | _, _ => none
 | _ => none
theorem rsetF_ok : FOk Try.prog rsetF := oneX_ok s0_ok tab Try.func49 (by kernel_rfl) fun {args H n e} hk hC => by
 split at hk
 · rename_i i y b
   split at hk
   · rename_i w p C x hr hx
     cases hk
     obtain ⟨c1, c2, c3⟩ := hC
     obtain ⟨n1, hs, _, hp⟩ := rfOf_seen hr c1
     refine ⟨by simp [n1], hs c2, rfl, ?_, ⟨List.nodup_nil, fun p hp => by cases hp⟩, ?_, by kernel_rfl, rset_to s0_ok w.toL c2.ok x b c3⟩
     · simp only [renL, renA, inP1]
       exact ⟨leA_refl _, exP_le hx _, rfl, trivial⟩
     · intro w0 ρ w vs hr0 hv j hj
       simp at hj
       rcases hj with rfl | rfl
       · exact .inl (VRs.bind hv (j, True) (by simp [bindL, bindA]) trivial)
       · exact .inr hp
   · cases hk
 · cases hk
noncomputable abbrev SRf : Sy := sym Try.prog (orF rallF rsetF) noG
theorem srf_ok : SRf.Ok Try.prog := sym_ok (orF_ok rallF_ok rsetF_ok) (noG_ok _) tab mix
theorem allR_in {s : RfD} {x : ExD} {b : Bool} (h : allR s x b = true) : inR s x = true := by
 unfold allR at h
 rw [Bool.and_eq_true] at h
 exact h.1
def scanT (n : Int) : List Bool → Int → Int → Option Int
 | [], _, _ => none
 | b :: l, p, f => if cond b 0 (f + 1) = n then some (p + 1) else scanT n l (p + 1) (cond b 0 (f + 1))
def takeR (s : RfD) (n : Int) : Option ExD := if n < 1 then none else (scanT n s.l s.fr 0).map fun e => ⟨e - n, n⟩
def bumpL (out : List ExD) : List ExD := out.set (out.length - 1) ⟨(out.getD (out.length - 1) default).at_, (out.getD (out.length - 1) default).n + 1⟩
def takL : List Bool → Int → Bool → List ExD → List ExD
 | [], _, _, out => out
 | b :: l, p, prev, out => takL l (p + 1) b (cond b (cond prev (bumpL out) (out ++ [⟨p, 1⟩])) out)
def prevB (l : List Bool) : Nat → Bool
 | 0 => false
 | k + 1 => l.getD k false
def takR (s : RfD) : List ExD := takL s.l s.fr false []
structure RtP where
 k : Nat
 f : Int
structure RkP where
 k : Nat
 out : List ExD
set_option maxHeartbeats 4000000 in
set_option maxRecDepth 100000 in
theorem rclaim_to (hok : SRf.Ok Try.prog) (s : RfD) (hs : s.Ok) (x : ExD) : To SRf Try.prog 38 (startOf Try.prog 38 [.ptr 0 0, .agg (exA x)] (memF (rfB s) 0 .e) 2)
   (fun v H' _ => (allR s x false = false ∧ leA v (ivA 40) ∧ endL (rfB s) 0 H') ∨ (allR s x false = true ∧ leA v (ivA 0) ∧ endL (rfB (setR s x true)) 0 H')) := by
 have hlo := hs.lo
 have hhi := hs.hi
 have hw : (⟨s.fr, s.l.length, boF s.l⟩ : RfW).Ok := rraw_ok hs
 have hwl : (⟨s.fr, s.l.length, boF s.l⟩ : RfW).toL = s := rraw_toL s
 have hsl : (setR s x true).l.length = s.l.length := setL_len _ _ _ _
 refine To.R (C := Same s.l.length ∧ (RfW.mk s.fr s.l.length (boF s.l)).Ok ∧ True) (h := ?_)
 refine To.B (allR (RfW.mk s.fr s.l.length (boF s.l)).toL x false) (h := ?_) (g := ?_)
 · intro h1
   have h2 : allR s x false = true := by rw [hwl] at h1; exact h1
   have h3 : inR (⟨s.fr, s.l.length, boF s.l⟩ : RfW).toL x = true := by rw [hwl]; exact allR_in h2
   refine To.R (C := Same s.l.length ∧ (RfW.mk s.fr s.l.length (boF s.l)).Ok ∧ inR (RfW.mk s.fr s.l.length (boF s.l)).toL x = true) (h := ?_)
   refine To.E (AV.v (Value.int IntKind.i64 0)) (hq := ?_)
   refine .inr ⟨h2, ?_⟩
   refine ⟨(of_eqP (C := Same IntKind.i64 ∧ Same (0 : Int)) (by kernel_rfl) (by (and_intros <;> try exact cl))), (endL_cons (B0 := AB.mem 68 none [AV.sy (Value.int IntKind.i64 (setR (RfW.mk s.fr s.l.length (boF s.l)).toL x true).fr), AV.ow 1 (setR (RfW.mk s.fr s.l.length (boF s.l)).toL x true).l.length]) (by kernel_rfl) (of_eqP (C := 68 = rfT ∧ (none : Option Nat) = none ∧ (Same IntKind.i64 ∧ (setR (RfW.mk s.fr s.l.length (boF s.l)).toL x true).fr = (setR s x true).fr) ∧ (Same 1 ∧ (setR (RfW.mk s.fr s.l.length (boF s.l)).toL x true).l.length = (setR s x true).l.length) ∧ True) (by kernel_rfl) ?_) (endL_cons (B0 := AB.rw 4 1 (setR (RfW.mk s.fr s.l.length (boF s.l)).toL x true).l.length (boF (setR (RfW.mk s.fr s.l.length (boF s.l)).toL x true).l)) (by kernel_rfl) (of_eqP (C := 4 = boT ∧ Same 1 ∧ (setR (RfW.mk s.fr s.l.length (boF s.l)).toL x true).l.length = (setR s x true).l.length ∧ (∀ (r : Nat), r < (setR (RfW.mk s.fr s.l.length (boF s.l)).toL x true).l.length → boF (setR (RfW.mk s.fr s.l.length (boF s.l)).toL x true).l r = boF (setR s x true).l r)) (by kernel_rfl) ?_) endL_nil))⟩
   all_goals rw [hwl]
   all_goals repeat' (first | exact trivial | exact rfl | exact fun _ _ => rfl | refine ⟨?_, ?_⟩)
 · intro h1
   have h2 : allR s x false = false := by rw [hwl] at h1; simpa using h1
   refine To.R (h := ?_)
   refine To.E (AV.v (Value.int IntKind.i64 40)) (hq := ?_)
   refine .inl ⟨h2, ?_⟩
   refine ⟨(of_eqP (C := Same IntKind.i64 ∧ Same (40 : Int)) (by kernel_rfl) (by (and_intros <;> try exact cl))), (endL_cons (B0 := AB.mem 68 none [AV.sy (Value.int IntKind.i64 (RfW.mk s.fr s.l.length (boF s.l)).fr), AV.ow 1 (RfW.mk s.fr s.l.length (boF s.l)).n]) (by kernel_rfl) (of_eqP (C := 68 = rfT ∧ (none : Option Nat) = none ∧ (Same IntKind.i64 ∧ Same s.fr) ∧ (Same 1 ∧ Same s.l.length) ∧ True) (by kernel_rfl) (by (and_intros <;> try exact cl))) (endL_cons (B0 := AB.rw 4 1 (RfW.mk s.fr s.l.length (boF s.l)).n (RfW.mk s.fr s.l.length (boF s.l)).f) (by kernel_rfl) (of_eqP (C := 4 = boT ∧ Same 1 ∧ Same s.l.length ∧ (∀ (r : Nat), r < s.l.length → (RfW.mk s.fr s.l.length (boF s.l)).f r = boF s.l r)) (by kernel_rfl) (by (and_intros <;> try exact cl))) endL_nil))⟩
set_option maxHeartbeats 4000000 in
set_option maxRecDepth 100000 in
theorem rgive_to (hok : SRf.Ok Try.prog) (s : RfD) (hs : s.Ok) (x : ExD) : To SRf Try.prog 39 (startOf Try.prog 39 [.ptr 0 0, .agg (exA x)] (memF (rfB s) 0 .e) 2)
   (fun v H' _ => (allR s x true = false ∧ leA v (ivA 40) ∧ endL (rfB s) 0 H') ∨ (allR s x true = true ∧ leA v (ivA 0) ∧ endL (rfB (setR s x false)) 0 H')) := by
 have hlo := hs.lo
 have hhi := hs.hi
 have hw : (⟨s.fr, s.l.length, boF s.l⟩ : RfW).Ok := rraw_ok hs
 have hwl : (⟨s.fr, s.l.length, boF s.l⟩ : RfW).toL = s := rraw_toL s
 have hsl : (setR s x false).l.length = s.l.length := setL_len _ _ _ _
 refine To.R (C := Same s.l.length ∧ (RfW.mk s.fr s.l.length (boF s.l)).Ok ∧ True) (h := ?_)
 refine To.B (allR (RfW.mk s.fr s.l.length (boF s.l)).toL x true) (h := ?_) (g := ?_)
 · intro h1
   have h2 : allR s x true = true := by rw [hwl] at h1; exact h1
   have h3 : inR (⟨s.fr, s.l.length, boF s.l⟩ : RfW).toL x = true := by rw [hwl]; exact allR_in h2
   refine To.R (C := Same s.l.length ∧ (RfW.mk s.fr s.l.length (boF s.l)).Ok ∧ inR (RfW.mk s.fr s.l.length (boF s.l)).toL x = true) (h := ?_)
   refine To.E (AV.v (Value.int IntKind.i64 0)) (hq := ?_)
   refine .inr ⟨h2, ?_⟩
   refine ⟨(of_eqP (C := Same IntKind.i64 ∧ Same (0 : Int)) (by kernel_rfl) (by (and_intros <;> try exact cl))), (endL_cons (B0 := AB.mem 68 none [AV.sy (Value.int IntKind.i64 (setR (RfW.mk s.fr s.l.length (boF s.l)).toL x false).fr), AV.ow 1 (setR (RfW.mk s.fr s.l.length (boF s.l)).toL x false).l.length]) (by kernel_rfl) (of_eqP (C := 68 = rfT ∧ (none : Option Nat) = none ∧ (Same IntKind.i64 ∧ (setR (RfW.mk s.fr s.l.length (boF s.l)).toL x false).fr = (setR s x false).fr) ∧ (Same 1 ∧ (setR (RfW.mk s.fr s.l.length (boF s.l)).toL x false).l.length = (setR s x false).l.length) ∧ True) (by kernel_rfl) ?_) (endL_cons (B0 := AB.rw 4 1 (setR (RfW.mk s.fr s.l.length (boF s.l)).toL x false).l.length (boF (setR (RfW.mk s.fr s.l.length (boF s.l)).toL x false).l)) (by kernel_rfl) (of_eqP (C := 4 = boT ∧ Same 1 ∧ (setR (RfW.mk s.fr s.l.length (boF s.l)).toL x false).l.length = (setR s x false).l.length ∧ (∀ (r : Nat), r < (setR (RfW.mk s.fr s.l.length (boF s.l)).toL x false).l.length → boF (setR (RfW.mk s.fr s.l.length (boF s.l)).toL x false).l r = boF (setR s x false).l r)) (by kernel_rfl) ?_) endL_nil))⟩
   all_goals rw [hwl]
   all_goals repeat' (first | exact trivial | exact rfl | exact fun _ _ => rfl | refine ⟨?_, ?_⟩)
 · intro h1
   have h2 : allR s x true = false := by rw [hwl] at h1; simpa using h1
   refine To.R (h := ?_)
   refine To.E (AV.v (Value.int IntKind.i64 40)) (hq := ?_)
   refine .inl ⟨h2, ?_⟩
   refine ⟨(of_eqP (C := Same IntKind.i64 ∧ Same (40 : Int)) (by kernel_rfl) (by (and_intros <;> try exact cl))), (endL_cons (B0 := AB.mem 68 none [AV.sy (Value.int IntKind.i64 (RfW.mk s.fr s.l.length (boF s.l)).fr), AV.ow 1 (RfW.mk s.fr s.l.length (boF s.l)).n]) (by kernel_rfl) (of_eqP (C := 68 = rfT ∧ (none : Option Nat) = none ∧ (Same IntKind.i64 ∧ Same s.fr) ∧ (Same 1 ∧ Same s.l.length) ∧ True) (by kernel_rfl) (by (and_intros <;> try exact cl))) (endL_cons (B0 := AB.rw 4 1 (RfW.mk s.fr s.l.length (boF s.l)).n (RfW.mk s.fr s.l.length (boF s.l)).f) (by kernel_rfl) (of_eqP (C := 4 = boT ∧ Same 1 ∧ Same s.l.length ∧ (∀ (r : Nat), r < s.l.length → (RfW.mk s.fr s.l.length (boF s.l)).f r = boF s.l r)) (by kernel_rfl) (by (and_intros <;> try exact cl))) endL_nil))⟩
set_option maxHeartbeats 4000000 in
set_option maxRecDepth 100000 in
theorem rtake_to (hok : SRf.Ok Try.prog) (s : RfD) (hs : s.Ok) (n : Int) : To SRf Try.prog 37 (startOf Try.prog 37 [.ptr 0 0, ivA n] (memF (rfB s) 0 .e) 2)
   (fun v H' _ => (takeR s n = none ∧ leA v (.tup [.agg [ivA 0, ivA 0], ivA (takeE n)]) ∧ endL (rfB s) 0 H') ∨ ∃ y, takeR s n = some y ∧ leA v (.tup [.agg (exA y), ivA 0]) ∧ endL (rfB (setR s y true)) 0 H') := by
 have hlo := hs.lo
 have hhi := hs.hi
 refine To.R (h := ?_)
 refine To.Bd (n < 1) (h := ?_) (g := ?_)
 · intro h1
   have h2 : takeR s n = none := if_pos h1
   have h3 : 40 = takeE n := (if_pos h1).symm
   refine To.R (h := ?_)
   refine To.E (AV.tup [AV.agg [AV.v (Value.int IntKind.i64 0), AV.v (Value.int IntKind.i64 0)], AV.v (Value.int IntKind.i64 40)]) (hq := ?_)
   refine .inl ⟨h2, ?_⟩
   refine ⟨(of_eqP (C := ((Same IntKind.i64 ∧ Same (0 : Int)) ∧ (Same IntKind.i64 ∧ Same (0 : Int)) ∧ True) ∧ (Same IntKind.i64 ∧ 40 = takeE n) ∧ True) (by kernel_rfl) (by (and_intros <;> try exact cl))), (endL_cons (B0 := AB.mem 68 none [AV.sy (Value.int IntKind.i64 s.fr), AV.ow 1 s.l.length]) (by kernel_rfl) (of_eqP (C := 68 = rfT ∧ (none : Option Nat) = none ∧ (Same IntKind.i64 ∧ Same s.fr) ∧ (Same 1 ∧ Same s.l.length) ∧ True) (by kernel_rfl) (by (and_intros <;> try exact cl))) (endL_cons (B0 := AB.rw 4 1 s.l.length (boF s.l)) (by kernel_rfl) (of_eqP (C := 4 = boT ∧ Same 1 ∧ Same s.l.length ∧ (∀ (r : Nat), r < s.l.length → boF s.l r = boF s.l r)) (by kernel_rfl) (by (and_intros <;> try exact cl))) endL_nil))⟩
 · intro h1
   have hn1 : takeE n = 41 := if_neg h1
   have hn2 : takeR s n = (scanT n s.l s.fr 0).map fun e => ⟨e - n, n⟩ := if_neg h1
   refine To.R (k := 14) (h := ?_)
   have hw : (⟨s.fr, s.l.length, boF s.l⟩ : RfW).Ok := rraw_ok hs
   have hwl : (⟨s.fr, s.l.length, boF s.l⟩ : RfW).toL = s := rraw_toL s
   refine To.L (L := [LN.old 2]) (kp := [7, 6, 4, 1, 0]) (C := (Same IntKind.i64 ∧ (0 : Int) = (↑(0 : Nat) : Int)) ∧ Same IntKind.i64 ∧ Same (0 : Int)) (st := fun (a : RtP) => (⟨(⟨37, 49, (slotT 49 [(0, AV.ptr 0 0), (1, AV.sy (Value.int IntKind.i64 n)), (4, AV.ptr 2 0), (6, AV.sy (Value.int IntKind.i64 a.f)), (7, AV.sy (Value.int IntKind.i64 a.k))]), ARg.no, [(AItem.code (subC (bodyC Try.prog 37) [1, 1, 1, 0, 1, 0, 0])), (AItem.inLoop (subC (bodyC Try.prog 37) [1, 1, 1, 0, 1, 0, 0])), (AItem.inBlock 0), (AItem.code (subC (bodyC Try.prog 37) [1, 1, 1, 1]))], [], false, none, 2⟩ : AFr), [], memF [AB.mem 68 none [AV.sy (Value.int IntKind.i64 s.fr), AV.ow 1 s.l.length], AB.rw 4 1 s.l.length (boF s.l), AB.mem 31 none [AV.v (Value.int IntKind.i64 0), AV.v (Value.int IntKind.i64 0)]] 0 Tr.e, 3⟩ : ASt)) (hI := ?_) (h := ?_) (fun (p : RtP) => [(7, ivA (p.k : Int)), (6, ivA p.f)]) (fun p => []) (fun p => p.k ≤ s.l.length ∧ 0 ≤ p.f ∧ p.f ≤ p.k ∧ p.f < n ∧ scanT n (s.l.drop p.k) (s.fr + (p.k : Int)) p.f = scanT n s.l s.fr 0) (fun p => s.l.length - p.k) (RtP.mk 0 0)
   · exact ⟨Nat.zero_le _, Int.le_refl _, Int.le_refl _, by show (0 : Int) < n; omega, by show scanT n _ (s.fr + 0) 0 = _; rw [Int.add_zero]; rfl⟩
   intro p ⟨hk, g0, g1, g2, g3⟩ ih
   refine To.R (h := ?_)
   refine To.Bd ((p.k : Int) < s.l.length) (h := ?_) (g := ?_)
   · intro h4
     have hlt : p.k < s.l.length := by omega
     rw [bdrop_at hlt] at g3
     have hi1 : p.k + 1 ≤ s.l.length := by omega
     have hi2 : s.l.length - (p.k + 1) < s.l.length - p.k := by omega
     have hi3 : s.fr + (p.k : Int) + 1 = s.fr + ((p.k + 1 : Nat) : Int) := by omega
     have hi4 : (0 : Int) ≤ ((p.k + 1 : Nat) : Int) := by omega
     have hi5 : p.f + 1 ≤ ((p.k + 1 : Nat) : Int) := by omega
     have hi6 : (0 : Int) < n := by omega
     have hi7 : 0 ≤ p.f + 1 := by omega
     refine To.R (C := fits IntKind.i64 (p.f + 1) ∧ ((0 : Int) ≤ p.k ∧ (p.k : Int) < s.l.length) ∧ p.k < s.l.length) (h := ?_)
     refine To.bool2 29 (s.l.getD p.k false) (by kernel_rfl) (by kernel_rfl) ?_ ?_
     · intro h5
       rw [h5] at g3
       have g4 : scanT n (s.l.drop (p.k + 1)) (s.fr + ((p.k + 1 : Nat) : Int)) 0 = scanT n s.l s.fr 0 := by rw [← g3, ← hi3]; exact (if_neg (show ¬ (0 : Int) = n by omega)).symm
       refine To.R (h := ?_)
       refine To.Nd (0 = n) (h := ?_)
       refine To.R (k := 10) (C := fits IntKind.i64 (p.k + 1)) (h := ?_)
       refine To.K (L := [LN.old 2]) (kp := [7, 6, 4, 1, 0]) (ov := [(7, AV.sy (Value.int IntKind.i64 (RtP.mk (p.k + 1) 0).k)), (6, AV.sy (Value.int IntKind.i64 (RtP.mk (p.k + 1) 0).f))]) (C := (Same IntKind.i64 ∧ (↑p.k : Int) + 1 = (↑(p.k + 1) : Int)) ∧ Same IntKind.i64 ∧ Same (0 : Int)) (ih (RtP.mk (p.k + 1) 0) ⟨hi1, Int.le_refl _, hi4, hi6, g4⟩ hi2)
     · intro h5
       rw [h5] at g3
       refine To.R (h := ?_)
       refine To.Bd (p.f + 1 = n) (h := ?_) (g := ?_)
       · intro h6
         have g4 : scanT n s.l s.fr 0 = some (s.fr + (p.k : Int) + 1) := by rw [← g3]; exact if_pos h6
         have g5 : takeR s n = some ⟨s.fr + (p.k : Int) + 1 - n, n⟩ := by rw [hn2, g4]; rfl
         have g6 : inR (⟨s.fr, s.l.length, boF s.l⟩ : RfW).toL ⟨s.fr + (p.k : Int) + 1 - n, n⟩ = true := by rw [hwl]; exact inR_iff.2 ⟨by show 1 ≤ n; omega, by show s.fr ≤ _ + 1 - n; omega, by show s.fr + (p.k : Int) + 1 - n < _; omega, by show n ≤ s.fr + (s.l.length : Int) - (s.fr + (p.k : Int) + 1 - n); omega⟩
         have hsl : (setR s ⟨s.fr + (p.k : Int) + 1 - n, n⟩ true).l.length = s.l.length := setL_len _ _ _ _
         refine To.R (C := fits IntKind.i64 (s.fr + p.k) ∧ fits IntKind.i64 (s.fr + p.k + 1) ∧ fits IntKind.i64 (s.fr + p.k + 1 - n) ∧ Same s.l.length ∧ (RfW.mk s.fr s.l.length (boF s.l)).Ok ∧ inR (RfW.mk s.fr s.l.length (boF s.l)).toL (ExD.mk (s.fr + p.k + 1 - n) n) = true) (h := ?_)
         refine To.E (AV.tup [AV.agg [AV.sy (Value.int IntKind.i64 (s.fr + p.k + 1 - n)), AV.sy (Value.int IntKind.i64 n)], AV.v (Value.int IntKind.i64 0)]) (hq := ?_)
         refine .inr ⟨_, g5, ?_⟩
         refine ⟨(of_eqP (C := ((Same IntKind.i64 ∧ Same (s.fr + p.k + 1 - n)) ∧ (Same IntKind.i64 ∧ Same n) ∧ True) ∧ (Same IntKind.i64 ∧ Same (0 : Int)) ∧ True) (by kernel_rfl) (by (and_intros <;> try exact cl))), (endL_cons (B0 := AB.mem 68 none [AV.sy (Value.int IntKind.i64 (setR (RfW.mk s.fr s.l.length (boF s.l)).toL (ExD.mk (s.fr + p.k + 1 - n) n) true).fr), AV.ow 1 (setR (RfW.mk s.fr s.l.length (boF s.l)).toL (ExD.mk (s.fr + p.k + 1 - n) n) true).l.length]) (by kernel_rfl) (of_eqP (C := 68 = rfT ∧ (none : Option Nat) = none ∧ (Same IntKind.i64 ∧ (setR (RfW.mk s.fr s.l.length (boF s.l)).toL (ExD.mk (s.fr + p.k + 1 - n) n) true).fr = (setR s (ExD.mk (s.fr + p.k + 1 - n) n) true).fr) ∧ (Same 1 ∧ (setR (RfW.mk s.fr s.l.length (boF s.l)).toL (ExD.mk (s.fr + p.k + 1 - n) n) true).l.length = (setR s (ExD.mk (s.fr + p.k + 1 - n) n) true).l.length) ∧ True) (by kernel_rfl) ?_) (endL_cons (B0 := AB.rw 4 1 (setR (RfW.mk s.fr s.l.length (boF s.l)).toL (ExD.mk (s.fr + p.k + 1 - n) n) true).l.length (boF (setR (RfW.mk s.fr s.l.length (boF s.l)).toL (ExD.mk (s.fr + p.k + 1 - n) n) true).l)) (by kernel_rfl) (of_eqP (C := 4 = boT ∧ Same 1 ∧ (setR (RfW.mk s.fr s.l.length (boF s.l)).toL (ExD.mk (s.fr + p.k + 1 - n) n) true).l.length = (setR s (ExD.mk (s.fr + p.k + 1 - n) n) true).l.length ∧ (∀ (r : Nat), r < (setR (RfW.mk s.fr s.l.length (boF s.l)).toL (ExD.mk (s.fr + p.k + 1 - n) n) true).l.length → boF (setR (RfW.mk s.fr s.l.length (boF s.l)).toL (ExD.mk (s.fr + p.k + 1 - n) n) true).l r = boF (setR s (ExD.mk (s.fr + p.k + 1 - n) n) true).l r)) (by kernel_rfl) ?_) endL_nil))⟩
         all_goals rw [hwl]
         all_goals repeat' (first | exact trivial | exact rfl | exact fun _ _ => rfl | refine ⟨?_, ?_⟩)
       · intro h6
         have g4 : scanT n (s.l.drop (p.k + 1)) (s.fr + ((p.k + 1 : Nat) : Int)) (p.f + 1) = scanT n s.l s.fr 0 := by rw [← g3, ← hi3]; exact (if_neg h6).symm
         have g5 : p.f + 1 < n := by omega
         refine To.R (k := 10) (C := fits IntKind.i64 (p.k + 1)) (h := ?_)
         refine To.K (L := [LN.old 2]) (kp := [7, 6, 4, 1, 0]) (ov := [(7, AV.sy (Value.int IntKind.i64 (RtP.mk (p.k + 1) (p.f + 1)).k))]) (C := Same IntKind.i64 ∧ (↑p.k : Int) + 1 = (↑(p.k + 1) : Int)) (ih (RtP.mk (p.k + 1) (p.f + 1)) ⟨hi1, hi7, hi5, g5, g4⟩ hi2)
   · intro h4
     have hk2 : p.k = s.l.length := by omega
     have h6 : takeR s n = none := by
       rw [hn2, ← g3, hk2, List.drop_length]; rfl
     have h7 : 41 = takeE n := hn1.symm
     refine To.R (h := ?_)
     refine To.E (AV.tup [AV.agg [AV.v (Value.int IntKind.i64 0), AV.v (Value.int IntKind.i64 0)], AV.v (Value.int IntKind.i64 41)]) (hq := ?_)
     refine .inl ⟨h6, ?_⟩
     refine ⟨(of_eqP (C := ((Same IntKind.i64 ∧ Same (0 : Int)) ∧ (Same IntKind.i64 ∧ Same (0 : Int)) ∧ True) ∧ (Same IntKind.i64 ∧ 41 = takeE n) ∧ True) (by kernel_rfl) (by (and_intros <;> try exact cl))), (endL_cons (B0 := AB.mem 68 none [AV.sy (Value.int IntKind.i64 s.fr), AV.ow 1 s.l.length]) (by kernel_rfl) (of_eqP (C := 68 = rfT ∧ (none : Option Nat) = none ∧ (Same IntKind.i64 ∧ Same s.fr) ∧ (Same 1 ∧ Same s.l.length) ∧ True) (by kernel_rfl) (by (and_intros <;> try exact cl))) (endL_cons (B0 := AB.rw 4 1 s.l.length (boF s.l)) (by kernel_rfl) (of_eqP (C := 4 = boT ∧ Same 1 ∧ Same s.l.length ∧ (∀ (r : Nat), r < s.l.length → boF s.l r = boF s.l r)) (by kernel_rfl) (by (and_intros <;> try exact cl))) endL_nil))⟩
set_option maxHeartbeats 4000000 in
set_option maxRecDepth 100000 in
theorem rtaken_to (hok : S0.Ok Try.prog) (s : RfD) (hs : s.Ok) : To S0 Try.prog 22 (startOf Try.prog 22 [.ptr 0 0] (memF (rfB s) 0 .e) 2) (fun x H' _ => leA x (.ow 2 (takR s).length) ∧ endL (rfB s) 0 H' ∧ endE [(2, .rw exT 2 (takR s).length (exF (takR s)))] H') := by
 have hlo := hs.lo
 have hhi := hs.hi
 refine To.R (k := 15) (h := ?_)
 refine To.L (L := [LN.new (AB.rw 31 2 0 (exF (RkP.mk 0 []).out))]) (kp := [4, 3, 0]) (C := (Same IntKind.i64 ∧ (0 : Int) = (↑(0 : Nat) : Int)) ∧ Same 0 ∧ 31 = exT ∧ Same 2 ∧ Same 0 ∧ (∀ (r : Nat), r < 0 → exF [] r = exF [] r)) (st := fun (a : RkP) => (⟨(⟨22, 55, (slotT 55 [(0, AV.ptr 0 0), (3, AV.ow 2 a.out.length), (4, AV.sy (Value.int IntKind.i64 a.k))]), ARg.no, [(AItem.code (subC (bodyC Try.prog 22) [1, 1, 0, 1, 0, 0])), (AItem.inLoop (subC (bodyC Try.prog 22) [1, 1, 0, 1, 0, 0])), (AItem.inBlock 0), (AItem.code (subC (bodyC Try.prog 22) [1, 1, 1]))], [], false, none, 2⟩ : AFr), [], memF [AB.mem 68 none [AV.sy (Value.int IntKind.i64 s.fr), AV.ow 1 s.l.length], AB.rw 4 1 s.l.length (boF s.l), AB.rw 31 2 a.out.length (exF a.out)] 0 Tr.e, 3⟩ : ASt)) (hI := ?_) (h := ?_) (fun (p : RkP) => [(4, ivA (p.k : Int)), (3, .ow 2 p.out.length)]) (fun p => [(2, .rw exT 2 p.out.length (exF p.out))]) (fun p => p.k ≤ s.l.length ∧ p.out.length ≤ p.k ∧ (∀ x ∈ p.out, 0 ≤ x.n ∧ x.n ≤ p.k) ∧ takL (s.l.drop p.k) (s.fr + (p.k : Int)) (prevB s.l p.k) p.out = takR s ∧ (prevB s.l p.k = true → 0 < p.out.length)) (fun p => s.l.length - p.k) (RkP.mk 0 [])
 · exact ⟨Nat.zero_le _, Nat.le_refl _, fun x (hx : x ∈ []) => (nomatch hx), by show takL _ (s.fr + 0) _ _ = _; rw [Int.add_zero]; rfl, fun h => (nomatch h)⟩
 intro p ⟨hk, g0, g1, g2, g3⟩ ih
 refine To.R (h := ?_)
 refine To.Bd ((p.k : Int) < s.l.length) (h := ?_) (g := ?_)
 · intro h4
   have hlt : p.k < s.l.length := by omega
   rw [bdrop_at hlt] at g2
   have hi1 : p.k + 1 ≤ s.l.length := by omega
   have hi2 : s.l.length - (p.k + 1) < s.l.length - p.k := by omega
   have hi3 : s.fr + (p.k : Int) + 1 = s.fr + ((p.k + 1 : Nat) : Int) := by omega
   have hpv : prevB s.l (p.k + 1) = s.l.getD p.k false := rfl
   refine To.R (C := ((0 : Int) ≤ p.k ∧ (p.k : Int) < s.l.length) ∧ p.k < s.l.length) (h := ?_)
   refine To.B (!s.l.getD p.k false) (h := ?_) (g := ?_)
   · intro h5
     have h5' : s.l.getD p.k false = false := notT h5
     rw [h5'] at g2
     have g2' : takL (s.l.drop (p.k + 1)) (s.fr + ((p.k + 1 : Nat) : Int)) (prevB s.l (p.k + 1)) p.out = takR s := by rw [← hi3, hpv, h5']; exact g2
     refine To.R (k := 9) (C := fits IntKind.i64 (p.k + 1)) (h := ?_)
     refine To.K (L := [LN.old 2]) (kp := [4, 3, 0]) (ov := [(4, AV.sy (Value.int IntKind.i64 (RkP.mk (p.k + 1) p.out).k))]) (C := Same IntKind.i64 ∧ (↑p.k : Int) + 1 = (↑(p.k + 1) : Int)) (ih (RkP.mk (p.k + 1) p.out) ⟨hi1, Nat.le_succ_of_le g0, fun x hx => ⟨(g1 x hx).1, by have := (g1 x hx).2; show x.n ≤ ((p.k + 1 : Nat) : Int); omega⟩, g2', fun h => by rw [hpv, h5'] at h; cases h⟩ hi2)
   · intro h5
     have h5' : s.l.getD p.k false = true := notF h5
     rw [h5'] at g2
     have g4 : ∀ x ∈ p.out ++ [(⟨s.fr + (p.k : Int), 1⟩ : ExD)], 0 ≤ x.n ∧ x.n ≤ ((p.k + 1 : Nat) : Int) := fun x hx => by
       rcases List.mem_append.1 hx with hx | hx
       · have := g1 x hx; omega
       · simp at hx; subst hx; show (0 : Int) ≤ 1 ∧ 1 ≤ ((p.k + 1 : Nat) : Int); omega
     have g5 : (p.out ++ [(⟨s.fr + (p.k : Int), 1⟩ : ExD)]).length = p.out.length + 1 := by simp
     have g6 : (p.out ++ [(⟨s.fr + (p.k : Int), 1⟩ : ExD)]).length ≤ p.k + 1 := by omega
     refine To.R (h := ?_)
     refine To.Bd ((0 : Int) < p.k) (h := ?_) (g := ?_)
     · intro h6
       have hpk : prevB s.l p.k = s.l.getD ((p.k : Int) - 1).toNat false := by
         have e : p.k = (p.k - 1) + 1 := by omega
         have e2 : ((p.k : Int) - 1).toNat = p.k - 1 := by omega
         rw [e2]
         conv => lhs; rw [e]
         rfl
       have hlt2 : ((p.k : Int) - 1).toNat < s.l.length := by omega
       refine To.R (C := fits IntKind.i64 (p.k - 1) ∧ ((0 : Int) ≤ p.k - 1 ∧ p.k - (1 : Int) < s.l.length) ∧ (p.k - (1 : Int)).toNat < s.l.length) (h := ?_)
       refine To.bool2 33 (s.l.getD (p.k - (1 : Int)).toNat false) (by kernel_rfl) (by kernel_rfl) ?_ ?_
       · intro h7
         have h8 : prevB s.l p.k = true := hpk.trans h7
         have h9 := g3 h8
         have ho : p.out.length - 1 < p.out.length := by omega
         have hob := g1 _ (mem_getD ho)
         have hx : ((p.out.length : Int) - 1).toNat = p.out.length - 1 := by omega
         rw [h8] at g2
         have g2' : takL (s.l.drop (p.k + 1)) (s.fr + ((p.k + 1 : Nat) : Int)) (prevB s.l (p.k + 1)) (bumpL p.out) = takR s := by rw [← hi3, hpv, h5']; exact g2
         have hq1 : ∀ x ∈ bumpL p.out, 0 ≤ x.n ∧ x.n ≤ ((p.k + 1 : Nat) : Int) := fun x hx => by
           rcases List.mem_or_eq_of_mem_set hx with hx | hx
           · have := g1 x hx; omega
           · rw [hx]; show 0 ≤ _ + (1 : Int) ∧ _ + (1 : Int) ≤ _; omega
         have hq2 : (bumpL p.out).length = p.out.length := by simp [bumpL]
         refine To.R (k := 21) (C := True ∧ fits IntKind.i64 (p.out.length - 1) ∧ ((0 : Int) ≤ p.out.length - 1 ∧ p.out.length - (1 : Int) < p.out.length) ∧ True ∧ (p.out.length - (1 : Int)).toNat < p.out.length ∧ fits IntKind.i64 ((p.out.getD (p.out.length - (1 : Int)).toNat default).n + 1) ∧ ((0 : Int) ≤ p.out.length - 1 ∧ p.out.length - (1 : Int) < p.out.length) ∧ True ∧ (p.out.length - (1 : Int)).toNat < p.out.length ∧ fits IntKind.i64 (p.k + 1)) (hc := ?_) (h := ?_); (and_intros <;> try exact cl)
         · rw [hx]; exact fits_i64 (by omega) (by omega)
         refine To.K (L := [LN.old 2]) (kp := [4, 3, 0]) (ov := [(4, AV.sy (Value.int IntKind.i64 (RkP.mk (p.k + 1) (bumpL p.out)).k)), (3, AV.ow 2 (RkP.mk (p.k + 1) (bumpL p.out)).out.length)]) (ob := [(2, AB.rw 31 2 (RkP.mk (p.k + 1) (bumpL p.out)).out.length (exF (RkP.mk (p.k + 1) (bumpL p.out)).out))]) (C := (Same IntKind.i64 ∧ (↑p.k : Int) + 1 = (↑(p.k + 1) : Int)) ∧ (Same 2 ∧ p.out.length = (bumpL p.out).length) ∧ exT = 31 ∧ Same 2 ∧ p.out.length = (bumpL p.out).length ∧ (∀ (r : Nat), r < p.out.length → rwSet (exF p.out) ((↑p.out.length : Int) - 1).toNat 1 [AV.sy (Value.int IntKind.i64 ((p.out.getD ((↑p.out.length : Int) - 1).toNat default).n + 1))] r = exF (bumpL p.out) r)) (hc := ?_) (ih (RkP.mk (p.k + 1) (bumpL p.out)) ⟨hi1, by rw [hq2]; exact Nat.le_succ_of_le g0, hq1, g2', fun _ => by rw [hq2]; exact h9⟩ hi2)
         rw [hx]
         exact ⟨⟨rfl, Int.natCast_succ _⟩, ⟨rfl, hq2.symm⟩, rfl, rfl, hq2.symm, exF_set p.out (p.out.length - 1) ⟨(p.out.getD (p.out.length - 1) default).at_, (p.out.getD (p.out.length - 1) default).n + 1⟩ ho rfl⟩
       · intro h7
         have h8 : prevB s.l p.k = false := by rw [hpk]; simpa using h7
         rw [h8] at g2
         have g2' : takL (s.l.drop (p.k + 1)) (s.fr + ((p.k + 1 : Nat) : Int)) (prevB s.l (p.k + 1)) (p.out ++ [⟨s.fr + (p.k : Int), 1⟩]) = takR s := by rw [← hi3, hpv, h5']; exact g2
         refine To.R (k := 21) (C := fits IntKind.i64 (s.fr + p.k) ∧ (Same p.out.length ∧ p.out.length ≤ 1073741824) ∧ fits IntKind.i64 (p.k + 1)) (h := ?_)
         refine To.rows 4 (exF (p.out ++ [ExD.mk (s.fr + p.k) 1])) (by kernel_rfl) (C := (∀ (r : Nat), r < p.out.length + 1 → leL (rwPush (exF p.out) p.out.length [AV.sy (Value.int IntKind.i64 (s.fr + p.k)), AV.v (Value.int IntKind.i64 1)] r) (exF (p.out ++ [ExD.mk (s.fr + p.k) 1]) r) ∧ bareL (exF (p.out ++ [ExD.mk (s.fr + p.k) 1]) r) = true)) (by kernel_rfl) ?_ ?_
         · exact exF_push ⟨⟨rfl, rfl⟩, ⟨rfl, rfl⟩, trivial⟩
         refine To.K (L := [LN.old 4]) (kp := [4, 3, 0]) (ov := [(4, AV.sy (Value.int IntKind.i64 (RkP.mk (p.k + 1) (p.out ++ [ExD.mk (s.fr + p.k) 1])).k)), (3, AV.ow 2 (RkP.mk (p.k + 1) (p.out ++ [ExD.mk (s.fr + p.k) 1])).out.length)]) (ob := [(2, AB.rw 31 2 (RkP.mk (p.k + 1) (p.out ++ [ExD.mk (s.fr + p.k) 1])).out.length (exF (RkP.mk (p.k + 1) (p.out ++ [ExD.mk (s.fr + p.k) 1])).out))]) (C := (Same IntKind.i64 ∧ (↑p.k : Int) + 1 = (↑(p.k + 1) : Int)) ∧ (Same 2 ∧ p.out.length + 1 = (p.out ++ [ExD.mk (s.fr + p.k) 1]).length) ∧ 31 = 31 ∧ Same 2 ∧ p.out.length + 1 = (p.out ++ [ExD.mk (s.fr + p.k) 1]).length ∧ (∀ (r : Nat), r < p.out.length + 1 → exF (p.out ++ [ExD.mk (s.fr + p.k) 1]) r = exF (p.out ++ [ExD.mk (s.fr + p.k) 1]) r)) (ih (RkP.mk (p.k + 1) (p.out ++ [⟨s.fr + (p.k : Int), 1⟩])) ⟨hi1, g6, g4, g2', fun _ => by rw [g5]; exact Nat.succ_pos _⟩ hi2)
     · intro h6
       have h8 : prevB s.l p.k = false := by rw [show p.k = 0 by omega]; rfl
       rw [h8] at g2
       have g2' : takL (s.l.drop (p.k + 1)) (s.fr + ((p.k + 1 : Nat) : Int)) (prevB s.l (p.k + 1)) (p.out ++ [⟨s.fr + (p.k : Int), 1⟩]) = takR s := by rw [← hi3, hpv, h5']; exact g2
       refine To.R (k := 32) (C := fits IntKind.i64 (s.fr + p.k) ∧ (Same p.out.length ∧ p.out.length ≤ 1073741824) ∧ fits IntKind.i64 (p.k + 1)) (h := ?_)
       refine To.rows 4 (exF (p.out ++ [ExD.mk (s.fr + p.k) 1])) (by kernel_rfl) (C := (∀ (r : Nat), r < p.out.length + 1 → leL (rwPush (exF p.out) p.out.length [AV.sy (Value.int IntKind.i64 (s.fr + p.k)), AV.v (Value.int IntKind.i64 1)] r) (exF (p.out ++ [ExD.mk (s.fr + p.k) 1]) r) ∧ bareL (exF (p.out ++ [ExD.mk (s.fr + p.k) 1]) r) = true)) (by kernel_rfl) ?_ ?_
       · exact exF_push ⟨⟨rfl, rfl⟩, ⟨rfl, rfl⟩, trivial⟩
       refine To.K (L := [LN.old 4]) (kp := [4, 3, 0]) (ov := [(4, AV.sy (Value.int IntKind.i64 (RkP.mk (p.k + 1) (p.out ++ [ExD.mk (s.fr + p.k) 1])).k)), (3, AV.ow 2 (RkP.mk (p.k + 1) (p.out ++ [ExD.mk (s.fr + p.k) 1])).out.length)]) (ob := [(2, AB.rw 31 2 (RkP.mk (p.k + 1) (p.out ++ [ExD.mk (s.fr + p.k) 1])).out.length (exF (RkP.mk (p.k + 1) (p.out ++ [ExD.mk (s.fr + p.k) 1])).out))]) (C := (Same IntKind.i64 ∧ (↑p.k : Int) + 1 = (↑(p.k + 1) : Int)) ∧ (Same 2 ∧ p.out.length + 1 = (p.out ++ [ExD.mk (s.fr + p.k) 1]).length) ∧ 31 = 31 ∧ Same 2 ∧ p.out.length + 1 = (p.out ++ [ExD.mk (s.fr + p.k) 1]).length ∧ (∀ (r : Nat), r < p.out.length + 1 → exF (p.out ++ [ExD.mk (s.fr + p.k) 1]) r = exF (p.out ++ [ExD.mk (s.fr + p.k) 1]) r)) (ih (RkP.mk (p.k + 1) (p.out ++ [⟨s.fr + (p.k : Int), 1⟩])) ⟨hi1, g6, g4, g2', fun _ => by rw [g5]; exact Nat.succ_pos _⟩ hi2)
 · intro h4
   have hk2 : p.k = s.l.length := by omega
   have h6 : p.out = takR s := by
     rw [← g2, hk2, List.drop_length]; rfl
   have h7 : p.out.length = (takR s).length := congrArg List.length h6
   refine To.R (h := ?_)
   refine To.E (AV.ow 2 p.out.length) (hq := ?_)
   refine ⟨(of_eqP (C := Same 2 ∧ p.out.length = (takR s).length) (by kernel_rfl) (by (and_intros <;> try exact cl))), ⟨(endL_cons (B0 := AB.mem 68 none [AV.sy (Value.int IntKind.i64 s.fr), AV.ow 1 s.l.length]) (by kernel_rfl) (of_eqP (C := 68 = rfT ∧ (none : Option Nat) = none ∧ (Same IntKind.i64 ∧ Same s.fr) ∧ (Same 1 ∧ Same s.l.length) ∧ True) (by kernel_rfl) (by (and_intros <;> try exact cl))) (endL_cons (B0 := AB.rw 4 1 s.l.length (boF s.l)) (by kernel_rfl) (of_eqP (C := 4 = boT ∧ Same 1 ∧ Same s.l.length ∧ (∀ (r : Nat), r < s.l.length → boF s.l r = boF s.l r)) (by kernel_rfl) (by (and_intros <;> try exact cl))) endL_nil)), (endE_cons (B0 := AB.rw 31 2 p.out.length (exF p.out)) (by kernel_rfl) (of_eqP (C := 31 = exT ∧ Same 2 ∧ p.out.length = (takR s).length ∧ (∀ (r : Nat), r < p.out.length → exF p.out r = exF (takR s) r)) (by kernel_rfl) ?_) endE_nil)⟩⟩
   exact ⟨rfl, rfl, h7, fun r _ => by rw [h6]⟩
set_option maxHeartbeats 4000000 in
set_option maxRecDepth 100000 in
theorem rnew_to (hok : S0.Ok Try.prog) (lo hi : Int) : To S0 Try.prog 19 (startOf Try.prog 19 [ivA lo, ivA hi] .e 0)
   (fun v H' _ => ((lo < 0 ∨ hi < lo ∨ 4096 < hi) ∧ leA v (.tup [.v (.pointer none), ivA 40])) ∨ (¬ (lo < 0 ∨ hi < lo ∨ 4096 < hi) ∧ leA v (.tup [.ptr 1 0, ivA 0]) ∧ endE [(0, .rw boT 1 (hi - lo).toNat (boF (List.replicate (hi - lo).toNat false))), (1, .mem rfT none [ivA lo, .ow 0 (hi - lo).toNat])] H')) := by
 refine To.R (h := ?_)
 refine To.Bd (lo < 0) (h := ?_) (g := ?_)
 · intro h1
   refine To.R (h := ?_)
   refine To.E (AV.tup [AV.v (Value.pointer none), AV.v (Value.int IntKind.i64 40)]) (hq := ?_)
   refine .inl ⟨.inl h1, ?_⟩
   refine (of_eqP (C := Same (AV.v (Value.pointer none)) ∧ (Same IntKind.i64 ∧ Same (40 : Int)) ∧ True) (by kernel_rfl) (by (and_intros <;> try exact cl)))
 intro h1
 refine To.R (h := ?_)
 refine To.Bd (hi < lo) (h := ?_) (g := ?_)
 · intro h2
   refine To.R (h := ?_)
   refine To.E (AV.tup [AV.v (Value.pointer none), AV.v (Value.int IntKind.i64 40)]) (hq := ?_)
   refine .inl ⟨.inr (.inl h2), ?_⟩
   refine (of_eqP (C := Same (AV.v (Value.pointer none)) ∧ (Same IntKind.i64 ∧ Same (40 : Int)) ∧ True) (by kernel_rfl) (by (and_intros <;> try exact cl)))
 intro h2
 refine To.R (h := ?_)
 refine To.Bd (4096 < hi) (h := ?_) (g := ?_)
 · intro h3
   refine To.R (h := ?_)
   refine To.E (AV.tup [AV.v (Value.pointer none), AV.v (Value.int IntKind.i64 40)]) (hq := ?_)
   refine .inl ⟨.inr (.inr h3), ?_⟩
   refine (of_eqP (C := Same (AV.v (Value.pointer none)) ∧ (Same IntKind.i64 ∧ Same (40 : Int)) ∧ True) (by kernel_rfl) (by (and_intros <;> try exact cl)))
 intro h3
 have hlr : (List.replicate (hi - lo).toNat false).length = (hi - lo).toNat := List.length_replicate
 refine To.R (C := fits IntKind.i64 (hi - lo) ∧ Same (hi - lo) ∧ 0 ≤ hi - lo ∧ hi - lo ≤ 1073741824) (h := ?_)
 refine To.rows 0 (boF (List.replicate (hi - lo).toNat false)) (by kernel_rfl) (C := (∀ (r : Nat), r < (hi - lo).toNat → leL ((fun x ↦ (ofV (Value.bool false)).cells) r) (boF (List.replicate (hi - lo).toNat false) r) ∧ bareL (boF (List.replicate (hi - lo).toNat false) r) = true)) (by kernel_rfl) ?_ ?_
 · intro r hr
   have e : (List.replicate (hi - lo).toNat false).getD r false = false := by simp [List.getD_eq_getElem?_getD, hr]
   show leL [.v (.bool false)] [.sy (.bool ((List.replicate (hi - lo).toNat false).getD r false))] ∧ _
   rw [e]
   exact ⟨⟨rfl, trivial⟩, rfl⟩
 refine To.E (AV.tup [AV.ptr 1 0, AV.v (Value.int IntKind.i64 0)]) (hq := ?_)
 refine .inr ⟨by omega, ?_⟩
 refine ⟨(of_eqP (C := Same (AV.ptr 1 0) ∧ (Same IntKind.i64 ∧ Same (0 : Int)) ∧ True) (by kernel_rfl) (by (and_intros <;> try exact cl))), (endE_cons (B0 := AB.rw 4 1 (hi - lo).toNat (boF (List.replicate (hi - lo).toNat false))) (by kernel_rfl) (of_eqP (C := 4 = boT ∧ Same 1 ∧ Same (hi - lo).toNat ∧ (∀ (r : Nat), r < (hi - lo).toNat → boF (List.replicate (hi - lo).toNat false) r = boF (List.replicate (hi - lo).toNat false) r)) (by kernel_rfl) (by (and_intros <;> try exact cl))) (endE_cons (B0 := AB.mem 68 none [AV.sy (Value.int IntKind.i64 lo), AV.ow 0 (hi - lo).toNat]) (by kernel_rfl) (of_eqP (C := 68 = rfT ∧ (none : Option Nat) = none ∧ (Same IntKind.i64 ∧ Same lo) ∧ (Same 0 ∧ Same (hi - lo).toNat) ∧ True) (by kernel_rfl) (by (and_intros <;> try exact cl))) endE_nil))⟩
def rclaimG : CG := oneXG 38 (rfKG fun s rest => match rest with
 | [y] => match exP y with
   | some x => some ([.agg (exA x)], allR s x false, True, fun v => cond v (ivA 0, rfB (setR s x true), []) (ivA 40, [], []))
   | none => none
 | _ => none)
theorem rclaimG_ok : GOk Try.prog rclaimG := rfXG_ok srf_ok Try.func38 (by kernel_rfl) fun {s rest ys b C r} h hs hC => by
 split at h
 · split at h
   · rename_i y x hx
     cases h
     have hT := rclaim_to srf_ok s hs x
     cases hq : allR s x false with
     | false =>
       refine ⟨fun σ => ⟨exP_le hx σ, trivial⟩, fun h => (nomatch h), ⟨List.nodup_nil, fun p hp => by cases hp⟩, by kernel_rfl, To.mono hT fun v H' _ h => ?_⟩
       rcases h with ⟨_, h1, h2⟩ | ⟨h1, _⟩
       · exact ⟨h1, h2, trivial⟩
       · rw [hq] at h1; cases h1
     | true =>
       refine ⟨fun σ => ⟨exP_le hx σ, trivial⟩, fun _ => rfl, ⟨List.nodup_nil, fun p hp => by cases hp⟩, by kernel_rfl, To.mono hT fun v H' _ h => ?_⟩
       rcases h with ⟨h1, _⟩ | ⟨_, h2, h3⟩
       · rw [hq] at h1; cases h1
       · exact ⟨h2, h3, trivial⟩
   · cases h
 · cases h
def rgiveG : CG := oneXG 39 (rfKG fun s rest => match rest with
 | [y] => match exP y with
   | some x => some ([.agg (exA x)], allR s x true, True, fun v => cond v (ivA 0, rfB (setR s x false), []) (ivA 40, [], []))
   | none => none
 | _ => none)
theorem rgiveG_ok : GOk Try.prog rgiveG := rfXG_ok srf_ok Try.func39 (by kernel_rfl) fun {s rest ys b C r} h hs hC => by
 split at h
 · split at h
   · rename_i y x hx
     cases h
     have hT := rgive_to srf_ok s hs x
     cases hq : allR s x true with
     | false =>
       refine ⟨fun σ => ⟨exP_le hx σ, trivial⟩, fun h => (nomatch h), ⟨List.nodup_nil, fun p hp => by cases hp⟩, by kernel_rfl, To.mono hT fun v H' _ h => ?_⟩
       rcases h with ⟨_, h1, h2⟩ | ⟨h1, _⟩
       · exact ⟨h1, h2, trivial⟩
       · rw [hq] at h1; cases h1
     | true =>
       refine ⟨fun σ => ⟨exP_le hx σ, trivial⟩, fun _ => rfl, ⟨List.nodup_nil, fun p hp => by cases hp⟩, by kernel_rfl, To.mono hT fun v H' _ h => ?_⟩
       rcases h with ⟨h1, _⟩ | ⟨_, h2, h3⟩
       · rw [hq] at h1; cases h1
       · exact ⟨h2, h3, trivial⟩
   · cases h
 · cases h
def rtakeG : CG := oneXG 37 (rfKG fun s rest => match rest with
 | [a] => match intA a with
   | some (.i64, n) => some ([ivA n], (takeR s n).isSome, True, fun v => cond v (.tup [.agg (exA ((takeR s n).getD default)), ivA 0], rfB (setR s ((takeR s n).getD default) true), []) (.tup [.agg [ivA 0, ivA 0], ivA (takeE n)], [], []))
   | _ => none
 | _ => none)
theorem rtakeG_ok : GOk Try.prog rtakeG := rfXG_ok srf_ok Try.func37 (by kernel_rfl) fun {s rest ys b C r} h hs hC => by
 split at h
 · split at h
   · rename_i a n ha
     cases h
     have hT := rtake_to srf_ok s hs n
     cases hq : takeR s n with
     | none =>
       refine ⟨fun σ => ⟨intA_leS ha σ, trivial⟩, fun h => (nomatch h), ⟨List.nodup_nil, fun p hp => by cases hp⟩, by kernel_rfl, To.mono hT fun v H' _ h => ?_⟩
       rcases h with ⟨_, h1, h2⟩ | ⟨y, h1, _⟩
       · exact ⟨h1, h2, trivial⟩
       · rw [hq] at h1; cases h1
     | some y =>
       refine ⟨fun σ => ⟨intA_leS ha σ, trivial⟩, fun _ => rfl, ⟨List.nodup_nil, fun p hp => by cases hp⟩, by kernel_rfl, To.mono hT fun v H' _ h => ?_⟩
       rcases h with ⟨h1, _⟩ | ⟨y', h1, h2, h3⟩
       · rw [hq] at h1; cases h1
       · rw [hq] at h1; cases h1; exact ⟨h2, h3, trivial⟩
   · cases h
 · cases h
def rtakenF : CF := oneX 22 (rfK fun s rest => match rest with
 | [] => some (([], .ow 2 (takR s).length, [(2, .rw exT 2 (takR s).length (exF (takR s)))]), True)
 | _ => none)
theorem rtakenF_ok : FOk Try.prog rtakenF := rfX_ok s0_ok Try.func22 (by kernel_rfl) fun {s rest ys v E C} h hs hC => by
 split at h
 · cases h
   exact ⟨fun σ => trivial, ⟨by simp, by simp⟩, by kernel_rfl, rtaken_to s0_ok s hs⟩
 · cases h
def rnewE (lo hi : Int) : List (Nat × AB) := [(0, .rw boT 1 (hi - lo).toNat (boF (List.replicate (hi - lo).toNat false))), (1, .mem rfT none [ivA lo, .ow 0 (hi - lo).toNat])]
def rnewBad (lo hi : Int) : Prop := lo < 0 ∨ hi < lo ∨ 4096 < hi
instance (lo hi : Int) : Decidable (rnewBad lo hi) := inferInstanceAs (Decidable (_ ∨ _))
def rnewG : CG := oneXG 19 fun args H => match args with
 | [a, b] => match intA a, intA b with
   | some (.i64, lo), some (.i64, hi) => some (!decide (rnewBad lo hi), True, fun v => { μ := [], args := [ivA lo, ivA hi], L := [], res := cond v (.tup [.ptr 1 0, ivA 0]) (.tup [.v (.pointer none), ivA 40]), L' := [], E := cond v (rnewE lo hi) [], C := True })
   | _, _ => none
 | _ => none
theorem rnewG_ok : GOk Try.prog rnewG := oneXG_ok s0_ok tab Try.func19 (by kernel_rfl) fun {args H n r} h hC => by
 split at h
 · split at h
   · rename_i a b lo hi ha hb
     cases h
     have hT := rnew_to s0_ok lo hi
     by_cases hq : rnewBad lo hi
     · simp only [hq, decide_true, Bool.not_true]
       refine ⟨List.nodup_nil, trivial, rfl, ⟨intA_leS ha _, intA_leS hb _, trivial⟩, ⟨List.nodup_nil, fun p hp => by cases hp⟩, fun _ _ i hi => (nomatch hi), by kernel_rfl, To.mono hT fun v H' _ h => ?_⟩
       rcases h with ⟨_, h1⟩ | ⟨h1, _⟩
       · exact ⟨h1, trivial, trivial⟩
       · exact absurd hq h1
     · simp only [hq, decide_false, Bool.not_false]
       refine ⟨List.nodup_nil, trivial, rfl, ⟨intA_leS ha _, intA_leS hb _, trivial⟩, ⟨by simp [rnewE], fun p hp => Nat.zero_le _⟩, fun _ _ i hi => (nomatch hi), by kernel_rfl, To.mono hT fun v H' _ h => ?_⟩
       rcases h with ⟨h1, _⟩ | ⟨_, h1, h2⟩
       · exact absurd h1 hq
       · exact ⟨h1, trivial, h2⟩
   · cases h
 · cases h
def newD (a b : Int) : SpD := ⟨a, b, []⟩
set_option maxHeartbeats 4000000 in
set_option maxRecDepth 100000 in
theorem new_to (hok : S0.Ok Try.prog) (lo hi : Int) : To S0 Try.prog 18 (startOf Try.prog 18 [ivA lo, ivA hi] .e 0)
   (fun v H' _ => ((lo < 0 ∨ hi < lo ∨ 4096 < hi) ∧ leA v (.tup [.v (.pointer none), ivA 40])) ∨ (¬ (lo < 0 ∨ hi < lo ∨ 4096 < hi) ∧ leA v (.tup [.ptr 0 0, ivA 0]) ∧ endE [(0, .mem spT none [.v (.bool true), ivA lo, ivA hi, .ow 1 0]), (1, .rw exT 2 0 (exF []))] H')) := by
 refine To.R (h := ?_)
 refine To.Bd (lo < 0) (h := ?_) (g := ?_)
 · intro h1
   refine To.R (h := ?_)
   refine To.E (AV.tup [AV.v (Value.pointer none), AV.v (Value.int IntKind.i64 40)]) (hq := ?_)
   refine .inl ⟨.inl h1, ?_⟩
   refine (of_eqP (C := Same (AV.v (Value.pointer none)) ∧ (Same IntKind.i64 ∧ Same (40 : Int)) ∧ True) (by kernel_rfl) (by (and_intros <;> try exact cl)))
 intro h1
 refine To.R (h := ?_)
 refine To.Bd (hi < lo) (h := ?_) (g := ?_)
 · intro h2
   refine To.R (h := ?_)
   refine To.E (AV.tup [AV.v (Value.pointer none), AV.v (Value.int IntKind.i64 40)]) (hq := ?_)
   refine .inl ⟨.inr (.inl h2), ?_⟩
   refine (of_eqP (C := Same (AV.v (Value.pointer none)) ∧ (Same IntKind.i64 ∧ Same (40 : Int)) ∧ True) (by kernel_rfl) (by (and_intros <;> try exact cl)))
 intro h2
 refine To.R (h := ?_)
 refine To.Bd (4096 < hi) (h := ?_) (g := ?_)
 · intro h3
   refine To.R (h := ?_)
   refine To.E (AV.tup [AV.v (Value.pointer none), AV.v (Value.int IntKind.i64 40)]) (hq := ?_)
   refine .inl ⟨.inr (.inr h3), ?_⟩
   refine (of_eqP (C := Same (AV.v (Value.pointer none)) ∧ (Same IntKind.i64 ∧ Same (40 : Int)) ∧ True) (by kernel_rfl) (by (and_intros <;> try exact cl)))
 intro h3
 refine To.R (h := ?_)
 refine To.L (L := [LN.old 0, LN.new (AB.rw 31 2 0 (exF []))]) (kp := [5, 4]) (C := (52 = spT ∧ (none : Option Nat) = none ∧ Same (AV.v (Value.bool true)) ∧ (Same IntKind.i64 ∧ Same lo) ∧ (Same IntKind.i64 ∧ Same hi) ∧ Same 0 ∧ True) ∧ 31 = exT ∧ Same 2 ∧ Same 0 ∧ (∀ (r : Nat), r < 0 → exF [] r = exF [] r)) (st := fun (a : Unit) => (⟨(⟨18, 21, (slotT 21 [(4, AV.ptr 0 0), (5, AV.v (Value.int IntKind.i64 0))]), ARg.no, [(AItem.code Go.Code.ret)], [], true, none, 0⟩ : AFr), [], memF [AB.mem 52 none [AV.v (Value.bool true), AV.sy (Value.int IntKind.i64 lo), AV.sy (Value.int IntKind.i64 hi), AV.ow 1 0], AB.rw 31 2 0 (exF [])] 0 Tr.e, 2⟩ : ASt)) (h := ?_) (fun (_ : Unit) => []) (fun _ => [(0, .mem spT none [.v (.bool true), ivA lo, ivA hi, .ow 1 0]), (1, .rw exT 2 0 (exF []))]) (fun _ => True) (fun _ => 0) (())
 intro _ _ _
 refine To.E (AV.tup [AV.ptr 0 0, AV.v (Value.int IntKind.i64 0)]) (hq := ?_)
 refine .inr ⟨by omega, ?_⟩
 refine ⟨(of_eqP (C := Same (AV.ptr 0 0) ∧ (Same IntKind.i64 ∧ Same (0 : Int)) ∧ True) (by kernel_rfl) (by (and_intros <;> try exact cl))), (endE_cons (B0 := AB.mem 52 none [AV.v (Value.bool true), AV.sy (Value.int IntKind.i64 lo), AV.sy (Value.int IntKind.i64 hi), AV.ow 1 0]) (by kernel_rfl) (of_eqP (C := 52 = spT ∧ (none : Option Nat) = none ∧ Same (AV.v (Value.bool true)) ∧ (Same IntKind.i64 ∧ Same lo) ∧ (Same IntKind.i64 ∧ Same hi) ∧ (Same 1 ∧ Same 0) ∧ True) (by kernel_rfl) (by (and_intros <;> try exact cl))) (endE_cons (B0 := AB.rw 31 2 0 (exF [])) (by kernel_rfl) (of_eqP (C := 31 = exT ∧ Same 2 ∧ Same 0 ∧ (∀ (r : Nat), r < 0 → exF [] r = exF [] r)) (by kernel_rfl) (by (and_intros <;> try exact cl))) endE_nil))⟩
def newBad (lo hi : Int) : Prop := lo < 0 ∨ hi < lo ∨ 4096 < hi
instance (lo hi : Int) : Decidable (newBad lo hi) := inferInstanceAs (Decidable (_ ∨ _))
def newG : CG := oneXG 18 fun args H => match args with
 | [a, b] => match intA a, intA b with
   | some (.i64, lo), some (.i64, hi) => some (!decide (newBad lo hi), True, fun v => { μ := [], args := [ivA lo, ivA hi], L := [], res := cond v (.tup [.ptr 0 0, ivA 0]) (.tup [.v (.pointer none), ivA 40]), L' := [], E := cond v [(0, .mem spT none [.v (.bool true), ivA lo, ivA hi, .ow 1 0]), (1, .rw exT 2 0 (exF []))] [], C := True })
   | _, _ => none
 | _ => none
theorem newG_ok : GOk Try.prog newG := oneXG_ok s0_ok tab Try.func18 (by kernel_rfl) fun {args H n r} h hC => by
 split at h
 · split at h
   · rename_i a b lo hi ha hb
     cases h
     have hT := new_to s0_ok lo hi
     by_cases hq : newBad lo hi
     · simp only [hq, decide_true, Bool.not_true]
       refine ⟨List.nodup_nil, trivial, rfl, ⟨intA_leS ha _, intA_leS hb _, trivial⟩, ⟨List.nodup_nil, fun p hp => by cases hp⟩, fun _ _ i hi => (nomatch hi), by kernel_rfl, To.mono hT fun v H' _ h => ?_⟩
       rcases h with ⟨_, h1⟩ | ⟨h1, _⟩
       · exact ⟨h1, trivial, trivial⟩
       · exact absurd hq h1
     · simp only [hq, decide_false, Bool.not_false]
       refine ⟨List.nodup_nil, trivial, rfl, ⟨intA_leS ha _, intA_leS hb _, trivial⟩, ⟨by simp, fun p hp => Nat.zero_le _⟩, fun _ _ i hi => (nomatch hi), by kernel_rfl, To.mono hT fun v H' _ h => ?_⟩
       rcases h with ⟨h1, _⟩ | ⟨_, h1, h2⟩
       · exact absurd h1 hq
       · exact ⟨h1, trivial, h2⟩
   · cases h
 · cases h
set_option maxHeartbeats 4000000 in
set_option maxRecDepth 100000 in
theorem same_to (hok : S0.Ok Try.prog) (l : List ExD) (hl : l.length ≤ 100000) : To S0 Try.prog 15 (startOf Try.prog 15 [.ow 0 l.length, .ow 1 l.length] (memF [.rw exT 2 l.length (exF l), .rw exT 2 l.length (exF l)] 0 .e) 2)
   (fun v H' _ => leA v (.v (.bool true)) ∧ endL [.rw exT 2 l.length (exF l), .rw exT 2 l.length (exF l)] 0 H' ∧ endE [] H') := by
 refine To.R (C := True ∧ True) (h := ?_)
 refine To.Nn ((l.length : Int) = l.length) (h := ?_)
 refine To.R (k := 10) (h := ?_)
 refine To.L (L := []) (kp := [5, 1, 0]) (C := Same IntKind.i64 ∧ (0 : Int) = (↑(0 : Nat) : Int)) (st := fun (a : Nat) => (⟨(⟨15, 26, (slotT 26 [(0, AV.ow 0 l.length), (1, AV.ow 1 l.length), (5, AV.sy (Value.int IntKind.i64 a))]), ARg.no, [(AItem.code (subC (bodyC Try.prog 15) [1, 1, 0, 1, 0, 0])), (AItem.inLoop (subC (bodyC Try.prog 15) [1, 1, 0, 1, 0, 0])), (AItem.inBlock 0), (AItem.code (subC (bodyC Try.prog 15) [1, 1, 1]))], [], false, none, 2⟩ : AFr), [], memF [AB.rw 31 2 l.length (exF l), AB.rw 31 2 l.length (exF l)] 0 Tr.e, 2⟩ : ASt)) (h := ?_) (fun (k : Nat) => [(5, ivA (k : Int))]) (fun _ => []) (fun k => k ≤ l.length) (fun k => l.length - k) (0)
 intro k hk ih
 refine To.R (h := ?_)
 refine To.Bd ((k : Int) < l.length) (h := ?_) (g := ?_)
 · intro h1
   have hi1 : k + 1 ≤ l.length := by omega
   have hi2 : l.length - (k + 1) < l.length - k := by omega
   refine To.R (C := ((0 : Int) ≤ k ∧ (k : Int) < l.length) ∧ k < l.length ∧ ((0 : Int) ≤ k ∧ (k : Int) < l.length) ∧ k < l.length) (h := ?_)
   refine To.Nn ([(l.getD k default).at_, (l.getD k default).n] = [(l.getD k default).at_, (l.getD k default).n]) (h := ?_)
   refine To.R (k := 10) (C := fits IntKind.i64 (k + 1)) (h := ?_)
   refine To.K (L := []) (kp := [5, 1, 0]) (ov := [(5, AV.sy (Value.int IntKind.i64 (↑(k + 1) : Int)))]) (C := Same IntKind.i64 ∧ (↑k : Int) + 1 = (↑(k + 1) : Int)) (ih (k + 1) hi1 hi2)
 · intro h1
   refine To.R (h := ?_)
   refine To.E (AV.v (Value.bool true)) (hq := ?_)
   refine ⟨(of_eqP (C := Same (AV.v (Value.bool true))) (by kernel_rfl) (by (and_intros <;> try exact cl))), ⟨(endL_cons (B0 := AB.rw 31 2 l.length (exF l)) (by kernel_rfl) (of_eqP (C := 31 = exT ∧ Same 2 ∧ Same l.length ∧ (∀ (r : Nat), r < l.length → exF l r = exF l r)) (by kernel_rfl) (by (and_intros <;> try exact cl))) (endL_cons (B0 := AB.rw 31 2 l.length (exF l)) (by kernel_rfl) (of_eqP (C := 31 = exT ∧ Same 2 ∧ Same l.length ∧ (∀ (r : Nat), r < l.length → exF l r = exF l r)) (by kernel_rfl) (by (and_intros <;> try exact cl))) endL_nil)), endE_nil⟩⟩
def sameF : CF := oneX 15 fun args H => match args with
 | [.ow i n, .ow j m] => match H.get i, H.get j with
   | some (.rw T w n' f), some (.rw T2 w2 m' g) => cond (Nat.beq T exT && Nat.beq w 2 && Nat.beq T2 exT && Nat.beq w2 2 && !(Nat.beq i j))
       (some { μ := [i, j], args := [.ow 0 n, .ow 1 n], L := [.rw exT 2 n (exF (exsF n f)), .rw exT 2 n (exF (exsF n f))], res := .v (.bool true), L' := [.rw exT 2 n f, .rw exT 2 m g], E := [], C := n' = n ∧ m' = m ∧ m = n ∧ n ≤ 100000 ∧ (∀ r, r < n → f r = exF (exsF n f) r) ∧ ∀ r, r < n → g r = f r }) none
   | _, _ => none
 | _ => none
theorem sameF_ok : FOk Try.prog sameF := oneX_ok s0_ok tab Try.func15 (by kernel_rfl) fun {args H n e} hk hC => by
 split at hk
 · rename_i i n j m
   split at hk
   · rename_i T w n' f T2 w2 m' g hi hj
     cases hq : (Nat.beq T exT && Nat.beq w 2 && Nat.beq T2 exT && Nat.beq w2 2 && !(Nat.beq i j)) with
     | false => rw [hq] at hk; cases hk
     | true =>
       rw [hq] at hk
       cases hk
       simp only [Bool.and_eq_true, Bool.not_eq_true', beq_dec, decide_eq_true_eq, decide_eq_false_iff_not] at hq
       obtain ⟨⟨⟨⟨rfl, rfl⟩, rfl⟩, rfl⟩, hne⟩ := hq
       obtain ⟨rfl, rfl, rfl, c1, c2, c3⟩ := hC
       have hlen := exsF_len m' f
       have hT := same_to s0_ok (exsF m' f) (by rw [hlen]; exact c1)
       rw [hlen] at hT
       refine ⟨by simp [hne], ⟨⟨_, hi, rfl, rfl, rfl, rfl, c2⟩, ⟨_, hj, rfl, rfl, rfl, rfl, fun r hr => (c3 r hr).trans (c2 r hr)⟩, trivial⟩, rfl, ?_, ⟨List.nodup_nil, fun p hp => by cases hp⟩, ?_, by kernel_rfl, ?_⟩
       · simp only [renL, renA, inP1, inP2 hne]
         exact ⟨⟨rfl, rfl⟩, ⟨rfl, rfl⟩, trivial⟩
       · intro w0 ρ w vs hr0 hv q hq
         simp at hq
         rcases hq with rfl | rfl
         · exact .inr fun T l e => by rw [hi] at e; cases e
         · exact .inr fun T l e => by rw [hj] at e; cases e
       · refine To.mono hT fun y H' n' hq => ⟨hq.1, ?_, trivial⟩
         obtain ⟨⟨B0, a0, b0⟩, ⟨B1, a1, b1⟩, _⟩ := hq.2.1
         exact ⟨⟨B0, a0, leB_rwf b0 (fun r hr => (c2 r hr).symm)⟩, ⟨B1, a1, leB_rwf b1 (fun r hr => ((c3 r hr).trans (c2 r hr)).symm)⟩, trivial⟩
   · cases hk
 · cases hk
def spaceF : CF := orF leftF (orF longF (orF takenF (orF copyF (orF hasF sameF))))
def spaceG : CG := orG takeG (orG claimG (orG giveG newG))
theorem spaceF_ok : FOk Try.prog spaceF := orF_ok leftF_ok (orF_ok longF_ok (orF_ok takenF_ok (orF_ok copyF_ok (orF_ok hasF_ok sameF_ok))))
theorem spaceG_ok : GOk Try.prog spaceG := orG_ok takeG_ok (orG_ok claimG_ok (orG_ok giveG_ok newG_ok))
theorem newD_ok {a b : Int} (h : ¬ newBad a b) : (newD a b).Ok := by
 unfold newBad at h
 exact ⟨by show 0 ≤ a; omega, by show a ≤ b; omega, by show b ≤ 4096; omega, trivial⟩
theorem put_raw {s : SpD} (h : s.Ok) {x : ExD} (hx : Free s x) : (⟨(s.put x).lo, (s.put x).hi, (s.put x).l.length, exF (s.put x).l⟩ : SpW).Ok := raw_ok (h.put hx).1
theorem took_ok {x : SpW} (h : x.Ok) (n : Int) (hn : (takeP x.toL n).isSome = true) : (⟨(x.toL.put ((takeP x.toL n).getD default)).lo, (x.toL.put ((takeP x.toL n).getD default)).hi, (x.toL.put ((takeP x.toL n).getD default)).l.length, exF (x.toL.put ((takeP x.toL n).getD default)).l⟩ : SpW).Ok := by
 obtain ⟨y, hy⟩ := Option.isSome_iff_exists.1 hn
 rw [hy, Option.getD_some]
 exact put_raw h.ok (take_free h.ok hy).1
def extL (q p : Int) : List ExD → List ExD
 | [] => [⟨q, p - q⟩]
 | x :: m => if x.at_ = p then ⟨q, p - q + x.n⟩ :: m else ⟨q, p - q⟩ :: x :: m
theorem extL_cons (q p : Int) (x : ExD) (m : List ExD) : extL q p (x :: m) = if x.at_ = p then ⟨q, p - q + x.n⟩ :: m else ⟨q, p - q⟩ :: x :: m := rfl
def canB : List Bool → Int → List ExD
 | [], _ => []
 | false :: l, p => canB l (p + 1)
 | true :: l, p => extL p (p + 1) (canB l (p + 1))
theorem extL_can {hi p : Int} (hp : p + 1 ≤ hi) : ∀ {c : List ExD}, Can hi (p + 1) c → Can hi p (extL p (p + 1) c)
 | [], _ => ⟨Int.le_refl _, by show 1 ≤ p + 1 - p; omega, by show p + (p + 1 - p) ≤ hi; omega, trivial⟩
 | x :: m, h => by
   rw [extL_cons]
   obtain ⟨h1, h2, h3, h4⟩ := h
   split
   · rename_i e
     refine ⟨Int.le_refl _, by show 1 ≤ p + 1 - p + x.n; omega, by show p + (p + 1 - p + x.n) ≤ hi; omega, ?_⟩
     exact Can.mono h4 (by show p + (p + 1 - p + x.n) + 1 ≤ x.at_ + x.n + 1; omega)
   · refine ⟨Int.le_refl _, by show 1 ≤ p + 1 - p; omega, by show p + (p + 1 - p) ≤ hi; omega, ?_, h2, h3, h4⟩
     show p + (p + 1 - p) + 1 ≤ x.at_
     omega
theorem canB_can : ∀ (l : List Bool) (p : Int), Can (p + l.length) p (canB l p)
 | [], _ => trivial
 | false :: l, p => by
   have := canB_can l (p + 1)
   have e : p + 1 + (l.length : Int) = p + ((false :: l).length : Nat) := by simp; omega
   rw [e] at this
   exact Can.mono this (by omega)
 | true :: l, p => by
   have := canB_can l (p + 1)
   have e : p + 1 + (l.length : Int) = p + ((true :: l).length : Nat) := by simp; omega
   rw [e] at this
   exact extL_can (by simp; omega) this
theorem extL_has {p z : Int} {c : List ExD} (hc : ∀ x ∈ c, 1 ≤ x.n) : hasL (extL p (p + 1) c) z = (decide (z = p) || hasL c z) := by
 have key : ∀ x : ExD, inE x z = (decide (x.at_ ≤ z) && decide (z < x.at_ + x.n)) := fun _ => rfl
 cases c with
 | nil =>
   show (inE ⟨p, p + 1 - p⟩ z || false) = (_ || false)
   rw [key]
   by_cases e : z = p
   · simp [e]; omega
   · simp only [e, decide_false, Bool.or_false]
     by_cases g : p ≤ z
     · simp [g]; omega
     · simp [g]
 | cons x m =>
   have hx := hc x (by simp)
   rw [extL_cons]
   split
   · rename_i e
     rw [hasL_cons, hasL_cons, key, key, ← Bool.or_assoc]
     congr 1
     show (decide (p ≤ z) && decide (z < p + (p + 1 - p + x.n))) = _
     rw [Bool.eq_iff_iff]
     simp
     omega
   · rw [hasL_cons, key]
     congr 1
     show (decide (p ≤ z) && decide (z < p + (p + 1 - p))) = _
     rw [Bool.eq_iff_iff]
     simp
     omega
theorem canB_has : ∀ (l : List Bool) (p z : Int), hasL (canB l p) z = (decide (p ≤ z) && l.getD (z - p).toNat false)
 | [], _, _ => by simp [canB, hasL]
 | b :: l, p, z => by
   have ih := canB_has l (p + 1) z
   have hn : ∀ x ∈ canB l (p + 1), 1 ≤ x.n := fun x hx => (Can.all (canB_can l (p + 1)) x hx).2.1
   have hg : ∀ c : Bool, p + 1 ≤ z → (c :: l).getD (z - p).toNat false = l.getD (z - (p + 1)).toNat false := fun c h => by
     have e : (z - p).toNat = (z - (p + 1)).toNat + 1 := by omega
     rw [e]; rfl
   have hz : ∀ c : Bool, z = p → (c :: l).getD (z - p).toNat false = c := fun c h => by
     have e : (z - p).toNat = 0 := by omega
     rw [e]; rfl
   cases b with
   | false =>
     show hasL (canB l (p + 1)) z = _
     rw [ih]
     by_cases h : p + 1 ≤ z
     · rw [hg _ h, decide_eq_true h, decide_eq_true (show p ≤ z by omega)]
     · rw [decide_eq_false h]
       by_cases e : z = p
       · rw [hz _ e]; simp
       · rw [decide_eq_false (show ¬ p ≤ z by omega)]; rfl
   | true =>
     show hasL (extL p (p + 1) (canB l (p + 1))) z = _
     rw [extL_has hn, ih]
     by_cases h : p + 1 ≤ z
     · rw [hg _ h, decide_eq_true h, decide_eq_true (show p ≤ z by omega), decide_eq_false (show ¬ z = p by omega)]; rfl
     · rw [decide_eq_false h]
       by_cases e : z = p
       · rw [hz _ e]; simp [e]
       · rw [decide_eq_false (show ¬ p ≤ z by omega), decide_eq_false e]; rfl
theorem extL_sum (p : Int) : ∀ c : List ExD, sumN (extL p (p + 1) c) = 1 + sumN c
 | [] => by show (p + 1 - p) + 0 = 1 + 0; omega
 | x :: m => by
   rw [extL_cons]
   split
   · show (p + 1 - p + x.n) + sumN m = 1 + (x.n + sumN m); omega
   · show (p + 1 - p) + (x.n + sumN m) = 1 + (x.n + sumN m); omega
theorem canB_sum : ∀ (l : List Bool) (p : Int), leftL l + sumN (canB l p) = l.length
 | [], _ => rfl
 | false :: l, p => by
   have := canB_sum l (p + 1)
   show (1 + leftL l) + sumN (canB l (p + 1)) = ((l.length + 1 : Nat) : Int)
   omega
 | true :: l, p => by
   have := canB_sum l (p + 1)
   show (0 + leftL l) + sumN (extL p (p + 1) (canB l (p + 1))) = ((l.length + 1 : Nat) : Int)
   rw [extL_sum]
   omega
theorem extL_extL {q p : Int} (c : List ExD) : extL q p (extL p (p + 1) c) = extL q (p + 1) c := by
 cases c with
 | nil =>
   show (if p = p then _ else _) = _
   rw [if_pos rfl]
   show [(⟨q, p - q + (p + 1 - p)⟩ : ExD)] = [⟨q, p + 1 - q⟩]
   rw [show p - q + (p + 1 - p) = p + 1 - q by omega]
 | cons x m =>
   show extL q p (if x.at_ = p + 1 then _ else _) = (if x.at_ = p + 1 then _ else _)
   split
   · show (if p = p then _ else _) = _
     rw [if_pos rfl]
     show (⟨q, p - q + (p + 1 - p + x.n)⟩ : ExD) :: m = _
     rw [show p - q + (p + 1 - p + x.n) = p + 1 - q + x.n by omega]
   · show (if p = p then _ else _) = _
     rw [if_pos rfl]
     show (⟨q, p - q + (p + 1 - p)⟩ : ExD) :: x :: m = _
     rw [show p - q + (p + 1 - p) = p + 1 - q by omega]
theorem bumpL_last (out : List ExD) (x : ExD) : bumpL (out ++ [x]) = out ++ [⟨x.at_, x.n + 1⟩] := by
 unfold bumpL
 have e : (out ++ [x]).length - 1 = out.length := by simp
 rw [e]
 simp [List.getD_eq_getElem?_getD, List.set_append_right]
theorem takL_is : ∀ (l : List Bool) (p : Int) (out : List ExD), takL l p false out = out ++ canB l p ∧ ∀ q, q < p → takL l p true (out ++ [⟨q, p - q⟩]) = out ++ extL q p (canB l p)
 | [], p, out => ⟨by simp [takL, canB], fun q _ => rfl⟩
 | false :: l, p, out => by
   refine ⟨(takL_is l (p + 1) out).1, fun q hq => ?_⟩
   show takL l (p + 1) false (out ++ [⟨q, p - q⟩]) = out ++ extL q p (canB l (p + 1))
   rw [(takL_is l (p + 1) _).1]
   have hge := canB_can l (p + 1)
   cases hc : canB l (p + 1) with
   | nil => simp [extL]
   | cons x m =>
     rw [hc] at hge
     have := hge.1
     rw [extL_cons]
     rw [if_neg (by omega)]
     simp
 | true :: l, p, out => by
   constructor
   · have := (takL_is l (p + 1) out).2 p (by omega)
     rw [show p + 1 - p = (1 : Int) by omega] at this
     exact this
   · intro q hq
     show takL l (p + 1) true (bumpL (out ++ [⟨q, p - q⟩])) = out ++ extL q p (extL p (p + 1) (canB l (p + 1)))
     rw [bumpL_last, extL_extL]
     have := (takL_is l (p + 1) out).2 q (by omega)
     rw [← this]
     show takL l (p + 1) true (out ++ [⟨q, p - q + 1⟩]) = _
     rw [show p - q + 1 = p + 1 - q by omega]
theorem takR_is (R : RfD) : takR R = canB R.l R.fr := by
 unfold takR
 rw [(takL_is R.l R.fr []).1]; rfl
structure Beside (s : SpD) (R : RfD) : Prop where
 lo : R.fr = s.lo
 hi : R.fr + R.l.length = s.hi
 has : ∀ i : Nat, i < R.l.length → R.l.getD i false = hasL s.l (R.fr + i)
theorem Beside.l {s : SpD} {R : RfD} (hs : s.Ok) (h : Beside s R) : s.l = canB R.l R.fr := by
 have h1 := canB_can R.l R.fr
 rw [h.hi, h.lo] at h1
 refine can_eq hs.can (by rw [h.lo]; exact h1) fun z => ?_
 rw [canB_has]
 by_cases g : R.fr ≤ z ∧ z < R.fr + R.l.length
 · have := h.has (z - R.fr).toNat (by omega)
   rw [show R.fr + ((z - R.fr).toNat : Int) = z by omega] at this
   rw [decide_eq_true g.1, this]; rfl
 · cases q : hasL s.l z with
   | true =>
     have := hs.can.has q
     rw [← h.lo, ← h.hi] at this
     exact absurd this g
   | false =>
     by_cases g1 : R.fr ≤ z
     · have e : R.l.getD (z - R.fr).toNat false = false := by
         rw [List.getD_eq_getElem?_getD, List.getElem?_eq_none (by omega)]; rfl
       rw [e]; simp
     · rw [decide_eq_false g1]; rfl
theorem Beside.taken {s : SpD} {R : RfD} (hs : s.Ok) (h : Beside s R) : takR R = s.l := (takR_is R).trans (h.l hs).symm
theorem Beside.left {s : SpD} {R : RfD} (hs : s.Ok) (h : Beside s R) : leftL R.l = leftD s := by
 have h1 := left_is hs
 have h2 := canB_sum R.l R.fr
 rw [← h.l hs] at h2
 have h3 := h.hi
 have h4 := h.lo
 omega
theorem Beside.hasR {s : SpD} {R : RfD} (hs : s.Ok) (h : Beside s R) (z : Int) : hasR R z = hasD s z := by
 rw [hasD_is, h.l hs, canB_has]
 unfold Sm.hasR
 by_cases g : z < R.fr + R.l.length
 · rw [decide_eq_true g]; simp
 · rw [decide_eq_false g]
   have e : R.l.getD (z - R.fr).toNat false = false ∨ ¬ R.fr ≤ z := by
     by_cases g1 : R.fr ≤ z
     · left; rw [List.getD_eq_getElem?_getD, List.getElem?_eq_none (by omega)]; rfl
     · exact .inr g1
   rcases e with e | e
   · rw [e]; simp
   · rw [decide_eq_false e]; simp
theorem Beside.bit {s : SpD} {R : RfD} (h : Beside s R) {z : Int} (h1 : s.lo ≤ z) (h2 : z < s.hi) : R.l.getD (z - R.fr).toNat false = hasL s.l z := by
 have g1 := h.lo
 have g2 := h.hi
 rw [h.has _ (by omega)]
 congr 1
 omega
/-! All of an extent's sectors. -/
theorem allR_iff {s : RfD} {x : ExD} {b : Bool} : allR s x b = true ↔ inR s x = true ∧ ∀ i : Nat, (i : Int) < x.n → s.l.getD ((x.at_ - s.fr).toNat + i) false = b := by
 constructor
 · intro h
   refine ⟨allR_in h, fun i hi => ?_⟩
   cases q : decide (s.l.getD ((x.at_ - s.fr).toNat + i) false = b) with
   | true => exact of_decide_eq_true q
   | false => rw [allR_no hi (of_decide_eq_false q)] at h; cases h
 · exact fun ⟨h1, h2⟩ => allR_yes h1 h2
theorem Beside.all {s : SpD} {R : RfD} (h : Beside s R) {x : ExD} {b : Bool} : allR R x b = true ↔ (1 ≤ x.n ∧ s.lo ≤ x.at_ ∧ x.at_ + x.n ≤ s.hi) ∧ ∀ z, x.at_ ≤ z → z < x.at_ + x.n → hasL s.l z = b := by
 have g1 := h.lo
 have g2 := h.hi
 rw [allR_iff, inR_iff]
 constructor
 · intro ⟨⟨h1, h2, h3, h4⟩, h5⟩
   refine ⟨by omega, fun z k1 k2 => ?_⟩
   rw [← h.bit (by omega) (by omega), ← h5 (z - x.at_).toNat (by omega)]
   congr 1
   omega
 · intro ⟨⟨h1, h2, h3⟩, h5⟩
   refine ⟨by omega, fun i hi => ?_⟩
   rw [← h5 (x.at_ + i) (by omega) (by omega), ← h.bit (by omega) (by omega)]
   congr 1
   omega
theorem Beside.claim {s : SpD} {R : RfD} (hs : s.Ok) (h : Beside s R) (x : ExD) : allR R x false = claimB s x := by
 rw [Bool.eq_iff_iff, h.all, claim_iff hs]
 constructor
 · exact fun ⟨⟨h1, h2, h3⟩, h4⟩ => ⟨h1, h2, h3, off_has h4 (fun y hy => (Can.all hs.can y hy).2.1) h1⟩
 · exact fun g => ⟨⟨g.pos, g.lo, g.hi⟩, fun z k1 k2 => has_off g.off k1 k2⟩
theorem Beside.give {s : SpD} {R : RfD} (hs : s.Ok) (h : Beside s R) (x : ExD) : allR R x true = giveB s x := by
 rw [Bool.eq_iff_iff, h.all, give_iff hs, mayD_iff]
 constructor
 · exact fun ⟨⟨h1, h2, h3⟩, h4⟩ => ⟨⟨h1, h2, by omega, by omega⟩, h4⟩
 · exact fun ⟨⟨h1, h2, h3, h4⟩, h5⟩ => ⟨⟨h1, h2, by omega⟩, h5⟩
theorem Beside.set {s t : SpD} {R : RfD} (h : Beside s R) {x : ExD} {b : Bool} (hlo : t.lo = s.lo) (hhi : t.hi = s.hi) (hx : s.lo ≤ x.at_) (hn : 1 ≤ x.n) (ht : ∀ z, hasL t.l z = cond (inE x z) b (hasL s.l z)) : Beside t (setR R x b) := by
 have g1 := h.lo
 have g2 := h.hi
 refine ⟨g1.trans hlo.symm, by show R.fr + ((setL _ _ _ _).length : Int) = _; rw [setL_len, hhi]; exact g2, fun i hi => ?_⟩
 have hi' : i < R.l.length := by have : i < (setL _ _ _ _).length := hi; rwa [setL_len] at this
 show (setL _ _ _ _).getD i false = hasL t.l (R.fr + i)
 rw [setL_get hi', ht, ← h.has i hi']
 cases q : inE x (R.fr + i) with
 | true =>
   have := inE_iff.1 q
   rw [if_pos (by omega)]; rfl
 | false =>
   have q' : ¬ (x.at_ ≤ R.fr + (i : Int) ∧ R.fr + (i : Int) < x.at_ + x.n) := fun g => by rw [inE_iff.2 g] at q; cases q
   rw [if_neg (by omega)]; rfl
theorem Beside.put {s : SpD} {R : RfD} (hs : s.Ok) (h : Beside s R) {x : ExD} (hx : Free s x) : Beside (s.put x) (setR R x true) :=
 h.set rfl rfl hx.lo hx.pos fun z => by rw [(hs.put hx).2.1]; cases inE x z <;> rfl
theorem Beside.gave {s : SpD} {R : RfD} (hs : s.Ok) (h : Beside s R) {x : ExD} (hx : giveB s x = true) : Beside (s.give x) (setR R x false) := by
 have hm := mayD_iff.1 ((give_iff hs).1 hx).1
 exact h.set rfl rfl hm.2.1 hm.1 fun z => by rw [(hs.give hx).2.1]; cases inE x z <;> cases hasL s.l z <;> rfl
/-! The first that fits. -/
theorem scan_spec {l : List Bool} {fr n : Int} (hn : 1 ≤ n) : ∀ (m k : Nat) (f : Int), k + m = l.length → 0 ≤ f → f < n → f ≤ k → (∀ j : Nat, (k : Int) - f ≤ j → j < k → l.getD j false = false) → (f = k ∨ l.getD ((k : Int) - f - 1).toNat false = true) →
   match scanT n (l.drop k) (fr + k) f with
   | some e => ∃ i : Nat, e = fr + i ∧ k < i ∧ i ≤ l.length ∧ n ≤ i ∧ (∀ j : Nat, (i : Int) - n ≤ j → j < i → l.getD j false = false) ∧ ∀ i' : Nat, k < i' → i' < i → n ≤ i' → ∃ j : Nat, (i' : Int) - n ≤ j ∧ j < i' ∧ l.getD j false = true
   | none => ∀ i' : Nat, k < i' → i' ≤ l.length → n ≤ i' → ∃ j : Nat, (i' : Int) - n ≤ j ∧ j < i' ∧ l.getD j false = true
 | 0, k, f, hk, _, _, _, _, _ => by
   rw [List.drop_of_length_le (by omega)]
   exact fun i' h1 h2 => by omega
 | m + 1, k, f, hk, h0, h1, h2, h3, h4 => by
   have hlt : k < l.length := by omega
   rw [bdrop_at hlt]
   have e1 : fr + (k : Int) + 1 = fr + ((k + 1 : Nat) : Int) := by omega
   cases hb : l.getD k false with
   | true =>
     have ih := scan_spec (l := l) (fr := fr) hn m (k + 1) 0 (by omega) (Int.le_refl _) (by omega) (by omega) (fun j g1 g2 => by omega) (.inr (by rw [show (((k + 1 : Nat) : Int) - 0 - 1).toNat = k by omega]; exact hb))
     have e2 : scanT n (true :: l.drop (k + 1)) (fr + k) f = scanT n (l.drop (k + 1)) (fr + ((k + 1 : Nat) : Int)) 0 := by
       rw [← e1]; exact if_neg (show ¬ (0 : Int) = n by omega)
     rw [e2]
     cases q : scanT n (l.drop (k + 1)) (fr + ((k + 1 : Nat) : Int)) 0 with
     | none =>
       rw [q] at ih
       intro i' g1 g2 g3
       by_cases e : i' = k + 1
       · exact ⟨k, by omega, by omega, hb⟩
       · exact ih i' (by omega) g2 g3
     | some e =>
       rw [q] at ih
       obtain ⟨i, k1, k2, k3, k4, k5, k6⟩ := ih
       refine ⟨i, k1, by omega, k3, k4, k5, fun i' g1 g2 g3 => ?_⟩
       by_cases e : i' = k + 1
       · exact ⟨k, by omega, by omega, hb⟩
       · exact k6 i' (by omega) g2 g3
   | false =>
     by_cases hf : f + 1 = n
     · have e2 : scanT n (false :: l.drop (k + 1)) (fr + k) f = some (fr + k + 1) := if_pos hf
       rw [e2]
       refine ⟨k + 1, e1, by omega, by omega, by omega, fun j g1 g2 => ?_, fun i' g1 g2 => by omega⟩
       by_cases e : j = k
       · rw [e]; exact hb
       · exact h3 j (by omega) (by omega)
     · have h5 : ∀ j : Nat, ((k + 1 : Nat) : Int) - (f + 1) ≤ j → j < k + 1 → l.getD j false = false := fun j g1 g2 => by
         by_cases e : j = k
         · rw [e]; exact hb
         · exact h3 j (by omega) (by omega)
       have h6 : f + 1 = ((k + 1 : Nat) : Int) ∨ l.getD (((k + 1 : Nat) : Int) - (f + 1) - 1).toNat false = true := by
         rcases h4 with g | g
         · left; omega
         · right; rw [show ((k + 1 : Nat) : Int) - (f + 1) - 1 = (k : Int) - f - 1 by omega]; exact g
       have ih := scan_spec (l := l) (fr := fr) hn m (k + 1) (f + 1) (by omega) (by omega) (by omega) (by omega) h5 h6
       have e2 : scanT n (false :: l.drop (k + 1)) (fr + k) f = scanT n (l.drop (k + 1)) (fr + ((k + 1 : Nat) : Int)) (f + 1) := by
         rw [← e1]; exact if_neg hf
       have h7 : n ≤ ((k + 1 : Nat) : Int) → ∃ j : Nat, ((k + 1 : Nat) : Int) - n ≤ j ∧ j < k + 1 ∧ l.getD j false = true := fun g => by
         rcases h4 with g' | g'
         · omega
         · exact ⟨((k : Int) - f - 1).toNat, by omega, by omega, g'⟩
       rw [e2]
       cases q : scanT n (l.drop (k + 1)) (fr + ((k + 1 : Nat) : Int)) (f + 1) with
       | none =>
         rw [q] at ih
         intro i' g1 g2 g3
         by_cases e : i' = k + 1
         · subst e; exact h7 g3
         · exact ih i' (by omega) g2 g3
       | some e =>
         rw [q] at ih
         obtain ⟨i, k1, k2, k3, k4, k5, k6⟩ := ih
         refine ⟨i, k1, by omega, k3, k4, k5, fun i' g1 g2 g3 => ?_⟩
         by_cases e : i' = k + 1
         · subst e; exact h7 g3
         · exact k6 i' (by omega) g2 g3
theorem Beside.take {s : SpD} {R : RfD} (hs : s.Ok) (h : Beside s R) (n : Int) : takeR R n = takeP s n := by
 have g1 := h.lo
 have g2 := h.hi
 by_cases hn : n < 1
 · rw [show takeR R n = none from if_pos hn, show takeP s n = none from if_pos hn]
 · have e : takeR R n = (scanT n R.l R.fr 0).map fun e => ⟨e - n, n⟩ := if_neg hn
   have sp := scan_spec (l := R.l) (fr := R.fr) (n := n) (by omega) R.l.length 0 0 (by omega) (Int.le_refl _) (by omega) (by omega) (fun j _ g => by omega) (.inl rfl)
   rw [List.drop_zero, show R.fr + ((0 : Nat) : Int) = R.fr by omega] at sp
   rw [e]
   -- a taken sector in what is free
   have no : ∀ {y : ExD}, Free s y → y.n = n → ¬ ∃ j : Nat, (((y.at_ + n - R.fr).toNat : Nat) : Int) - n ≤ j ∧ j < (y.at_ + n - R.fr).toNat ∧ R.l.getD j false = true := fun {y} hy hyn ⟨j, k1, k2, k3⟩ => by
     have a1 := hy.lo
     have a2 := hy.hi
     have := has_off hy.off (z := R.fr + j) (by omega) (by omega)
     rw [← h.has j (by omega), k3] at this
     cases this
   cases q : scanT n R.l R.fr 0 with
   | none =>
     rw [q] at sp
     cases r : takeP s n with
     | none => rfl
     | some y =>
       obtain ⟨hy, hyn, _⟩ := take_free hs r
       have a1 := hy.lo
       have a2 := hy.hi
       exact absurd (sp (y.at_ + n - R.fr).toNat (by omega) (by omega) (by omega)) (no hy hyn)
   | some e =>
     rw [q] at sp
     obtain ⟨i, k1, k2, k3, k4, k5, k6⟩ := sp
     have hf : Free s ⟨e - n, n⟩ := ⟨by show 1 ≤ n; omega, by show s.lo ≤ e - n; omega, by show e - n + n ≤ s.hi; omega, off_has (x := ⟨e - n, n⟩) (fun z g3 g4 => by
       have g3' : e - n ≤ z := g3
       have g4' : z < e - n + n := g4
       rw [← h.bit (by omega) (by omega)]
       exact k5 _ (by omega) (by omega)) (fun y hy => (Can.all hs.can y hy).2.1) (by show 1 ≤ n; omega)⟩
     obtain ⟨y, hy1, hy2⟩ := take_first hf
     have hy1' : takeP s n = some y := hy1
     have hy2' : y.at_ ≤ e - n := hy2
     rw [hy1']
     obtain ⟨hy, hyn, _⟩ := take_free hs hy1'
     have a1 := hy.lo
     have a2 := hy.hi
     by_cases g : y.at_ = e - n
     · show some (⟨e - n, n⟩ : ExD) = some y
       rw [← g, ← hyn]
     · exact absurd (k6 (y.at_ + n - R.fr).toNat (by omega) (by omega) (by omega)) (no hy hyn)
theorem Beside.ok {s : SpD} {R : RfD} (hs : s.Ok) (h : Beside s R) : R.Ok := ⟨by rw [h.lo]; exact hs.lo, by rw [h.hi]; exact hs.hi⟩
theorem rraw_is (s : RfD) : (⟨s.fr, s.l.length, boF s.l⟩ : RfW).toL = s := rraw_toL s
/-! The longest run. -/
theorem longL_ge : ∀ (l : List Bool) (m f : Int), m ≤ longL m f l
 | [], m, _ => Int.le_refl m
 | b :: l, m, f => by
   have := longL_ge l (if m < cond b 0 (f + 1) then cond b 0 (f + 1) else m) (cond b 0 (f + 1))
   show m ≤ longL _ _ l
   refine Int.le_trans ?_ this
   split <;> omega
theorem longL_iff {n : Int} (hn : 1 ≤ n) : ∀ (l : List Bool) (m f p : Int), f < n → (n ≤ longL m f l ↔ n ≤ m ∨ (scanT n l p f).isSome = true)
 | [], m, f, p, _ => by simp [longL, scanT]
 | b :: l, m, f, p, hf => by
   show n ≤ longL (if m < cond b 0 (f + 1) then cond b 0 (f + 1) else m) (cond b 0 (f + 1)) l ↔ n ≤ m ∨ (if cond b 0 (f + 1) = n then some (p + 1) else scanT n l (p + 1) (cond b 0 (f + 1))).isSome = true
   obtain ⟨g, hg⟩ : ∃ g, g = cond b 0 (f + 1) := ⟨_, rfl⟩
   have hgn : g ≤ n := by rw [hg]; cases b <;> simp <;> omega
   rw [← hg]
   by_cases e : g = n
   · rw [if_pos e]
     have := longL_ge l (if m < g then g else m) g
     refine ⟨fun _ => .inr rfl, fun _ => ?_⟩
     refine Int.le_trans ?_ this
     split <;> omega
   · rw [if_neg e, longL_iff hn l _ g (p + 1) (by omega)]
     have : n ≤ (if m < g then g else m) ↔ n ≤ m := by split <;> omega
     rw [this]
theorem Beside.long {s : SpD} {R : RfD} (hs : s.Ok) (h : Beside s R) : longL 0 0 R.l = longD s := by
 have h0 : 0 ≤ longL 0 0 R.l := longL_ge _ _ _
 have h1 : 0 ≤ longD s := maxG_le.2 (.inl (Int.le_refl _))
 have key : ∀ n : Int, 1 ≤ n → (n ≤ longL 0 0 R.l ↔ n ≤ longD s) := fun n hn => by
   rw [longL_iff hn R.l 0 0 R.fr (by omega), long_iff hn, ← h.take hs n, show takeR R n = (scanT n R.l R.fr 0).map fun e => ⟨e - n, n⟩ from if_neg (by omega), Option.isSome_map]
   constructor
   · rintro (g | g)
     · omega
     · exact g
   · exact .inr
 rcases Int.lt_or_le (longL 0 0 R.l) 1 with a | a
 · rcases Int.lt_or_le (longD s) 1 with b | b
   · omega
   · have := (key _ b).2 (Int.le_refl _); omega
 · have k1 := (key _ a).1 (Int.le_refl _)
   have k2 := (key (longD s) (by omega)).2 (Int.le_refl _)
   omega
theorem beside_new {lo hi : Int} (h : ¬ newBad lo hi) : Beside (newD lo hi) ⟨lo, List.replicate (hi - lo).toNat false⟩ := by
 unfold newBad at h
 refine ⟨rfl, by show lo + ((List.replicate _ false).length : Int) = hi; rw [List.length_replicate]; omega, fun i hi => ?_⟩
 show (List.replicate _ false).getD i false = false
 rw [List.getD_eq_getElem?_getD, List.getElem?_replicate]
 split <;> rfl
structure OpE where
 kind : Int
 x : ExD
instance : Inhabited OpE := ⟨⟨0, default⟩⟩
abbrev opA (o : OpE) : List AV := [ivA o.kind, ivA o.x.at_, ivA o.x.n]
def opsEF (l : List OpE) : Nat → List AV := rowsOf opA l
theorem claimed_ok {x : SpW} (h : x.Ok) {y : ExD} (hy : claimB x.toL y = true) : (⟨(x.toL.put y).lo, (x.toL.put y).hi, (x.toL.put y).l.length, exF (x.toL.put y).l⟩ : SpW).Ok := put_raw h.ok ((claim_iff h.ok).1 hy)
theorem gave_ok {x : SpW} (h : x.Ok) {y : ExD} (hy : giveB x.toL y = true) : (⟨(x.toL.give y).lo, (x.toL.give y).hi, (x.toL.give y).l.length, exF (x.toL.give y).l⟩ : SpW).Ok := raw_ok (h.ok.give hy).1
theorem raw_is (s : SpD) : (⟨s.lo, s.hi, s.l.length, exF s.l⟩ : SpW).toL = s := raw_toL s
end Go.Proofs.Ytnjhocjgpppeaaa.Sm
