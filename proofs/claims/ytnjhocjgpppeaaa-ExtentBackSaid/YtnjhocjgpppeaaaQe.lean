/-
  Texts of this claim, laid together: Pg, Ph, Pi, Pj, Pk, Pm, Pr, Pq, Ps.
-/
import Derived.Test.YtnjhocjgpppeaaaQd

namespace Go.Proofs.Ytnjhocjgpppeaaa.Sm
open Go Go.RowKit
theorem withB_yes {x y : ExD} (h : y.at_ ≤ x.at_) (g : w64 (x.at_ + x.n) ≤ w64 (y.at_ + y.n)) : withB x y = true := by unfold withB; rw [Bool.and_eq_true]; exact ⟨decide_eq_true h, decide_eq_true g⟩
theorem withB_no1 {x y : ExD} (h : ¬ y.at_ ≤ x.at_) : ¬ withB x y = true := by unfold withB; rw [Bool.and_eq_true]; exact fun q => h (of_decide_eq_true q.1)
theorem withB_no2 {x y : ExD} (h : ¬ w64 (x.at_ + x.n) ≤ w64 (y.at_ + y.n)) : ¬ withB x y = true := by unfold withB; rw [Bool.and_eq_true]; exact fun q => h (of_decide_eq_true q.2)
set_option maxHeartbeats 4000000 in
set_option maxRecDepth 100000 in
theorem idxW_to (hok : SE.Ok Try.prog) (l : List ExD) (hn : l.length ≤ 5000) (x : ExD) : To SE Try.prog 31 (startOf Try.prog 31 [.ow 0 l.length, .fn (.func 32) [] [.ptr 1 0]] (memF [.rw exT 2 l.length (exF l), .mem exT none (exA x)] 0 .e) 2)
   (fun v H' _ => leA v (ivA (idxD (withB x) l)) ∧ endL [.rw exT 2 l.length (exF l), .mem exT none (exA x)] 0 H' ∧ endE [] H') := by
 refine To.R (k := 13) (h := ?_)
 refine To.L (L := []) (kp := [8, 7, 1, 0]) (C := Same IntKind.i64 ∧ (0 : Int) = (↑(0 : Nat) : Int)) (st := fun (a : Nat) => (⟨(⟨31, 19, (slotT 19 [(0, AV.ow 0 l.length), (1, AV.fn (Fn.func 32) [] [AV.ptr 1 0]), (7, AV.sy (Value.int IntKind.i64 l.length)), (8, AV.sy (Value.int IntKind.i64 a))]), ARg.no, [(AItem.code (subC (bodyC Try.prog 31) [1, 0, 1, 0, 0])), (AItem.inLoop (subC (bodyC Try.prog 31) [1, 0, 1, 0, 0])), (AItem.inBlock 0), (AItem.code (subC (bodyC Try.prog 31) [1, 1]))], [], false, none, 2⟩ : AFr), [], memF [AB.rw 31 2 l.length (exF l), AB.mem 31 none [AV.sy (Value.int IntKind.i64 x.at_), AV.sy (Value.int IntKind.i64 x.n)]] 0 Tr.e, 2⟩ : ASt)) (hI := ?_) (h := ?_) (fun (k : Nat) => [(8, ivA (k : Int))]) (fun _ => []) (fun k => k ≤ l.length ∧ idxA (withB x) k (l.drop k) = idxD (withB x) l) (fun k => l.length - k) (0)
 · exact ⟨Nat.zero_le _, rfl⟩
 intro k ⟨hk, h1⟩ ih
 refine To.R (h := ?_)
 refine To.Bd ((k : Int) < l.length) (h := ?_) (g := ?_)
 · intro h2
   have hlt : k < l.length := by omega
   rw [drop_at hlt] at h1
   unfold idxA at h1
   have hi1 : k + 1 ≤ l.length := by omega
   have hi2 : l.length - (k + 1) < l.length - k := by omega
   refine To.R (C := ((0 : Int) ≤ k ∧ (k : Int) < l.length) ∧ k < l.length) (h := ?_)
   refine To.Bd ((l.getD k default).at_ ≤ x.at_) (h := ?_) (g := ?_)
   · intro h3
     refine To.R (C := True ∧ Same (AV.agg [AV.sy (Value.int IntKind.i64 (l.getD k default).at_), AV.sy (Value.int IntKind.i64 (l.getD k default).n)]) ∧ True) (h := ?_)
     refine To.Bd (w64 (x.at_ + x.n) ≤ w64 ((l.getD k default).at_ + (l.getD k default).n)) (h := ?_) (g := ?_)
     · intro h4
       rw [if_pos (withB_yes h3 h4)] at h1
       refine To.R (h := ?_)
       refine To.E (AV.sy (Value.int IntKind.i64 k)) (hq := ?_)
       refine ⟨(of_eqP (C := Same IntKind.i64 ∧ k = idxD (withB x) l) (by kernel_rfl) (by (and_intros <;> try exact cl))), ⟨(endL_cons (B0 := AB.rw 31 2 l.length (exF l)) (by kernel_rfl) (of_eqP (C := 31 = exT ∧ Same 2 ∧ Same l.length ∧ (∀ (r : Nat), r < l.length → exF l r = exF l r)) (by kernel_rfl) (by (and_intros <;> try exact cl))) (endL_cons (B0 := AB.mem 31 none [AV.sy (Value.int IntKind.i64 x.at_), AV.sy (Value.int IntKind.i64 x.n)]) (by kernel_rfl) (of_eqP (C := 31 = exT ∧ (none : Option Nat) = none ∧ (Same IntKind.i64 ∧ Same x.at_) ∧ (Same IntKind.i64 ∧ Same x.n) ∧ True) (by kernel_rfl) (by (and_intros <;> try exact cl))) endL_nil)), endE_nil⟩⟩
     · intro h4
       rw [if_neg (withB_no2 h4)] at h1
       refine To.R (k := 18) (C := fits IntKind.i64 (k + 1)) (h := ?_)
       refine To.K (L := []) (kp := [8, 7, 1, 0]) (ov := [(8, AV.sy (Value.int IntKind.i64 (↑(k + 1) : Int)))]) (C := Same IntKind.i64 ∧ (↑k : Int) + 1 = (↑(k + 1) : Int)) (ih (k + 1) ⟨hi1, h1⟩ hi2)
   · intro h3
     rw [if_neg (withB_no1 h3)] at h1
     refine To.R (k := 24) (C := fits IntKind.i64 (k + 1)) (h := ?_)
     refine To.K (L := []) (kp := [8, 7, 1, 0]) (ov := [(8, AV.sy (Value.int IntKind.i64 (↑(k + 1) : Int)))]) (C := Same IntKind.i64 ∧ (↑k : Int) + 1 = (↑(k + 1) : Int)) (ih (k + 1) ⟨hi1, h1⟩ hi2)
 · intro h2
   have hk2 : k = l.length := by omega
   rw [hk2, List.drop_length] at h1
   have h6 : -1 = idxD (withB x) l := h1
   refine To.R (h := ?_)
   refine To.E (AV.v (Value.int IntKind.i64 (-1))) (hq := ?_)
   refine ⟨(of_eqP (C := Same IntKind.i64 ∧ -1 = idxD (withB x) l) (by kernel_rfl) (by (and_intros <;> try exact cl))), ⟨(endL_cons (B0 := AB.rw 31 2 l.length (exF l)) (by kernel_rfl) (of_eqP (C := 31 = exT ∧ Same 2 ∧ Same l.length ∧ (∀ (r : Nat), r < l.length → exF l r = exF l r)) (by kernel_rfl) (by (and_intros <;> try exact cl))) (endL_cons (B0 := AB.mem 31 none [AV.sy (Value.int IntKind.i64 x.at_), AV.sy (Value.int IntKind.i64 x.n)]) (by kernel_rfl) (of_eqP (C := 31 = exT ∧ (none : Option Nat) = none ∧ (Same IntKind.i64 ∧ Same x.at_) ∧ (Same IntKind.i64 ∧ Same x.n) ∧ True) (by kernel_rfl) (by (and_intros <;> try exact cl))) endL_nil)), endE_nil⟩⟩
def idxWK (args : List AV) (H : Tr AB) : Option Ex := match args with
 | [.ow i n, .fn (.func g) [] [.ptr j 0]] => match H.get i, H.get j with
   | some (.rw T w m f), some (.mem T2 none [a, b]) => match intA a, intA b with
     | some (.i64, p), some (.i64, q) => cond (Nat.beq g 32 && Nat.beq T exT && Nat.beq w 2 && Nat.beq T2 exT && !(Nat.beq i j))
       (some { μ := [i, j], args := [.ow 0 n, .fn (.func 32) [] [.ptr 1 0]], L := [.rw exT 2 n (exF (exsF n f)), .mem exT none (exA ⟨p, q⟩)], res := ivA (idxD (withB ⟨p, q⟩) (exsF n f)), L' := [.rw exT 2 n f, .mem exT none (exA ⟨p, q⟩)], E := [], C := m = n ∧ n ≤ 5000 ∧ ∀ r, r < n → f r = exF (exsF n f) r }) none
     | _, _ => none
   | _, _ => none
 | _ => none
def idxWF : CF := oneX 31 idxWK
theorem idxWF_ok : FOk Try.prog idxWF := oneX_ok se_ok tab Try.func31 (by kernel_rfl) fun {args H n e} hk hC => by
 unfold idxWK at hk
 split at hk
 · rename_i i m g j
   split at hk
   · rename_i T w m' f T2 a b hi hj
     split at hk
     · rename_i p q hp hq0
       cases hq : (Nat.beq g 32 && Nat.beq T exT && Nat.beq w 2 && Nat.beq T2 exT && !(Nat.beq i j)) with
       | false => rw [hq] at hk; cases hk
       | true =>
         rw [hq] at hk
         cases hk
         simp only [Bool.and_eq_true, Bool.not_eq_true', beq_dec, decide_eq_true_eq, decide_eq_false_iff_not] at hq
         obtain ⟨⟨⟨⟨rfl, rfl⟩, rfl⟩, rfl⟩, hne⟩ := hq
         obtain ⟨rfl, c2, c4⟩ := hC
         have hlen := exsF_len m' f
         have hT := idxW_to se_ok (exsF m' f) (by rw [hlen]; exact c2) ⟨p, q⟩
         rw [hlen] at hT
         refine ⟨by simp [hne], ⟨⟨_, hi, rfl, rfl, rfl, rfl, c4⟩, ⟨_, hj, rfl, rfl, rfl, intA_leS hp _, intA_leS hq0 _, trivial⟩, trivial⟩, rfl, ?_, ⟨List.nodup_nil, fun p hp => by cases hp⟩, ?_, by kernel_rfl, ?_⟩
         · simp only [renL, renA, inP1, inP2 hne]
           exact ⟨⟨rfl, rfl⟩, leA_refl _, trivial⟩
         · intro w0 ρ w vs hr0 hv q hq
           simp at hq
           rcases hq with rfl | rfl
           · exact .inr fun T l e => by rw [hi] at e; cases e
           · exact .inl (VRs.bind hv (q, True) (by simp [bindL, bindA]) trivial)
         · exact To.mono hT fun y H' n' hq => ⟨hq.1, rd_same c4 hq.2.1, hq.2.2⟩
     · cases hk
   · cases hk
 · cases hk
def prtP (y : AV) (H : Tr AB) : Option (List ExD) := match y with
 | .v (.slice none 0 0) => some []
 | .su j 0 1 _ _ => match H.get j with
   | some (.mem _ _ (a :: b :: _)) => match intA a, intA b with
     | some (.i64, p), some (.i64, q) => some [⟨p, q⟩]
     | _, _ => none
   | _ => none
 | .su j 0 2 _ _ => match H.get j with
   | some (.mem _ _ (a :: b :: c :: d :: _)) => match intA a, intA b, intA c, intA d with
     | some (.i64, p), some (.i64, q), some (.i64, p'), some (.i64, q') => some [⟨p, q⟩, ⟨p', q'⟩]
     | _, _, _, _ => none
   | _ => none
 | _ => none
theorem prtP_sound {w0 : Bs} {ρ : Env} {H : Tr AB} {n : Nat} {w : World} (hr : HR w0 ρ H n w) {y : AV} {ps : List ExD} {u v : Value} {i m : Nat} {T : TypeId} {k : Nat} {f : Nat → List AV} (hp : prtP y H = some ps) (hpos : ∀ x ∈ ps, x.pos) (hy : VR ρ y u) (hB : H.get i = some (.rw T k m f)) (hv : VR ρ (.ow i m) v) :
   PartsAs w v u (ps.map ExD.nat) := by
 have hne : ∀ {j b c : Nat} {T2 : TypeId} {z : Option Nat} {l : List AV}, ρ j = some (b, c) → H.get j = some (.mem T2 z l) → v.ownBlock ≠ some b := fun {j b c T2 z l} hj hD e => by
   cases hv with
   | @ow _ b' c' _ hi hn hc =>
     have hbd : b' = b := by simpa [Value.ownBlock] using e
     subst hbd
     have := hr.inj hi hj hB hD rfl rfl
     subst this
     rw [hB] at hD; cases hD
   | ow0 => cases e
 unfold prtP at hp
 split at hp
 · cases hp
   cases hy
   exact .none
 · rename_i j k1 q1
   split at hp
   · rename_i T2 z a b tl hD
     split at hp
     · rename_i p q ha hb
       cases hp
       cases hy with
       | @su _ bb c _ _ _ _ hj hn =>
         obtain ⟨o, ho, vs, sp, fz, hvs, rfl, _, _⟩ := hr.blk hj hD
         cases hvs with
         | @cons _ v0 _ _ a0 tv =>
         cases tv with
         | @cons _ v1 _ vs' a1 tv =>
         obtain rfl := intA_sound ha a0
         obtain rfl := intA_sound hb a1
         exact PartsAs.some (w := w) (v := v) (d := bb) (ps := [(⟨p, q⟩ : ExD)].map ExD.nat) (Nat.le_refl 1) (show 1 ≤ 2 by omega) ⟨T2, fz, vs' ++ sp, by rw [exs_nat hpos]; exact ho⟩ (hne hj hD)
     · cases hp
   · cases hp
 · rename_i j k1 q1
   split at hp
   · rename_i T2 z a b c' d' tl hD
     split at hp
     · rename_i p q p' q' ha hb hc hd
       cases hp
       cases hy with
       | @su _ bb c _ _ _ _ hj hn =>
         obtain ⟨o, ho, vs, sp, fz, hvs, rfl, _, _⟩ := hr.blk hj hD
         cases hvs with
         | @cons _ v0 _ _ a0 tv =>
         cases tv with
         | @cons _ v1 _ _ a1 tv =>
         cases tv with
         | @cons _ v2 _ _ a2 tv =>
         cases tv with
         | @cons _ v3 _ vs' a3 tv =>
         obtain rfl := intA_sound ha a0
         obtain rfl := intA_sound hb a1
         obtain rfl := intA_sound hc a2
         obtain rfl := intA_sound hd a3
         exact PartsAs.some (w := w) (v := v) (d := bb) (ps := [(⟨p, q⟩ : ExD), ⟨p', q'⟩].map ExD.nat) (show 1 ≤ 2 by omega) (Nat.le_refl 2) ⟨T2, fz, vs' ++ sp, by rw [exs_nat hpos]; exact ho⟩ (hne hj hD)
     · cases hp
   · cases hp
 · cases hp
def repD (l : List ExD) (k : Nat) (ps : List ExD) : List ExD := l.take k ++ (ps ++ l.drop (k + 1))
def repEK (args : List AV) (H : Tr AB) (n : Nat) : Option ((AV × Tr AB × Nat) × Prop) := match args with
 | [.ow i m, ix, iy, y] => match H.get i, intA ix, intA iy, prtP y H with
   | some (.rw T k m' f), some (.i64, z), some (.i64, z'), some ps => cond (Nat.beq T exT && Nat.beq k 2)
         (some ((.ow n (m - 1 + ps.length), tput (tput H i .dead) n (.rw exT 2 (m - 1 + ps.length) (exF (repD (exsF m f) z.toNat ps))), n + 1), m' = m ∧ m ≤ 10000 ∧ 0 ≤ z ∧ z < m ∧ z' = z + 1 ∧ (∀ x ∈ ps, x.pos) ∧ (∀ r, r < m → f r = exF (exsF m f) r) ∧ ∀ x ∈ exsF m f, x.pos)) none
   | _, _, _, _ => none
 | _ => none
def repEF : CF := oneF 34 repEK
theorem repEF_ok : FOk Try.prog repEF := by
 refine oneF_ok tab Try.func34 (by kernel_rfl) ?_
 intro args H n r h hC w0 ρ w vs hr hvs
 unfold repEK at h
 split at h
 · rename_i i m ix iy y
   split at h
   · rename_i T k m' f z z' ps hB hz hz' hp
     cases hb : (Nat.beq T exT && Nat.beq k 2) with
     | false => rw [hb] at h; cases h
     | true =>
       rw [hb] at h
       cases h
       simp only [Bool.and_eq_true, beq_dec, decide_eq_true_eq] at hb
       obtain ⟨rfl, rfl⟩ := hb
       obtain ⟨rfl, h1, hz0, hz1, rfl, hps, h2, h3⟩ := hC
       cases hvs with
       | @cons _ u _ _ e1 t =>
       cases t with
       | @cons _ u2 _ _ e2 t =>
       cases t with
       | @cons _ u3 _ _ e3 t =>
       cases t with
       | @cons _ u4 _ _ e4 t =>
       cases t
       obtain rfl := intA_sound hz e2
       obtain rfl := intA_sound hz' e3
       have hlen := exsF_len m' f
       have e1' : VR ρ (.ow i (exsF m' f).length) u := by rw [hlen]; exact e1
       have hB' : H.get i = some (.rw exT 2 (exsF m' f).length f) := by rw [hlen]; exact hB
       have hown := ow_vals hr exV2_len e1' hB' (fun r hr => by rw [hlen] at hr; exact h2 r hr)
       rw [← exs_nat h3, ← List.length_map ExD.nat] at hown
       obtain ⟨zn, rfl⟩ := Int.eq_ofNat_of_zero_le hz0
       have hpa := prtP_sound hr hp hps e4 hB e1
       refine (replace_any u u4 ((exsF m' f).map ExD.nat) (ps.map ExD.nat) zn w hown (by rw [List.length_map, hlen]; omega) (by rw [List.length_map, hlen]; exact h1) hpa).mono ?_
       rintro e w' ⟨v', rfl, ho', hfr, hblk⟩
       have hnew : ∀ x ∈ repD (exsF m' f) zn ps, x.pos := fun x hx => by
         rcases List.mem_append.1 hx with hx | hx
         · exact h3 x (List.mem_of_mem_take hx)
         · rcases List.mem_append.1 hx with hx | hx
           · exact hps x hx
           · exact h3 x (List.mem_of_mem_drop hx)
       have hmap : ((exsF m' f).map ExD.nat).take zn ++ (ps.map ExD.nat ++ ((exsF m' f).map ExD.nat).drop (zn + 1)) = (repD (exsF m' f) zn ps).map ExD.nat := by simp [repD]
       rw [hmap, exs_nat hnew, List.length_map, List.length_map, hlen] at ho'
       have hlen2 : (repD (exsF m' f) zn ps).length = m' - 1 + ps.length := by simp [repD, hlen]; omega
       obtain ⟨ρ', g1, g2, g3⟩ := hr.turned (f := exF (repD (exsF m' f) zn ps)) e1 hB ho' hfr hblk (fun r hr => gF_rows (I := ρ.im) exV2_len (l := repD (exsF m' f) zn ps) (by rw [hlen2]; exact hr))
       exact ⟨ρ', v', rfl, g1, g2, g3⟩
   · cases h
 · cases h
noncomputable abbrev SG0 : Sy := sym Try.prog (orF endF (orF idxWF repEF)) noG
theorem sg0_ok : SG0.Ok Try.prog := sym_ok (orF_ok endF_ok (orF_ok idxWF_ok repEF_ok)) (noG_ok _) tab mix
def giveB (s : SpD) (x : ExD) : Bool := mayD s x && decide (0 ≤ idxD (withB x) s.l)
def partL (x y : ExD) : List ExD := (if 0 < x.at_ - y.at_ then [⟨y.at_, x.at_ - y.at_⟩] else []) ++ (if 0 < y.end - x.end then [⟨x.end, y.end - x.end⟩] else [])
def SpD.give (s : SpD) (x : ExD) : SpD := { s with l := repD s.l (idxD (withB x) s.l).toNat (partL x (s.l.getD (idxD (withB x) s.l).toNat default)) }
theorem idxA_in {p : ExD → Bool} : ∀ {l : List ExD} {k : Nat}, 0 ≤ idxA p k l → k ≤ (idxA p k l).toNat ∧ (idxA p k l).toNat < k + l.length ∧ p (l.getD ((idxA p k l).toNat - k) default) = true
 | [], k, h => by simp [idxA] at h
 | x :: l, k, h => by
   unfold idxA at h ⊢
   by_cases hp : p x = true
   · rw [if_pos hp]; simp [hp]
   · rw [if_neg hp] at h ⊢
     obtain ⟨h1, h2, h3⟩ := idxA_in h
     refine ⟨by omega, by simp; omega, ?_⟩
     rw [show (idxA p (k + 1) l).toNat - k = (idxA p (k + 1) l).toNat - (k + 1) + 1 by omega]
     simpa using h3
theorem idxD_in {p : ExD → Bool} {l : List ExD} (h : 0 ≤ idxD p l) : (idxD p l).toNat < l.length ∧ p (l.getD (idxD p l).toNat default) = true := by
 obtain ⟨_, h2, h3⟩ := idxA_in (p := p) (l := l) (k := 0) h
 exact ⟨by simpa [idxD] using h2, by simpa [idxD] using h3⟩
theorem withB_is {x y : ExD} (h : withB x y = true) : y.at_ ≤ x.at_ ∧ w64 (x.at_ + x.n) ≤ w64 (y.at_ + y.n) := by
 unfold withB at h
 rw [Bool.and_eq_true] at h
 exact ⟨of_decide_eq_true h.1, of_decide_eq_true h.2⟩
theorem repD_len {l : List ExD} {k : Nat} {ps : List ExD} (h : k < l.length) : (repD l k ps).length = l.length - 1 + ps.length := by simp [repD]; omega
theorem part_pos {x y : ExD} (h1 : y.at_ ≤ x.at_) (h2 : x.at_ + x.n ≤ y.at_ + y.n) (h3 : 0 ≤ y.at_) (h4 : 0 ≤ x.at_ + x.n) : ∀ z ∈ partL x y, z.pos := fun z hz => by
 unfold partL at hz
 rcases List.mem_append.1 hz with hz | hz
 · split at hz
   · rw [List.mem_singleton.1 hz]; exact ⟨h3, by show 0 ≤ x.at_ - y.at_; omega⟩
   · cases hz
 · split at hz
   · rw [List.mem_singleton.1 hz]; exact ⟨h4, by show 0 ≤ y.at_ + y.n - (x.at_ + x.n); omega⟩
   · cases hz
set_option maxHeartbeats 4000000 in
set_option maxRecDepth 100000 in
theorem give_to (hok : SG0.Ok Try.prog) (s : SpD) (hs : s.Ok) (x : ExD) : To SG0 Try.prog 13 (startOf Try.prog 13 [.ptr 0 0, .agg (exA x)] (memF (spB s) 0 .e) 2)
   (fun v H' _ => (giveB s x = false ∧ leA v (ivA 40) ∧ endL (spB s) 0 H') ∨ (giveB s x = true ∧ leA v (ivA 0) ∧ endL (spB' (s.give x) 2) 0 H' ∧ endE (spE (s.give x) 2) H')) := by
 have hl := hs.len
 have hn : s.l.length ≤ 5000 := by omega
 have hn2 : s.l.length ≤ 10000 := by omega
 have hf1 : ∀ r, r < s.l.length → exF s.l r = exF (exsF s.l.length (exF s.l)) r := by rw [exsF_exF]; exact fun _ _ => rfl
 have hf2 : ∀ x ∈ exsF s.l.length (exF s.l), x.pos := by rw [exsF_exF]; exact hs.pos
 have e1 : exsF s.l.length (exF s.l) = s.l := exsF_exF s.l
 have hs1 := hs.lo
 have hs2 := hs.le
 have hs3 := hs.hi
 refine To.R (h := ?_)
 refine To.Bd (1 ≤ x.n) (h := ?_) (g := ?_)
 · intro q1
   refine To.R (h := ?_)
   refine To.Bd (s.lo ≤ x.at_) (h := ?_) (g := ?_)
   · intro q2
     refine To.R (h := ?_)
     refine To.Bd (x.at_ < s.hi) (h := ?_) (g := ?_)
     · intro q3
       refine To.R (C := fits IntKind.i64 (s.hi - x.at_)) (h := ?_)
       refine To.Bd (x.n ≤ s.hi - x.at_) (h := ?_) (g := ?_)
       · intro q4
         have hm : mayD s x = true := by unfold mayD; simp [q1, q2, q3, q4]
         refine To.R (C := Same s.l.length ∧ s.l.length ≤ 5000 ∧ (∀ (r : Nat), r < s.l.length → exF s.l r = exF (exsF s.l.length (exF s.l)) r)) (h := ?_)
         refine To.Bd (idxD (withB x) (exsF s.l.length (exF s.l)) < 0) (h := ?_) (g := ?_)
         · intro q5
           rw [e1] at q5
           have hcl : giveB s x = false := by unfold giveB; rw [hm, Bool.true_and]; exact decide_eq_false (by omega)
           refine To.R (h := ?_)
           refine To.E (AV.v (Value.int IntKind.i64 40)) (hq := ?_)
           refine .inl ⟨hcl, ?_⟩
           refine ⟨(of_eqP (C := Same IntKind.i64 ∧ Same (40 : Int)) (by kernel_rfl) (by (and_intros <;> try exact cl))), (endL_cons (B0 := AB.mem 52 none [AV.v (Value.bool true), AV.sy (Value.int IntKind.i64 s.lo), AV.sy (Value.int IntKind.i64 s.hi), AV.ow 1 s.l.length]) (by kernel_rfl) (of_eqP (C := 52 = spT ∧ (none : Option Nat) = none ∧ Same (AV.v (Value.bool true)) ∧ (Same IntKind.i64 ∧ Same s.lo) ∧ (Same IntKind.i64 ∧ Same s.hi) ∧ (Same 1 ∧ Same s.l.length) ∧ True) (by kernel_rfl) (by (and_intros <;> try exact cl))) (endL_cons (B0 := AB.rw 31 2 s.l.length (exF s.l)) (by kernel_rfl) (of_eqP (C := 31 = exT ∧ Same 2 ∧ Same s.l.length ∧ (∀ (r : Nat), r < s.l.length → exF s.l r = exF s.l r)) (by kernel_rfl) (by (and_intros <;> try exact cl))) endL_nil))⟩
         · intro q5
           have q5' : 0 ≤ idxD (withB x) s.l := by rw [e1] at q5; omega
           have hcl : giveB s x = true := by unfold giveB; rw [hm, Bool.true_and]; exact decide_eq_true q5'
           obtain ⟨i1, i2⟩ := idxD_in q5'
           obtain ⟨i3, i4⟩ := withB_is i2
           have i5 := hs.inD _ (mem_getD i1)
           have i6 := Can.all hs.can _ (mem_getD i1)
           rw [← e1] at q5' i1
           have hj1 : (idxD (withB x) (exsF s.l.length (exF s.l))).toNat < s.l.length := by rw [e1]; exact (idxD_in (by rw [e1] at q5'; exact q5')).1
           have hj1' : (idxD (withB x) (exsF s.l.length (exF s.l))).toNat < (exsF s.l.length (exF s.l)).length := by rw [exsF_len]; exact hj1
           have hj2 : idxD (withB x) (exsF s.l.length (exF s.l)) < (s.l.length : Int) := by omega
           obtain ⟨y, hy⟩ : ∃ y, y = s.l.getD (idxD (withB x) (exsF s.l.length (exF s.l))).toNat default := ⟨_, rfl⟩
           have hy' : y = s.l.getD (idxD (withB x) s.l).toNat default := by rw [hy, e1]
           rw [← hy'] at i3 i4 i5 i6
           have hw1 : w64 (y.at_ + y.n) = y.at_ + y.n := w64_of (by omega) (by omega)
           have hw2 : w64 (x.at_ + x.n) = x.at_ + x.n := w64_of (by omega) (by omega)
           rw [hw1, hw2] at i4
           have hfa : fits .i64 (x.at_ - y.at_) := fits_i64 (by omega) (by omega)
           have hfb : fits .i64 (w64 (y.at_ + y.n) - w64 (x.at_ + x.n)) := by rw [hw1, hw2]; exact fits_i64 (by omega) (by omega)
           rw [hy] at hfa hfb
           refine To.R (C := (0 ≤ idxD (withB x) (exsF s.l.length (exF s.l)) ∧ idxD (withB x) (exsF s.l.length (exF s.l)) < s.l.length) ∧ (idxD (withB x) (exsF s.l.length (exF s.l))).toNat < s.l.length ∧ fits IntKind.i64 (x.at_ - (s.l.getD (idxD (withB x) (exsF s.l.length (exF s.l))).toNat default).at_) ∧ True ∧ Same (AV.agg [AV.sy (Value.int IntKind.i64 x.at_), AV.sy (Value.int IntKind.i64 x.n)]) ∧ Same (AV.agg [AV.sy (Value.int IntKind.i64 (s.l.getD (idxD (withB x) (exsF s.l.length (exF s.l))).toNat default).at_), AV.sy (Value.int IntKind.i64 (s.l.getD (idxD (withB x) (exsF s.l.length (exF s.l))).toNat default).n)]) ∧ Same (AV.sy (Value.int IntKind.i64 (s.l.getD (idxD (withB x) (exsF s.l.length (exF s.l))).toNat default).at_)) ∧ Same (AV.sy (Value.int IntKind.i64 x.at_)) ∧ Same (AV.sy (Value.int IntKind.i64 (s.l.getD (idxD (withB x) (exsF s.l.length (exF s.l))).toNat default).at_)) ∧ True ∧ Same (AV.agg [AV.sy (Value.int IntKind.i64 x.at_), AV.sy (Value.int IntKind.i64 x.n)]) ∧ Same (AV.sy (Value.int IntKind.i64 (s.l.getD (idxD (withB x) (exsF s.l.length (exF s.l))).toNat default).at_)) ∧ Same (AV.sy (Value.int IntKind.i64 x.at_)) ∧ Same (AV.sy (Value.int IntKind.i64 (s.l.getD (idxD (withB x) (exsF s.l.length (exF s.l))).toNat default).at_)) ∧ True ∧ Same (AV.sy (Value.int IntKind.i64 (s.l.getD (idxD (withB x) (exsF s.l.length (exF s.l))).toNat default).at_)) ∧ Same (AV.sy (Value.int IntKind.i64 x.at_)) ∧ Same (AV.sy (Value.int IntKind.i64 (s.l.getD (idxD (withB x) (exsF s.l.length (exF s.l))).toNat default).at_)) ∧ fits IntKind.i64 (w64 ((s.l.getD (idxD (withB x) (exsF s.l.length (exF s.l))).toNat default).at_ + (s.l.getD (idxD (withB x) (exsF s.l.length (exF s.l))).toNat default).n) - w64 (x.at_ + x.n))) (h := ?_)
           refine To.Bd (0 < x.at_ - (s.l.getD (idxD (withB x) (exsF s.l.length (exF s.l))).toNat default).at_) (h := ?_) (g := ?_)
           · intro q6
             rw [← hy] at q6
             refine To.R (h := ?_)
             refine To.Bd (0 < w64 ((s.l.getD (idxD (withB x) (exsF s.l.length (exF s.l))).toNat default).at_ + (s.l.getD (idxD (withB x) (exsF s.l.length (exF s.l))).toNat default).n) - w64 (x.at_ + x.n)) (h := ?_) (g := ?_)
             · intro q7
               rw [← hy, hw1, hw2] at q7
               have hp1 : partL x y = [(⟨y.at_, x.at_ - y.at_⟩ : ExD), (⟨x.end, y.end - x.end⟩ : ExD)] := by unfold partL; rw [if_pos q6, if_pos q7]; rfl
               have hp0 : [(⟨(s.l.getD (idxD (withB x) (exsF s.l.length (exF s.l))).toNat default).at_, x.at_ - (s.l.getD (idxD (withB x) (exsF s.l.length (exF s.l))).toNat default).at_⟩ : ExD), (⟨w64 (x.at_ + x.n), w64 ((s.l.getD (idxD (withB x) (exsF s.l.length (exF s.l))).toNat default).at_ + (s.l.getD (idxD (withB x) (exsF s.l.length (exF s.l))).toNat default).n) - w64 (x.at_ + x.n)⟩ : ExD)] = partL x y := by rw [← hy, hw1, hw2]; exact hp1.symm
               have hp2 : ∀ z ∈ [(⟨(s.l.getD (idxD (withB x) (exsF s.l.length (exF s.l))).toNat default).at_, x.at_ - (s.l.getD (idxD (withB x) (exsF s.l.length (exF s.l))).toNat default).at_⟩ : ExD), (⟨w64 (x.at_ + x.n), w64 ((s.l.getD (idxD (withB x) (exsF s.l.length (exF s.l))).toNat default).at_ + (s.l.getD (idxD (withB x) (exsF s.l.length (exF s.l))).toNat default).n) - w64 (x.at_ + x.n)⟩ : ExD)], z.pos := by rw [hp0]; exact part_pos i3 i4 i5.1 (by omega)
               have hg1 : (s.give x).l = repD (exsF s.l.length (exF s.l)) (idxD (withB x) (exsF s.l.length (exF s.l))).toNat [(⟨(s.l.getD (idxD (withB x) (exsF s.l.length (exF s.l))).toNat default).at_, x.at_ - (s.l.getD (idxD (withB x) (exsF s.l.length (exF s.l))).toNat default).at_⟩ : ExD), (⟨w64 (x.at_ + x.n), w64 ((s.l.getD (idxD (withB x) (exsF s.l.length (exF s.l))).toNat default).at_ + (s.l.getD (idxD (withB x) (exsF s.l.length (exF s.l))).toNat default).n) - w64 (x.at_ + x.n)⟩ : ExD)] := by rw [hp0, e1, hy']; rfl
               have hg2 : s.l.length - 1 + [(⟨(s.l.getD (idxD (withB x) (exsF s.l.length (exF s.l))).toNat default).at_, x.at_ - (s.l.getD (idxD (withB x) (exsF s.l.length (exF s.l))).toNat default).at_⟩ : ExD), (⟨w64 (x.at_ + x.n), w64 ((s.l.getD (idxD (withB x) (exsF s.l.length (exF s.l))).toNat default).at_ + (s.l.getD (idxD (withB x) (exsF s.l.length (exF s.l))).toNat default).n) - w64 (x.at_ + x.n)⟩ : ExD)].length = (s.give x).l.length := by rw [hg1, e1]; exact (repD_len (by rw [← e1]; exact hj1')).symm
               have hg3 : ∀ r, r < s.l.length - 1 + [(⟨(s.l.getD (idxD (withB x) (exsF s.l.length (exF s.l))).toNat default).at_, x.at_ - (s.l.getD (idxD (withB x) (exsF s.l.length (exF s.l))).toNat default).at_⟩ : ExD), (⟨w64 (x.at_ + x.n), w64 ((s.l.getD (idxD (withB x) (exsF s.l.length (exF s.l))).toNat default).at_ + (s.l.getD (idxD (withB x) (exsF s.l.length (exF s.l))).toNat default).n) - w64 (x.at_ + x.n)⟩ : ExD)].length → exF (repD (exsF s.l.length (exF s.l)) (idxD (withB x) (exsF s.l.length (exF s.l))).toNat [(⟨(s.l.getD (idxD (withB x) (exsF s.l.length (exF s.l))).toNat default).at_, x.at_ - (s.l.getD (idxD (withB x) (exsF s.l.length (exF s.l))).toNat default).at_⟩ : ExD), (⟨w64 (x.at_ + x.n), w64 ((s.l.getD (idxD (withB x) (exsF s.l.length (exF s.l))).toNat default).at_ + (s.l.getD (idxD (withB x) (exsF s.l.length (exF s.l))).toNat default).n) - w64 (x.at_ + x.n)⟩ : ExD)]) r = exF (s.give x).l r := by rw [hg1]; exact fun _ _ => rfl
               refine To.R (C := fits IntKind.i64 (idxD (withB x) (exsF s.l.length (exF s.l)) + 1) ∧ Same s.l.length ∧ s.l.length ≤ 10000 ∧ 0 ≤ idxD (withB x) (exsF s.l.length (exF s.l)) ∧ idxD (withB x) (exsF s.l.length (exF s.l)) < s.l.length ∧ Same (idxD (withB x) (exsF s.l.length (exF s.l)) + 1) ∧ (∀ (x_1 : ExD), x_1 ∈ [ExD.mk (s.l.getD (idxD (withB x) (exsF s.l.length (exF s.l))).toNat default).at_ (x.at_ - (s.l.getD (idxD (withB x) (exsF s.l.length (exF s.l))).toNat default).at_), ExD.mk (w64 (x.at_ + x.n)) (w64 ((s.l.getD (idxD (withB x) (exsF s.l.length (exF s.l))).toNat default).at_ + (s.l.getD (idxD (withB x) (exsF s.l.length (exF s.l))).toNat default).n) - w64 (x.at_ + x.n))] → x_1.pos) ∧ (∀ (r : Nat), r < s.l.length → exF s.l r = exF (exsF s.l.length (exF s.l)) r) ∧ (∀ (x : ExD), x ∈ exsF s.l.length (exF s.l) → x.pos)) (h := ?_)
               refine To.L (L := [LN.old 12]) (kp := [4]) (st := fun (a : Unit) => (⟨(⟨13, 73, (slotT 73 [(4, AV.v (Value.int IntKind.i64 0))]), ARg.no, [(AItem.code Go.Code.ret)], [], true, none, 2⟩ : AFr), [], memF [AB.mem 52 none [AV.v (Value.bool true), AV.sy (Value.int IntKind.i64 s.lo), AV.sy (Value.int IntKind.i64 s.hi), AV.ow 2 (s.l.length - 1 + [ExD.mk (s.l.getD (idxD (withB x) (exsF s.l.length (exF s.l))).toNat default).at_ (x.at_ - (s.l.getD (idxD (withB x) (exsF s.l.length (exF s.l))).toNat default).at_), ExD.mk (w64 (x.at_ + x.n)) (w64 ((s.l.getD (idxD (withB x) (exsF s.l.length (exF s.l))).toNat default).at_ + (s.l.getD (idxD (withB x) (exsF s.l.length (exF s.l))).toNat default).n) - w64 (x.at_ + x.n))].length)], AB.dead, AB.rw 31 2 (s.l.length - 1 + [ExD.mk (s.l.getD (idxD (withB x) (exsF s.l.length (exF s.l))).toNat default).at_ (x.at_ - (s.l.getD (idxD (withB x) (exsF s.l.length (exF s.l))).toNat default).at_), ExD.mk (w64 (x.at_ + x.n)) (w64 ((s.l.getD (idxD (withB x) (exsF s.l.length (exF s.l))).toNat default).at_ + (s.l.getD (idxD (withB x) (exsF s.l.length (exF s.l))).toNat default).n) - w64 (x.at_ + x.n))].length) (exF (repD (exsF s.l.length (exF s.l)) (idxD (withB x) (exsF s.l.length (exF s.l))).toNat [ExD.mk (s.l.getD (idxD (withB x) (exsF s.l.length (exF s.l))).toNat default).at_ (x.at_ - (s.l.getD (idxD (withB x) (exsF s.l.length (exF s.l))).toNat default).at_), ExD.mk (w64 (x.at_ + x.n)) (w64 ((s.l.getD (idxD (withB x) (exsF s.l.length (exF s.l))).toNat default).at_ + (s.l.getD (idxD (withB x) (exsF s.l.length (exF s.l))).toNat default).n) - w64 (x.at_ + x.n))]))] 0 Tr.e, 3⟩ : ASt)) (h := ?_) (fun (_ : Unit) => []) (fun _ => []) (fun _ => True) (fun _ => 0) (())
               intro _ _ _
               refine To.E (AV.v (Value.int IntKind.i64 0)) (hq := ?_)
               refine .inr ⟨hcl, ?_⟩
               refine ⟨(of_eqP (C := Same IntKind.i64 ∧ Same (0 : Int)) (by kernel_rfl) (by (and_intros <;> try exact cl))), ⟨(endL_cons (B0 := AB.mem 52 none [AV.v (Value.bool true), AV.sy (Value.int IntKind.i64 s.lo), AV.sy (Value.int IntKind.i64 s.hi), AV.ow 2 (s.l.length - 1 + [ExD.mk (s.l.getD (idxD (withB x) (exsF s.l.length (exF s.l))).toNat default).at_ (x.at_ - (s.l.getD (idxD (withB x) (exsF s.l.length (exF s.l))).toNat default).at_), ExD.mk (w64 (x.at_ + x.n)) (w64 ((s.l.getD (idxD (withB x) (exsF s.l.length (exF s.l))).toNat default).at_ + (s.l.getD (idxD (withB x) (exsF s.l.length (exF s.l))).toNat default).n) - w64 (x.at_ + x.n))].length)]) (by kernel_rfl) (of_eqP (C := 52 = spT ∧ (none : Option Nat) = none ∧ Same (AV.v (Value.bool true)) ∧ (Same IntKind.i64 ∧ s.lo = (s.give x).lo) ∧ (Same IntKind.i64 ∧ s.hi = (s.give x).hi) ∧ (Same 2 ∧ s.l.length - 1 + [ExD.mk (s.l.getD (idxD (withB x) (exsF s.l.length (exF s.l))).toNat default).at_ (x.at_ - (s.l.getD (idxD (withB x) (exsF s.l.length (exF s.l))).toNat default).at_), ExD.mk (w64 (x.at_ + x.n)) (w64 ((s.l.getD (idxD (withB x) (exsF s.l.length (exF s.l))).toNat default).at_ + (s.l.getD (idxD (withB x) (exsF s.l.length (exF s.l))).toNat default).n) - w64 (x.at_ + x.n))].length = (s.give x).l.length) ∧ True) (by kernel_rfl) ?_) (endL_cons (B0 := AB.dead) (by kernel_rfl) (of_eqP (C := True) (by kernel_rfl) (by (and_intros <;> try exact cl))) endL_nil)), (endE_cons (B0 := AB.rw 31 2 (s.l.length - 1 + [ExD.mk (s.l.getD (idxD (withB x) (exsF s.l.length (exF s.l))).toNat default).at_ (x.at_ - (s.l.getD (idxD (withB x) (exsF s.l.length (exF s.l))).toNat default).at_), ExD.mk (w64 (x.at_ + x.n)) (w64 ((s.l.getD (idxD (withB x) (exsF s.l.length (exF s.l))).toNat default).at_ + (s.l.getD (idxD (withB x) (exsF s.l.length (exF s.l))).toNat default).n) - w64 (x.at_ + x.n))].length) (exF (repD (exsF s.l.length (exF s.l)) (idxD (withB x) (exsF s.l.length (exF s.l))).toNat [ExD.mk (s.l.getD (idxD (withB x) (exsF s.l.length (exF s.l))).toNat default).at_ (x.at_ - (s.l.getD (idxD (withB x) (exsF s.l.length (exF s.l))).toNat default).at_), ExD.mk (w64 (x.at_ + x.n)) (w64 ((s.l.getD (idxD (withB x) (exsF s.l.length (exF s.l))).toNat default).at_ + (s.l.getD (idxD (withB x) (exsF s.l.length (exF s.l))).toNat default).n) - w64 (x.at_ + x.n))]))) (by kernel_rfl) (of_eqP (C := 31 = exT ∧ Same 2 ∧ s.l.length - 1 + [ExD.mk (s.l.getD (idxD (withB x) (exsF s.l.length (exF s.l))).toNat default).at_ (x.at_ - (s.l.getD (idxD (withB x) (exsF s.l.length (exF s.l))).toNat default).at_), ExD.mk (w64 (x.at_ + x.n)) (w64 ((s.l.getD (idxD (withB x) (exsF s.l.length (exF s.l))).toNat default).at_ + (s.l.getD (idxD (withB x) (exsF s.l.length (exF s.l))).toNat default).n) - w64 (x.at_ + x.n))].length = (s.give x).l.length ∧ (∀ (r : Nat), r < s.l.length - 1 + [ExD.mk (s.l.getD (idxD (withB x) (exsF s.l.length (exF s.l))).toNat default).at_ (x.at_ - (s.l.getD (idxD (withB x) (exsF s.l.length (exF s.l))).toNat default).at_), ExD.mk (w64 (x.at_ + x.n)) (w64 ((s.l.getD (idxD (withB x) (exsF s.l.length (exF s.l))).toNat default).at_ + (s.l.getD (idxD (withB x) (exsF s.l.length (exF s.l))).toNat default).n) - w64 (x.at_ + x.n))].length → exF (repD (exsF s.l.length (exF s.l)) (idxD (withB x) (exsF s.l.length (exF s.l))).toNat [ExD.mk (s.l.getD (idxD (withB x) (exsF s.l.length (exF s.l))).toNat default).at_ (x.at_ - (s.l.getD (idxD (withB x) (exsF s.l.length (exF s.l))).toNat default).at_), ExD.mk (w64 (x.at_ + x.n)) (w64 ((s.l.getD (idxD (withB x) (exsF s.l.length (exF s.l))).toNat default).at_ + (s.l.getD (idxD (withB x) (exsF s.l.length (exF s.l))).toNat default).n) - w64 (x.at_ + x.n))]) r = exF (s.give x).l r)) (by kernel_rfl) (by (and_intros <;> try exact cl))) endE_nil)⟩⟩
               exact ⟨rfl, rfl, rfl, ⟨rfl, rfl⟩, ⟨rfl, rfl⟩, ⟨rfl, hg2⟩, trivial⟩
             · intro q7
               rw [← hy, hw1, hw2] at q7
               have hp1 : partL x y = [(⟨y.at_, x.at_ - y.at_⟩ : ExD)] := by unfold partL; rw [if_pos q6, if_neg q7]; rfl
               have hp0 : [(⟨(s.l.getD (idxD (withB x) (exsF s.l.length (exF s.l))).toNat default).at_, x.at_ - (s.l.getD (idxD (withB x) (exsF s.l.length (exF s.l))).toNat default).at_⟩ : ExD)] = partL x y := by rw [← hy]; exact hp1.symm
               have hp2 : ∀ z ∈ [(⟨(s.l.getD (idxD (withB x) (exsF s.l.length (exF s.l))).toNat default).at_, x.at_ - (s.l.getD (idxD (withB x) (exsF s.l.length (exF s.l))).toNat default).at_⟩ : ExD)], z.pos := by rw [hp0]; exact part_pos i3 i4 i5.1 (by omega)
               have hg1 : (s.give x).l = repD (exsF s.l.length (exF s.l)) (idxD (withB x) (exsF s.l.length (exF s.l))).toNat [(⟨(s.l.getD (idxD (withB x) (exsF s.l.length (exF s.l))).toNat default).at_, x.at_ - (s.l.getD (idxD (withB x) (exsF s.l.length (exF s.l))).toNat default).at_⟩ : ExD)] := by rw [hp0, e1, hy']; rfl
               have hg2 : s.l.length - 1 + [(⟨(s.l.getD (idxD (withB x) (exsF s.l.length (exF s.l))).toNat default).at_, x.at_ - (s.l.getD (idxD (withB x) (exsF s.l.length (exF s.l))).toNat default).at_⟩ : ExD)].length = (s.give x).l.length := by rw [hg1, e1]; exact (repD_len (by rw [← e1]; exact hj1')).symm
               have hg3 : ∀ r, r < s.l.length - 1 + [(⟨(s.l.getD (idxD (withB x) (exsF s.l.length (exF s.l))).toNat default).at_, x.at_ - (s.l.getD (idxD (withB x) (exsF s.l.length (exF s.l))).toNat default).at_⟩ : ExD)].length → exF (repD (exsF s.l.length (exF s.l)) (idxD (withB x) (exsF s.l.length (exF s.l))).toNat [(⟨(s.l.getD (idxD (withB x) (exsF s.l.length (exF s.l))).toNat default).at_, x.at_ - (s.l.getD (idxD (withB x) (exsF s.l.length (exF s.l))).toNat default).at_⟩ : ExD)]) r = exF (s.give x).l r := by rw [hg1]; exact fun _ _ => rfl
               refine To.R (C := fits IntKind.i64 (idxD (withB x) (exsF s.l.length (exF s.l)) + 1) ∧ Same s.l.length ∧ s.l.length ≤ 10000 ∧ 0 ≤ idxD (withB x) (exsF s.l.length (exF s.l)) ∧ idxD (withB x) (exsF s.l.length (exF s.l)) < s.l.length ∧ Same (idxD (withB x) (exsF s.l.length (exF s.l)) + 1) ∧ (∀ (x_1 : ExD), x_1 ∈ [ExD.mk (s.l.getD (idxD (withB x) (exsF s.l.length (exF s.l))).toNat default).at_ (x.at_ - (s.l.getD (idxD (withB x) (exsF s.l.length (exF s.l))).toNat default).at_)] → x_1.pos) ∧ (∀ (r : Nat), r < s.l.length → exF s.l r = exF (exsF s.l.length (exF s.l)) r) ∧ (∀ (x : ExD), x ∈ exsF s.l.length (exF s.l) → x.pos)) (h := ?_)
               refine To.L (L := [LN.old 10]) (kp := [4]) (st := fun (a : Unit) => (⟨(⟨13, 73, (slotT 73 [(4, AV.v (Value.int IntKind.i64 0))]), ARg.no, [(AItem.code Go.Code.ret)], [], true, none, 2⟩ : AFr), [], memF [AB.mem 52 none [AV.v (Value.bool true), AV.sy (Value.int IntKind.i64 s.lo), AV.sy (Value.int IntKind.i64 s.hi), AV.ow 2 (s.l.length - 1 + [ExD.mk (s.l.getD (idxD (withB x) (exsF s.l.length (exF s.l))).toNat default).at_ (x.at_ - (s.l.getD (idxD (withB x) (exsF s.l.length (exF s.l))).toNat default).at_)].length)], AB.dead, AB.rw 31 2 (s.l.length - 1 + [ExD.mk (s.l.getD (idxD (withB x) (exsF s.l.length (exF s.l))).toNat default).at_ (x.at_ - (s.l.getD (idxD (withB x) (exsF s.l.length (exF s.l))).toNat default).at_)].length) (exF (repD (exsF s.l.length (exF s.l)) (idxD (withB x) (exsF s.l.length (exF s.l))).toNat [ExD.mk (s.l.getD (idxD (withB x) (exsF s.l.length (exF s.l))).toNat default).at_ (x.at_ - (s.l.getD (idxD (withB x) (exsF s.l.length (exF s.l))).toNat default).at_)]))] 0 Tr.e, 3⟩ : ASt)) (h := ?_) (fun (_ : Unit) => []) (fun _ => []) (fun _ => True) (fun _ => 0) (())
               intro _ _ _
               refine To.E (AV.v (Value.int IntKind.i64 0)) (hq := ?_)
               refine .inr ⟨hcl, ?_⟩
               refine ⟨(of_eqP (C := Same IntKind.i64 ∧ Same (0 : Int)) (by kernel_rfl) (by (and_intros <;> try exact cl))), ⟨(endL_cons (B0 := AB.mem 52 none [AV.v (Value.bool true), AV.sy (Value.int IntKind.i64 s.lo), AV.sy (Value.int IntKind.i64 s.hi), AV.ow 2 (s.l.length - 1 + [ExD.mk (s.l.getD (idxD (withB x) (exsF s.l.length (exF s.l))).toNat default).at_ (x.at_ - (s.l.getD (idxD (withB x) (exsF s.l.length (exF s.l))).toNat default).at_)].length)]) (by kernel_rfl) (of_eqP (C := 52 = spT ∧ (none : Option Nat) = none ∧ Same (AV.v (Value.bool true)) ∧ (Same IntKind.i64 ∧ s.lo = (s.give x).lo) ∧ (Same IntKind.i64 ∧ s.hi = (s.give x).hi) ∧ (Same 2 ∧ s.l.length - 1 + [ExD.mk (s.l.getD (idxD (withB x) (exsF s.l.length (exF s.l))).toNat default).at_ (x.at_ - (s.l.getD (idxD (withB x) (exsF s.l.length (exF s.l))).toNat default).at_)].length = (s.give x).l.length) ∧ True) (by kernel_rfl) ?_) (endL_cons (B0 := AB.dead) (by kernel_rfl) (of_eqP (C := True) (by kernel_rfl) (by (and_intros <;> try exact cl))) endL_nil)), (endE_cons (B0 := AB.rw 31 2 (s.l.length - 1 + [ExD.mk (s.l.getD (idxD (withB x) (exsF s.l.length (exF s.l))).toNat default).at_ (x.at_ - (s.l.getD (idxD (withB x) (exsF s.l.length (exF s.l))).toNat default).at_)].length) (exF (repD (exsF s.l.length (exF s.l)) (idxD (withB x) (exsF s.l.length (exF s.l))).toNat [ExD.mk (s.l.getD (idxD (withB x) (exsF s.l.length (exF s.l))).toNat default).at_ (x.at_ - (s.l.getD (idxD (withB x) (exsF s.l.length (exF s.l))).toNat default).at_)]))) (by kernel_rfl) (of_eqP (C := 31 = exT ∧ Same 2 ∧ s.l.length - 1 + [ExD.mk (s.l.getD (idxD (withB x) (exsF s.l.length (exF s.l))).toNat default).at_ (x.at_ - (s.l.getD (idxD (withB x) (exsF s.l.length (exF s.l))).toNat default).at_)].length = (s.give x).l.length ∧ (∀ (r : Nat), r < s.l.length - 1 + [ExD.mk (s.l.getD (idxD (withB x) (exsF s.l.length (exF s.l))).toNat default).at_ (x.at_ - (s.l.getD (idxD (withB x) (exsF s.l.length (exF s.l))).toNat default).at_)].length → exF (repD (exsF s.l.length (exF s.l)) (idxD (withB x) (exsF s.l.length (exF s.l))).toNat [ExD.mk (s.l.getD (idxD (withB x) (exsF s.l.length (exF s.l))).toNat default).at_ (x.at_ - (s.l.getD (idxD (withB x) (exsF s.l.length (exF s.l))).toNat default).at_)]) r = exF (s.give x).l r)) (by kernel_rfl) (by (and_intros <;> try exact cl))) endE_nil)⟩⟩
               exact ⟨rfl, rfl, rfl, ⟨rfl, rfl⟩, ⟨rfl, rfl⟩, ⟨rfl, hg2⟩, trivial⟩
           · intro q6
             rw [← hy] at q6
             refine To.R (h := ?_)
             refine To.Bd (0 < w64 ((s.l.getD (idxD (withB x) (exsF s.l.length (exF s.l))).toNat default).at_ + (s.l.getD (idxD (withB x) (exsF s.l.length (exF s.l))).toNat default).n) - w64 (x.at_ + x.n)) (h := ?_) (g := ?_)
             · intro q7
               rw [← hy, hw1, hw2] at q7
               have hp1 : partL x y = [(⟨x.end, y.end - x.end⟩ : ExD)] := by unfold partL; rw [if_neg q6, if_pos q7]; rfl
               have hp0 : [(⟨w64 (x.at_ + x.n), w64 ((s.l.getD (idxD (withB x) (exsF s.l.length (exF s.l))).toNat default).at_ + (s.l.getD (idxD (withB x) (exsF s.l.length (exF s.l))).toNat default).n) - w64 (x.at_ + x.n)⟩ : ExD)] = partL x y := by rw [← hy, hw1, hw2]; exact hp1.symm
               have hp2 : ∀ z ∈ [(⟨w64 (x.at_ + x.n), w64 ((s.l.getD (idxD (withB x) (exsF s.l.length (exF s.l))).toNat default).at_ + (s.l.getD (idxD (withB x) (exsF s.l.length (exF s.l))).toNat default).n) - w64 (x.at_ + x.n)⟩ : ExD)], z.pos := by rw [hp0]; exact part_pos i3 i4 i5.1 (by omega)
               have hg1 : (s.give x).l = repD (exsF s.l.length (exF s.l)) (idxD (withB x) (exsF s.l.length (exF s.l))).toNat [(⟨w64 (x.at_ + x.n), w64 ((s.l.getD (idxD (withB x) (exsF s.l.length (exF s.l))).toNat default).at_ + (s.l.getD (idxD (withB x) (exsF s.l.length (exF s.l))).toNat default).n) - w64 (x.at_ + x.n)⟩ : ExD)] := by rw [hp0, e1, hy']; rfl
               have hg2 : s.l.length - 1 + [(⟨w64 (x.at_ + x.n), w64 ((s.l.getD (idxD (withB x) (exsF s.l.length (exF s.l))).toNat default).at_ + (s.l.getD (idxD (withB x) (exsF s.l.length (exF s.l))).toNat default).n) - w64 (x.at_ + x.n)⟩ : ExD)].length = (s.give x).l.length := by rw [hg1, e1]; exact (repD_len (by rw [← e1]; exact hj1')).symm
               have hg3 : ∀ r, r < s.l.length - 1 + [(⟨w64 (x.at_ + x.n), w64 ((s.l.getD (idxD (withB x) (exsF s.l.length (exF s.l))).toNat default).at_ + (s.l.getD (idxD (withB x) (exsF s.l.length (exF s.l))).toNat default).n) - w64 (x.at_ + x.n)⟩ : ExD)].length → exF (repD (exsF s.l.length (exF s.l)) (idxD (withB x) (exsF s.l.length (exF s.l))).toNat [(⟨w64 (x.at_ + x.n), w64 ((s.l.getD (idxD (withB x) (exsF s.l.length (exF s.l))).toNat default).at_ + (s.l.getD (idxD (withB x) (exsF s.l.length (exF s.l))).toNat default).n) - w64 (x.at_ + x.n)⟩ : ExD)]) r = exF (s.give x).l r := by rw [hg1]; exact fun _ _ => rfl
               refine To.R (C := fits IntKind.i64 (idxD (withB x) (exsF s.l.length (exF s.l)) + 1) ∧ Same s.l.length ∧ s.l.length ≤ 10000 ∧ 0 ≤ idxD (withB x) (exsF s.l.length (exF s.l)) ∧ idxD (withB x) (exsF s.l.length (exF s.l)) < s.l.length ∧ Same (idxD (withB x) (exsF s.l.length (exF s.l)) + 1) ∧ (∀ (x_1 : ExD), x_1 ∈ [ExD.mk (w64 (x.at_ + x.n)) (w64 ((s.l.getD (idxD (withB x) (exsF s.l.length (exF s.l))).toNat default).at_ + (s.l.getD (idxD (withB x) (exsF s.l.length (exF s.l))).toNat default).n) - w64 (x.at_ + x.n))] → x_1.pos) ∧ (∀ (r : Nat), r < s.l.length → exF s.l r = exF (exsF s.l.length (exF s.l)) r) ∧ (∀ (x : ExD), x ∈ exsF s.l.length (exF s.l) → x.pos)) (h := ?_)
               refine To.L (L := [LN.old 10]) (kp := [4]) (st := fun (a : Unit) => (⟨(⟨13, 73, (slotT 73 [(4, AV.v (Value.int IntKind.i64 0))]), ARg.no, [(AItem.code Go.Code.ret)], [], true, none, 2⟩ : AFr), [], memF [AB.mem 52 none [AV.v (Value.bool true), AV.sy (Value.int IntKind.i64 s.lo), AV.sy (Value.int IntKind.i64 s.hi), AV.ow 2 (s.l.length - 1 + [ExD.mk (w64 (x.at_ + x.n)) (w64 ((s.l.getD (idxD (withB x) (exsF s.l.length (exF s.l))).toNat default).at_ + (s.l.getD (idxD (withB x) (exsF s.l.length (exF s.l))).toNat default).n) - w64 (x.at_ + x.n))].length)], AB.dead, AB.rw 31 2 (s.l.length - 1 + [ExD.mk (w64 (x.at_ + x.n)) (w64 ((s.l.getD (idxD (withB x) (exsF s.l.length (exF s.l))).toNat default).at_ + (s.l.getD (idxD (withB x) (exsF s.l.length (exF s.l))).toNat default).n) - w64 (x.at_ + x.n))].length) (exF (repD (exsF s.l.length (exF s.l)) (idxD (withB x) (exsF s.l.length (exF s.l))).toNat [ExD.mk (w64 (x.at_ + x.n)) (w64 ((s.l.getD (idxD (withB x) (exsF s.l.length (exF s.l))).toNat default).at_ + (s.l.getD (idxD (withB x) (exsF s.l.length (exF s.l))).toNat default).n) - w64 (x.at_ + x.n))]))] 0 Tr.e, 3⟩ : ASt)) (h := ?_) (fun (_ : Unit) => []) (fun _ => []) (fun _ => True) (fun _ => 0) (())
               intro _ _ _
               refine To.E (AV.v (Value.int IntKind.i64 0)) (hq := ?_)
               refine .inr ⟨hcl, ?_⟩
               refine ⟨(of_eqP (C := Same IntKind.i64 ∧ Same (0 : Int)) (by kernel_rfl) (by (and_intros <;> try exact cl))), ⟨(endL_cons (B0 := AB.mem 52 none [AV.v (Value.bool true), AV.sy (Value.int IntKind.i64 s.lo), AV.sy (Value.int IntKind.i64 s.hi), AV.ow 2 (s.l.length - 1 + [ExD.mk (w64 (x.at_ + x.n)) (w64 ((s.l.getD (idxD (withB x) (exsF s.l.length (exF s.l))).toNat default).at_ + (s.l.getD (idxD (withB x) (exsF s.l.length (exF s.l))).toNat default).n) - w64 (x.at_ + x.n))].length)]) (by kernel_rfl) (of_eqP (C := 52 = spT ∧ (none : Option Nat) = none ∧ Same (AV.v (Value.bool true)) ∧ (Same IntKind.i64 ∧ s.lo = (s.give x).lo) ∧ (Same IntKind.i64 ∧ s.hi = (s.give x).hi) ∧ (Same 2 ∧ s.l.length - 1 + [ExD.mk (w64 (x.at_ + x.n)) (w64 ((s.l.getD (idxD (withB x) (exsF s.l.length (exF s.l))).toNat default).at_ + (s.l.getD (idxD (withB x) (exsF s.l.length (exF s.l))).toNat default).n) - w64 (x.at_ + x.n))].length = (s.give x).l.length) ∧ True) (by kernel_rfl) ?_) (endL_cons (B0 := AB.dead) (by kernel_rfl) (of_eqP (C := True) (by kernel_rfl) (by (and_intros <;> try exact cl))) endL_nil)), (endE_cons (B0 := AB.rw 31 2 (s.l.length - 1 + [ExD.mk (w64 (x.at_ + x.n)) (w64 ((s.l.getD (idxD (withB x) (exsF s.l.length (exF s.l))).toNat default).at_ + (s.l.getD (idxD (withB x) (exsF s.l.length (exF s.l))).toNat default).n) - w64 (x.at_ + x.n))].length) (exF (repD (exsF s.l.length (exF s.l)) (idxD (withB x) (exsF s.l.length (exF s.l))).toNat [ExD.mk (w64 (x.at_ + x.n)) (w64 ((s.l.getD (idxD (withB x) (exsF s.l.length (exF s.l))).toNat default).at_ + (s.l.getD (idxD (withB x) (exsF s.l.length (exF s.l))).toNat default).n) - w64 (x.at_ + x.n))]))) (by kernel_rfl) (of_eqP (C := 31 = exT ∧ Same 2 ∧ s.l.length - 1 + [ExD.mk (w64 (x.at_ + x.n)) (w64 ((s.l.getD (idxD (withB x) (exsF s.l.length (exF s.l))).toNat default).at_ + (s.l.getD (idxD (withB x) (exsF s.l.length (exF s.l))).toNat default).n) - w64 (x.at_ + x.n))].length = (s.give x).l.length ∧ (∀ (r : Nat), r < s.l.length - 1 + [ExD.mk (w64 (x.at_ + x.n)) (w64 ((s.l.getD (idxD (withB x) (exsF s.l.length (exF s.l))).toNat default).at_ + (s.l.getD (idxD (withB x) (exsF s.l.length (exF s.l))).toNat default).n) - w64 (x.at_ + x.n))].length → exF (repD (exsF s.l.length (exF s.l)) (idxD (withB x) (exsF s.l.length (exF s.l))).toNat [ExD.mk (w64 (x.at_ + x.n)) (w64 ((s.l.getD (idxD (withB x) (exsF s.l.length (exF s.l))).toNat default).at_ + (s.l.getD (idxD (withB x) (exsF s.l.length (exF s.l))).toNat default).n) - w64 (x.at_ + x.n))]) r = exF (s.give x).l r)) (by kernel_rfl) (by (and_intros <;> try exact cl))) endE_nil)⟩⟩
               exact ⟨rfl, rfl, rfl, ⟨rfl, rfl⟩, ⟨rfl, rfl⟩, ⟨rfl, hg2⟩, trivial⟩
             · intro q7
               rw [← hy, hw1, hw2] at q7
               have hp1 : partL x y = ([] : List ExD) := by unfold partL; rw [if_neg q6, if_neg q7]; rfl
               have hp0 : ([] : List ExD) = partL x y := by exact hp1.symm
               have hp2 : ∀ z ∈ ([] : List ExD), z.pos := by rw [hp0]; exact part_pos i3 i4 i5.1 (by omega)
               have hg1 : (s.give x).l = repD (exsF s.l.length (exF s.l)) (idxD (withB x) (exsF s.l.length (exF s.l))).toNat ([] : List ExD) := by rw [hp0, e1, hy']; rfl
               have hg2 : s.l.length - 1 + ([] : List ExD).length = (s.give x).l.length := by rw [hg1, e1]; exact (repD_len (by rw [← e1]; exact hj1')).symm
               have hg3 : ∀ r, r < s.l.length - 1 + ([] : List ExD).length → exF (repD (exsF s.l.length (exF s.l)) (idxD (withB x) (exsF s.l.length (exF s.l))).toNat ([] : List ExD)) r = exF (s.give x).l r := by rw [hg1]; exact fun _ _ => rfl
               refine To.R (C := fits IntKind.i64 (idxD (withB x) (exsF s.l.length (exF s.l)) + 1) ∧ Same s.l.length ∧ s.l.length ≤ 10000 ∧ 0 ≤ idxD (withB x) (exsF s.l.length (exF s.l)) ∧ idxD (withB x) (exsF s.l.length (exF s.l)) < s.l.length ∧ Same (idxD (withB x) (exsF s.l.length (exF s.l)) + 1) ∧ (∀ (x : ExD), x ∈ [] → x.pos) ∧ (∀ (r : Nat), r < s.l.length → exF s.l r = exF (exsF s.l.length (exF s.l)) r) ∧ (∀ (x : ExD), x ∈ exsF s.l.length (exF s.l) → x.pos)) (h := ?_)
               refine To.L (L := [LN.old 8]) (kp := [4]) (st := fun (a : Unit) => (⟨(⟨13, 73, (slotT 73 [(4, AV.v (Value.int IntKind.i64 0))]), ARg.no, [(AItem.code Go.Code.ret)], [], true, none, 2⟩ : AFr), [], memF [AB.mem 52 none [AV.v (Value.bool true), AV.sy (Value.int IntKind.i64 s.lo), AV.sy (Value.int IntKind.i64 s.hi), AV.ow 2 (s.l.length - 1 + 0)], AB.dead, AB.rw 31 2 (s.l.length - 1 + 0) (exF (repD (exsF s.l.length (exF s.l)) (idxD (withB x) (exsF s.l.length (exF s.l))).toNat []))] 0 Tr.e, 3⟩ : ASt)) (h := ?_) (fun (_ : Unit) => []) (fun _ => []) (fun _ => True) (fun _ => 0) (())
               intro _ _ _
               refine To.E (AV.v (Value.int IntKind.i64 0)) (hq := ?_)
               refine .inr ⟨hcl, ?_⟩
               refine ⟨(of_eqP (C := Same IntKind.i64 ∧ Same (0 : Int)) (by kernel_rfl) (by (and_intros <;> try exact cl))), ⟨(endL_cons (B0 := AB.mem 52 none [AV.v (Value.bool true), AV.sy (Value.int IntKind.i64 s.lo), AV.sy (Value.int IntKind.i64 s.hi), AV.ow 2 (s.l.length - 1 + 0)]) (by kernel_rfl) (of_eqP (C := 52 = spT ∧ (none : Option Nat) = none ∧ Same (AV.v (Value.bool true)) ∧ (Same IntKind.i64 ∧ s.lo = (s.give x).lo) ∧ (Same IntKind.i64 ∧ s.hi = (s.give x).hi) ∧ (Same 2 ∧ s.l.length - 1 + 0 = (s.give x).l.length) ∧ True) (by kernel_rfl) ?_) (endL_cons (B0 := AB.dead) (by kernel_rfl) (of_eqP (C := True) (by kernel_rfl) (by (and_intros <;> try exact cl))) endL_nil)), (endE_cons (B0 := AB.rw 31 2 (s.l.length - 1 + 0) (exF (repD (exsF s.l.length (exF s.l)) (idxD (withB x) (exsF s.l.length (exF s.l))).toNat []))) (by kernel_rfl) (of_eqP (C := 31 = exT ∧ Same 2 ∧ s.l.length - 1 + 0 = (s.give x).l.length ∧ (∀ (r : Nat), r < s.l.length - 1 + 0 → exF (repD (exsF s.l.length (exF s.l)) (idxD (withB x) (exsF s.l.length (exF s.l))).toNat []) r = exF (s.give x).l r)) (by kernel_rfl) (by (and_intros <;> try exact cl))) endE_nil)⟩⟩
               exact ⟨rfl, rfl, rfl, ⟨rfl, rfl⟩, ⟨rfl, rfl⟩, ⟨rfl, hg2⟩, trivial⟩
       · intro q4
         have hcl : giveB s x = false := by unfold giveB mayD; simp [q4]
         refine To.R (h := ?_)
         refine To.E (AV.v (Value.int IntKind.i64 40)) (hq := ?_)
         refine .inl ⟨hcl, ?_⟩
         refine ⟨(of_eqP (C := Same IntKind.i64 ∧ Same (40 : Int)) (by kernel_rfl) (by (and_intros <;> try exact cl))), (endL_cons (B0 := AB.mem 52 none [AV.v (Value.bool true), AV.sy (Value.int IntKind.i64 s.lo), AV.sy (Value.int IntKind.i64 s.hi), AV.ow 1 s.l.length]) (by kernel_rfl) (of_eqP (C := 52 = spT ∧ (none : Option Nat) = none ∧ Same (AV.v (Value.bool true)) ∧ (Same IntKind.i64 ∧ Same s.lo) ∧ (Same IntKind.i64 ∧ Same s.hi) ∧ (Same 1 ∧ Same s.l.length) ∧ True) (by kernel_rfl) (by (and_intros <;> try exact cl))) (endL_cons (B0 := AB.rw 31 2 s.l.length (exF s.l)) (by kernel_rfl) (of_eqP (C := 31 = exT ∧ Same 2 ∧ Same s.l.length ∧ (∀ (r : Nat), r < s.l.length → exF s.l r = exF s.l r)) (by kernel_rfl) (by (and_intros <;> try exact cl))) endL_nil))⟩
     · intro q3
       have hcl : giveB s x = false := by unfold giveB mayD; simp [q3]
       refine To.R (h := ?_)
       refine To.E (AV.v (Value.int IntKind.i64 40)) (hq := ?_)
       refine .inl ⟨hcl, ?_⟩
       refine ⟨(of_eqP (C := Same IntKind.i64 ∧ Same (40 : Int)) (by kernel_rfl) (by (and_intros <;> try exact cl))), (endL_cons (B0 := AB.mem 52 none [AV.v (Value.bool true), AV.sy (Value.int IntKind.i64 s.lo), AV.sy (Value.int IntKind.i64 s.hi), AV.ow 1 s.l.length]) (by kernel_rfl) (of_eqP (C := 52 = spT ∧ (none : Option Nat) = none ∧ Same (AV.v (Value.bool true)) ∧ (Same IntKind.i64 ∧ Same s.lo) ∧ (Same IntKind.i64 ∧ Same s.hi) ∧ (Same 1 ∧ Same s.l.length) ∧ True) (by kernel_rfl) (by (and_intros <;> try exact cl))) (endL_cons (B0 := AB.rw 31 2 s.l.length (exF s.l)) (by kernel_rfl) (of_eqP (C := 31 = exT ∧ Same 2 ∧ Same s.l.length ∧ (∀ (r : Nat), r < s.l.length → exF s.l r = exF s.l r)) (by kernel_rfl) (by (and_intros <;> try exact cl))) endL_nil))⟩
   · intro q2
     have hcl : giveB s x = false := by unfold giveB mayD; simp [q2]
     refine To.R (h := ?_)
     refine To.E (AV.v (Value.int IntKind.i64 40)) (hq := ?_)
     refine .inl ⟨hcl, ?_⟩
     refine ⟨(of_eqP (C := Same IntKind.i64 ∧ Same (40 : Int)) (by kernel_rfl) (by (and_intros <;> try exact cl))), (endL_cons (B0 := AB.mem 52 none [AV.v (Value.bool true), AV.sy (Value.int IntKind.i64 s.lo), AV.sy (Value.int IntKind.i64 s.hi), AV.ow 1 s.l.length]) (by kernel_rfl) (of_eqP (C := 52 = spT ∧ (none : Option Nat) = none ∧ Same (AV.v (Value.bool true)) ∧ (Same IntKind.i64 ∧ Same s.lo) ∧ (Same IntKind.i64 ∧ Same s.hi) ∧ (Same 1 ∧ Same s.l.length) ∧ True) (by kernel_rfl) (by (and_intros <;> try exact cl))) (endL_cons (B0 := AB.rw 31 2 s.l.length (exF s.l)) (by kernel_rfl) (of_eqP (C := 31 = exT ∧ Same 2 ∧ Same s.l.length ∧ (∀ (r : Nat), r < s.l.length → exF s.l r = exF s.l r)) (by kernel_rfl) (by (and_intros <;> try exact cl))) endL_nil))⟩
 · intro q1
   have hcl : giveB s x = false := by unfold giveB mayD; simp [q1]
   refine To.R (h := ?_)
   refine To.E (AV.v (Value.int IntKind.i64 40)) (hq := ?_)
   refine .inl ⟨hcl, ?_⟩
   refine ⟨(of_eqP (C := Same IntKind.i64 ∧ Same (40 : Int)) (by kernel_rfl) (by (and_intros <;> try exact cl))), (endL_cons (B0 := AB.mem 52 none [AV.v (Value.bool true), AV.sy (Value.int IntKind.i64 s.lo), AV.sy (Value.int IntKind.i64 s.hi), AV.ow 1 s.l.length]) (by kernel_rfl) (of_eqP (C := 52 = spT ∧ (none : Option Nat) = none ∧ Same (AV.v (Value.bool true)) ∧ (Same IntKind.i64 ∧ Same s.lo) ∧ (Same IntKind.i64 ∧ Same s.hi) ∧ (Same 1 ∧ Same s.l.length) ∧ True) (by kernel_rfl) (by (and_intros <;> try exact cl))) (endL_cons (B0 := AB.rw 31 2 s.l.length (exF s.l)) (by kernel_rfl) (of_eqP (C := 31 = exT ∧ Same 2 ∧ Same s.l.length ∧ (∀ (r : Nat), r < s.l.length → exF s.l r = exF s.l r)) (by kernel_rfl) (by (and_intros <;> try exact cl))) endL_nil))⟩
def giveG : CG := oneXG 13 (spKG fun s rest => match rest with
 | [y] => match exP y with
   | some x => some ([.agg (exA x)], giveB s x, True, fun v => cond v (ivA 0, spB' (s.give x) 2, spE (s.give x) 2) (ivA 40, [], []))
   | none => none
 | _ => none)
theorem giveG_ok : GOk Try.prog giveG := spXG_ok sg0_ok Try.func13 (by kernel_rfl) fun {s rest ys b C r} h hs hC => by
 split at h
 · split at h
   · rename_i y x hx
     cases h
     have hT := give_to sg0_ok s hs x
     cases hq : giveB s x with
     | false =>
       refine ⟨fun σ => ⟨exP_le hx σ, trivial⟩, fun h => (nomatch h), ⟨List.nodup_nil, fun p hp => by cases hp⟩, by kernel_rfl, To.mono hT fun v H' _ h => ?_⟩
       rcases h with ⟨_, h1, h2⟩ | ⟨h1, _⟩
       · exact ⟨h1, h2, trivial⟩
       · rw [hq] at h1; cases h1
     | true =>
       refine ⟨fun σ => ⟨exP_le hx σ, trivial⟩, fun _ => rfl, ⟨by simp [spE], by simp [spE]⟩, by kernel_rfl, To.mono hT fun v H' _ h => ?_⟩
       rcases h with ⟨h1, _⟩ | ⟨_, h2, h3, h4⟩
       · rw [hq] at h1; cases h1
       · exact ⟨h2, h3, h4⟩
   · cases h
 · cases h
theorem inE_iff {x : ExD} {z : Int} : inE x z = true ↔ x.at_ ≤ z ∧ z < x.at_ + x.n := by
 unfold inE
 rw [Bool.and_eq_true, decide_eq_true_iff, decide_eq_true_iff]
def hasL (l : List ExD) (z : Int) : Bool := l.any fun x => inE x z
theorem hasL_cons (x : ExD) (l : List ExD) (z : Int) : hasL (x :: l) z = (inE x z || hasL l z) := rfl
theorem hasL_iff {l : List ExD} {z : Int} : hasL l z = true ↔ ∃ x ∈ l, x.at_ ≤ z ∧ z < x.at_ + x.n := by
 unfold hasL
 rw [List.any_eq_true]
 exact ⟨fun ⟨x, h, g⟩ => ⟨x, h, inE_iff.1 g⟩, fun ⟨x, h, g⟩ => ⟨x, h, inE_iff.2 g⟩⟩
def Tch (hi : Int) : Int → List ExD → Prop
 | _, [] => True
 | lo, x :: l => lo ≤ x.at_ ∧ 1 ≤ x.n ∧ x.at_ + x.n ≤ hi ∧ Tch hi (x.at_ + x.n) l
theorem Tch.mono {hi : Int} : ∀ {l : List ExD} {a b : Int}, Tch hi a l → b ≤ a → Tch hi b l
 | [], _, _, _, _ => trivial
 | _ :: _, _, _, h, hb => ⟨Int.le_trans hb h.1, h.2⟩
theorem Can.tch {hi : Int} : ∀ {l : List ExD} {a : Int}, Can hi a l → Tch hi a l
 | [], _, _ => trivial
 | _ :: _, _, h => ⟨h.1, h.2.1, h.2.2.1, (Can.tch h.2.2.2).mono (by omega)⟩
theorem Can.has {hi a z : Int} {l : List ExD} (h : Can hi a l) (g : hasL l z = true) : a ≤ z ∧ z < hi := by
 obtain ⟨x, hx, g1, g2⟩ := hasL_iff.1 g
 have := Can.all h x hx
 omega
theorem can_eq {hi : Int} : ∀ {l m : List ExD} {a : Int}, Can hi a l → Can hi a m → (∀ z, hasL l z = hasL m z) → l = m
 | [], [], _, _, _, _ => rfl
 | [], y :: m, _, _, hm, h => by
   have := h y.at_
   have g : hasL (y :: m) y.at_ = true := hasL_iff.2 ⟨y, by simp, Int.le_refl _, by have := hm.2.1; omega⟩
   rw [g] at this; cases this
 | x :: l, [], _, hl, _, h => by
   have := h x.at_
   have g : hasL (x :: l) x.at_ = true := hasL_iff.2 ⟨x, by simp, Int.le_refl _, by have := hl.2.1; omega⟩
   rw [g] at this; cases this
 | x :: l, y :: m, a, hl, hm, h => by
   obtain ⟨l1, l2, l3, l4⟩ := hl
   obtain ⟨m1, m2, m3, m4⟩ := hm
   have inx : ∀ z, x.at_ ≤ z → z < x.at_ + x.n → hasL (y :: m) z = true := fun z g1 g2 => by rw [← h z]; exact hasL_iff.2 ⟨x, by simp, g1, g2⟩
   have iny : ∀ z, y.at_ ≤ z → z < y.at_ + y.n → hasL (x :: l) z = true := fun z g1 g2 => by rw [h z]; exact hasL_iff.2 ⟨y, by simp, g1, g2⟩
   have ofy : ∀ z, hasL (y :: m) z = true → (y.at_ ≤ z ∧ z < y.at_ + y.n) ∨ y.at_ + y.n + 1 ≤ z := fun z g => by
     rw [hasL_cons, Bool.or_eq_true] at g
     rcases g with g | g
     · exact .inl (inE_iff.1 g)
     · exact .inr (m4.has g).1
   have ofx : ∀ z, hasL (x :: l) z = true → (x.at_ ≤ z ∧ z < x.at_ + x.n) ∨ x.at_ + x.n + 1 ≤ z := fun z g => by
     rw [hasL_cons, Bool.or_eq_true] at g
     rcases g with g | g
     · exact .inl (inE_iff.1 g)
     · exact .inr (l4.has g).1
   have e1 : x.at_ = y.at_ := by
     have g1 := ofy x.at_ (inx _ (Int.le_refl _) (by omega))
     have g2 := ofx y.at_ (iny _ (Int.le_refl _) (by omega))
     omega
   have e2 : x.n = y.n := by
     rcases Int.lt_trichotomy x.n y.n with q | q | q
     · have := ofx (x.at_ + x.n) (iny _ (by omega) (by omega)); omega
     · exact q
     · have := ofy (y.at_ + y.n) (inx _ (by omega) (by omega)); omega
   have e : x = y := by cases x; cases y; simp only at e1 e2; rw [e1, e2]
   subst e
   rw [can_eq l4 m4 fun z => ?_]
   have hz := h z
   rw [hasL_cons, hasL_cons] at hz
   cases hi : inE x z with
   | false => rw [hi] at hz; exact hz
   | true =>
     have hx := inE_iff.1 hi
     have f1 : hasL l z = false := by
       cases q : hasL l z with
       | false => rfl
       | true => have := (l4.has q).1; omega
     have f2 : hasL m z = false := by
       cases q : hasL m z with
       | false => rfl
       | true => have := (m4.has q).1; omega
     rw [f1, f2]
/-! Put. -/
def mrg : ExD → List ExD → List ExD
 | c, [] => [c]
 | c, y :: l => if c.at_ + c.n = y.at_ then mrg ⟨c.at_, c.n + y.n⟩ l else c :: mrg y l
theorem fold_mrg : ∀ (l out : List ExD) (c : ExD), l.foldl mstep (out ++ [c]) = out ++ mrg c l
 | [], out, c => rfl
 | y :: l, out, c => by
   have hlast : (out ++ [c]).getD ((out ++ [c]).length - 1) default = c := by simp [List.getD_eq_getElem?_getD]
   have hset : ∀ z, (out ++ [c]).set ((out ++ [c]).length - 1) z = out ++ [z] := fun z => by simp
   rw [List.foldl_cons]
   unfold mrg
   by_cases h : c.at_ + c.n = y.at_
   · have hm : mstep (out ++ [c]) y = out ++ [⟨c.at_, c.n + y.n⟩] := by unfold mstep; rw [hlast, if_pos ⟨by simp, h⟩, hset]
     rw [hm, if_pos h]
     exact fold_mrg l out _
   · have hm : mstep (out ++ [c]) y = (out ++ [c]) ++ [y] := by unfold mstep; rw [hlast, if_neg (fun q => h q.2)]
     rw [hm, if_neg h, fold_mrg l (out ++ [c]) y, List.append_assoc]; rfl
theorem mergeL_cons (c : ExD) (l : List ExD) : mergeL (c :: l) = mrg c l := by
 unfold mergeL
 rw [List.foldl_cons]
 have : mstep [] c = [] ++ [c] := if_neg (fun q => q.1 rfl)
 rw [this, fold_mrg]; rfl
theorem mrg_can {hi : Int} : ∀ {l : List ExD} {c : ExD} {a : Int}, a ≤ c.at_ → 1 ≤ c.n → c.at_ + c.n ≤ hi → Tch hi (c.at_ + c.n) l → Can hi a (mrg c l)
 | [], c, a, h1, h2, h3, _ => ⟨h1, h2, h3, trivial⟩
 | y :: l, c, a, h1, h2, h3, h4 => by
   obtain ⟨g1, g2, g3, g4⟩ := h4
   unfold mrg
   split
   · rename_i e
     refine mrg_can (c := ⟨c.at_, c.n + y.n⟩) h1 (by show 1 ≤ c.n + y.n; omega) (by show c.at_ + (c.n + y.n) ≤ hi; omega) ?_
     show Tch hi (c.at_ + (c.n + y.n)) l
     rw [show c.at_ + (c.n + y.n) = y.at_ + y.n by omega]; exact g4
   · exact ⟨h1, h2, h3, mrg_can (by omega) g2 g3 g4⟩
theorem mrg_has {hi : Int} (z : Int) : ∀ {l : List ExD} {c : ExD}, 1 ≤ c.n → Tch hi (c.at_ + c.n) l → hasL (mrg c l) z = (inE c z || hasL l z)
 | [], c, _, _ => rfl
 | y :: l, c, h2, h4 => by
   obtain ⟨g1, g2, g3, g4⟩ := h4
   unfold mrg
   split
   · rename_i e
     rw [mrg_has (c := ⟨c.at_, c.n + y.n⟩) z (by show 1 ≤ c.n + y.n; omega) (by show Tch hi (c.at_ + (c.n + y.n)) l; rw [show c.at_ + (c.n + y.n) = y.at_ + y.n by omega]; exact g4), hasL_cons, ← Bool.or_assoc]
     congr 1
     rw [Bool.eq_iff_iff, Bool.or_eq_true, inE_iff, inE_iff, inE_iff]
     show c.at_ ≤ z ∧ z < c.at_ + (c.n + y.n) ↔ _
     omega
   · rw [hasL_cons, mrg_has z g2 g4, hasL_cons]
def sumN : List ExD → Int
 | [] => 0
 | x :: l => x.n + sumN l
theorem mrg_sum : ∀ (l : List ExD) (c : ExD), sumN (mrg c l) = c.n + sumN l
 | [], c => rfl
 | y :: l, c => by
   unfold mrg
   split
   · rw [mrg_sum l]; show c.n + y.n + sumN l = c.n + (y.n + sumN l); omega
   · show c.n + sumN (mrg y l) = c.n + (y.n + sumN l); rw [mrg_sum l]
def insR (x : ExD) : List ExD → List ExD
 | [] => [x]
 | y :: l => if y.at_ < x.at_ then y :: insR x l else x :: y :: l
theorem insD_insR (x : ExD) : ∀ l : List ExD, insD l x = insR x l
 | [] => rfl
 | y :: l => by
   have ih := insD_insR x l
   unfold insD posD at *
   rw [List.takeWhile_cons]
   unfold insR
   by_cases h : y.at_ < x.at_
   · rw [if_pos h, ← ih]; simp [h]
   · rw [if_neg h]; simp [h]
def Off (l : List ExD) (x : ExD) : Prop := ∀ y ∈ l, x.at_ + x.n ≤ y.at_ ∨ y.at_ + y.n ≤ x.at_
theorem insR_tch {hi : Int} {x : ExD} (hx1 : 1 ≤ x.n) (hx2 : x.at_ + x.n ≤ hi) : ∀ {l : List ExD} {a : Int}, Tch hi a l → Off l x → a ≤ x.at_ → Tch hi a (insR x l)
 | [], a, _, _, h => ⟨h, hx1, hx2, trivial⟩
 | y :: l, a, h, ho, ha => by
   obtain ⟨g1, g2, g3, g4⟩ := h
   have hy := ho y (by simp)
   unfold insR
   split
   · exact ⟨g1, g2, g3, insR_tch hx1 hx2 g4 (fun z hz => ho z (by simp [hz])) (by omega)⟩
   · exact ⟨ha, hx1, hx2, by omega, g2, g3, g4⟩
theorem insR_has (x : ExD) (z : Int) : ∀ l : List ExD, hasL (insR x l) z = (inE x z || hasL l z)
 | [] => rfl
 | y :: l => by
   unfold insR
   split
   · rw [hasL_cons, insR_has x z l, hasL_cons, ← Bool.or_assoc, ← Bool.or_assoc, Bool.or_comm (inE y z)]
   · rfl
theorem insR_sum (x : ExD) : ∀ l : List ExD, sumN (insR x l) = x.n + sumN l
 | [] => rfl
 | y :: l => by
   unfold insR
   split
   · show y.n + sumN (insR x l) = x.n + (y.n + sumN l); rw [insR_sum x l]; omega
   · rfl
theorem insR_ne (x : ExD) : ∀ l : List ExD, ∃ c m, insR x l = c :: m
 | [] => ⟨_, _, rfl⟩
 | y :: l => by unfold insR; split <;> exact ⟨_, _, rfl⟩
structure Free (s : SpD) (x : ExD) : Prop where
 pos : 1 ≤ x.n
 lo : s.lo ≤ x.at_
 hi : x.at_ + x.n ≤ s.hi
 off : Off s.l x
theorem SpD.Ok.put {s : SpD} (h : s.Ok) {x : ExD} (hx : Free s x) : (s.put x).Ok ∧ (∀ z, hasL (s.put x).l z = (inE x z || hasL s.l z)) ∧ sumN (s.put x).l = x.n + sumN s.l := by
 have ht := insR_tch hx.pos hx.hi h.can.tch hx.off hx.lo
 obtain ⟨c, m, hcm⟩ := insR_ne x s.l
 have hl : (s.put x).l = mrg c m := by
   show mergeL (insD s.l x) = _
   rw [insD_insR, hcm, mergeL_cons]
 have hz := fun z => insR_has x z s.l
 have hsum := insR_sum x s.l
 rw [hcm] at ht hsum
 obtain ⟨t1, t2, t3, t4⟩ := ht
 refine ⟨⟨h.lo, h.le, h.hi, by show Can s.hi s.lo (s.put x).l; rw [hl]; exact mrg_can t1 t2 t3 t4⟩, fun z => ?_, ?_⟩
 · rw [hl, mrg_has z t2 t4, ← hz z, hcm]; rfl
 · rw [hl, mrg_sum]; exact hsum
/-! Gaps. -/
theorem gap_in {hi : Int} : ∀ {l : List ExD} {a : Int} {g : ExD}, Tch hi a l → a ≤ hi → g ∈ gapsD a (l ++ [⟨hi, 0⟩]) → a ≤ g.at_ ∧ 1 ≤ g.n ∧ g.at_ + g.n ≤ hi ∧ Off l g
 | [], a, g, _, ha, h => by
   simp only [List.nil_append, gapsD] at h
   split at h
   · rw [List.mem_singleton.1 h]; exact ⟨Int.le_refl _, by show 1 ≤ hi - a; omega, by show a + (hi - a) ≤ hi; omega, fun y hy => by cases hy⟩
   · cases h
 | x :: l, a, g, ht, ha, h => by
   obtain ⟨g1, g2, g3, g4⟩ := ht
   rw [List.cons_append, gapsD_cons] at h
   have rec_ : g ∈ gapsD (x.at_ + x.n) (l ++ [⟨hi, 0⟩]) → a ≤ g.at_ ∧ 1 ≤ g.n ∧ g.at_ + g.n ≤ hi ∧ Off (x :: l) g := fun h => by
     obtain ⟨k1, k2, k3, k4⟩ := gap_in g4 g3 h
     refine ⟨by omega, k2, k3, fun y hy => ?_⟩
     rcases List.mem_cons.1 hy with rfl | hy
     · exact .inr k1
     · exact k4 y hy
   split at h
   · rename_i hlt
     rcases List.mem_cons.1 h with rfl | h
     · refine ⟨Int.le_refl _, by show 1 ≤ x.at_ - a; omega, by show a + (x.at_ - a) ≤ hi; omega, fun y hy => .inl ?_⟩
       show a + (x.at_ - a) ≤ y.at_
       rcases List.mem_cons.1 hy with rfl | hy
       · omega
       · have := tch_all g4 y hy; omega
     · exact rec_ h
   · exact rec_ h
where
 tch_all {hi : Int} : ∀ {l : List ExD} {a : Int}, Tch hi a l → ∀ x ∈ l, a ≤ x.at_
   | [], _, _, x, h => by cases h
   | y :: l, a, h, x, hx => by
     rcases List.mem_cons.1 hx with rfl | hx
     · exact h.1
     · have := tch_all h.2.2.2 x hx
       have h1 := h.1
       have h2 := h.2.1
       omega
theorem gap_of {hi : Int} {x : ExD} (hx1 : 1 ≤ x.n) (hx2 : x.at_ + x.n ≤ hi) : ∀ {l : List ExD} {a : Int}, Off l x → a ≤ x.at_ → ∃ g ∈ gapsD a (l ++ [⟨hi, 0⟩]), g.at_ ≤ x.at_ ∧ x.at_ + x.n ≤ g.at_ + g.n
 | [], a, _, ha => by
   refine ⟨⟨a, hi - a⟩, ?_, ha, by show x.at_ + x.n ≤ a + (hi - a); omega⟩
   simp only [List.nil_append, gapsD]
   rw [if_pos (by omega)]; simp
 | y :: l, a, ho, ha => by
   rw [List.cons_append, gapsD_cons]
   rcases ho y (by simp) with h | h
   · rw [if_pos (by omega)]
     exact ⟨⟨a, y.at_ - a⟩, by simp, ha, by show _ ≤ a + (y.at_ - a); omega⟩
   · obtain ⟨g, h1, h2⟩ := gap_of hx1 hx2 (l := l) (fun z hz => ho z (by simp [hz])) h
     refine ⟨g, ?_, h2⟩
     split
     · exact List.mem_cons_of_mem _ h1
     · exact h1
theorem find_in {n : Int} : ∀ {l : List ExD} {y : ExD}, findG n l = some y → ∃ g ∈ l, n ≤ g.n ∧ y = ⟨g.at_, n⟩
 | [], y, h => by cases h
 | g :: l, y, h => by
   unfold findG at h
   split at h
   · cases h; rename_i hg; exact ⟨g, by simp, hg, rfl⟩
   · obtain ⟨g', h1, h2⟩ := find_in h
     exact ⟨g', by simp [h1], h2⟩
theorem Off.sub {l : List ExD} {x g : ExD} (h : Off l g) (h1 : g.at_ ≤ x.at_) (h2 : x.at_ + x.n ≤ g.at_ + g.n) : Off l x := fun y hy => by
 rcases h y hy with q | q
 · exact .inl (by omega)
 · exact .inr (by omega)
theorem take_free {s : SpD} (h : s.Ok) {n : Int} {y : ExD} (hy : takeP s n = some y) : Free s y ∧ y.n = n ∧ 1 ≤ n := by
 unfold takeP at hy
 split at hy
 · cases hy
 · obtain ⟨g, h1, h2, rfl⟩ := find_in hy
   obtain ⟨k1, k2, k3, k4⟩ := gap_in h.can.tch h.le h1
   exact ⟨⟨by show 1 ≤ n; omega, k1, by show g.at_ + n ≤ s.hi; omega, k4.sub (Int.le_refl _) (by show g.at_ + n ≤ _; omega)⟩, rfl, by omega⟩
theorem has_off {l : List ExD} {x : ExD} (h : Off l x) {z : Int} (h1 : x.at_ ≤ z) (h2 : z < x.at_ + x.n) : hasL l z = false := by
 cases q : hasL l z with
 | false => rfl
 | true =>
   obtain ⟨y, hy, g1, g2⟩ := hasL_iff.1 q
   rcases h y hy with k | k <;> omega
theorem hasL_app (l m : List ExD) (z : Int) : hasL (l ++ m) z = (hasL l z || hasL m z) := List.any_append
theorem sumN_app : ∀ l m : List ExD, sumN (l ++ m) = sumN l + sumN m
 | [], m => by show sumN m = 0 + sumN m; omega
 | x :: l, m => by show x.n + sumN (l ++ m) = x.n + sumN l + sumN m; rw [sumN_app l m]; omega
theorem part_has {x y : ExD} (h1 : y.at_ ≤ x.at_) (h2 : x.at_ + x.n ≤ y.at_ + y.n) (h3 : 1 ≤ x.n) (z : Int) : hasL (partL x y) z = (inE y z && !inE x z) := by
 have e : hasL (partL x y) z = true ↔ (y.at_ ≤ z ∧ z < x.at_) ∨ (x.at_ + x.n ≤ z ∧ z < y.at_ + y.n) := by
   have hA : hasL (if 0 < x.at_ - y.at_ then [(⟨y.at_, x.at_ - y.at_⟩ : ExD)] else []) z = true ↔ y.at_ ≤ z ∧ z < x.at_ := by
     split <;> rw [hasL_iff] <;> simp <;> omega
   have hB : hasL (if 0 < y.at_ + y.n - (x.at_ + x.n) then [(⟨x.at_ + x.n, y.at_ + y.n - (x.at_ + x.n)⟩ : ExD)] else []) z = true ↔ x.at_ + x.n ≤ z ∧ z < y.at_ + y.n := by
     split <;> rw [hasL_iff] <;> simp <;> omega
   unfold partL
   rw [hasL_app, Bool.or_eq_true]
   exact or_congr hA hB
 rw [Bool.eq_iff_iff, e, Bool.and_eq_true, inE_iff, Bool.not_eq_true', ← Bool.not_eq_true, inE_iff]
 omega
theorem part_sum {x y : ExD} (h1 : y.at_ ≤ x.at_) (h2 : x.at_ + x.n ≤ y.at_ + y.n) : sumN (partL x y) = y.n - x.n := by
 have hA : sumN (if 0 < x.at_ - y.at_ then [(⟨y.at_, x.at_ - y.at_⟩ : ExD)] else []) = x.at_ - y.at_ := by
   split <;> simp [sumN] <;> omega
 have hB : sumN (if 0 < y.at_ + y.n - (x.at_ + x.n) then [(⟨x.at_ + x.n, y.at_ + y.n - (x.at_ + x.n)⟩ : ExD)] else []) = y.at_ + y.n - (x.at_ + x.n) := by
   split <;> simp [sumN] <;> omega
 unfold partL
 rw [sumN_app]
 show _ + sumN (if 0 < y.at_ + y.n - (x.at_ + x.n) then [(⟨x.at_ + x.n, y.at_ + y.n - (x.at_ + x.n)⟩ : ExD)] else []) = _
 rw [hA, hB]; omega
theorem part_can {hi a : Int} {x y : ExD} {l : List ExD} (h1 : y.at_ ≤ x.at_) (h2 : x.at_ + x.n ≤ y.at_ + y.n) (h3 : 1 ≤ x.n) (ha : a ≤ y.at_) (hy : y.at_ + y.n ≤ hi) (hl : Can hi (y.at_ + y.n + 1) l) : Can hi a (partL x y ++ l) := by
 have q : y.end - x.end = y.at_ + y.n - (x.at_ + x.n) := rfl
 unfold partL
 by_cases c1 : 0 < x.at_ - y.at_ <;> by_cases c2 : 0 < y.end - x.end
 · rw [if_pos c1, if_pos c2]
   refine ⟨ha, by show 1 ≤ x.at_ - y.at_; omega, by show y.at_ + (x.at_ - y.at_) ≤ hi; omega, by show y.at_ + (x.at_ - y.at_) + 1 ≤ x.at_ + x.n; omega, by show 1 ≤ y.at_ + y.n - (x.at_ + x.n); omega, by show x.at_ + x.n + (y.at_ + y.n - (x.at_ + x.n)) ≤ hi; omega, ?_⟩
   show Can hi (x.at_ + x.n + (y.at_ + y.n - (x.at_ + x.n)) + 1) l
   rw [show x.at_ + x.n + (y.at_ + y.n - (x.at_ + x.n)) + 1 = y.at_ + y.n + 1 by omega]; exact hl
 · rw [if_pos c1, if_neg c2]
   refine ⟨ha, by show 1 ≤ x.at_ - y.at_; omega, by show y.at_ + (x.at_ - y.at_) ≤ hi; omega, ?_⟩
   exact hl.mono (by show y.at_ + (x.at_ - y.at_) + 1 ≤ _; omega)
 · rw [if_neg c1, if_pos c2]
   refine ⟨by show a ≤ x.at_ + x.n; omega, by show 1 ≤ y.at_ + y.n - (x.at_ + x.n); omega, by show x.at_ + x.n + (y.at_ + y.n - (x.at_ + x.n)) ≤ hi; omega, ?_⟩
   show Can hi (x.at_ + x.n + (y.at_ + y.n - (x.at_ + x.n)) + 1) l
   rw [show x.at_ + x.n + (y.at_ + y.n - (x.at_ + x.n)) + 1 = y.at_ + y.n + 1 by omega]; exact hl
 · rw [if_neg c1, if_neg c2]
   exact hl.mono (by omega)
theorem rep_all {hi : Int} {x : ExD} (h3 : 1 ≤ x.n) : ∀ {l : List ExD} {k : Nat} {a : Int}, Can hi a l → k < l.length → (l.getD k default).at_ ≤ x.at_ → x.at_ + x.n ≤ (l.getD k default).at_ + (l.getD k default).n →
   Can hi a (repD l k (partL x (l.getD k default))) ∧ (∀ z, hasL (repD l k (partL x (l.getD k default))) z = (hasL l z && !inE x z)) ∧ sumN (repD l k (partL x (l.getD k default))) = sumN l - x.n
 | [], k, a, _, hk, _, _ => by simp at hk
 | y :: l, 0, a, h, _, h1, h2 => by
   obtain ⟨g1, g2, g3, g4⟩ := h
   have e : repD (y :: l) 0 (partL x ((y :: l).getD 0 default)) = partL x y ++ l := by simp [repD]
   simp only [List.getD_cons_zero] at h1 h2
   rw [e]
   refine ⟨part_can h1 h2 h3 g1 g3 g4, fun z => ?_, ?_⟩
   · rw [hasL_app, part_has h1 h2 h3, hasL_cons]
     cases q : hasL l z with
     | false => simp
     | true =>
       have hz := g4.has q
       have hx : inE x z = false := by
         cases p : inE x z with
         | false => rfl
         | true => have := inE_iff.1 p; omega
       rw [hx]; simp
   · rw [sumN_app, part_sum h1 h2]; show y.n - x.n + sumN l = y.n + sumN l - x.n; omega
 | y :: l, k + 1, a, h, hk, h1, h2 => by
   obtain ⟨g1, g2, g3, g4⟩ := h
   have hk' : k < l.length := by simpa using hk
   have e : repD (y :: l) (k + 1) (partL x ((y :: l).getD (k + 1) default)) = y :: repD l k (partL x (l.getD k default)) := by simp [repD]
   simp only [List.getD_cons_succ] at h1 h2
   obtain ⟨r1, r2, r3⟩ := rep_all h3 g4 hk' h1 h2
   have hat := Can.all g4 _ (mem_getD hk')
   rw [e]
   refine ⟨⟨g1, g2, g3, r1⟩, fun z => ?_, ?_⟩
   · rw [hasL_cons, r2, hasL_cons]
     cases q : inE y z with
     | false => simp
     | true =>
       have hz := inE_iff.1 q
       have hx : inE x z = false := by
         cases p : inE x z with
         | false => rfl
         | true => have := inE_iff.1 p; omega
       rw [hx]; simp
   · show y.n + sumN (repD l k (partL x (l.getD k default))) = y.n + sumN l - x.n
     rw [r3]; omega
theorem mayD_iff {s : SpD} {x : ExD} : mayD s x = true ↔ 1 ≤ x.n ∧ s.lo ≤ x.at_ ∧ x.at_ < s.hi ∧ x.n ≤ s.hi - x.at_ := by
 unfold mayD
 simp only [Bool.and_eq_true, decide_eq_true_eq]
 exact ⟨fun ⟨⟨⟨a, b⟩, c⟩, d⟩ => ⟨a, b, c, d⟩, fun ⟨a, b, c, d⟩ => ⟨⟨⟨a, b⟩, c⟩, d⟩⟩
theorem withB_iff {s : SpD} (h : s.Ok) {x y : ExD} (hm : mayD s x = true) (hy : 0 ≤ y.at_ ∧ 0 ≤ y.n ∧ y.at_ + y.n ≤ 4096) : withB x y = true ↔ y.at_ ≤ x.at_ ∧ x.at_ + x.n ≤ y.at_ + y.n := by
 obtain ⟨m1, m2, m3, m4⟩ := mayD_iff.1 hm
 have := h.lo; have := h.hi
 have hw1 : w64 (y.at_ + y.n) = y.at_ + y.n := w64_of (by omega) (by omega)
 have hw2 : w64 (x.at_ + x.n) = x.at_ + x.n := w64_of (by omega) (by omega)
 constructor
 · intro q
   have := withB_is q
   rw [hw1, hw2] at this; exact this
 · intro q
   exact withB_yes q.1 (by rw [hw1, hw2]; exact q.2)
theorem claim_iff {s : SpD} (h : s.Ok) {x : ExD} : claimB s x = true ↔ Free s x := by
 unfold claimB
 rw [Bool.and_eq_true, List.any_eq_true]
 have hlo := h.lo; have hhi := h.hi
 constructor
 · rintro ⟨hm, g, hg, hw⟩
   obtain ⟨k1, k2, k3, k4⟩ := gap_in h.can.tch h.le hg
   have := (withB_iff h hm ⟨by omega, by omega, by omega⟩).1 hw
   obtain ⟨m1, m2, m3, m4⟩ := mayD_iff.1 hm
   exact ⟨m1, m2, by omega, k4.sub this.1 this.2⟩
 · intro hf
   have hm : mayD s x = true := mayD_iff.2 ⟨hf.pos, hf.lo, by have := hf.hi; have := hf.pos; omega, by have := hf.hi; omega⟩
   obtain ⟨g, h1, h2⟩ := gap_of hf.pos hf.hi hf.off hf.lo
   obtain ⟨k1, k2, k3, k4⟩ := gap_in h.can.tch h.le h1
   exact ⟨hm, g, h1, (withB_iff h hm ⟨by omega, by omega, by omega⟩).2 h2⟩
theorem one_of {hi : Int} : ∀ {l : List ExD} {a : Int} {x : ExD}, Can hi a l → 1 ≤ x.n → (∀ z, x.at_ ≤ z → z < x.at_ + x.n → hasL l z = true) → ∃ y ∈ l, y.at_ ≤ x.at_ ∧ x.at_ + x.n ≤ y.at_ + y.n
 | [], a, x, _, hx, h => by have := h x.at_ (Int.le_refl _) (by omega); cases this
 | y :: l, a, x, hc, hx, h => by
   obtain ⟨g1, g2, g3, g4⟩ := hc
   have h0 := h x.at_ (Int.le_refl _) (by omega)
   rw [hasL_cons, Bool.or_eq_true] at h0
   rcases h0 with h0 | h0
   · have h0 := inE_iff.1 h0
     refine ⟨y, by simp, h0.1, ?_⟩
     rcases Int.lt_or_le (y.at_ + y.n) (x.at_ + x.n) with q | q
     · have hz := h (y.at_ + y.n) (by omega) q
       rw [hasL_cons, Bool.or_eq_true] at hz
       rcases hz with hz | hz
       · have := inE_iff.1 hz; omega
       · have := (g4.has hz).1; omega
     · exact q
   · have hx0 := (g4.has h0).1
     obtain ⟨q, h1, h2⟩ := one_of g4 hx (fun z k1 k2 => by
       have hz := h z k1 k2
       rw [hasL_cons, Bool.or_eq_true] at hz
       rcases hz with hz | hz
       · have := inE_iff.1 hz; omega
       · exact hz)
     exact ⟨q, by simp [h1], h2⟩
theorem give_iff {s : SpD} (h : s.Ok) {x : ExD} : giveB s x = true ↔ mayD s x = true ∧ ∀ z, x.at_ ≤ z → z < x.at_ + x.n → hasL s.l z = true := by
 unfold giveB
 rw [Bool.and_eq_true, decide_eq_true_iff]
 constructor
 · rintro ⟨hm, hi⟩
   refine ⟨hm, fun z k1 k2 => ?_⟩
   obtain ⟨j1, j2⟩ := idxD_in hi
   have hin := h.inD _ (mem_getD j1)
   have := (withB_iff h hm hin).1 j2
   exact hasL_iff.2 ⟨_, mem_getD j1, by omega, by omega⟩
 · rintro ⟨hm, ha⟩
   refine ⟨hm, ?_⟩
   obtain ⟨y, hy, h1⟩ := one_of h.can (mayD_iff.1 hm).1 ha
   exact (idxA_any (p := withB x)).2 (List.any_eq_true.2 ⟨y, hy, (withB_iff h hm (h.inD y hy)).2 h1⟩)
theorem SpD.Ok.give {s : SpD} (h : s.Ok) {x : ExD} (hx : giveB s x = true) : (s.give x).Ok ∧ (∀ z, hasL (s.give x).l z = (hasL s.l z && !inE x z)) ∧ sumN (s.give x).l = sumN s.l - x.n := by
 unfold giveB at hx
 rw [Bool.and_eq_true, decide_eq_true_iff] at hx
 obtain ⟨hm, hi⟩ := hx
 obtain ⟨j1, j2⟩ := idxD_in hi
 have hw := (withB_iff h hm (h.inD _ (mem_getD j1))).1 j2
 obtain ⟨r1, r2, r3⟩ := rep_all (mayD_iff.1 hm).1 h.can j1 hw.1 hw.2
 exact ⟨⟨h.lo, h.le, h.hi, r1⟩, r2, r3⟩
theorem sum_gaps {hi : Int} : ∀ {l : List ExD} {a : Int}, Tch hi a l → a ≤ hi → sumG (gapsD a (l ++ [⟨hi, 0⟩])) = hi - a - sumN l
 | [], a, _, ha => by
   simp only [List.nil_append, gapsD]
   split
   · simp [sumG, sumN]
   · simp [sumG, sumN]; omega
 | x :: l, a, h, ha => by
   obtain ⟨g1, g2, g3, g4⟩ := h
   rw [List.cons_append, gapsD_cons]
   have ih := sum_gaps g4 g3
   split
   · show x.at_ - a + sumG _ = hi - a - (x.n + sumN l); rw [ih]; omega
   · rw [ih]; show _ = hi - a - (x.n + sumN l); omega
theorem left_is {s : SpD} (h : s.Ok) : leftD s = s.hi - s.lo - sumN s.l := sum_gaps h.can.tch h.le
theorem maxG_le {n : Int} : ∀ {l : List ExD} {a : Int}, n ≤ maxG a l ↔ n ≤ a ∨ ∃ g ∈ l, n ≤ g.n
 | [], a => by simp [maxG]
 | g :: l, a => by
   rw [maxG_cons, maxG_le (l := l)]
   simp only [List.mem_cons, exists_eq_or_imp]
   constructor
   · rintro (h | h)
     · by_cases q : n ≤ a
       · exact .inl q
       · exact .inr (.inl (by omega))
     · exact .inr (.inr h)
   · rintro (h | h | h)
     · exact .inl (by omega)
     · exact .inl (by omega)
     · exact .inr h
theorem findG_some {n : Int} : ∀ {l : List ExD}, (findG n l).isSome = true ↔ ∃ g ∈ l, n ≤ g.n
 | [] => by simp [findG]
 | g :: l => by
   unfold findG
   split
   · rename_i h; simp [h]
   · rename_i h; rw [findG_some (l := l)]; simp [h]
theorem long_iff {s : SpD} {n : Int} (hn : 1 ≤ n) : n ≤ longD s ↔ (takeP s n).isSome = true := by
 unfold longD takeP
 rw [if_neg (by omega), findG_some, maxG_le]
 exact ⟨fun h => h.elim (fun h => by omega) id, .inr⟩
theorem hasD_is (s : SpD) (z : Int) : hasD s z = hasL s.l z := rfl
theorem sp_eq {s t : SpD} (hs : s.Ok) (ht : t.Ok) (h1 : s.lo = t.lo) (h2 : s.hi = t.hi) (h : ∀ z, hasL s.l z = hasL t.l z) : s = t := by
 cases s with | mk a b l => cases t with | mk a' b' l' =>
 simp only at h1 h2 h
 subst h1 h2
 have e : l = l' := can_eq hs.can ht.can h
 rw [e]
def newD (a b : Int) : SpD := ⟨a, b, []⟩
set_option maxHeartbeats 4000000 in
set_option maxRecDepth 100000 in
theorem new_to (hok : S0.Ok Try.prog) (lo hi : Int) : To S0 Try.prog 18 (startOf Try.prog 18 [ivA lo, ivA hi] .e 0)
   (fun v H' _ => ((lo < 0 ∨ hi < lo ∨ 4096 < hi) ∧ leA v (.tup [.v (.pointer none), ivA 40])) ∨ (¬ (lo < 0 ∨ hi < lo ∨ 4096 < hi) ∧ leA v (.tup [.ptr 0 0, ivA 0]) ∧ endE [(0, .mem spT none [.v (.bool true), ivA lo, ivA hi, .ow 1 0]), (1, .rw exT 2 0 (exF []))] H')) := by
 refine To.R (h := ?_)
 refine To.Bd (lo < 0) (h := ?_) (g := ?_)
 · intro h1
   refine To.R (h := ?_)
   refine To.E (AV.tup [AV.v (Value.pointer none), AV.v (Value.int IntKind.i64 40)]) (hq := ?_)
   refine .inl ⟨.inl h1, ?_⟩
   refine (of_eqP (C := Same (AV.v (Value.pointer none)) ∧ (Same IntKind.i64 ∧ Same (40 : Int)) ∧ True) (by kernel_rfl) (by (and_intros <;> try exact cl)))
 intro h1
 refine To.R (h := ?_)
 refine To.Bd (hi < lo) (h := ?_) (g := ?_)
 · intro h2
   refine To.R (h := ?_)
   refine To.E (AV.tup [AV.v (Value.pointer none), AV.v (Value.int IntKind.i64 40)]) (hq := ?_)
   refine .inl ⟨.inr (.inl h2), ?_⟩
   refine (of_eqP (C := Same (AV.v (Value.pointer none)) ∧ (Same IntKind.i64 ∧ Same (40 : Int)) ∧ True) (by kernel_rfl) (by (and_intros <;> try exact cl)))
 intro h2
 refine To.R (h := ?_)
 refine To.Bd (4096 < hi) (h := ?_) (g := ?_)
 · intro h3
   refine To.R (h := ?_)
   refine To.E (AV.tup [AV.v (Value.pointer none), AV.v (Value.int IntKind.i64 40)]) (hq := ?_)
   refine .inl ⟨.inr (.inr h3), ?_⟩
   refine (of_eqP (C := Same (AV.v (Value.pointer none)) ∧ (Same IntKind.i64 ∧ Same (40 : Int)) ∧ True) (by kernel_rfl) (by (and_intros <;> try exact cl)))
 intro h3
 refine To.R (h := ?_)
 refine To.L (L := [LN.old 0, LN.new (AB.rw 31 2 0 (exF []))]) (kp := [5, 4]) (C := (52 = spT ∧ (none : Option Nat) = none ∧ Same (AV.v (Value.bool true)) ∧ (Same IntKind.i64 ∧ Same lo) ∧ (Same IntKind.i64 ∧ Same hi) ∧ Same 0 ∧ True) ∧ 31 = exT ∧ Same 2 ∧ Same 0 ∧ (∀ (r : Nat), r < 0 → exF [] r = exF [] r)) (st := fun (a : Unit) => (⟨(⟨18, 21, (slotT 21 [(4, AV.ptr 0 0), (5, AV.v (Value.int IntKind.i64 0))]), ARg.no, [(AItem.code Go.Code.ret)], [], true, none, 0⟩ : AFr), [], memF [AB.mem 52 none [AV.v (Value.bool true), AV.sy (Value.int IntKind.i64 lo), AV.sy (Value.int IntKind.i64 hi), AV.ow 1 0], AB.rw 31 2 0 (exF [])] 0 Tr.e, 2⟩ : ASt)) (h := ?_) (fun (_ : Unit) => []) (fun _ => [(0, .mem spT none [.v (.bool true), ivA lo, ivA hi, .ow 1 0]), (1, .rw exT 2 0 (exF []))]) (fun _ => True) (fun _ => 0) (())
 intro _ _ _
 refine To.E (AV.tup [AV.ptr 0 0, AV.v (Value.int IntKind.i64 0)]) (hq := ?_)
 refine .inr ⟨by omega, ?_⟩
 refine ⟨(of_eqP (C := Same (AV.ptr 0 0) ∧ (Same IntKind.i64 ∧ Same (0 : Int)) ∧ True) (by kernel_rfl) (by (and_intros <;> try exact cl))), (endE_cons (B0 := AB.mem 52 none [AV.v (Value.bool true), AV.sy (Value.int IntKind.i64 lo), AV.sy (Value.int IntKind.i64 hi), AV.ow 1 0]) (by kernel_rfl) (of_eqP (C := 52 = spT ∧ (none : Option Nat) = none ∧ Same (AV.v (Value.bool true)) ∧ (Same IntKind.i64 ∧ Same lo) ∧ (Same IntKind.i64 ∧ Same hi) ∧ (Same 1 ∧ Same 0) ∧ True) (by kernel_rfl) (by (and_intros <;> try exact cl))) (endE_cons (B0 := AB.rw 31 2 0 (exF [])) (by kernel_rfl) (of_eqP (C := 31 = exT ∧ Same 2 ∧ Same 0 ∧ (∀ (r : Nat), r < 0 → exF [] r = exF [] r)) (by kernel_rfl) (by (and_intros <;> try exact cl))) endE_nil))⟩
def newBad (lo hi : Int) : Prop := lo < 0 ∨ hi < lo ∨ 4096 < hi
instance (lo hi : Int) : Decidable (newBad lo hi) := inferInstanceAs (Decidable (_ ∨ _))
def newG : CG := oneXG 18 fun args H => match args with
 | [a, b] => match intA a, intA b with
   | some (.i64, lo), some (.i64, hi) => some (!decide (newBad lo hi), True, fun v => { μ := [], args := [ivA lo, ivA hi], L := [], res := cond v (.tup [.ptr 0 0, ivA 0]) (.tup [.v (.pointer none), ivA 40]), L' := [], E := cond v [(0, .mem spT none [.v (.bool true), ivA lo, ivA hi, .ow 1 0]), (1, .rw exT 2 0 (exF []))] [], C := True })
   | _, _ => none
 | _ => none
theorem newG_ok : GOk Try.prog newG := oneXG_ok s0_ok tab Try.func18 (by kernel_rfl) fun {args H n r} h hC => by
 split at h
 · split at h
   · rename_i a b lo hi ha hb
     cases h
     have hT := new_to s0_ok lo hi
     by_cases hq : newBad lo hi
     · simp only [hq, decide_true, Bool.not_true]
       refine ⟨List.nodup_nil, trivial, rfl, ⟨intA_leS ha _, intA_leS hb _, trivial⟩, ⟨List.nodup_nil, fun p hp => by cases hp⟩, fun _ _ i hi => (nomatch hi), by kernel_rfl, To.mono hT fun v H' _ h => ?_⟩
       rcases h with ⟨_, h1⟩ | ⟨h1, _⟩
       · exact ⟨h1, trivial, trivial⟩
       · exact absurd hq h1
     · simp only [hq, decide_false, Bool.not_false]
       refine ⟨List.nodup_nil, trivial, rfl, ⟨intA_leS ha _, intA_leS hb _, trivial⟩, ⟨by simp, fun p hp => Nat.zero_le _⟩, fun _ _ i hi => (nomatch hi), by kernel_rfl, To.mono hT fun v H' _ h => ?_⟩
       rcases h with ⟨h1, _⟩ | ⟨_, h1, h2⟩
       · exact absurd h1 hq
       · exact ⟨h1, trivial, h2⟩
   · cases h
 · cases h
set_option maxHeartbeats 4000000 in
set_option maxRecDepth 100000 in
theorem same_to (hok : S0.Ok Try.prog) (l : List ExD) (hl : l.length ≤ 100000) : To S0 Try.prog 15 (startOf Try.prog 15 [.ow 0 l.length, .ow 1 l.length] (memF [.rw exT 2 l.length (exF l), .rw exT 2 l.length (exF l)] 0 .e) 2)
   (fun v H' _ => leA v (.v (.bool true)) ∧ endL [.rw exT 2 l.length (exF l), .rw exT 2 l.length (exF l)] 0 H' ∧ endE [] H') := by
 refine To.R (C := True ∧ True) (h := ?_)
 refine To.Nn ((l.length : Int) = l.length) (h := ?_)
 refine To.R (k := 10) (h := ?_)
 refine To.L (L := []) (kp := [5, 1, 0]) (C := Same IntKind.i64 ∧ (0 : Int) = (↑(0 : Nat) : Int)) (st := fun (a : Nat) => (⟨(⟨15, 26, (slotT 26 [(0, AV.ow 0 l.length), (1, AV.ow 1 l.length), (5, AV.sy (Value.int IntKind.i64 a))]), ARg.no, [(AItem.code (subC (bodyC Try.prog 15) [1, 1, 0, 1, 0, 0])), (AItem.inLoop (subC (bodyC Try.prog 15) [1, 1, 0, 1, 0, 0])), (AItem.inBlock 0), (AItem.code (subC (bodyC Try.prog 15) [1, 1, 1]))], [], false, none, 2⟩ : AFr), [], memF [AB.rw 31 2 l.length (exF l), AB.rw 31 2 l.length (exF l)] 0 Tr.e, 2⟩ : ASt)) (h := ?_) (fun (k : Nat) => [(5, ivA (k : Int))]) (fun _ => []) (fun k => k ≤ l.length) (fun k => l.length - k) (0)
 intro k hk ih
 refine To.R (h := ?_)
 refine To.Bd ((k : Int) < l.length) (h := ?_) (g := ?_)
 · intro h1
   have hi1 : k + 1 ≤ l.length := by omega
   have hi2 : l.length - (k + 1) < l.length - k := by omega
   refine To.R (C := ((0 : Int) ≤ k ∧ (k : Int) < l.length) ∧ k < l.length ∧ ((0 : Int) ≤ k ∧ (k : Int) < l.length) ∧ k < l.length) (h := ?_)
   refine To.Nn ([(l.getD k default).at_, (l.getD k default).n] = [(l.getD k default).at_, (l.getD k default).n]) (h := ?_)
   refine To.R (k := 10) (C := fits IntKind.i64 (k + 1)) (h := ?_)
   refine To.K (L := []) (kp := [5, 1, 0]) (ov := [(5, AV.sy (Value.int IntKind.i64 (↑(k + 1) : Int)))]) (C := Same IntKind.i64 ∧ (↑k : Int) + 1 = (↑(k + 1) : Int)) (ih (k + 1) hi1 hi2)
 · intro h1
   refine To.R (h := ?_)
   refine To.E (AV.v (Value.bool true)) (hq := ?_)
   refine ⟨(of_eqP (C := Same (AV.v (Value.bool true))) (by kernel_rfl) (by (and_intros <;> try exact cl))), ⟨(endL_cons (B0 := AB.rw 31 2 l.length (exF l)) (by kernel_rfl) (of_eqP (C := 31 = exT ∧ Same 2 ∧ Same l.length ∧ (∀ (r : Nat), r < l.length → exF l r = exF l r)) (by kernel_rfl) (by (and_intros <;> try exact cl))) (endL_cons (B0 := AB.rw 31 2 l.length (exF l)) (by kernel_rfl) (of_eqP (C := 31 = exT ∧ Same 2 ∧ Same l.length ∧ (∀ (r : Nat), r < l.length → exF l r = exF l r)) (by kernel_rfl) (by (and_intros <;> try exact cl))) endL_nil)), endE_nil⟩⟩
def sameF : CF := oneX 15 fun args H => match args with
 | [.ow i n, .ow j m] => match H.get i, H.get j with
   | some (.rw T w n' f), some (.rw T2 w2 m' g) => cond (Nat.beq T exT && Nat.beq w 2 && Nat.beq T2 exT && Nat.beq w2 2 && !(Nat.beq i j))
       (some { μ := [i, j], args := [.ow 0 n, .ow 1 n], L := [.rw exT 2 n (exF (exsF n f)), .rw exT 2 n (exF (exsF n f))], res := .v (.bool true), L' := [.rw exT 2 n f, .rw exT 2 m g], E := [], C := n' = n ∧ m' = m ∧ m = n ∧ n ≤ 100000 ∧ (∀ r, r < n → f r = exF (exsF n f) r) ∧ ∀ r, r < n → g r = f r }) none
   | _, _ => none
 | _ => none
theorem sameF_ok : FOk Try.prog sameF := oneX_ok s0_ok tab Try.func15 (by kernel_rfl) fun {args H n e} hk hC => by
 split at hk
 · rename_i i n j m
   split at hk
   · rename_i T w n' f T2 w2 m' g hi hj
     cases hq : (Nat.beq T exT && Nat.beq w 2 && Nat.beq T2 exT && Nat.beq w2 2 && !(Nat.beq i j)) with
     | false => rw [hq] at hk; cases hk
     | true =>
       rw [hq] at hk
       cases hk
       simp only [Bool.and_eq_true, Bool.not_eq_true', beq_dec, decide_eq_true_eq, decide_eq_false_iff_not] at hq
       obtain ⟨⟨⟨⟨rfl, rfl⟩, rfl⟩, rfl⟩, hne⟩ := hq
       obtain ⟨rfl, rfl, rfl, c1, c2, c3⟩ := hC
       have hlen := exsF_len m' f
       have hT := same_to s0_ok (exsF m' f) (by rw [hlen]; exact c1)
       rw [hlen] at hT
       refine ⟨by simp [hne], ⟨⟨_, hi, rfl, rfl, rfl, rfl, c2⟩, ⟨_, hj, rfl, rfl, rfl, rfl, fun r hr => (c3 r hr).trans (c2 r hr)⟩, trivial⟩, rfl, ?_, ⟨List.nodup_nil, fun p hp => by cases hp⟩, ?_, by kernel_rfl, ?_⟩
       · simp only [renL, renA, inP1, inP2 hne]
         exact ⟨⟨rfl, rfl⟩, ⟨rfl, rfl⟩, trivial⟩
       · intro w0 ρ w vs hr0 hv q hq
         simp at hq
         rcases hq with rfl | rfl
         · exact .inr fun T l e => by rw [hi] at e; cases e
         · exact .inr fun T l e => by rw [hj] at e; cases e
       · refine To.mono hT fun y H' n' hq => ⟨hq.1, ?_, trivial⟩
         obtain ⟨⟨B0, a0, b0⟩, ⟨B1, a1, b1⟩, _⟩ := hq.2.1
         exact ⟨⟨B0, a0, leB_rwf b0 (fun r hr => (c2 r hr).symm)⟩, ⟨B1, a1, leB_rwf b1 (fun r hr => ((c3 r hr).trans (c2 r hr)).symm)⟩, trivial⟩
   · cases hk
 · cases hk
def spaceF : CF := orF leftF (orF longF (orF takenF (orF copyF (orF hasF sameF))))
def spaceG : CG := orG takeG (orG claimG (orG giveG newG))
theorem spaceF_ok : FOk Try.prog spaceF := orF_ok leftF_ok (orF_ok longF_ok (orF_ok takenF_ok (orF_ok copyF_ok (orF_ok hasF_ok sameF_ok))))
theorem spaceG_ok : GOk Try.prog spaceG := orG_ok takeG_ok (orG_ok claimG_ok (orG_ok giveG_ok newG_ok))
noncomputable abbrev SX : Sy := sym Try.prog spaceF spaceG
theorem sx_ok : SX.Ok Try.prog := sym_ok spaceF_ok spaceG_ok tab mix
theorem newD_ok {a b : Int} (h : ¬ newBad a b) : (newD a b).Ok := by
 unfold newBad at h
 exact ⟨by show 0 ≤ a; omega, by show a ≤ b; omega, by show b ≤ 4096; omega, trivial⟩
theorem put_raw {s : SpD} (h : s.Ok) {x : ExD} (hx : Free s x) : (⟨(s.put x).lo, (s.put x).hi, (s.put x).l.length, exF (s.put x).l⟩ : SpW).Ok := raw_ok (h.put hx).1
theorem took_ok {x : SpW} (h : x.Ok) (n : Int) (hn : (takeP x.toL n).isSome = true) : (⟨(x.toL.put ((takeP x.toL n).getD default)).lo, (x.toL.put ((takeP x.toL n).getD default)).hi, (x.toL.put ((takeP x.toL n).getD default)).l.length, exF (x.toL.put ((takeP x.toL n).getD default)).l⟩ : SpW).Ok := by
 obtain ⟨y, hy⟩ := Option.isSome_iff_exists.1 hn
 rw [hy, Option.getD_some]
 exact put_raw h.ok (take_free h.ok hy).1
set_option maxHeartbeats 4000000 in
set_option maxRecDepth 100000 in
theorem alive_to (hok : SX.Ok Try.prog) : To SX Try.prog 8 (startOf Try.prog 8 [] .e 0) (fun x _ _ => x = .v (.bool true)) := by
 have h0 : (⟨10, 20, 0, exF []⟩ : SpW).Ok := raw_ok (newD_ok (a := 10) (b := 20) (by decide))
 have h1 : (⟨((⟨10, 20, 0, exF []⟩ : SpW).toL.put ((takeP (⟨10, 20, 0, exF []⟩ : SpW).toL 3).getD default)).lo, ((⟨10, 20, 0, exF []⟩ : SpW).toL.put ((takeP (⟨10, 20, 0, exF []⟩ : SpW).toL 3).getD default)).hi, 1, exF ((⟨10, 20, 0, exF []⟩ : SpW).toL.put ((takeP (⟨10, 20, 0, exF []⟩ : SpW).toL 3).getD default)).l⟩ : SpW).Ok := took_ok h0 3 (by kernel_rfl)
 have h2 : (⟨((⟨((⟨10, 20, 0, exF []⟩ : SpW).toL.put ((takeP (⟨10, 20, 0, exF []⟩ : SpW).toL 3).getD default)).lo, ((⟨10, 20, 0, exF []⟩ : SpW).toL.put ((takeP (⟨10, 20, 0, exF []⟩ : SpW).toL 3).getD default)).hi, 1, exF ((⟨10, 20, 0, exF []⟩ : SpW).toL.put ((takeP (⟨10, 20, 0, exF []⟩ : SpW).toL 3).getD default)).l⟩ : SpW).toL.put ((takeP (⟨((⟨10, 20, 0, exF []⟩ : SpW).toL.put ((takeP (⟨10, 20, 0, exF []⟩ : SpW).toL 3).getD default)).lo, ((⟨10, 20, 0, exF []⟩ : SpW).toL.put ((takeP (⟨10, 20, 0, exF []⟩ : SpW).toL 3).getD default)).hi, 1, exF ((⟨10, 20, 0, exF []⟩ : SpW).toL.put ((takeP (⟨10, 20, 0, exF []⟩ : SpW).toL 3).getD default)).l⟩ : SpW).toL 4).getD default)).lo, ((⟨((⟨10, 20, 0, exF []⟩ : SpW).toL.put ((takeP (⟨10, 20, 0, exF []⟩ : SpW).toL 3).getD default)).lo, ((⟨10, 20, 0, exF []⟩ : SpW).toL.put ((takeP (⟨10, 20, 0, exF []⟩ : SpW).toL 3).getD default)).hi, 1, exF ((⟨10, 20, 0, exF []⟩ : SpW).toL.put ((takeP (⟨10, 20, 0, exF []⟩ : SpW).toL 3).getD default)).l⟩ : SpW).toL.put ((takeP (⟨((⟨10, 20, 0, exF []⟩ : SpW).toL.put ((takeP (⟨10, 20, 0, exF []⟩ : SpW).toL 3).getD default)).lo, ((⟨10, 20, 0, exF []⟩ : SpW).toL.put ((takeP (⟨10, 20, 0, exF []⟩ : SpW).toL 3).getD default)).hi, 1, exF ((⟨10, 20, 0, exF []⟩ : SpW).toL.put ((takeP (⟨10, 20, 0, exF []⟩ : SpW).toL 3).getD default)).l⟩ : SpW).toL 4).getD default)).hi, 1, exF ((⟨((⟨10, 20, 0, exF []⟩ : SpW).toL.put ((takeP (⟨10, 20, 0, exF []⟩ : SpW).toL 3).getD default)).lo, ((⟨10, 20, 0, exF []⟩ : SpW).toL.put ((takeP (⟨10, 20, 0, exF []⟩ : SpW).toL 3).getD default)).hi, 1, exF ((⟨10, 20, 0, exF []⟩ : SpW).toL.put ((takeP (⟨10, 20, 0, exF []⟩ : SpW).toL 3).getD default)).l⟩ : SpW).toL.put ((takeP (⟨((⟨10, 20, 0, exF []⟩ : SpW).toL.put ((takeP (⟨10, 20, 0, exF []⟩ : SpW).toL 3).getD default)).lo, ((⟨10, 20, 0, exF []⟩ : SpW).toL.put ((takeP (⟨10, 20, 0, exF []⟩ : SpW).toL 3).getD default)).hi, 1, exF ((⟨10, 20, 0, exF []⟩ : SpW).toL.put ((takeP (⟨10, 20, 0, exF []⟩ : SpW).toL 3).getD default)).l⟩ : SpW).toL 4).getD default)).l⟩ : SpW).Ok := took_ok h1 4 (by kernel_rfl)
 refine To.R (h := ?_)
 refine To.Y (!decide (newBad 10 20)) (hp := by kernel_rfl) (h := ?_)
 refine To.R (h := ?_)
 refine To.Y ((takeP (SpW.mk 10 20 0 (exF [])).toL 3).isSome) (C := Same 0 ∧ (SpW.mk 10 20 0 (exF [])).Ok ∧ True) (hp := by kernel_rfl) (h := ?_)
 refine To.R (h := ?_)
 refine To.Y (decide ((0 : Int) = 0)) (hp := by kernel_rfl) (h := ?_)
 refine To.R (h := ?_)
 refine To.Y (decide ([((takeP (SpW.mk 10 20 0 (exF [])).toL 3).getD default).at_, ((takeP (SpW.mk 10 20 0 (exF [])).toL 3).getD default).n] = [10, 3])) (hp := by kernel_rfl) (h := ?_)
 refine To.R (h := ?_)
 refine To.Y ((takeP (SpW.mk ((SpW.mk 10 20 0 (exF [])).toL.put ((takeP (SpW.mk 10 20 0 (exF [])).toL 3).getD default)).lo ((SpW.mk 10 20 0 (exF [])).toL.put ((takeP (SpW.mk 10 20 0 (exF [])).toL 3).getD default)).hi 1 (exF ((SpW.mk 10 20 0 (exF [])).toL.put ((takeP (SpW.mk 10 20 0 (exF [])).toL 3).getD default)).l)).toL 4).isSome) (C := Same 1 ∧ (SpW.mk ((SpW.mk 10 20 0 (exF [])).toL.put ((takeP (SpW.mk 10 20 0 (exF [])).toL 3).getD default)).lo ((SpW.mk 10 20 0 (exF [])).toL.put ((takeP (SpW.mk 10 20 0 (exF [])).toL 3).getD default)).hi 1 (exF ((SpW.mk 10 20 0 (exF [])).toL.put ((takeP (SpW.mk 10 20 0 (exF [])).toL 3).getD default)).l)).Ok ∧ True) (hp := by kernel_rfl) (h := ?_)
 refine To.R (h := ?_)
 refine To.Y (decide ((0 : Int) = 0)) (hp := by kernel_rfl) (h := ?_)
 refine To.R (h := ?_)
 refine To.Y (decide ([((takeP (SpW.mk ((SpW.mk 10 20 0 (exF [])).toL.put ((takeP (SpW.mk 10 20 0 (exF [])).toL 3).getD default)).lo ((SpW.mk 10 20 0 (exF [])).toL.put ((takeP (SpW.mk 10 20 0 (exF [])).toL 3).getD default)).hi 1 (exF ((SpW.mk 10 20 0 (exF [])).toL.put ((takeP (SpW.mk 10 20 0 (exF [])).toL 3).getD default)).l)).toL 4).getD default).at_, ((takeP (SpW.mk ((SpW.mk 10 20 0 (exF [])).toL.put ((takeP (SpW.mk 10 20 0 (exF [])).toL 3).getD default)).lo ((SpW.mk 10 20 0 (exF [])).toL.put ((takeP (SpW.mk 10 20 0 (exF [])).toL 3).getD default)).hi 1 (exF ((SpW.mk 10 20 0 (exF [])).toL.put ((takeP (SpW.mk 10 20 0 (exF [])).toL 3).getD default)).l)).toL 4).getD default).n] = [13, 4])) (hp := by kernel_rfl) (h := ?_)
 refine To.R (h := ?_)
 refine To.N ((takeP (SpW.mk ((SpW.mk ((SpW.mk 10 20 0 (exF [])).toL.put ((takeP (SpW.mk 10 20 0 (exF [])).toL 3).getD default)).lo ((SpW.mk 10 20 0 (exF [])).toL.put ((takeP (SpW.mk 10 20 0 (exF [])).toL 3).getD default)).hi 1 (exF ((SpW.mk 10 20 0 (exF [])).toL.put ((takeP (SpW.mk 10 20 0 (exF [])).toL 3).getD default)).l)).toL.put ((takeP (SpW.mk ((SpW.mk 10 20 0 (exF [])).toL.put ((takeP (SpW.mk 10 20 0 (exF [])).toL 3).getD default)).lo ((SpW.mk 10 20 0 (exF [])).toL.put ((takeP (SpW.mk 10 20 0 (exF [])).toL 3).getD default)).hi 1 (exF ((SpW.mk 10 20 0 (exF [])).toL.put ((takeP (SpW.mk 10 20 0 (exF [])).toL 3).getD default)).l)).toL 4).getD default)).lo ((SpW.mk ((SpW.mk 10 20 0 (exF [])).toL.put ((takeP (SpW.mk 10 20 0 (exF [])).toL 3).getD default)).lo ((SpW.mk 10 20 0 (exF [])).toL.put ((takeP (SpW.mk 10 20 0 (exF [])).toL 3).getD default)).hi 1 (exF ((SpW.mk 10 20 0 (exF [])).toL.put ((takeP (SpW.mk 10 20 0 (exF [])).toL 3).getD default)).l)).toL.put ((takeP (SpW.mk ((SpW.mk 10 20 0 (exF [])).toL.put ((takeP (SpW.mk 10 20 0 (exF [])).toL 3).getD default)).lo ((SpW.mk 10 20 0 (exF [])).toL.put ((takeP (SpW.mk 10 20 0 (exF [])).toL 3).getD default)).hi 1 (exF ((SpW.mk 10 20 0 (exF [])).toL.put ((takeP (SpW.mk 10 20 0 (exF [])).toL 3).getD default)).l)).toL 4).getD default)).hi 1 (exF ((SpW.mk ((SpW.mk 10 20 0 (exF [])).toL.put ((takeP (SpW.mk 10 20 0 (exF [])).toL 3).getD default)).lo ((SpW.mk 10 20 0 (exF [])).toL.put ((takeP (SpW.mk 10 20 0 (exF [])).toL 3).getD default)).hi 1 (exF ((SpW.mk 10 20 0 (exF [])).toL.put ((takeP (SpW.mk 10 20 0 (exF [])).toL 3).getD default)).l)).toL.put ((takeP (SpW.mk ((SpW.mk 10 20 0 (exF [])).toL.put ((takeP (SpW.mk 10 20 0 (exF [])).toL 3).getD default)).lo ((SpW.mk 10 20 0 (exF [])).toL.put ((takeP (SpW.mk 10 20 0 (exF [])).toL 3).getD default)).hi 1 (exF ((SpW.mk 10 20 0 (exF [])).toL.put ((takeP (SpW.mk 10 20 0 (exF [])).toL 3).getD default)).l)).toL 4).getD default)).l)).toL 4).isSome) (C := Same 1 ∧ (SpW.mk ((SpW.mk ((SpW.mk 10 20 0 (exF [])).toL.put ((takeP (SpW.mk 10 20 0 (exF [])).toL 3).getD default)).lo ((SpW.mk 10 20 0 (exF [])).toL.put ((takeP (SpW.mk 10 20 0 (exF [])).toL 3).getD default)).hi 1 (exF ((SpW.mk 10 20 0 (exF [])).toL.put ((takeP (SpW.mk 10 20 0 (exF [])).toL 3).getD default)).l)).toL.put ((takeP (SpW.mk ((SpW.mk 10 20 0 (exF [])).toL.put ((takeP (SpW.mk 10 20 0 (exF [])).toL 3).getD default)).lo ((SpW.mk 10 20 0 (exF [])).toL.put ((takeP (SpW.mk 10 20 0 (exF [])).toL 3).getD default)).hi 1 (exF ((SpW.mk 10 20 0 (exF [])).toL.put ((takeP (SpW.mk 10 20 0 (exF [])).toL 3).getD default)).l)).toL 4).getD default)).lo ((SpW.mk ((SpW.mk 10 20 0 (exF [])).toL.put ((takeP (SpW.mk 10 20 0 (exF [])).toL 3).getD default)).lo ((SpW.mk 10 20 0 (exF [])).toL.put ((takeP (SpW.mk 10 20 0 (exF [])).toL 3).getD default)).hi 1 (exF ((SpW.mk 10 20 0 (exF [])).toL.put ((takeP (SpW.mk 10 20 0 (exF [])).toL 3).getD default)).l)).toL.put ((takeP (SpW.mk ((SpW.mk 10 20 0 (exF [])).toL.put ((takeP (SpW.mk 10 20 0 (exF [])).toL 3).getD default)).lo ((SpW.mk 10 20 0 (exF [])).toL.put ((takeP (SpW.mk 10 20 0 (exF [])).toL 3).getD default)).hi 1 (exF ((SpW.mk 10 20 0 (exF [])).toL.put ((takeP (SpW.mk 10 20 0 (exF [])).toL 3).getD default)).l)).toL 4).getD default)).hi 1 (exF ((SpW.mk ((SpW.mk 10 20 0 (exF [])).toL.put ((takeP (SpW.mk 10 20 0 (exF [])).toL 3).getD default)).lo ((SpW.mk 10 20 0 (exF [])).toL.put ((takeP (SpW.mk 10 20 0 (exF [])).toL 3).getD default)).hi 1 (exF ((SpW.mk 10 20 0 (exF [])).toL.put ((takeP (SpW.mk 10 20 0 (exF [])).toL 3).getD default)).l)).toL.put ((takeP (SpW.mk ((SpW.mk 10 20 0 (exF [])).toL.put ((takeP (SpW.mk 10 20 0 (exF [])).toL 3).getD default)).lo ((SpW.mk 10 20 0 (exF [])).toL.put ((takeP (SpW.mk 10 20 0 (exF [])).toL 3).getD default)).hi 1 (exF ((SpW.mk 10 20 0 (exF [])).toL.put ((takeP (SpW.mk 10 20 0 (exF [])).toL 3).getD default)).l)).toL 4).getD default)).l)).Ok ∧ True) (hp := by kernel_rfl) (h := ?_)
 refine To.R (h := ?_)
 refine To.Y (decide ((0 : Int) = 0)) (hp := by kernel_rfl) (h := ?_)
 refine To.R (h := ?_)
 refine To.Y (decide (takeE 4 = 41)) (hp := by kernel_rfl) (h := ?_)
 refine To.R (h := ?_)
 refine To.E (AV.v (Value.bool true)) (hq := ?_)
 rfl
structure OpE where
 kind : Int
 x : ExD
instance : Inhabited OpE := ⟨⟨0, default⟩⟩
abbrev opA (o : OpE) : List AV := [ivA o.kind, ivA o.x.at_, ivA o.x.n]
def opsEF (l : List OpE) : Nat → List AV := rowsOf opA l
def opQ : List AV → OpE
 | [a, b, c] => ⟨numF [a], ⟨numF [b], numF [c]⟩⟩
 | _ => default
def opsQ (n : Nat) (f : Nat → List AV) : List OpE := (List.range n).map fun r => opQ (f r)
theorem opsQ_len (n : Nat) (f : Nat → List AV) : (opsQ n f).length = n := by simp [opsQ]
theorem opsQ_ops (l : List OpE) : opsQ l.length (opsEF l) = l := by
 unfold opsQ
 apply List.ext_getElem?
 intro j
 by_cases h : j < l.length
 · rw [List.getElem?_map, List.getElem?_range h, List.getElem?_eq_getElem h, Option.map_some]
   show some (opQ (opA (l.getD j default))) = _
   rw [show opQ (opA (l.getD j default)) = l.getD j default from rfl, List.getD_eq_getElem?_getD, List.getElem?_eq_getElem h]; rfl
 · rw [List.getElem?_eq_none (by simp; omega), List.getElem?_eq_none (by omega)]
def opS (s : SpD) (o : OpE) : SpD :=
 if o.kind = 0 then (match takeP s o.x.n with | some y => s.put y | none => s) else if o.kind = 1 then (if claimB s o.x = true then s.put o.x else s) else if o.kind = 2 then (if giveB s o.x = true then s.give o.x else s) else s
theorem opS_ok {s : SpD} (h : s.Ok) (o : OpE) : (opS s o).Ok := by
 unfold opS
 split
 · split
   · rename_i y hy; exact (h.put (take_free h hy).1).1
   · exact h
 · split
   · split
     · rename_i hc; exact (h.put ((claim_iff h).1 hc)).1
     · exact h
   · split
     · split
       · rename_i hg; exact (h.give hg).1
       · exact h
     · exact h
def madeD (l : List OpE) : SpD := l.foldl opS (newD 5 305)
theorem madeD_at {l : List OpE} {k : Nat} (h : k < l.length) : madeD (l.take (k + 1)) = opS (madeD (l.take k)) (l.getD k default) := by
 unfold madeD
 rw [List.take_add_one, List.getElem?_eq_getElem h, List.foldl_append, List.getD_eq_getElem?_getD, List.getElem?_eq_getElem h]; rfl
theorem madeD_ok (l : List OpE) : (madeD l).Ok := by
 have key : ∀ (l : List OpE) (s : SpD), s.Ok → (l.foldl opS s).Ok := by
   intro l
   induction l with
   | nil => exact fun s h => h
   | cons o l ih => exact fun s h => ih _ (opS_ok h o)
 exact key l _ (newD_ok (by decide))
theorem madeD_lo (l : List OpE) : (madeD l).lo = 5 ∧ (madeD l).hi = 305 := by
 have st : ∀ (s : SpD) (o : OpE), (opS s o).lo = s.lo ∧ (opS s o).hi = s.hi := by
   intro s o
   unfold opS
   repeat' split
   all_goals exact ⟨rfl, rfl⟩
 have key : ∀ (l : List OpE) (s : SpD), (l.foldl opS s).lo = s.lo ∧ (l.foldl opS s).hi = s.hi := by
   intro l
   induction l with
   | nil => exact fun s => ⟨rfl, rfl⟩
   | cons o l ih => exact fun s => ⟨(ih _).1.trans (st s o).1, (ih _).2.trans (st s o).2⟩
 exact key l _
theorem claimed_ok {x : SpW} (h : x.Ok) {y : ExD} (hy : claimB x.toL y = true) : (⟨(x.toL.put y).lo, (x.toL.put y).hi, (x.toL.put y).l.length, exF (x.toL.put y).l⟩ : SpW).Ok := put_raw h.ok ((claim_iff h.ok).1 hy)
theorem gave_ok {x : SpW} (h : x.Ok) {y : ExD} (hy : giveB x.toL y = true) : (⟨(x.toL.give y).lo, (x.toL.give y).hi, (x.toL.give y).l.length, exF (x.toL.give y).l⟩ : SpW).Ok := raw_ok (h.ok.give hy).1
theorem raw_is (s : SpD) : (⟨s.lo, s.hi, s.l.length, exF s.l⟩ : SpW).toL = s := raw_toL s
structure MdP where
 i : Nat
 w : SpW
set_option maxHeartbeats 4000000 in
set_option maxRecDepth 100000 in
theorem made_to (hok : SX.Ok Try.prog) (l : List OpE) (hl : l.length ≤ 1000) : To SX Try.prog 9 (startOf Try.prog 9 [.im 3 l.length (opsEF l)] .e 0)
   (fun v H' _ => leA v (.ptr 0 0) ∧ endE [(0, .mem spT none [.v (.bool true), ivA (madeD l).lo, ivA (madeD l).hi, .ow 1 (madeD l).l.length]), (1, .rw exT 2 (madeD l).l.length (exF (madeD l).l))] H') := by
 refine To.R (h := ?_)
 refine To.Y (!decide (newBad 5 305)) (hp := by kernel_rfl) (h := ?_)
 refine To.R (h := ?_)
 refine To.Nn ((0 : Int) = 0) (h := ?_)
 refine To.R (k := 12) (h := ?_)
 refine To.L (L := [LN.old 0, LN.old 1]) (kp := [15, 14, 13, 3]) (C := (Same IntKind.i64 ∧ (0 : Int) = (↑(0 : Nat) : Int)) ∧ (Same spT ∧ (none : Option Nat) = none ∧ Same (AV.v (Value.bool true)) ∧ (Same IntKind.i64 ∧ Same (5 : Int)) ∧ (Same IntKind.i64 ∧ Same (305 : Int)) ∧ (Same 1 ∧ Same 0) ∧ True) ∧ Same exT ∧ Same 2 ∧ Same 0 ∧ (∀ (r : Nat), r < 0 → exF [] r = (SpW.mk 5 305 0 (exF [])).f r)) (st := fun (a : MdP) => (⟨(⟨9, 42, (slotT 42 [(3, AV.ptr 0 0), (13, AV.im 3 l.length (opsEF l)), (14, AV.sy (Value.int IntKind.i64 l.length)), (15, AV.sy (Value.int IntKind.i64 a.i))]), ARg.no, [(AItem.code (subC (bodyC Try.prog 9) [1, 1, 1, 0, 1, 0, 0])), (AItem.inLoop (subC (bodyC Try.prog 9) [1, 1, 1, 0, 1, 0, 0])), (AItem.inBlock 0), (AItem.code (subC (bodyC Try.prog 9) [1, 1, 1, 1]))], [], false, none, 0⟩ : AFr), [], memF [AB.mem 52 none [AV.v (Value.bool true), AV.sy (Value.int IntKind.i64 a.w.lo), AV.sy (Value.int IntKind.i64 a.w.hi), AV.ow 1 a.w.n], AB.rw 31 2 a.w.n a.w.f] 0 Tr.e, 2⟩ : ASt)) (hI := ?_) (h := ?_) (fun (p : MdP) => [(15, ivA (p.i : Int))]) (fun p => [(0, .mem spT none [.v (.bool true), ivA p.w.lo, ivA p.w.hi, .ow 1 p.w.n]), (1, .rw exT 2 p.w.n p.w.f)]) (fun p => p.i ≤ l.length ∧ p.w.Ok ∧ p.w.toL = madeD (l.take p.i)) (fun p => l.length - p.i) (MdP.mk 0 ⟨5, 305, 0, exF []⟩)
 · exact ⟨Nat.zero_le _, raw_ok (newD_ok (a := 5) (b := 305) (by decide)), rfl⟩
 intro p ⟨h1, hw, h3⟩ ih
 refine To.R (h := ?_)
 refine To.Bd ((p.i : Int) < l.length) (h := ?_) (g := ?_)
 · intro h4
   have hlt : p.i < l.length := by omega
   have hi1 : p.i + 1 ≤ l.length := by omega
   have hi2 : l.length - (p.i + 1) < l.length - p.i := by omega
   have hst := madeD_at hlt
   rw [← h3] at hst
   refine To.R (C := ((0 : Int) ≤ p.i ∧ (p.i : Int) < l.length) ∧ True) (h := ?_)
   refine To.Bd ((l.getD p.i default).kind = 0) (h := ?_) (g := ?_)
   · intro q0
     refine To.R (h := ?_)
     refine To.B ((takeP p.w.toL (l.getD p.i default).x.n).isSome) (C := Same p.w.n ∧ p.w.Ok ∧ True) (h := ?_) (g := ?_)
     · intro q3
       have hk : opS p.w.toL (l.getD p.i default) = p.w.toL.put ((takeP p.w.toL (l.getD p.i default).x.n).getD default) := by
         obtain ⟨y, hy⟩ := Option.isSome_iff_exists.1 q3
         unfold opS
         rw [if_pos q0, hy]; rfl
       rw [hk] at hst
       have ho := took_ok hw (l.getD p.i default).x.n q3
       refine To.R (k := 8) (C := fits IntKind.i64 (p.i + 1)) (h := ?_)
       refine To.K (L := [LN.old 0, LN.old 3]) (kp := [15, 14, 13, 3]) (ov := [(15, AV.sy (Value.int IntKind.i64 (MdP.mk (p.i + 1) (SpW.mk (p.w.toL.put ((takeP p.w.toL (l.getD p.i default).x.n).getD default)).lo (p.w.toL.put ((takeP p.w.toL (l.getD p.i default).x.n).getD default)).hi (p.w.toL.put ((takeP p.w.toL (l.getD p.i default).x.n).getD default)).l.length (exF (p.w.toL.put ((takeP p.w.toL (l.getD p.i default).x.n).getD default)).l))).i))]) (C := Same IntKind.i64 ∧ (↑p.i : Int) + 1 = (↑(p.i + 1) : Int)) (ih (MdP.mk (p.i + 1) ⟨(p.w.toL.put ((takeP p.w.toL (l.getD p.i default).x.n).getD default)).lo, (p.w.toL.put ((takeP p.w.toL (l.getD p.i default).x.n).getD default)).hi, (p.w.toL.put ((takeP p.w.toL (l.getD p.i default).x.n).getD default)).l.length, exF (p.w.toL.put ((takeP p.w.toL (l.getD p.i default).x.n).getD default)).l⟩) ⟨hi1, ho, (raw_is _).trans hst.symm⟩ hi2)
     · intro q3
       have hk : opS p.w.toL (l.getD p.i default) = p.w.toL := by
         have q3' : takeP p.w.toL (l.getD p.i default).x.n = none := by simpa using q3
         unfold opS
         rw [if_pos q0, q3']
       rw [hk] at hst
       refine To.R (k := 8) (C := fits IntKind.i64 (p.i + 1)) (h := ?_)
       refine To.K (L := [LN.old 0, LN.old 1]) (kp := [15, 14, 13, 3]) (ov := [(15, AV.sy (Value.int IntKind.i64 (MdP.mk (p.i + 1) p.w).i))]) (C := Same IntKind.i64 ∧ (↑p.i : Int) + 1 = (↑(p.i + 1) : Int)) (ih (MdP.mk (p.i + 1) p.w) ⟨hi1, hw, hst.symm⟩ hi2)
   intro q0
   refine To.R (h := ?_)
   refine To.Bd ((l.getD p.i default).kind = 1) (h := ?_) (g := ?_)
   · intro q1
     refine To.R (h := ?_)
     refine To.B (claimB p.w.toL (l.getD p.i default).x) (C := Same p.w.n ∧ p.w.Ok ∧ True) (h := ?_) (g := ?_)
     · intro q3
       have hk : opS p.w.toL (l.getD p.i default) = p.w.toL.put (l.getD p.i default).x := by unfold opS; rw [if_neg q0, if_pos q1, if_pos q3]
       rw [hk] at hst
       have ho := claimed_ok hw q3
       refine To.R (k := 8) (C := fits IntKind.i64 (p.i + 1)) (h := ?_)
       refine To.K (L := [LN.old 0, LN.old 3]) (kp := [15, 14, 13, 3]) (ov := [(15, AV.sy (Value.int IntKind.i64 (MdP.mk (p.i + 1) (SpW.mk (p.w.toL.put (l.getD p.i default).x).lo (p.w.toL.put (l.getD p.i default).x).hi (p.w.toL.put (l.getD p.i default).x).l.length (exF (p.w.toL.put (l.getD p.i default).x).l))).i))]) (C := Same IntKind.i64 ∧ (↑p.i : Int) + 1 = (↑(p.i + 1) : Int)) (ih (MdP.mk (p.i + 1) ⟨(p.w.toL.put (l.getD p.i default).x).lo, (p.w.toL.put (l.getD p.i default).x).hi, (p.w.toL.put (l.getD p.i default).x).l.length, exF (p.w.toL.put (l.getD p.i default).x).l⟩) ⟨hi1, ho, (raw_is _).trans hst.symm⟩ hi2)
     · intro q3
       have hk : opS p.w.toL (l.getD p.i default) = p.w.toL := by unfold opS; rw [if_neg q0, if_pos q1, if_neg (by rw [q3]; nofun)]
       rw [hk] at hst
       refine To.R (k := 8) (C := fits IntKind.i64 (p.i + 1)) (h := ?_)
       refine To.K (L := [LN.old 0, LN.old 1]) (kp := [15, 14, 13, 3]) (ov := [(15, AV.sy (Value.int IntKind.i64 (MdP.mk (p.i + 1) p.w).i))]) (C := Same IntKind.i64 ∧ (↑p.i : Int) + 1 = (↑(p.i + 1) : Int)) (ih (MdP.mk (p.i + 1) p.w) ⟨hi1, hw, hst.symm⟩ hi2)
   intro q1
   refine To.R (h := ?_)
   refine To.Bd ((l.getD p.i default).kind = 2) (h := ?_) (g := ?_)
   · intro q2
     refine To.R (h := ?_)
     refine To.B (giveB p.w.toL (l.getD p.i default).x) (C := Same p.w.n ∧ p.w.Ok ∧ True) (h := ?_) (g := ?_)
     · intro q3
       have hk : opS p.w.toL (l.getD p.i default) = p.w.toL.give (l.getD p.i default).x := by unfold opS; rw [if_neg q0, if_neg q1, if_pos q2, if_pos q3]
       rw [hk] at hst
       have ho := gave_ok hw q3
       refine To.R (k := 8) (C := fits IntKind.i64 (p.i + 1)) (h := ?_)
       refine To.K (L := [LN.old 0, LN.old 3]) (kp := [15, 14, 13, 3]) (ov := [(15, AV.sy (Value.int IntKind.i64 (MdP.mk (p.i + 1) (SpW.mk (p.w.toL.give (l.getD p.i default).x).lo (p.w.toL.give (l.getD p.i default).x).hi (p.w.toL.give (l.getD p.i default).x).l.length (exF (p.w.toL.give (l.getD p.i default).x).l))).i))]) (C := Same IntKind.i64 ∧ (↑p.i : Int) + 1 = (↑(p.i + 1) : Int)) (ih (MdP.mk (p.i + 1) ⟨(p.w.toL.give (l.getD p.i default).x).lo, (p.w.toL.give (l.getD p.i default).x).hi, (p.w.toL.give (l.getD p.i default).x).l.length, exF (p.w.toL.give (l.getD p.i default).x).l⟩) ⟨hi1, ho, (raw_is _).trans hst.symm⟩ hi2)
     · intro q3
       have hk : opS p.w.toL (l.getD p.i default) = p.w.toL := by unfold opS; rw [if_neg q0, if_neg q1, if_pos q2, if_neg (by rw [q3]; nofun)]
       rw [hk] at hst
       refine To.R (k := 8) (C := fits IntKind.i64 (p.i + 1)) (h := ?_)
       refine To.K (L := [LN.old 0, LN.old 1]) (kp := [15, 14, 13, 3]) (ov := [(15, AV.sy (Value.int IntKind.i64 (MdP.mk (p.i + 1) p.w).i))]) (C := Same IntKind.i64 ∧ (↑p.i : Int) + 1 = (↑(p.i + 1) : Int)) (ih (MdP.mk (p.i + 1) p.w) ⟨hi1, hw, hst.symm⟩ hi2)
   · intro q2
     have hk : opS p.w.toL (l.getD p.i default) = p.w.toL := by unfold opS; rw [if_neg q0, if_neg q1, if_neg q2]
     rw [hk] at hst
     refine To.R (k := 11) (C := fits IntKind.i64 (p.i + 1)) (h := ?_)
     refine To.K (L := [LN.old 0, LN.old 1]) (kp := [15, 14, 13, 3]) (ov := [(15, AV.sy (Value.int IntKind.i64 (MdP.mk (p.i + 1) p.w).i))]) (C := Same IntKind.i64 ∧ (↑p.i : Int) + 1 = (↑(p.i + 1) : Int)) (ih (MdP.mk (p.i + 1) p.w) ⟨hi1, hw, hst.symm⟩ hi2)
 · intro h4
   have hk2 : p.i = l.length := by omega
   rw [hk2, List.take_length] at h3
   have g1 : p.w.lo = (madeD l).lo := by rw [← h3]; rfl
   have g2 : p.w.hi = (madeD l).hi := by rw [← h3]; rfl
   have g3 : p.w.n = (madeD l).l.length := by rw [← h3]; exact (exsF_len _ _).symm
   have g4 : ∀ r, r < p.w.n → p.w.f r = exF (madeD l).l r := by rw [← h3]; exact hw.f
   refine To.R (h := ?_)
   refine To.E (AV.ptr 0 0) (hq := ?_)
   refine ⟨(of_eqP (C := Same (AV.ptr 0 0)) (by kernel_rfl) (by (and_intros <;> try exact cl))), (endE_cons (B0 := AB.mem 52 none [AV.v (Value.bool true), AV.sy (Value.int IntKind.i64 p.w.lo), AV.sy (Value.int IntKind.i64 p.w.hi), AV.ow 1 p.w.n]) (by kernel_rfl) (of_eqP (C := 52 = spT ∧ (none : Option Nat) = none ∧ Same (AV.v (Value.bool true)) ∧ (Same IntKind.i64 ∧ p.w.lo = (madeD l).lo) ∧ (Same IntKind.i64 ∧ p.w.hi = (madeD l).hi) ∧ (Same 1 ∧ p.w.n = (madeD l).l.length) ∧ True) (by kernel_rfl) (by (and_intros <;> try exact cl))) (endE_cons (B0 := AB.rw 31 2 p.w.n p.w.f) (by kernel_rfl) (of_eqP (C := 31 = exT ∧ Same 2 ∧ p.w.n = (madeD l).l.length ∧ (∀ (r : Nat), r < p.w.n → p.w.f r = exF (madeD l).l r)) (by kernel_rfl) (by (and_intros <;> try exact cl))) endE_nil))⟩
def madeE (l : List OpE) : List (Nat × AB) := [(0, .mem spT none [.v (.bool true), ivA (madeD l).lo, ivA (madeD l).hi, .ow 1 (madeD l).l.length]), (1, .rw exT 2 (madeD l).l.length (exF (madeD l).l))]
def madeF : CF := oneX 9 fun args _ => match args with
 | [.im 3 n f] => some { μ := [], args := [.im 3 n (opsEF (opsQ n f))], L := [], res := .ptr 0 0, L' := [], E := madeE (opsQ n f), C := n ≤ 1000 ∧ ∀ r, r < n → f r = opsEF (opsQ n f) r }
 | [.v (.slice none 0 0)] => some { μ := [], args := [.im 3 0 (opsEF [])], L := [], res := .ptr 0 0, L' := [], E := madeE [], C := True }
 | _ => none
theorem madeF_ok : FOk Try.prog madeF := oneX_ok sx_ok tab Try.func9 (by kernel_rfl) fun {args H n e} hk hC => by
 split at hk
 · rename_i m f
   cases hk
   obtain ⟨c1, c2⟩ := hC
   have hT := made_to sx_ok (opsQ m f) (by rw [opsQ_len]; exact c1)
   rw [opsQ_len] at hT
   refine ⟨List.nodup_nil, trivial, rfl, ⟨?_, trivial⟩, ⟨by simp [madeE], fun p hp => Nat.zero_le _⟩, fun _ _ i hi => (nomatch hi), by kernel_rfl, To.mono hT fun v H' _ h => ⟨h.1, trivial, h.2⟩⟩
   simp only [renA]
   exact ⟨rfl, rfl, c2⟩
 · cases hk
   have hT := made_to sx_ok [] (by simp)
   refine ⟨List.nodup_nil, trivial, rfl, ⟨?_, trivial⟩, ⟨by simp [madeE], fun p hp => Nat.zero_le _⟩, fun _ _ i hi => (nomatch hi), by kernel_rfl, To.mono hT fun v H' _ h => ⟨h.1, trivial, h.2⟩⟩
   simp only [renA]
   unfold leA; rfl
 · cases hk
def aliveF : CF := trueF 8
theorem aliveF_ok : FOk Try.prog aliveF := trueF_ok tab Try.func8 (by kernel_rfl) fun w => (law_calls sx_ok (by kernel_rfl) (alive_to sx_ok) (w := w) .nil)
noncomputable abbrev SL : Sy := sym Try.prog (orF aliveF (orF madeF spaceF)) spaceG
theorem sl_ok : SL.Ok Try.prog := sym_ok (orF_ok aliveF_ok (orF_ok madeF_ok spaceF_ok)) spaceG_ok tab mix
abbrev iv' (z : Int) : Value := .int .i64 z
theorem int_openE {w : World} {cs : List Value} (h : Rd Try.prog w 3 cs) : ∃ z, cs = [iv' z] ∧ fits .i64 z := by
 obtain ⟨n, h1, h2⟩ := h.int Try.underlying3
 refine ⟨n, h1, ?_⟩
 simp only [Lit.wf, Bool.and_eq_true, decide_eq_true_eq] at h2
 exact ⟨by omega, by omega⟩
set_option maxRecDepth 100000 in
theorem ext_open {w : World} {cs : List Value} (h : Rd Try.prog w 31 cs) : ∃ x : ExD, VRs0 (imOf w) (exA x) cs ∧ fits .i64 x.at_ ∧ fits .i64 x.n := by
 obtain ⟨hl, hf⟩ := h.struct (l := [(0, 3), (1, 3)]) (by kernel_rfl)
 have hl' : cs.length = 2 := hl.trans (by kernel_rfl)
 match cs, hl' with
 | [x, y], _ =>
   have c1 : Try.prog.cellsOf 3 = 1 := by kernel_rfl
   have h0 := hf 0 0 3 rfl
   have h1 := hf 1 1 3 rfl
   rw [c1] at h0 h1
   obtain ⟨a, e0, w0⟩ := int_openE h0
   obtain ⟨b, e1, w1⟩ := int_openE h1
   simp at e0 e1
   subst e0 e1
   exact ⟨⟨a, b⟩, .cons (.sy _) (.cons (.sy _) .nil), w0, w1⟩
set_option maxRecDepth 100000 in
theorem opE_open {w : World} {cs : List Value} (h : Rd Try.prog w 33 cs) : ∃ o : OpE, VRs0 (imOf w) (opA o) cs ∧ (fits .i64 o.kind ∧ fits .i64 o.x.at_ ∧ fits .i64 o.x.n) := by
 obtain ⟨hl, hf⟩ := h.struct (l := [(0, 3), (1, 31)]) (by kernel_rfl)
 have hl' : cs.length = 3 := hl.trans (by kernel_rfl)
 match cs, hl' with
 | [x, y, z], _ =>
   have c1 : Try.prog.cellsOf 3 = 1 := by kernel_rfl
   have c2 : Try.prog.cellsOf 31 = 2 := by kernel_rfl
   have h0 := hf 0 0 3 rfl
   have h1 := hf 1 1 31 rfl
   rw [c1] at h0
   rw [c2] at h1
   obtain ⟨a, e0, w0⟩ := int_openE h0
   obtain ⟨b, v1, w1, w2⟩ := ext_open h1
   simp at e0
   subst e0
   exact ⟨⟨a, b⟩, .cons (.sy _) v1, w0, w1, w2⟩
theorem opsE_open {w : World} {a : Option Addr} {n c : Nat} (h : Rd Try.prog w 22 [.slice a n c]) : ∃ l : List OpE, l.length = n ∧ VR0 (imOf w) (.im 3 l.length (opsEF l)) (.slice a n c) ∧ ∀ o ∈ l, fits .i64 o.kind ∧ fits .i64 o.x.at_ ∧ fits .i64 o.x.n :=
 rows_open (k := 3) (by decide) opA (fun o => fits .i64 o.kind ∧ fits .i64 o.x.at_ ∧ fits .i64 o.x.n) Try.underlying22 (by kernel_rfl) (fun {cs} h => opE_open h) h
theorem sum_bd {hi : Int} : ∀ {l : List ExD} {c : Int}, Can hi c l → c ≤ hi → 0 ≤ sumN l ∧ sumN l ≤ hi - c
 | [], c, _, h => ⟨Int.le_refl _, by show (0 : Int) ≤ _; omega⟩
 | x :: l, c, hc, h => by
   have h1 := Can.all hc x (by simp)
   have h2 := Can.mono hc.2.2.2 (show x.at_ + x.n ≤ x.at_ + x.n + 1 by omega)
   have h3 := sum_bd h2 h1.2.2
   show 0 ≤ x.n + sumN l ∧ x.n + sumN l ≤ hi - c
   omega
theorem left_bd {s : SpD} (h : s.Ok) : 0 ≤ leftD s ∧ leftD s ≤ 4096 := by
 have h1 := sum_bd h.can h.le
 have h2 := left_is h
 have h3 := h.lo
 have h4 := h.hi
 omega
structure OwnL (s : SpD) (l : List ExD) : Prop where
 pos : ∀ x ∈ l, 1 ≤ x.n ∧ s.lo ≤ x.at_ ∧ x.at_ + x.n ≤ s.hi
 off : ∀ x ∈ l, ∀ z, inE x z = true → hasL s.l z = false
 two : ∀ i j, i < l.length → j < l.length → i ≠ j → ∀ z, inE (l.getD i default) z = true → inE (l.getD j default) z = false
theorem ownL_nil (s : SpD) : OwnL s [] := ⟨fun x hx => (nomatch hx), fun x hx => (nomatch hx), fun i j h => (nomatch h)⟩
theorem hasL_get {l : List ExD} {z : Int} : hasL l z = true ↔ ∃ i, i < l.length ∧ inE (l.getD i default) z = true := by
 constructor
 · intro h
   obtain ⟨x, hx, h1, h2⟩ := hasL_iff.1 h
   obtain ⟨i, hi, e⟩ := List.getElem_of_mem hx
   exact ⟨i, hi, by rw [List.getD_eq_getElem?_getD, List.getElem?_eq_getElem hi, Option.getD_some, e]; exact inE_yes h1 h2⟩
 · rintro ⟨i, hi, h⟩
   exact hasL_iff.2 ⟨_, mem_getD hi, (inE_iff.1 h).1, (inE_iff.1 h).2⟩
theorem OwnL.push {s t : SpD} {l : List ExD} {x : ExD} (h : OwnL s l) (hlo : t.lo = s.lo) (hhi : t.hi = s.hi) (ht : ∀ z, hasL t.l z = (hasL s.l z || hasL l z)) (hx : Free t x) : OwnL s (l ++ [x]) := by
 have hno : ∀ z, inE x z = true → hasL s.l z = false ∧ hasL l z = false := fun z hz => by
   obtain ⟨h1, h2⟩ := inE_iff.1 hz
   have := has_off hx.off h1 h2
   rw [ht] at this
   simpa using this
 have g1 : ∀ i, i < l.length → (l ++ [x]).getD i default = l.getD i default := fun i hi => by simp [List.getD_eq_getElem?_getD, List.getElem?_append_left hi]
 have g2 : (l ++ [x]).getD l.length default = x := by simp [List.getD_eq_getElem?_getD]
 refine ⟨fun y hy => ?_, fun y hy z hz => ?_, fun i j hi hj hij z hz => ?_⟩
 · rcases List.mem_append.1 hy with hy | hy
   · exact h.pos y hy
   · simp at hy; subst hy; exact ⟨hx.pos, by rw [← hlo]; exact hx.lo, by rw [← hhi]; exact hx.hi⟩
 · rcases List.mem_append.1 hy with hy | hy
   · exact h.off y hy z hz
   · simp at hy; subst hy; exact (hno z hz).1
 · simp only [List.length_append, List.length_cons, List.length_nil] at hi hj
   rcases Nat.lt_or_ge i l.length with hi' | hi'
   · rw [g1 i hi'] at hz
     rcases Nat.lt_or_ge j l.length with hj' | hj'
     · rw [g1 j hj']; exact h.two i j hi' hj' hij z hz
     · have e : j = l.length := by omega
       subst e
       rw [g2]
       cases q : inE x z with
       | false => rfl
       | true =>
         have h1 := (hno z q).2
         have h2 : hasL l z = true := hasL_get.2 ⟨i, hi', hz⟩
         rw [h1] at h2; cases h2
   · have e : i = l.length := by omega
     subst e
     rw [g2] at hz
     have hj' : j < l.length := by omega
     rw [g1 j hj']
     cases q : inE (l.getD j default) z with
     | false => rfl
     | true =>
       have h1 := (hno z hz).2
       have h2 : hasL l z = true := hasL_get.2 ⟨j, hj', q⟩
       rw [h1] at h2; cases h2
def restL (turn : Bool) (l : List ExD) (i : Nat) : List ExD := match turn with
 | false => l.drop i
 | true => l.take (l.length - i)
def restK (turn : Bool) (l : List ExD) (i : Nat) : Nat := match turn with
 | false => i
 | true => l.length - 1 - i
theorem rest_get {turn : Bool} {l : List ExD} {i : Nat} (hi : i < l.length) {z : Int} : hasL (restL turn l i) z = (inE (l.getD (restK turn l i) default) z || hasL (restL turn l (i + 1)) z) := by
 cases turn with
 | false => show hasL (l.drop i) z = _; rw [drop_at hi]; rfl
 | true =>
   show hasL (l.take (l.length - i)) z = (inE (l.getD (l.length - 1 - i) default) z || hasL (l.take (l.length - (i + 1))) z)
   have e : l.length - i = (l.length - 1 - i) + 1 := by omega
   have e2 : l.length - (i + 1) = l.length - 1 - i := by omega
   have hk : l.length - 1 - i < l.length := by omega
   rw [e, e2, List.take_add_one, List.getElem?_eq_getElem hk, hasL_app, Bool.or_comm, List.getD_eq_getElem?_getD, List.getElem?_eq_getElem hk]
   show ((inE _ z || false) || _) = _
   rw [Bool.or_false]; rfl
theorem rest_no {s : SpD} {turn : Bool} {l : List ExD} (h : OwnL s l) {i : Nat} (hi : i < l.length) {z : Int} (hz : inE (l.getD (restK turn l i) default) z = true) : hasL (restL turn l (i + 1)) z = false := by
 cases q : hasL (restL turn l (i + 1)) z with
 | false => rfl
 | true =>
   exfalso
   cases turn with
   | false =>
     obtain ⟨j, hj, g⟩ := hasL_get.1 q
     have hj' : j < l.length - (i + 1) := by simpa [restL] using hj
     have e : (restL false l (i + 1)).getD j default = l.getD (i + 1 + j) default := by simp [restL, List.getD_eq_getElem?_getD]
     rw [e] at g
     have := h.two i (i + 1 + j) hi (by omega) (by omega) z hz
     rw [this] at g; cases g
   | true =>
     obtain ⟨j, hj, g⟩ := hasL_get.1 q
     have hj' : j < l.length - (i + 1) := by
       have : j < min (l.length - (i + 1)) l.length := by simpa [restL] using hj
       omega
     have e : (restL true l (i + 1)).getD j default = l.getD j default := by
       have hjl : j < l.length := by omega
       simp [restL, List.getD_eq_getElem?_getD, List.getElem?_take, hj', hjl]
     rw [e] at g
     have := h.two (l.length - 1 - i) j (by omega) (by omega) (by omega) z hz
     rw [this] at g; cases g
theorem own_give {s t : SpD} {l : List ExD} (h : OwnL s l) (ht : t.Ok) (hlo : t.lo = s.lo) (hhi : t.hi = s.hi) {turn : Bool} {i : Nat} (hi : i < l.length) (hh : ∀ z, hasL t.l z = (hasL s.l z || hasL (restL turn l i) z)) :
   giveB t (l.getD (restK turn l i) default) = true ∧ ∀ z, hasL (t.give (l.getD (restK turn l i) default)).l z = (hasL s.l z || hasL (restL turn l (i + 1)) z) := by
 have hk : restK turn l i < l.length := by cases turn <;> simp only [restK] <;> omega
 have hp := h.pos _ (mem_getD hk)
 have hg : giveB t (l.getD (restK turn l i) default) = true := by
   refine (give_iff ht).2 ⟨mayD_iff.2 ⟨hp.1, by rw [hlo]; exact hp.2.1, by rw [hhi]; omega, by rw [hhi]; omega⟩, fun z h1 h2 => ?_⟩
   rw [hh z, rest_get hi, inE_yes h1 h2]; simp
 refine ⟨hg, fun z => ?_⟩
 rw [(ht.give hg).2.1 z, hh z, rest_get hi]
 cases q : inE (l.getD (restK turn l i) default) z with
 | false => simp
 | true =>
   rw [h.off _ (mem_getD hk) z q, rest_no h hi q]; rfl
theorem rest_end (turn : Bool) (l : List ExD) : restL turn l l.length = [] := by cases turn <;> simp [restL]
theorem rest_all (turn : Bool) (l : List ExD) : restL turn l 0 = l := by cases turn <;> simp [restL]
theorem put_left {s : SpD} (h : s.Ok) {x : ExD} (hx : Free s x) : leftD (s.put x) = leftD s - x.n := by
 rw [left_is h, left_is (h.put hx).1, (h.put hx).2.2]
 show s.hi - s.lo - _ = _
 omega
abbrev szA (z : Nat) : List AV := [.sy (.int .u8 (z : Int))]
def szF (l : List Nat) : Nat → List AV := rowsOf szA l
theorem size_open {w : World} {cs : List Value} (h : Rd Try.prog w 5 cs) : ∃ z : Nat, VRs0 (imOf w) (szA z) cs ∧ z < 256 := by
 obtain ⟨n, h1, h2⟩ := h.int Try.underlying5
 simp only [Lit.wf, Bool.and_eq_true, decide_eq_true_eq] at h2
 have h3 : (0 : Int) ≤ n := by have := h2.1; revert this; exact id
 have h4 : n ≤ 255 := by have := h2.2; revert this; exact id
 refine ⟨n.toNat, ?_, by omega⟩
 subst h1
 have e : ((n.toNat : Nat) : Int) = n := by omega
 exact .cons (by rw [e]; exact .sy _) .nil
theorem sizes_open {w : World} {a : Option Addr} {n c : Nat} (h : Rd Try.prog w 53 [.slice a n c]) : ∃ l : List Nat, l.length = n ∧ VR0 (imOf w) (.im 1 l.length (szF l)) (.slice a n c) ∧ ∀ o ∈ l, o < 256 :=
 rows_open (k := 1) (by decide) szA (fun o => o < 256) Try.underlying53 (by kernel_rfl) (fun {cs} h => size_open h) h
structure GvP where
 k : Nat
 w : SpW
structure BaP where
 k : Nat
 w : SpW
 own : List ExD
set_option maxHeartbeats 4000000 in
set_option maxRecDepth 100000 in
theorem back_to (hok : SL.Ok Try.prog) (l : List OpE) (b : List Nat) (hb : ∀ o ∈ b, o < 256) (turn : Bool) :
   To SL Try.prog 7 (startOf Try.prog 7 [.im 3 l.length (opsEF l), .im 1 b.length (szF b), .sy (.bool turn)] .e 0) (fun x _ _ => x = .v (.bool true)) := by
 have e1 := opsQ_ops l
 have e2 : ∀ r, r < l.length → opsEF l r = opsEF (opsQ l.length (opsEF l)) r := by rw [e1]; exact fun _ _ => rfl
 refine To.R (C := True ∧ True) (h := ?_)
 refine To.Bd ((150 : Int) < l.length) (h := ?_) (g := ?_)
 · intro h1
   refine To.R (h := ?_)
   refine To.E (AV.v (Value.bool true)) (hq := ?_)
   rfl
 intro h1
 refine To.R (h := ?_)
 refine To.Bd ((30 : Int) < b.length) (h := ?_) (g := ?_)
 · intro h2
   refine To.R (h := ?_)
   refine To.E (AV.v (Value.bool true)) (hq := ?_)
   rfl
 intro h2
 have h3 : l.length ≤ 1000 := by omega
 obtain ⟨s, hsd⟩ : ∃ s, s = madeD (opsQ l.length (opsEF l)) := ⟨_, rfl⟩
 have hs : s.Ok := by rw [hsd]; exact madeD_ok _
 have hlo : s.lo = 5 ∧ s.hi = 305 := by rw [hsd]; exact madeD_lo _
 have hmk : (⟨(madeD (opsQ l.length (opsEF l))).lo, (madeD (opsQ l.length (opsEF l))).hi, (madeD (opsQ l.length (opsEF l))).l.length, exF (madeD (opsQ l.length (opsEF l))).l⟩ : SpW).Ok := raw_ok (madeD_ok _)
 have hmw : (⟨(madeD (opsQ l.length (opsEF l))).lo, (madeD (opsQ l.length (opsEF l))).hi, (madeD (opsQ l.length (opsEF l))).l.length, exF (madeD (opsQ l.length (opsEF l))).l⟩ : SpW).toL = s := (raw_is _).trans hsd.symm
 refine To.R (k := 44) (C := (l.length ≤ 1000 ∧ (∀ (r : Nat), r < l.length → opsEF l r = opsEF (opsQ l.length (opsEF l)) r)) ∧ (Same (madeD (opsQ l.length (opsEF l))).l.length ∧ (SpW.mk (madeD (opsQ l.length (opsEF l))).lo (madeD (opsQ l.length (opsEF l))).hi (madeD (opsQ l.length (opsEF l))).l.length (exF (madeD (opsQ l.length (opsEF l))).l)).Ok ∧ True) ∧ (Same (madeD (opsQ l.length (opsEF l))).l.length ∧ (SpW.mk (madeD (opsQ l.length (opsEF l))).lo (madeD (opsQ l.length (opsEF l))).hi (madeD (opsQ l.length (opsEF l))).l.length (exF (madeD (opsQ l.length (opsEF l))).l)).Ok ∧ True) ∧ True) (h := ?_)
 refine To.L (L := [LN.old 0, LN.old 1, LN.old 2, LN.new (AB.rw 31 2 0 (exF (BaP.mk 0 (SpW.mk s.lo s.hi s.l.length (exF s.l)) []).own))]) (kp := [45, 44, 11, 10, 9, 8, 7, 2, 1]) (C := (Same IntKind.i64 ∧ (0 : Int) = (↑(0 : Nat) : Int)) ∧ Same 0 ∧ (Same IntKind.i64 ∧ leftD (SpW.mk (madeD (opsQ l.length (opsEF l))).lo (madeD (opsQ l.length (opsEF l))).hi (madeD (opsQ l.length (opsEF l))).l.length (exF (madeD (opsQ l.length (opsEF l))).l)).toL = leftD (SpW.mk s.lo s.hi s.l.length (exF s.l)).toL) ∧ (Same 2 ∧ (SpW.mk (madeD (opsQ l.length (opsEF l))).lo (madeD (opsQ l.length (opsEF l))).hi (madeD (opsQ l.length (opsEF l))).l.length (exF (madeD (opsQ l.length (opsEF l))).l)).toL.l.length = s.l.length) ∧ (Same spT ∧ (none : Option Nat) = none ∧ Same (AV.v (Value.bool true)) ∧ (Same IntKind.i64 ∧ (madeD (opsQ l.length (opsEF l))).lo = s.lo) ∧ (Same IntKind.i64 ∧ (madeD (opsQ l.length (opsEF l))).hi = s.hi) ∧ (Same 1 ∧ (madeD (opsQ l.length (opsEF l))).l.length = s.l.length) ∧ True) ∧ (Same exT ∧ Same 2 ∧ (madeD (opsQ l.length (opsEF l))).l.length = s.l.length ∧ (∀ (r : Nat), r < (madeD (opsQ l.length (opsEF l))).l.length → (SpW.mk (madeD (opsQ l.length (opsEF l))).lo (madeD (opsQ l.length (opsEF l))).hi (madeD (opsQ l.length (opsEF l))).l.length (exF (madeD (opsQ l.length (opsEF l))).l)).f r = (SpW.mk s.lo s.hi s.l.length (exF s.l)).f r)) ∧ (Same exT ∧ Same 2 ∧ (SpW.mk (madeD (opsQ l.length (opsEF l))).lo (madeD (opsQ l.length (opsEF l))).hi (madeD (opsQ l.length (opsEF l))).l.length (exF (madeD (opsQ l.length (opsEF l))).l)).toL.l.length = s.l.length ∧ (∀ (r : Nat), r < (SpW.mk (madeD (opsQ l.length (opsEF l))).lo (madeD (opsQ l.length (opsEF l))).hi (madeD (opsQ l.length (opsEF l))).l.length (exF (madeD (opsQ l.length (opsEF l))).l)).toL.l.length → exF (SpW.mk (madeD (opsQ l.length (opsEF l))).lo (madeD (opsQ l.length (opsEF l))).hi (madeD (opsQ l.length (opsEF l))).l.length (exF (madeD (opsQ l.length (opsEF l))).l)).toL.l r = exF s.l r)) ∧ 31 = exT ∧ Same 2 ∧ Same 0 ∧ (∀ (r : Nat), r < 0 → exF [] r = exF [] r)) (st := fun (a : BaP) => (⟨(⟨7, 144, (slotT 144 [(1, AV.im 1 b.length (szF b)), (2, AV.sy (Value.bool turn)), (7, AV.v (Value.bool true)), (8, AV.ptr 0 0), (9, AV.ow 2 s.l.length), (10, AV.sy (Value.int IntKind.i64 (leftD a.w.toL))), (11, AV.ow 3 a.own.length), (44, AV.sy (Value.int IntKind.i64 b.length)), (45, AV.sy (Value.int IntKind.i64 a.k))]), ARg.no, [(AItem.code (subC (bodyC Try.prog 7) [1, 1, 1, 1, 1, 1, 1, 0, 1, 0, 0])), (AItem.inLoop (subC (bodyC Try.prog 7) [1, 1, 1, 1, 1, 1, 1, 0, 1, 0, 0])), (AItem.inBlock 0), (AItem.code (subC (bodyC Try.prog 7) [1, 1, 1, 1, 1, 1, 1, 1]))], [], false, none, 0⟩ : AFr), [], memF [AB.mem 52 none [AV.v (Value.bool true), AV.sy (Value.int IntKind.i64 a.w.lo), AV.sy (Value.int IntKind.i64 a.w.hi), AV.ow 1 a.w.n], AB.rw 31 2 a.w.n a.w.f, AB.rw 31 2 s.l.length (exF s.l), AB.rw 31 2 a.own.length (exF a.own)] 0 Tr.e, 4⟩ : ASt)) (hI := ?_) (hc := ?_) (h := ?_) (fun (p : BaP) => [(45, ivA (p.k : Int)), (11, .ow 3 p.own.length), (10, ivA (leftD p.w.toL)), (9, .ow 2 s.l.length)]) (fun p => [(0, .mem spT none [.v (.bool true), ivA p.w.lo, ivA p.w.hi, .ow 1 p.w.n]), (1, .rw exT 2 p.w.n p.w.f), (2, .rw exT 2 s.l.length (exF s.l)), (3, .rw exT 2 p.own.length (exF p.own))]) (fun p => p.k ≤ b.length ∧ p.own.length ≤ p.k ∧ p.w.Ok ∧ p.w.lo = 5 ∧ p.w.hi = 305 ∧ (∀ z, hasL p.w.toL.l z = (hasL s.l z || hasL p.own z)) ∧ OwnL s p.own) (fun p => b.length - p.k) (BaP.mk 0 ⟨s.lo, s.hi, s.l.length, exF s.l⟩ [])
 · exact ⟨Nat.zero_le _, Nat.le_refl _, raw_ok hs, hlo.1, hlo.2, fun z => by rw [raw_is]; simp [hasL], ownL_nil s⟩
 · rw [hmw, hsd, raw_is]
   repeat' (first | exact trivial | exact rfl | exact fun _ _ => rfl | refine ⟨?_, ?_⟩)
 intro p ⟨h4, h5, hw, h6, h7, h8, h9⟩ ih
 refine To.R (h := ?_)
 refine To.Bd ((p.k : Int) < b.length) (h := ?_) (g := ?_)
 · intro q1
   have hlt : p.k < b.length := by omega
   have hz : b.getD p.k default < 256 := hb _ (by rw [List.getD_eq_getElem?_getD, List.getElem?_eq_getElem hlt]; simp)
   obtain ⟨z, hzz⟩ : ∃ z, z = b.getD p.k default := ⟨_, rfl⟩
   have hz' : z < 256 := by rw [hzz]; exact hz
   have hi1 : p.k + 1 ≤ b.length := by omega
   have hi2 : b.length - (p.k + 1) < b.length - p.k := by omega
   have hle := long_iff (s := p.w.toL) (n := 1 + ((b.getD p.k default : Nat) : Int)) (by omega)
   have hE : takeE (1 + ((b.getD p.k default : Nat) : Int)) = 41 := if_neg (by omega)
   have hbd := left_bd hw.ok
   refine To.R (C := ((0 : Int) ≤ p.k ∧ (p.k : Int) < b.length) ∧ True ∧ fits IntKind.i64 (b.getD p.k default) ∧ fits IntKind.i64 (1 + (b.getD p.k default)) ∧ (Same p.w.n ∧ p.w.Ok ∧ True) ∧ Same p.w.n ∧ p.w.Ok ∧ True) (h := ?_)
   refine To.B ((takeP p.w.toL (1 + (b.getD p.k default))).isSome) (C := Same p.w.n ∧ p.w.Ok ∧ True) (h := ?_) (g := ?_)
   · intro q2
     have hL := hle.2 q2
     obtain ⟨y, hy⟩ := Option.isSome_iff_exists.1 q2
     obtain ⟨hfy, hyn, _⟩ := take_free hw.ok hy
     have hfh := hfy.hi
     have hfl := hfy.lo
     have hut := took_ok hw (1 + ((b.getD p.k default : Nat) : Int)) q2
     refine To.R (h := ?_)
     refine To.Yd ((0 : Int) = 0) (h := ?_)
     refine To.R (h := ?_)
     refine To.Yd (1 + (b.getD p.k default) ≤ longD p.w.toL) (h := ?_)
     refine To.R (h := ?_)
     refine To.Nn ((0 : Int) = 0) (h := ?_)
     refine To.R (h := ?_)
     refine To.Nn ((0 : Int) = 0) (h := ?_)
     obtain ⟨v, hv⟩ : ∃ v, v = p.w.toL := ⟨_, rfl⟩
     obtain ⟨t, ht⟩ : ∃ t, t = v.put y := ⟨_, rfl⟩
     have hvk : v.Ok := by rw [hv]; exact hw.ok
     rw [← hv] at hy hfy hbd hfh hfl
     have htk : t.Ok := by rw [ht]; exact (hvk.put hfy).1
     have hth : ∀ z, hasL t.l z = (inE y z || hasL v.l z) := by rw [ht]; exact (hvk.put hfy).2.1
     have htl : leftD t = leftD v - y.n := by rw [ht]; exact put_left hvk hfy
     have htd := left_bd htk
     have hvw : (⟨v.lo, v.hi, v.l.length, exF v.l⟩ : SpW).Ok := raw_ok hvk
     have htw : (⟨t.lo, t.hi, t.l.length, exF t.l⟩ : SpW).Ok := raw_ok htk
     have hve : (⟨v.lo, v.hi, v.l.length, exF v.l⟩ : SpW).toL = v := raw_is v
     have hte : (⟨t.lo, t.hi, t.l.length, exF t.l⟩ : SpW).toL = t := raw_is t
     have hvl := hvk.lo
     have hvh := hvk.hi
     refine To.R (k := 12) (h := ?_)
     refine To.L (L := [LN.old 0, LN.old 2, LN.old 3, LN.old 4, LN.old 5, LN.old 6, LN.old 7]) (kp := [45, 44, 18, 16, 14, 13, 11, 10, 9, 8, 7, 2, 1]) (C := (Same IntKind.i64 ∧ ((takeP p.w.toL (1 + (b.getD p.k default))).getD default).at_ = y.at_) ∧ (Same IntKind.i64 ∧ leftD p.w.toL = leftD v) ∧ (Same spT ∧ (none : Option Nat) = none ∧ Same (AV.v (Value.bool true)) ∧ (Same IntKind.i64 ∧ (p.w.toL.put ((takeP p.w.toL (1 + (b.getD p.k default))).getD default)).lo = t.lo) ∧ (Same IntKind.i64 ∧ (p.w.toL.put ((takeP p.w.toL (1 + (b.getD p.k default))).getD default)).hi = t.hi) ∧ (Same 5 ∧ (p.w.toL.put ((takeP p.w.toL (1 + (b.getD p.k default))).getD default)).l.length = t.l.length) ∧ True) ∧ (Same spT ∧ (none : Option Nat) = none ∧ Same (AV.v (Value.bool true)) ∧ (Same IntKind.i64 ∧ p.w.toL.lo = v.lo) ∧ (Same IntKind.i64 ∧ p.w.toL.hi = v.hi) ∧ (Same 4 ∧ p.w.toL.l.length = v.l.length) ∧ True) ∧ (Same exT ∧ Same 2 ∧ p.w.toL.l.length = v.l.length ∧ (∀ (r : Nat), r < p.w.toL.l.length → exF p.w.toL.l r = exF v.l r)) ∧ (Same exT ∧ Same 2 ∧ (p.w.toL.put ((takeP p.w.toL (1 + (b.getD p.k default))).getD default)).l.length = t.l.length ∧ (∀ (r : Nat), r < (p.w.toL.put ((takeP p.w.toL (1 + (b.getD p.k default))).getD default)).l.length → exF (p.w.toL.put ((takeP p.w.toL (1 + (b.getD p.k default))).getD default)).l r = exF t.l r)) ∧ 31 = exT ∧ (none : Option Nat) = none ∧ (Same IntKind.i64 ∧ ((takeP p.w.toL (1 + (b.getD p.k default))).getD default).at_ = y.at_) ∧ (Same IntKind.i64 ∧ ((takeP p.w.toL (1 + (b.getD p.k default))).getD default).n = y.n) ∧ True) (st := fun (a : Int) => (⟨(⟨7, 144, (slotT 144 [(1, AV.im 1 b.length (szF b)), (2, AV.sy (Value.bool turn)), (7, AV.v (Value.bool true)), (8, AV.ptr 0 0), (9, AV.ow 1 s.l.length), (10, AV.sy (Value.int IntKind.i64 (leftD v))), (11, AV.ow 2 p.own.length), (13, AV.sy (Value.int IntKind.i64 (1 + (b.getD p.k default)))), (14, AV.ptr 3 0), (16, AV.ptr 6 0), (18, AV.sy (Value.int IntKind.i64 a)), (44, AV.sy (Value.int IntKind.i64 b.length)), (45, AV.sy (Value.int IntKind.i64 p.k))]), ARg.no, [(AItem.code (subC (bodyC Try.prog 7) [1, 1, 1, 1, 1, 1, 1, 0, 1, 0, 0, 1, 1, 0, 0, 1, 1, 1, 1, 1, 1, 0, 1, 0, 0])), (AItem.inLoop (subC (bodyC Try.prog 7) [1, 1, 1, 1, 1, 1, 1, 0, 1, 0, 0, 1, 1, 0, 0, 1, 1, 1, 1, 1, 1, 0, 1, 0, 0])), (AItem.inBlock 2), (AItem.code (subC (bodyC Try.prog 7) [1, 1, 1, 1, 1, 1, 1, 0, 1, 0, 0, 1, 1, 0, 0, 1, 1, 1, 1, 1, 1, 1])), (AItem.inBlock 1), (AItem.code (subC (bodyC Try.prog 7) [1, 1, 1, 1, 1, 1, 1, 0, 1, 0, 0, 1, 1, 1])), (AItem.inLoop (subC (bodyC Try.prog 7) [1, 1, 1, 1, 1, 1, 1, 0, 1, 0, 0])), (AItem.inBlock 0), (AItem.code (subC (bodyC Try.prog 7) [1, 1, 1, 1, 1, 1, 1, 1]))], [], false, none, 0⟩ : AFr), [], memF [AB.mem 52 none [AV.v (Value.bool true), AV.sy (Value.int IntKind.i64 t.lo), AV.sy (Value.int IntKind.i64 t.hi), AV.ow 5 t.l.length], AB.rw 31 2 s.l.length (exF s.l), AB.rw 31 2 p.own.length (exF p.own), AB.mem 52 none [AV.v (Value.bool true), AV.sy (Value.int IntKind.i64 v.lo), AV.sy (Value.int IntKind.i64 v.hi), AV.ow 4 v.l.length], AB.rw 31 2 v.l.length (exF v.l), AB.rw 31 2 t.l.length (exF t.l), AB.mem 31 none [AV.sy (Value.int IntKind.i64 y.at_), AV.sy (Value.int IntKind.i64 y.n)]] 0 Tr.e, 7⟩ : ASt)) (hc := ?_) (h := ?_) (fun (q : Int) => [(18, ivA q), (10, ivA (leftD v))]) (fun _ => [(0, .mem spT none [.v (.bool true), ivA t.lo, ivA t.hi, .ow 5 t.l.length]), (3, .mem spT none [.v (.bool true), ivA v.lo, ivA v.hi, .ow 4 v.l.length]), (4, .rw exT 2 v.l.length (exF v.l)), (5, .rw exT 2 t.l.length (exF t.l)), (6, .mem exT none [ivA y.at_, ivA y.n])]) (fun q => y.at_ ≤ q ∧ q ≤ y.at_ + y.n) (fun q => (y.at_ + y.n - q).toNat) (y.at_)
     · rw [← hv, hy, Option.getD_some, ← ht]
       repeat' (first | exact trivial | exact rfl | exact fun _ _ => rfl | refine ⟨?_, ?_⟩)
     intro q ⟨u1, u2⟩ ihq
     refine To.R (C := fits IntKind.i64 (y.at_ + (1 + (b.getD p.k default)))) (h := ?_)
     refine To.Bd (q < y.at_ + (1 + (b.getD p.k default))) (h := ?_) (g := ?_)
     · intro u3
       have n1 : hasD (⟨v.lo, v.hi, v.l.length, exF v.l⟩ : SpW).toL q = false := by rw [hve]; exact has_off hfy.off u1 (by omega)
       have n2 : hasD (⟨t.lo, t.hi, t.l.length, exF t.l⟩ : SpW).toL q = true := by rw [hte, hasD_is, hth, inE_yes u1 (by omega)]; rfl
       have n3 : (!hasD (⟨t.lo, t.hi, t.l.length, exF t.l⟩ : SpW).toL q) = false := by rw [n2]; rfl
       have hi3 : y.at_ ≤ q + 1 ∧ q + 1 ≤ y.at_ + y.n := by omega
       have hi4 : (y.at_ + y.n - (q + 1)).toNat < (y.at_ + y.n - q).toNat := by omega
       refine To.R (C := Same v.l.length ∧ (SpW.mk v.lo v.hi v.l.length (exF v.l)).Ok ∧ True) (h := ?_)
       refine To.N (hasD (SpW.mk v.lo v.hi v.l.length (exF v.l)).toL q) (h := ?_)
       refine To.R (C := Same t.l.length ∧ (SpW.mk t.lo t.hi t.l.length (exF t.l)).Ok ∧ True) (h := ?_)
       refine To.N (!hasD (SpW.mk t.lo t.hi t.l.length (exF t.l)).toL q) (h := ?_)
       refine To.R (k := 11) (C := fits IntKind.i64 (q + 1)) (h := ?_)
       refine To.K (L := [LN.old 0, LN.old 1, LN.old 2, LN.old 3, LN.old 4, LN.old 5, LN.old 6]) (kp := [45, 44, 18, 16, 14, 13, 11, 10, 9, 8, 7, 2, 1]) (ihq (q + 1) hi3 hi4)
     · intro u3
       have hsl := hs.len
       have hll : leftD (⟨t.lo, t.hi, t.l.length, exF t.l⟩ : SpW).toL = leftD v - (1 + ((b.getD p.k default : Nat) : Int)) := by rw [hte, htl, hyn]
       have hol : (p.own ++ [y]).length = p.own.length + 1 := by simp
       have hok1 : (p.own ++ [y]).length ≤ p.k + 1 := by omega
       have hvlo : v.lo = 5 := by rw [hv]; exact h6
       have hvhi : v.hi = 305 := by rw [hv]; exact h7
       have htlo : t.lo = 5 := by rw [ht]; exact hvlo
       have hthi : t.hi = 305 := by rw [ht]; exact hvhi
       refine To.R (C := fits IntKind.i64 (leftD v - (1 + (b.getD p.k default))) ∧ Same p.own.length ∧ p.own.length ≤ 1073741824) (h := ?_)
       refine To.Nn (y.n = 1 + (b.getD p.k default)) (h := ?_)
       refine To.R (C := Same t.l.length ∧ (SpW.mk t.lo t.hi t.l.length (exF t.l)).Ok ∧ True) (h := ?_)
       refine To.Nn (leftD (SpW.mk t.lo t.hi t.l.length (exF t.l)).toL = leftD v - (1 + (b.getD p.k default))) (h := ?_)
       refine To.R (k := 10) (C := fits IntKind.i64 (p.k + 1)) (h := ?_)
       refine To.rows 8 (exF (p.own ++ [y])) (by kernel_rfl) (C := (∀ (r : Nat), r < p.own.length + 1 → leL (rwPush (exF p.own) p.own.length [AV.sy (Value.int IntKind.i64 y.at_), AV.sy (Value.int IntKind.i64 y.n)] r) (exF (p.own ++ [y]) r) ∧ bareL (exF (p.own ++ [y]) r) = true)) (by kernel_rfl) ?_ ?_
       · exact exF_push ⟨⟨rfl, rfl⟩, ⟨rfl, rfl⟩, trivial⟩
       refine To.K (L := [LN.old 0, LN.old 5, LN.old 1, LN.old 8]) (kp := [45, 44, 11, 10, 9, 8, 7, 2, 1]) (ov := [(45, AV.sy (Value.int IntKind.i64 (BaP.mk (p.k + 1) (SpW.mk t.lo t.hi t.l.length (exF t.l)) (p.own ++ [y])).k)), (11, AV.ow 3 (BaP.mk (p.k + 1) (SpW.mk t.lo t.hi t.l.length (exF t.l)) (p.own ++ [y])).own.length), (10, AV.sy (Value.int IntKind.i64 (leftD (BaP.mk (p.k + 1) (SpW.mk t.lo t.hi t.l.length (exF t.l)) (p.own ++ [y])).w.toL)))]) (ob := [(3, AB.rw 31 2 (BaP.mk (p.k + 1) (SpW.mk t.lo t.hi t.l.length (exF t.l)) (p.own ++ [y])).own.length (exF (BaP.mk (p.k + 1) (SpW.mk t.lo t.hi t.l.length (exF t.l)) (p.own ++ [y])).own))]) (C := (Same IntKind.i64 ∧ (↑p.k : Int) + 1 = (↑(p.k + 1) : Int)) ∧ (Same 3 ∧ p.own.length + 1 = (p.own ++ [y]).length) ∧ (Same IntKind.i64 ∧ leftD v - (1 + (b.getD p.k default)) = leftD (SpW.mk t.lo t.hi t.l.length (exF t.l)).toL) ∧ 31 = 31 ∧ Same 2 ∧ p.own.length + 1 = (p.own ++ [y]).length ∧ (∀ (r : Nat), r < p.own.length + 1 → exF (p.own ++ [y]) r = exF (p.own ++ [y]) r)) (ih (BaP.mk (p.k + 1) ⟨t.lo, t.hi, t.l.length, exF t.l⟩ (p.own ++ [y])) ⟨hi1, hok1, htw, htlo, hthi, fun z => by
         rw [hte, hth, hasL_app, hv, h8 z]
         show _ = (_ || (_ || (inE y z || false)))
         rw [Bool.or_false]
         cases hasL s.l z <;> cases hasL p.own z <;> cases inE y z <;> rfl, h9.push (hvlo.trans hlo.1.symm) (hvhi.trans hlo.2.symm) (fun z => by rw [hv]; exact h8 z) hfy⟩ hi2)
   · intro q2
     have hL : ¬ (1 + ((b.getD p.k default : Nat) : Int)) ≤ longD p.w.toL := fun h => by rw [hle.1 h] at q2; cases q2
     refine To.R (h := ?_)
     refine To.Nd (takeE (1 + (b.getD p.k default)) = 0) (h := ?_)
     refine To.R (h := ?_)
     refine To.Nd (1 + (b.getD p.k default) ≤ longD p.w.toL) (h := ?_)
     refine To.R (h := ?_)
     refine To.Yn (takeE (1 + (b.getD p.k default)) = 0) (h := ?_)
     refine To.R (h := ?_)
     refine To.Nn (takeE (1 + (b.getD p.k default)) = 41) (h := ?_)
     refine To.R (h := ?_)
     refine To.Yn (takeE (1 + (b.getD p.k default)) = 0) (h := ?_)
     refine To.R (k := 8) (C := fits IntKind.i64 (p.k + 1)) (h := ?_)
     refine To.K (L := [LN.old 0, LN.old 1, LN.old 2, LN.old 3]) (kp := [45, 44, 11, 10, 9, 8, 7, 2, 1]) (ov := [(45, AV.sy (Value.int IntKind.i64 (BaP.mk (p.k + 1) p.w p.own).k))]) (C := Same IntKind.i64 ∧ (↑p.k : Int) + 1 = (↑(p.k + 1) : Int)) (ih (BaP.mk (p.k + 1) p.w p.own) ⟨hi1, by show p.own.length ≤ p.k + 1; omega, hw, h6, h7, h8, h9⟩ hi2)
 · intro q1
   refine To.R (k := 13) (h := ?_)
   refine To.L (L := [LN.old 0, LN.old 1, LN.old 2, LN.old 3]) (kp := [119, 118, 11, 9, 8, 7, 2]) (C := (Same IntKind.i64 ∧ (0 : Int) = (↑(0 : Nat) : Int)) ∧ (Same spT ∧ (none : Option Nat) = none ∧ Same (AV.v (Value.bool true)) ∧ (Same IntKind.i64 ∧ Same p.w.lo) ∧ (Same IntKind.i64 ∧ Same p.w.hi) ∧ (Same 1 ∧ Same p.w.n) ∧ True) ∧ Same exT ∧ Same 2 ∧ Same p.w.n ∧ (∀ (r : Nat), r < p.w.n → p.w.f r = p.w.f r)) (st := fun (a : GvP) => (⟨(⟨7, 144, (slotT 144 [(2, AV.sy (Value.bool turn)), (7, AV.v (Value.bool true)), (8, AV.ptr 0 0), (9, AV.ow 2 s.l.length), (11, AV.ow 3 p.own.length), (118, AV.sy (Value.int IntKind.i64 p.own.length)), (119, AV.sy (Value.int IntKind.i64 a.k))]), ARg.no, [(AItem.code (subC (bodyC Try.prog 7) [1, 1, 1, 1, 1, 1, 1, 1, 0, 1, 0, 0])), (AItem.inLoop (subC (bodyC Try.prog 7) [1, 1, 1, 1, 1, 1, 1, 1, 0, 1, 0, 0])), (AItem.inBlock 4), (AItem.code (subC (bodyC Try.prog 7) [1, 1, 1, 1, 1, 1, 1, 1, 1]))], [], false, none, 0⟩ : AFr), [], memF [AB.mem 52 none [AV.v (Value.bool true), AV.sy (Value.int IntKind.i64 a.w.lo), AV.sy (Value.int IntKind.i64 a.w.hi), AV.ow 1 a.w.n], AB.rw 31 2 a.w.n a.w.f, AB.rw 31 2 s.l.length (exF s.l), AB.rw 31 2 p.own.length (exF p.own)] 0 Tr.e, 4⟩ : ASt)) (hI := ?_) (h := ?_) (fun (u : GvP) => [(119, ivA (u.k : Int))]) (fun u => [(0, .mem spT none [.v (.bool true), ivA u.w.lo, ivA u.w.hi, .ow 1 u.w.n]), (1, .rw exT 2 u.w.n u.w.f)]) (fun u => u.k ≤ p.own.length ∧ u.w.Ok ∧ u.w.lo = 5 ∧ u.w.hi = 305 ∧ ∀ z, hasL u.w.toL.l z = (hasL s.l z || hasL (restL turn p.own u.k) z)) (fun u => p.own.length - u.k) (GvP.mk 0 p.w)
   · exact ⟨Nat.zero_le _, hw, h6, h7, fun z => by rw [rest_all]; exact h8 z⟩
   intro u ⟨g1, hu, g3, g4, g5⟩ ihu
   refine To.R (h := ?_)
   refine To.Bd ((u.k : Int) < p.own.length) (h := ?_) (g := ?_)
   · intro q2
     have hlt : u.k < p.own.length := by omega
     obtain ⟨hg1, hg2⟩ := own_give h9 hu.ok (g3.trans hlo.1.symm) (g4.trans hlo.2.symm) (turn := turn) hlt g5
     have hi1 : u.k + 1 ≤ p.own.length := by omega
     have hi2 : p.own.length - (u.k + 1) < p.own.length - u.k := by omega
     refine To.R (h := ?_)
     refine To.B (turn) (h := ?_) (g := ?_)
     · intro q3
       have hk : ((p.own.length : Int) - 1 - (u.k : Int)).toNat = p.own.length - 1 - u.k := by omega
       have hg : giveB u.w.toL (p.own.getD ((p.own.length : Int) - 1 - (u.k : Int)).toNat default) = true := by rw [hk]; rw [q3] at hg1; exact hg1
       have ho := gave_ok hu hg
       refine To.R (C := True ∧ fits IntKind.i64 (p.own.length - 1) ∧ fits IntKind.i64 (p.own.length - 1 - u.k) ∧ ((0 : Int) ≤ p.own.length - 1 - u.k ∧ p.own.length - (1 : Int) - u.k < p.own.length) ∧ (p.own.length - (1 : Int) - u.k).toNat < p.own.length) (h := ?_)
       refine To.Y (giveB u.w.toL (p.own.getD (p.own.length - (1 : Int) - u.k).toNat default)) (C := Same u.w.n ∧ u.w.Ok ∧ True) (h := ?_)
       refine To.Nn ((0 : Int) = 0) (h := ?_)
       refine To.R (k := 9) (C := fits IntKind.i64 (u.k + 1)) (h := ?_)
       refine To.K (L := [LN.old 0, LN.old 4, LN.old 2, LN.old 3]) (kp := [119, 118, 11, 9, 8, 7, 2]) (ov := [(119, AV.sy (Value.int IntKind.i64 (↑(GvP.mk (u.k + 1) (SpW.mk (u.w.toL.give (p.own.getD ((↑p.own.length : Int) - 1 - (↑u.k : Int)).toNat default)).lo (u.w.toL.give (p.own.getD ((↑p.own.length : Int) - 1 - (↑u.k : Int)).toNat default)).hi (u.w.toL.give (p.own.getD ((↑p.own.length : Int) - 1 - (↑u.k : Int)).toNat default)).l.length (exF (u.w.toL.give (p.own.getD ((↑p.own.length : Int) - 1 - (↑u.k : Int)).toNat default)).l))).k : Int)))]) (C := Same IntKind.i64 ∧ (↑u.k : Int) + 1 = (↑(u.k + 1) : Int)) (ihu (GvP.mk (u.k + 1) ⟨(u.w.toL.give (p.own.getD ((p.own.length : Int) - 1 - (u.k : Int)).toNat default)).lo, (u.w.toL.give (p.own.getD ((p.own.length : Int) - 1 - (u.k : Int)).toNat default)).hi, (u.w.toL.give (p.own.getD ((p.own.length : Int) - 1 - (u.k : Int)).toNat default)).l.length, exF (u.w.toL.give (p.own.getD ((p.own.length : Int) - 1 - (u.k : Int)).toNat default)).l⟩) ⟨hi1, ho, g3, g4, fun z => by
         rw [raw_is, hk]
         rw [q3] at hg2 ⊢
         exact hg2 z⟩ hi2)
     · intro q3
       have hg : giveB u.w.toL (p.own.getD u.k default) = true := by rw [q3] at hg1; exact hg1
       have ho := gave_ok hu hg
       refine To.R (C := ((0 : Int) ≤ u.k ∧ (u.k : Int) < p.own.length) ∧ u.k < p.own.length) (h := ?_)
       refine To.Y (giveB u.w.toL (p.own.getD u.k default)) (C := Same u.w.n ∧ u.w.Ok ∧ True) (h := ?_)
       refine To.Nn ((0 : Int) = 0) (h := ?_)
       refine To.R (k := 9) (C := fits IntKind.i64 (u.k + 1)) (h := ?_)
       refine To.K (L := [LN.old 0, LN.old 4, LN.old 2, LN.old 3]) (kp := [119, 118, 11, 9, 8, 7, 2]) (ov := [(119, AV.sy (Value.int IntKind.i64 (GvP.mk (u.k + 1) (SpW.mk (u.w.toL.give (p.own.getD u.k default)).lo (u.w.toL.give (p.own.getD u.k default)).hi (u.w.toL.give (p.own.getD u.k default)).l.length (exF (u.w.toL.give (p.own.getD u.k default)).l))).k))]) (C := Same IntKind.i64 ∧ (↑u.k : Int) + 1 = (↑(u.k + 1) : Int)) (ihu (GvP.mk (u.k + 1) ⟨(u.w.toL.give (p.own.getD u.k default)).lo, (u.w.toL.give (p.own.getD u.k default)).hi, (u.w.toL.give (p.own.getD u.k default)).l.length, exF (u.w.toL.give (p.own.getD u.k default)).l⟩) ⟨hi1, ho, g3, g4, fun z => by
         rw [raw_is]
         rw [q3] at hg2 ⊢
         exact hg2 z⟩ hi2)
   · intro q2
     have hk0 : u.k = p.own.length := by omega
     have hT : u.w.toL = s := sp_eq hu.ok hs (g3.trans hlo.1.symm) (g4.trans hlo.2.symm) fun z => by rw [g5, hk0, rest_end]; simp [hasL]
     have hsl := hs.len
     have hul := hu.ok.len
     have hpn : u.w.toL.l.length = s.l.length := by rw [hT]
     have hpf : ∀ r, exF u.w.toL.l r = exF s.l r := by rw [hT]; exact fun _ => rfl
     refine To.R (C := (Same u.w.n ∧ u.w.Ok ∧ True) ∧ Same u.w.toL.l.length ∧ Same s.l.length ∧ s.l.length = u.w.toL.l.length ∧ u.w.toL.l.length ≤ 100000 ∧ (∀ (r : Nat), r < u.w.toL.l.length → exF u.w.toL.l r = exF (exsF u.w.toL.l.length (exF u.w.toL.l)) r) ∧ (∀ (r : Nat), r < u.w.toL.l.length → exF s.l r = exF u.w.toL.l r)) (hc := ?_) (h := ?_); (and_intros <;> try exact cl)
     all_goals first | (exact fun r _ => (hpf r).symm) | (rw [exsF_exF]; exact fun _ _ => rfl) | skip
     refine To.E (AV.v (Value.bool true)) (hq := ?_)
     rfl
theorem back_walk (l : List OpE) (b : List Nat) (hb : ∀ o ∈ b, o < 256) (turn : Bool) {w : World} {v u : Value} (hv : VR0 (imOf w) (.im 3 l.length (opsEF l)) v) (hu : VR0 (imOf w) (.im 1 b.length (szF b)) u) :
   Calls Try.prog 7 #[v, u, .bool turn] w (fun e w' => e = .returned (.bool true) ∧ Fr No w w') :=
 law_calls (args := [.im 3 l.length (opsEF l), .im 1 b.length (szF b), .sy (.bool turn)]) sl_ok (by kernel_rfl) (back_to sl_ok l b hb turn) (.cons (bare_VR (ρ := envOf w) hv) (.cons (bare_VR (ρ := envOf w) hu) (.cons (.sy _) .nil)))
end Go.Proofs.Ytnjhocjgpppeaaa.Sm
namespace Go.Proofs.Ytnjhocjgpppeaaa.RExtentBack
open Go.ChangeShapes Go.WideShapes Go.ChangeAt Go.RowKit
theorem own : ownKnob Try.prog.godebug = none := by kernel_rfl
theorem laidOut : laidOutB Try.prog = true := by kernel_rfl
theorem readable : (Try.f7.params.toList.all fun t => Try.prog.readableRec t && decide (t < Try.prog.types.size)) = true := by kernel_rfl
set_option maxHeartbeats 800000 in
set_option maxRecDepth 100000 in
theorem lifted (os : Os) (started : os.Started) (H : Type) (enc : TypeId × Value → H) :
   ReturnsInHanded {} Try.checked os 7 .any (Rows.extentBackSpec.pre6 enc Try.prog Try.f7 Rows.extentBackRow.domain false) (Rows.extentBackSpec.post enc Try.prog Try.f7 false true false false) := by
 refine returnsInHanded_of_change (C := Try.checked) own started (by kernel_rfl) Try.func7
   (ChangeSpec.witness6 (enc := enc) (C := Try.checked) false ⟨#[], #[.slice none 0 0, .slice none 0 0, .bool false], []⟩ 8 (by kernel_rfl) (by kernel_rfl) (by kernel_rfl) (by kernel_rfl)) ?_
 intro W base args ds gs before hval0 hW _ _
 have hval : ∀ (j : Nat) t v, Try.f7.params[j]? = some t → args[j]? = some v → Value.okWide Try.prog W .any base t v := hval0
 have hW' := hW
 obtain ⟨p, q, hA0, hV, rfl, _, _⟩ := hW
 have hA : DataW.TrodAll enc Try.prog W 0 (fun _ => true) true Try.f7.params.toList args.toList ds p := hA0
 have hlt : ∀ x ∈ p, x.block < W.heap.size := fun x hx => by simpa using hW'.lt x (by simpa using List.mem_append.2 (.inl hx))
 have hall := fun W' (hb : Below W.heap.size W W') => again_all laidOut hb readable hA hlt
 obtain ⟨rfl, rfl⟩ := trodVars_none hV
 rw [Try.params7] at hval
 have hA' := hA
 rw [Try.params7] at hA'
 obtain ⟨v0, vs0, d0, ds0, p0, q0, e0, rfl, rfl, h0, r0⟩ := trodAll_cons hA'
 obtain ⟨v1, vs1, d1, ds1, p1, q1, e1, rfl, rfl, h1, r1⟩ := trodAll_cons r0
 obtain ⟨v2, vs2, d2, ds2, p2, q2, e2, rfl, rfl, h2, r2⟩ := trodAll_cons r1
 obtain ⟨en, rfl, rfl⟩ := trodAll_nil r2
 obtain rfl : args = #[v0, v1, v2] := by
   apply Array.ext'
   rw [e0]
   try rw [e1]
   try rw [e2]
   rw [en]
 clear hA' e0 e1 e2 en
 obtain ⟨a0, n0, c0, rfl⟩ := arg_slice Try.underlying22 (hval 0 22 v0 rfl rfl)
 obtain ⟨a1, n1, c1, rfl⟩ := arg_slice Try.underlying53 (hval 1 53 v1 rfl rfl)
 obtain ⟨a2, rfl⟩ := arg_bool Try.underlying4 (hval 2 4 v2 rfl rfl) h2
 simp only [List.append_nil] at hW'
 obtain ⟨l, hn, hl1, _⟩ := Sm.opsE_open (Rd.of h0)
 obtain ⟨b, hn1, hm1, hm2⟩ := Sm.sizes_open (Rd.of h1)
 have hwalk := Sm.back_walk l b hm2 a2 hl1 hm1
 refine hwalk.mono fun e W' ⟨he, hf⟩ => ?_
 subst he
 have hbel : Below W.heap.size W W' := hf.below
 refine ⟨_, rfl, _, _, _, [], _, [], hW', ?_, hall W' hbel, rfl, hbel.frame _, fun h => by cases h⟩
 exact trodAll_mk1 (shut_bool Try.underlying4 _)
theorem said : Rows.ExtentBackSaid :=
 OpenClaim.holds_of_wide 7 Try.f7 rfl rfl rfl rfl rfl rfl rfl ⟨rfl, rfl, rfl, rfl, rfl⟩ rfl rfl rfl rfl rfl (by kernel_rfl) Try.func7 (by kernel_rfl)
   (of_decide_eq_true (by kernel_rfl)) (by unfold Func.isWrapper; first | (rw [if_pos (by decide +kernel)]; kernel_rfl) | (rw [if_neg (by decide +kernel)]; exact ⟨rfl, rfl⟩))
   (fun os started H enc _ => lifted os started H enc)
#print axioms said
end Go.Proofs.Ytnjhocjgpppeaaa.RExtentBack
