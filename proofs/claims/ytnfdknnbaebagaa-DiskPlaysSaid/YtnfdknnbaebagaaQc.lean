/-
  Texts of this claim, laid together: Tl, Tm, Tn, Tq, St, Tg, Tfa, Tfb, Tfc, Tu, Te, Th, Tf.
-/
import Derived.Test.YtnfdknnbaebagaaQb
import Derived.Laws.StructEq
import Derived.Laws.Small

namespace Go.Proofs.Ytnfdknnbaebagaa.Sm
open Go Go.RowKit
section
variable {w0 : Bs} {ρ : Env} {H : Tr AB} {n : Nat} {w : World}
theorem HR.rowsPut (hr : HR w0 ρ H n w) {i b c k r j : Nat} {ll : List (List UInt8)} {xs : List UInt8} (hi : ρ i = some (b, c)) (hB : H.get i = some (.obj (.rows k ll))) (hlt : r < ll.length) (hj : j + xs.length ≤ k) :
   w.there b (r * k + j) xs.length ∧ HR w0 ρ (tput H i (.obj (.rows k (ll.set r ((ll.getD r []).take j ++ xs ++ (ll.getD r []).drop (j + xs.length)))))) n (w.setCells b (r * k + j) (xs.map byt)) ∧
     Ext ρ ρ H (tput H i (.obj (.rows k (ll.set r ((ll.getD r []).take j ++ xs ++ (ll.getD r []).drop (j + xs.length)))))) n n := by
 obtain ⟨F, hF, ⟨hFi, T, fz, sp, hb, hz, hk⟩, _⟩ := hr.obj hi hB
 have hfl := flat_len hk
 have hle : r * k + k ≤ ll.length * k := by
   have := Nat.mul_le_mul_right k (Nat.succ_le_of_lt hlt)
   rw [Nat.succ_mul] at this; exact this
 have hrl : (ll.getD r []).length = k := hk _ (by rw [List.getD_eq_getElem?_getD, List.getElem?_eq_getElem hlt]; simp)
 have hrow : ((ll.getD r []).take j ++ xs ++ (ll.getD r []).drop (j + xs.length)).length = k := by simp only [List.length_append, List.length_take, List.length_drop, hrl]; omega
 have hk' := set_rows hk (r := r) hrow
 have hfl' := flat_len hk'
 refine ⟨cells_there hb hz (by rw [List.length_append, List.length_map, hfl]; omega), ?_⟩
 refine hr.put1 hi hB rfl (fun _ => ⟨F, hF, fun k hk => (hFi k).1 hk⟩) (fr_setCells _ w _) ⟨fun _ => Iff.rfl, T, fz, sp, ?_, ?_, hk'⟩
 · rw [cells_setCells (xs.map byt) _ hb (by rw [List.length_append, List.length_map, List.length_map, hfl]; omega), ← flat_splice hk hlt hj]
   rw [List.take_append_of_le_length (by rw [List.length_map, hfl]; omega), List.drop_append_of_le_length (by rw [List.length_map, List.length_map, hfl]; omega)]
   simp
 · rw [List.length_append, List.length_map, hfl', List.length_set, ← hfl, ← List.length_map (f := byt), ← List.length_append]; exact hz
theorem HR.arrPut (hr : HR w0 ρ H n w) {i b c : Nat} {B : AB} {bs : List UInt8} (hi : ρ i = some (b, c)) (hB : H.get i = some B) (h : (∃ T l, B = .mem T none l ∧ l.length = bs.length) ∨ ∃ bs0, B = .obj (.arr bs0) ∧ bs0.length = bs.length) :
   w.there b 0 bs.length ∧ HR w0 ρ (tput H i (.obj (.arr bs))) n (w.setCells b 0 (bs.map byt)) ∧ Ext ρ ρ H (tput H i (.obj (.arr bs))) n n := by
 have key : ∀ {L : List Value} {T : TypeId} {fz : Nat × Nat}, w.heap[b]? = some (.cells L.toArray T fz) → unfrozen fz L.length → L.length = bs.length → w.there b 0 bs.length ∧ ArrAt (w.setCells b 0 (bs.map byt)) b bs := by
   intro L T fz hb hz hl
   refine ⟨cells_there hb hz (by omega), T, fz, ?_, hl ▸ hz⟩
   rw [cells_setCells (bs.map byt) 0 hb (by simp; omega)]
   simp [List.drop_of_length_le (Nat.le_of_eq hl)]
 rcases h with ⟨T, l, rfl, hl⟩ | ⟨bs0, rfl, hl⟩
 · obtain ⟨o, ho, vs, sp, fz, hv, rfl, hz, rfl, _⟩ := hr.blk hi hB
   rw [List.append_nil] at ho hz
   have hvl := hv.length
   obtain ⟨h1, h2⟩ := key ho hz (by omega)
   exact ⟨h1, hr.put1 hi hB rfl (fun e => by cases e) (fr_setCells _ w _) ⟨fun _ => Iff.rfl, h2⟩⟩
 · obtain ⟨F, hF, ⟨hFi, T, fz, hb, hz⟩, _⟩ := hr.obj hi hB
   obtain ⟨h1, h2⟩ := key hb (by simpa using hz) (by simpa using hl)
   exact ⟨h1, hr.put1 hi hB rfl (fun _ => ⟨F, hF, fun k hk => (hFi k).1 hk⟩) (fr_setCells _ w _) ⟨fun _ => Iff.rfl, h2⟩⟩
end
def rowSet (ll : List (List UInt8)) (r j : Nat) (xs : List UInt8) : List (List UInt8) := ll.set r ((ll.getD r []).take j ++ xs ++ (ll.getD r []).drop (j + xs.length))
def bdst (P : Program) (t : TypeId) (d : AV) (xs : List UInt8) (H : Tr AB) : Option (AV × Tr AB × Prop) :=
 match P.underlying t with
 | some (.slice e) => match P.info? e with
   | some inf => cond (Nat.beq inf.size 1) (match d with
     | .pw i r w j m _ => match H.get i with
       | some (.obj (.rows k ll)) => cond (Nat.beq w k) (some (.sy (.int .i64 (Nat.min xs.length m : Nat)), tput H i (.obj (.rows k (rowSet ll r j (xs.take (Nat.min xs.length m))))), r < ll.length ∧ j + m ≤ k)) none
       | _ => none
     | _ => none) none
   | none => none
 | _ => none
def symW (P : Program) (T : Tr AV) (o : Oper) (H : Tr AB) (n : Nat) : Option ((AV × Tr AB × Nat) × Prop) :=
 match o.op with
 | .store t a x => match aev T a, aev T x with
   | .pe i r w j, .ba bs => match H.get i, P.info? t with
     | some (.obj (.rows k ll)), some inf => cond (Nat.beq w k && Nat.beq j 0 && Nat.beq inf.size k) (some ((.v undef, tput H i (.obj (.rows k (ll.set r bs))), n), r < ll.length ∧ bs.length = k)) none
     | _, _ => none
   | .ptr i o, .ba bs => match H.get i, P.info? t with
     | some (.mem _ none l), some inf => cond (Nat.beq o 0 && Nat.beq inf.size l.length) (some ((.v undef, tput H i (.obj (.arr bs)), n), bs.length = l.length)) none
     | some (.obj (.arr bs0)), some inf => cond (Nat.beq o 0) (some ((.v undef, tput H i (.obj (.arr bs)), n), bs0.length = inf.size ∧ bs.length = inf.size)) none
     | _, _ => none
   | _, _ => none
 | .mapUpdate t m k x => match aev T m, intA (aev T k), aev T x with
   | .mp i, some (.i64, z), .ba bs => match H.get i, P.underlying t with
     | some (.obj (.wmap mm)), some (.map kt _) => match P.underlying kt with
       | some (.int .i64) => some ((.v undef, tput H i (.obj (.wmap (putM mm z bs))), n), True)
       | _ => none
     | _, _ => none
   | _, _, _ => none
 | .call ⟨.builtin .clear, args, ats⟩ => match args.toList, ats.toList with
   | [m], [t] => match aev T m, P.underlying t with
     | .mp i, some (.map _ _) => match H.get i with
       | some (.obj (.wmap _)) => some ((.v (.tuple #[]), tput H i (.obj (.wmap [])), n), True)
       | _ => none
     | _, _ => none
   | _, _ => none
 | .call ⟨.builtin .copy, args, ats⟩ => match args.toList, ats.toList with
   | [d, s], [t, _] => match bsrc (aev T s) H with
     | some (xs, C) => match bdst P t (aev T d) xs H with
       | some (y, H', D) => some ((y, H', n), C ∧ D)
       | none => none
     | none => none
   | _, _ => none
 | _ => none
theorem run_storeArr {P : Program} {w : World} {b o : Nat} {t : TypeId} {inf : TypeInfo} {bs : List UInt8} (ht : w.there b o bs.length) (hi : P.info? t = some inf) (hs : inf.size = bs.length) : (Instr.storeAt t (.pointer (some ⟨b, o, none⟩)) (bav bs)).run P w = .ok () (w.setCells b o (bs.map byt)) := by
 have := run_storeVar_mid (P := P) w b o t (bs.map byt).toArray (by simpa using ht) (by simp [hi, hs]) (by
   rw [Array.all_eq_true_iff_forall_mem]
   intro q hq
   exact byt_one bs q (by simpa using hq))
 unfold Instr.storeAt bav
 simp only [Instr.sureAddr, Sem.run_bind, Sem.run_pure, Result.andThen_ok]
 simpa using this
theorem symW_sound {P : Program} {w0 : Bs} {w : World} {ρ : Env} {T : Tr AV} {o : Oper} {H : Tr AB} {n : Nat} {r : (AV × Tr AB × Nat) × Prop} {ev : Operand → Value} (h : symW P T o H n = some r) (hC : r.2) (hr : HR w0 ρ H n w) (hev : ∀ y ∈ o.op.operands, VR ρ (aev T y) (ev y)) :
   ∃ ρ' v w', ((execOp ev o).run P w = .ok (.value v) w' ∨ (v = undef ∧ (execOp ev o).run P w = .ok .skip w')) ∧ VR ρ' r.1.1 v ∧ HR w0 ρ' r.1.2.1 r.1.2.2 w' ∧ Ext ρ ρ' H r.1.2.1 n r.1.2.2 := by
 obtain ⟨dst, op, type, pos, after, guard⟩ := o
 unfold symW at h
 split at h
 · rename_i t a x hop
   simp only at hop
   subst hop
   have ha := hev a (by simp [Op.operands])
   have hx := hev x (by simp [Op.operands])
   have fin : ∀ {w' : World}, (Instr.storeAt t (ev a) (ev x)).run P w = .ok () w' → (execOp ev ⟨dst, .store t a x, type, pos, after, guard⟩).run P w = .ok .skip w' := by
     intro w' hq
     unfold execOp
     simp [hq]
   split at h
   · rename_i i rr ww j bs e1 e2
     rw [e1] at ha
     rw [e2] at hx
     generalize hav : ev a = ua at ha fin
     generalize hxv : ev x = ux at hx fin
     cases hx
     split at h
     · rename_i k ll inf hB hinf
       cases hc : (Nat.beq ww k && Nat.beq j 0 && Nat.beq inf.size k) with
       | false => rw [hc] at h; cases h
       | true =>
         rw [hc, cond_true, Option.some.injEq] at h
         subst h
         simp only [Bool.and_eq_true, Nat.beq_eq] at hc
         obtain ⟨⟨rfl, rfl⟩, h3⟩ := hc
         obtain ⟨hC1, hC2⟩ : rr < ll.length ∧ bs.length = ww := hC
         cases ha with
         | pe _ _ _ hi =>
           obtain ⟨h1, h2, h4⟩ := hr.rowsPut (j := 0) (xs := bs) hi hB hC1 (by omega)
           have hrl : (ll.getD rr []).length = ww := by
             obtain ⟨F, hF, ⟨_, _, _, _, _, _, hk⟩, _⟩ := hr.obj hi hB
             exact hk _ (by rw [List.getD_eq_getElem?_getD, List.getElem?_eq_getElem hC1]; simp)
           have e : (ll.getD rr []).take 0 ++ bs ++ (ll.getD rr []).drop (0 + bs.length) = bs := by
             rw [List.take_zero, List.nil_append, List.drop_of_length_le (by omega), List.append_nil]
           rw [e] at h2 h4
           exact ⟨ρ, undef, _, .inr ⟨rfl, fin (run_storeArr h1 hinf (by omega))⟩, .v _, h2, h4⟩
     · cases h
   · rename_i i oo bs e1 e2
     rw [e1] at ha
     rw [e2] at hx
     generalize hav : ev a = ua at ha fin
     generalize hxv : ev x = ux at hx fin
     cases hx
     split at h
     · rename_i T' l inf hB hinf
       cases hc : (Nat.beq oo 0 && Nat.beq inf.size l.length) with
       | false => rw [hc] at h; cases h
       | true =>
         rw [hc, cond_true, Option.some.injEq] at h
         subst h
         simp only [Bool.and_eq_true, Nat.beq_eq] at hc
         obtain ⟨rfl, h3⟩ := hc
         have hC1 : bs.length = l.length := hC
         cases ha with
         | ptr _ hi =>
           obtain ⟨h1, h2, h4⟩ := hr.arrPut (bs := bs) hi hB (.inl ⟨T', l, rfl, hC1.symm⟩)
           exact ⟨ρ, undef, _, .inr ⟨rfl, fin (run_storeArr h1 hinf (by omega))⟩, .v _, h2, h4⟩
     · rename_i bs0 inf hB hinf
       rw [beq_dec] at h
       by_cases h0 : oo = 0
       · subst h0
         simp only [decide_true, cond_true, Option.some.injEq] at h
         subst h
         obtain ⟨hC1, hC2⟩ : bs0.length = inf.size ∧ bs.length = inf.size := hC
         cases ha with
         | ptr _ hi =>
           obtain ⟨h1, h2, h4⟩ := hr.arrPut (bs := bs) hi hB (.inr ⟨bs0, rfl, by omega⟩)
           exact ⟨ρ, undef, _, .inr ⟨rfl, fin (run_storeArr h1 hinf (by omega))⟩, .v _, h2, h4⟩
       · simp [h0] at h
     · cases h
   · cases h
 · rename_i t m k x hop
   simp only at hop
   subst hop
   have hm := hev m (by simp [Op.operands])
   have hk := hev k (by simp [Op.operands])
   have hx := hev x (by simp [Op.operands])
   split at h
   · rename_i i z bs e1 e2 e3
     rw [e1] at hm
     rw [e3] at hx
     have ek := intA_sound e2 hk
     split at h
     · rename_i mm kt et hB hu
       split at h
       · rename_i hkt
         cases h
         generalize hmv : ev m = um at hm
         generalize hxv : ev x = ux at hx
         cases hx
         cases hm with
         | @mp _ b c hi =>
           obtain ⟨F, hF, ⟨hFi, es, clock, hb, hst, hes⟩, _⟩ := hr.obj hi hB
           have hck : (Instr.checkKey false 10000 kt (.int .i64 z)).run P w = .ok () w := by
             unfold Instr.checkKey; simp [run_underlying hkt]
           have hset : ∀ o' : Obj, (setObj b o').run P w = .ok () { w with heap := w.heap.setIfInBounds b o' } := fun o' => MapKept.run_setObj_map o' hb
           have fin : ∀ {es' : Array MapEntry} {clock' : Nat}, (Instr.mapUpdate t (.map (some b)) (.int .i64 z) (bav bs)).run P w = .ok () { w with heap := w.heap.setIfInBounds b (.map es' clock') } → MapKept.Stamped es' clock' → es'.toList.map (fun e => (e.key, e.val)) = (putM mm z bs).map (fun p => (iv p.1, bav p.2)) →
               ∃ ρ' v w', ((execOp ev ⟨dst, .mapUpdate t m k x, type, pos, after, guard⟩).run P w = .ok (.value v) w' ∨ (v = undef ∧ (execOp ev ⟨dst, .mapUpdate t m k x, type, pos, after, guard⟩).run P w = .ok .skip w')) ∧ VR ρ' (.v undef) v ∧ HR w0 ρ' (tput H i (.obj (.wmap (putM mm z bs)))) n w' ∧ Ext ρ ρ' H (tput H i (.obj (.wmap (putM mm z bs)))) n n := by
             intro es' clock' h1 h2 h3
             obtain ⟨g1, g2⟩ := hr.put1 (w' := { w with heap := w.heap.setIfInBounds b (.map es' clock') }) (x := .wmap (putM mm z bs)) hi hB rfl (fun _ => ⟨F, hF, fun k hk => (hFi k).1 hk⟩) (fr_put w b _) ⟨fun _ => Iff.rfl, es', clock', (MapKept.heap_set hb).1, h2, h3⟩
             refine ⟨ρ, undef, _, .inr ⟨rfl, ?_⟩, .v _, g1, g2⟩
             unfold execOp
             have h1' : (Instr.mapUpdate t (.map (some b)) (.int .i64 z) (.agg (bs.map byt).toArray)).run P w = .ok () { w with heap := w.heap.setIfInBounds b (.map es' clock') } := h1
             simp only [hmv, ek, hxv, Sem.run_bind, h1', Result.andThen_ok, Sem.run_pure]
           rcases findNow_int (z := z) 0 hes with ⟨g1, g2, g3, g4⟩ | ⟨j, bs0, g1, g2, g3, g4⟩
           · refine fin (es' := es.push { key := iv z, val := bav bs, born := clock }) (clock' := clock + 1) ?_ (MapKept.stamped_push hst g3) ?_
             · unfold Instr.mapUpdate
               simp only [Sem.run_bind, run_underlying hu, Result.andThen_ok, MapKept.run_getObj_map hb, hck, MapKept.run_findKey hkt (show Instr.findNow (.int .i64) (.int .i64 z) es.toList 0 = some none from g2), hset]
               rfl
             · rw [g4 bs, Array.toList_push, List.map_append, List.map_append, hes]; rfl
           · rw [Nat.zero_add] at g2
             refine fin (es' := es.modify j fun e => { e with key := iv z, val := bav bs }) (clock' := clock) ?_ (MapKept.stamped_modify hst j _ (fun _ _ => rfl) (fun e he hej => ?_)) ?_
             · unfold Instr.mapUpdate
               simp only [Sem.run_bind, run_underlying hu, Result.andThen_ok, MapKept.run_getObj_map hb, hck, MapKept.run_findKey hkt (show Instr.findNow (.int .i64) (.int .i64 z) es.toList 0 = some (some (j, bav bs0)) from g2)]
               have hk' : ((es[j]?).map (·.key)).getD (.int .i64 z) = .int .i64 z := by
                 rw [← Array.getElem?_toList, g3]; rfl
               rw [hk']
               have hst' : (Instr.keyThatStays (.int .i64 z) (.int .i64 z)).run P w = .ok (.int .i64 z) w := by
                 unfold Instr.keyThatStays; simp [Instr.sameBits]
               simp only [hst', Result.andThen_ok, hset]
               rfl
             · have : (es.toList[j]?).map (·.key) = some e.key := by rw [Array.getElem?_toList, hej]; rfl
               rw [g3] at this
               exact Option.some.inj this
             · rw [g4 bs]
               simp
       · cases h
     · cases h
   · cases h
 · rename_i args ats hop
   simp only at hop
   subst hop
   split at h
   · rename_i m t ha ht
     have ha' : args = #[m] := Array.toList_inj.1 ha
     have ht' : ats = #[t] := Array.toList_inj.1 ht
     subst ha' ht'
     have hm := hev m (by simp [Op.operands, Call.operands])
     split at h
     · rename_i i kt et e1 hu
       rw [e1] at hm
       split at h
       · rename_i mm hB
         cases h
         generalize hmv : ev m = um at hm
         cases hm with
         | @mp _ b c hi =>
           obtain ⟨F, hF, ⟨hFi, es, clock, hb, hst, hes⟩, _⟩ := hr.obj hi hB
           obtain ⟨g1, g2⟩ := hr.put1 (w' := { w with heap := w.heap.setIfInBounds b (.map #[] clock) }) (x := .wmap []) hi hB rfl (fun _ => ⟨F, hF, fun k hk => (hFi k).1 hk⟩) (fr_put w b _) ⟨fun _ => Iff.rfl, #[], clock, (MapKept.heap_set hb).1, MapKept.stamped_empty clock, rfl⟩
           refine ⟨ρ, .tuple #[], _, .inl ?_, .v _, g1, g2⟩
           have hex : execOp ev ⟨dst, .call ⟨.builtin .clear, #[m], #[t]⟩, type, pos, after, guard⟩ = builtin .clear #[t] type (#[m].map fun | .const _ => true | _ => false) (#[m].map ev) := rfl
           rw [hex]
           have hset : (setObj b (.map #[] clock)).run P w = .ok () { w with heap := w.heap.setIfInBounds b (.map #[] clock) } := MapKept.run_setObj_map _ hb
           have hcl : (Builtin.clear_ #[t] type #[.map (some b)]).run P w = .ok (.tuple #[]) { w with heap := w.heap.setIfInBounds b (.map #[] clock) } := by
             unfold Builtin.clear_
             simp [run_underlying hu, MapKept.run_getObj_map hb, hset]
           simp [builtin, hmv, hcl]
       · cases h
     · cases h
   · cases h
 · rename_i args ats hop
   simp only at hop
   subst hop
   split at h
   · rename_i d s t tx ha ht
     have ha' : args = #[d, s] := Array.toList_inj.1 ha
     have ht' : ats = #[t, tx] := Array.toList_inj.1 ht
     subst ha' ht'
     have hd := hev d (by simp [Op.operands, Call.operands])
     have hs := hev s (by simp [Op.operands, Call.operands])
     split at h
     · rename_i xs C hsrc
       split at h
       · rename_i y H' D hdst
         cases h
         obtain ⟨hC1, hC2⟩ : C ∧ D := hC
         obtain ⟨sa, sc, hsv, hwin⟩ := bsrc_sound hr hsrc hC1 hs
         unfold bdst at hdst
         split at hdst
         · rename_i e hu
           split at hdst
           · rename_i inf hinf
             rw [beq_dec] at hdst
             by_cases h1 : inf.size = 1
             · simp only [h1, decide_true, cond_true] at hdst
               split at hdst
               · rename_i i rr ww j m k' e1
                 rw [e1] at hd
                 generalize hdv : ev d = ud at hd
                 split at hdst
                 · rename_i k ll hB
                   rw [beq_dec] at hdst
                   by_cases hw : ww = k
                   · subst hw
                     simp only [decide_true, cond_true, Option.some.injEq, Prod.mk.injEq] at hdst
                     obtain ⟨rfl, rfl, rfl⟩ := hdst
                     obtain ⟨hD1, hD2⟩ := hC2
                     cases hd with
                     | @pw _ b c _ _ _ _ _ hi hn =>
                       have hmin : (xs.take (Nat.min xs.length m)).length = Nat.min xs.length m := by
                         rw [List.length_take]; exact Nat.min_eq_left (Nat.min_le_left _ _)
                       have hle : Nat.min xs.length m ≤ m := Nat.min_le_right _ _
                       obtain ⟨g1, g2, g3⟩ := hr.rowsPut (j := j) (xs := xs.take (Nat.min xs.length m)) hi hB hD1 (by rw [hmin]; omega)
                       refine ⟨ρ, .int .i64 (Nat.min xs.length m : Nat), _, .inl ?_, .sy _, g2, g3⟩
                       have hex : execOp ev ⟨dst, .call ⟨.builtin .copy, #[d, s], #[t, tx]⟩, type, pos, after, guard⟩ = builtin .copy #[t, tx] type (#[d, s].map fun | .const _ => true | _ => false) (#[d, s].map ev) := rfl
                       have hfirst : (Builtin.firstCells 1 (Nat.min xs.length m) (.slice sa xs.length sc)).run P w = .ok ((xs.take (Nat.min xs.length m)).map byt).toArray w := by
                         cases sa with
                         | none =>
                           obtain ⟨_, _, hx⟩ := hwin.nil_inv
                           have : xs = [] := by simpa using hx
                           subst this
                           rfl
                         | some ad =>
                           have hl := run_loadCells_list (P := P) w ad ((xs.take (Nat.min xs.length m)).map byt) (fun q v hq => hwin.cell ad rfl q v (by
                             rw [List.map_take, List.getElem?_take] at hq
                             split at hq
                             · exact hq
                             · cases hq))
                           rw [List.length_map, hmin] at hl
                           unfold Builtin.firstCells
                           rw [Nat.mul_one]; exact hl
                       have hstore := run_storeCells_cells (P := P) b (rr * ww + j) ((xs.take (Nat.min xs.length m)).map byt) 0 w (fun q hq => by simpa using (g1 q (by simpa using hq)).1) (fun q hq => by simpa using (g1 q (by simpa using hq)).2) (byt_one _)
                       rw [Nat.add_zero] at hstore
                       have hcp : (Builtin.copy_ #[t, tx] type #[.slice (some ⟨b, rr * ww + j, none⟩) m k', .slice sa xs.length sc]).run P w = .ok (.int .i64 (Nat.min xs.length m : Nat)) (w.setCells b (rr * ww + j) ((xs.take (Nat.min xs.length m)).map byt)) := by
                         unfold Builtin.copy_
                         simp only [List.getElem?_toArray, List.getElem?_cons_zero, List.getElem?_cons_succ, Sem.run_bind, run_underlying hu, Result.andThen_ok, Builtin.lenOf, Sem.run_pure, run_sizeOf hinf, h1, hfirst, hstore]
                         rfl
                       rw [hex]
                       have hm2 : #[d, s].map ev = #[.slice (some ⟨b, rr * ww + j, none⟩) m k', .slice sa xs.length sc] := by simp [hdv, hsv]
                       rw [hm2]
                       simp [builtin, hcp]
                   · simp [hw] at hdst
                 · cases hdst
               · cases hdst
             · simp [h1] at hdst
           · cases hdst
         · cases hdst
       · cases h
     · cases h
   · cases h
 · cases h
/-! Splices. -/
theorem splice_get {α : Type} (l us : List α) (o : Nat) (h : o + us.length ≤ l.length) (p : Nat) : (l.take o ++ us ++ l.drop (o + us.length))[p]? = if p < o then l[p]? else if p < o + us.length then us[p - o]? else l[p]? := by
 by_cases h1 : p < o
 · rw [if_pos h1, List.append_assoc, List.getElem?_append_left (by rw [List.length_take]; omega), List.getElem?_take, if_pos h1]
 · rw [if_neg h1]
   by_cases h2 : p < o + us.length
   · rw [if_pos h2, List.getElem?_append_left (by rw [List.length_append, List.length_take]; omega), List.getElem?_append_right (by rw [List.length_take]; omega)]
     congr 1
     rw [List.length_take]; omega
   · rw [if_neg h2, List.getElem?_append_right (by rw [List.length_append, List.length_take]; omega), List.getElem?_drop]
     congr 1
     rw [List.length_append, List.length_take]; omega
theorem row_get {α : Type} (l : List α) (w r p : Nat) : ((l.drop (r * w)).take w)[p]? = if p < w then l[r * w + p]? else none := by
 rw [List.getElem?_take]
 by_cases h : p < w
 · rw [if_pos h, if_pos h, List.getElem?_drop]
 · rw [if_neg h, if_neg h]
theorem row_other {α : Type} {l us : List α} {w r j q : Nat} (h : j + us.length ≤ w) (hl : r * w + w ≤ l.length) (hq : q ≠ r) : ((l.take (r * w + j) ++ us ++ l.drop (r * w + j + us.length)).drop (q * w)).take w = (l.drop (q * w)).take w := by
 apply List.ext_getElem?
 intro p
 rw [row_get, row_get]
 by_cases hp : p < w
 · rw [if_pos hp, if_pos hp, splice_get _ _ _ (by omega)]
   rcases Nat.lt_or_gt_of_ne hq with h1 | h1
   · have : q * w + w ≤ r * w := by have := Nat.mul_le_mul_right w (Nat.succ_le_of_lt h1); rw [Nat.succ_mul] at this; exact this
     rw [if_pos (by omega)]
   · have : r * w + w ≤ q * w := by have := Nat.mul_le_mul_right w (Nat.succ_le_of_lt h1); rw [Nat.succ_mul] at this; exact this
     rw [if_neg (by omega), if_neg (by omega)]
 · rw [if_neg hp, if_neg hp]
theorem row_same {α : Type} {l us : List α} {w r j : Nat} (h : j + us.length ≤ w) (hl : r * w + w ≤ l.length) : ((l.take (r * w + j) ++ us ++ l.drop (r * w + j + us.length)).drop (r * w)).take w = ((l.drop (r * w)).take w).take j ++ us ++ ((l.drop (r * w)).take w).drop (j + us.length) := by
 apply List.ext_getElem?
 intro p
 rw [row_get, splice_get _ _ _ (by omega), splice_get _ _ _ (by rw [List.length_take, List.length_drop]; omega), row_get]
 by_cases hp : p < w
 · rw [if_pos hp, if_pos hp]
   by_cases h1 : p < j
   · rw [if_pos (by omega), if_pos h1]
   · rw [if_neg (by omega), if_neg h1]
     by_cases h2 : p < j + us.length
     · rw [if_pos (by omega), if_pos h2]; congr 1; omega
     · rw [if_neg (by omega), if_neg h2]
 · rw [if_neg hp, if_neg (by omega), if_neg (by omega), if_neg hp]
mutual
def bareA : AV → Bool
 | .v _ => true
 | .sy _ => true
 | .any => true
 | .by8 _ => true
 | .im .. => true
 | .ip _ => true
 | .ba _ => true
 | .ib _ => true
 | .agg l => bareL l
 | _ => false
def bareL : List AV → Bool
 | [] => true
 | x :: l => bareA x && bareL l
end
mutual
theorem bareA_VR {ρ : Env} : ∀ {x : AV} {u : Value}, bareA x = true → VR ρ x u → VR0 ρ.im x u
 | _, _, _, .v x => .v x
 | _, _, _, .sy x => .sy x
 | _, _, _, .any u => .any u
 | _, _, _, .by8 k => .by8 k
 | _, _, _, .im k e => .im k e
 | _, _, _, .ip k e => .ip k e
 | _, _, _, .ba bs => .ba bs
 | _, _, _, .ib k => .ib k
 | _, _, h, .agg e => .agg (bareL_VRs (by simpa [bareA] using h) e)
 | _, _, h, .ptr .. => by simp [bareA] at h
 | _, _, h, .sl .. => by simp [bareA] at h
 | _, _, h, .su .. => by simp [bareA] at h
 | _, _, h, .se .. => by simp [bareA] at h
 | _, _, h, .s0 .. => by simp [bareA] at h
 | _, _, h, .mp .. => by simp [bareA] at h
 | _, _, h, .tup .. => by simp [bareA] at h
 | _, _, h, .fn .. => by simp [bareA] at h
 | _, _, h, .yl .. => by simp [bareA] at h
 | _, _, h, .ifc .. => by simp [bareA] at h
 | _, _, h, .ow .. => by simp [bareA] at h
 | _, _, h, .ow0 .. => by simp [bareA] at h
 | _, _, h, .ws .. => by simp [bareA] at h
 | _, _, h, .ws0 .. => by simp [bareA] at h
 | _, _, h, .pe .. => by simp [bareA] at h
 | _, _, h, .pw .. => by simp [bareA] at h
 | _, _, h, .ix .. => by simp [bareA] at h
theorem bareL_VRs {ρ : Env} : ∀ {l : List AV} {vs : List Value}, bareL l = true → VRs ρ l vs → VRs0 ρ.im l vs
 | _, _, _, .nil => .nil
 | _, _, h, .cons e t => by
   simp only [bareL, Bool.and_eq_true] at h
   exact .cons (bareA_VR h.1 e) (bareL_VRs h.2 t)
end
theorem VRs0.take' {I : Im} {l : List AV} {vs : List Value} (h : VRs0 I l vs) (n : Nat) : VRs0 I (l.take n) (vs.take n) := by
 induction l generalizing vs n with
 | nil => cases h; simpa using VRs0.nil
 | cons y l ih => cases h with | cons e t => cases n with | zero => exact .nil | succ n => exact .cons e (ih t n)
theorem VRs0.append {I : Im} {l m : List AV} {vs us : List Value} (h : VRs0 I l vs) (k : VRs0 I m us) : VRs0 I (l ++ m) (vs ++ us) := by
 induction l generalizing vs with
 | nil => cases h; simpa using k
 | cons y l ih => cases h with | cons e t => exact .cons e (ih t)
section
variable {w0 : Bs} {w w' : World} {ρ : Env} {H : Tr AB} {n : Nat}
theorem HR.kill (h : HR w0 ρ H n w) {i : Nat} (hi : i < n) : HR w0 ρ (tput H i .dead) n w := by
 obtain ⟨F, hF⟩ := h.foot
 have get : ∀ {j : Nat} {C : AB}, (tput H i .dead).get j = some C → C.live = true → j ≠ i ∧ H.get j = some C := fun {j C} hq hl => by
   rw [get_tput] at hq
   split at hq
   · cases hq; cases hl
   · rename_i e; exact ⟨e, hq⟩
 refine ⟨fun {j b c C} h1 h2 => ?_, ⟨F, fun h1 h2 h3 => hF.one h1 (get h2 h3).2 h3, fun h1 h2 => hF.obj h1 (get h2 rfl).2, fun h1 h2 h3 h4 h5 h6 => hF.apart h1 h2 (get h3 h5).2 (get h4 h6).2 h5 h6, fun h1 h2 h3 => hF.there h1 (get h2 h3).2 h3⟩, fun {j} hj => ⟨(h.top hj).1, ?_⟩, h.base, h.fr, h.le, h.im, h.imn, fun {j} hk => ⟨(h.kb hk).1, (h.kb hk).2.1, fun T l => by
   rw [get_tput]
   split
   · exact nofun
   · exact (h.kb hk).2.2 T l⟩⟩
 · rw [get_tput] at h2
   split at h2
   · cases h2
     have := (h.base h1).2
     exact ⟨w.heap[b], by simp [this], trivial⟩
   · exact h.blk h1 h2
 · rw [get_tput, if_neg (by omega)]; exact (h.top hj).2
theorem HR.moveG {i b c d g : Nat} {B B' : AB} {o : Obj} (h : HR w0 ρ H n w) (hi : ρ i = some (b, c)) (hB : H.get i = some B) (hl : B.live = true) (hob : B.isObj = false) (hno : B'.isObj = false) (hg : g = b ∨ w.heap.size ≤ g) (ho : w'.heap[g]? = some o) (hb : BR (ρ.set n (g, d)) d B' o)
   (hf : Fr (fun k => k = b) w w') : HR w0 (ρ.set n (g, d)) (tput (tput H i .dead) n B') (n + 1) w' := by
 have hin : i < n := by
   rcases Nat.lt_or_ge i n with h' | h'
   · exact h'
   · rw [(h.top h').1] at hi; cases hi
 have hgl : g < w'.heap.size := (Array.getElem?_eq_some_iff.1 ho).1
 have hle : ρ.le (ρ.set n (g, d)) := Env.le_set (h.top (Nat.le_refl _)).1 _
 obtain ⟨F, hF⟩ := h.foot
 obtain ⟨hFb, hFo⟩ := hF.one hi hB hl
 have hFi := hFo hob
 have get : ∀ {j : Nat} {C : AB}, j ≠ n → (tput (tput H i .dead) n B').get j = some C → C.live = true → H.get j = some C ∧ j ≠ i := fun {j C} e h1 h2 => by
   rw [get_tput, if_neg e, get_tput] at h1
   split at h1
   · cases h1; cases h2
   · rename_i q; exact ⟨h1, q⟩
 have off : ∀ {j k : Nat} {p : Nat × Nat} {C : AB}, j ≠ i → ρ j = some p → H.get j = some C → C.live = true → F j k → k ≠ b ∧ k < w.heap.size := fun hj h1 h2 h3 h4 =>
   ⟨fun e => hj (hF.apart h1 hi h2 hB h3 hl h4 (e ▸ hFb)), (hF.there h1 h2 h3 h4).2.1⟩
 have offg : ∀ {j k : Nat} {p : Nat × Nat} {C : AB}, j ≠ i → ρ j = some p → H.get j = some C → C.live = true → F j k → k ≠ g := fun hj h1 h2 h3 h4 e => by
   have := off hj h1 h2 h3 h4
   rcases hg with hg | hg <;> omega
 have nm : ∀ {j : Nat} {p : Nat × Nat}, (ρ.set n (g, d)) j = some p → j ≠ n → ρ j = some p := fun {j p} h1 h2 => by rwa [Env.set_at, if_neg h2] at h1
 refine ⟨fun {j b' d' C} h1 h2 => ?_, ⟨fun j k => if j = n then k = g else F j k, ⟨fun {j b' d' C} h1 h2 h3 => ?_, fun {j b' d' x} h1 h2 => ?_, fun {j l k p q C D} h1 h2 h3 h4 h5 h6 h7 h8 => ?_, fun {j k p C} h1 h2 h3 h4 => ?_⟩⟩, fun {j} hj => ⟨?_, ?_⟩, fun {j b' d'} h1 => ?_, ?_, Env.le_trans h.le hle, fun {k c'} h1 => ?_, h.imn, fun {j} hk => ⟨by rw [Env.set_at, if_neg (Nat.ne_of_lt (h.kb hk).2.1)]; exact (h.kb hk).1, Nat.lt_succ_of_lt (h.kb hk).2.1, fun T l => by
   rw [get_tput, if_neg (Nat.ne_of_lt (h.kb hk).2.1), get_tput]
   split
   · exact nofun
   · exact (h.kb hk).2.2 T l⟩⟩
 · by_cases e : j = n
   · subst e
     rw [Env.set_same] at h1; cases h1
     rw [get_tput, if_pos rfl] at h2; cases h2
     exact ⟨o, ho, hb⟩
   · have h1' := nm h1 e
     cases hlv : C.live with
     | true =>
       obtain ⟨h3, h4⟩ := get e h2 hlv
       obtain ⟨o', h5, h6⟩ := h.blk h1' h3
       have hk := off h4 h1' h3 hlv (hF.one h1' h3 hlv).1
       exact ⟨o', (hf.block _ hk.2 hk.1).trans h5, h6.mono hle⟩
     | false =>
       have hlt := Nat.lt_of_lt_of_le (h.base h1').2 hf.size
       refine ⟨w'.heap[b'], by simp [hlt], ?_⟩
       cases C <;> first | (cases hlv; done) | trivial
 · by_cases e : j = n
   · subst e
     rw [Env.set_same] at h1; cases h1
     simp only [if_true]
     exact ⟨trivial, fun _ k hk => hk⟩
   · simp only [if_neg e]
     exact hF.one (nm h1 e) (get e h2 h3).1 h3
 · by_cases e : j = n
   · subst e; rw [get_tput, if_pos rfl] at h2; cases h2; cases hno
   · simp only [if_neg e]
     have hg' := get e h2 rfl
     refine Ob.rep_st (hF.obj (nm h1 e) hg'.1) fun k hk => ?_
     have := off hg'.2 (nm h1 e) hg'.1 rfl hk
     exact hf.block k this.2 this.1
 · by_cases e : j = n <;> by_cases e' : l = n
   · rw [e, e']
   · exfalso
     simp only [e, if_true] at h7
     simp only [e', if_false] at h8
     have hg' := get e' h4 h6
     exact offg hg'.2 (nm h2 e') hg'.1 h6 h8 h7
   · exfalso
     simp only [e, if_false] at h7
     simp only [e', if_true] at h8
     have hg' := get e h3 h5
     exact offg hg'.2 (nm h1 e) hg'.1 h5 h7 h8
   · simp only [e, if_false] at h7
     simp only [e', if_false] at h8
     exact hF.apart (nm h1 e) (nm h2 e') (get e h3 h5).1 (get e' h4 h6).1 h5 h6 h7 h8
 · by_cases e : j = n
   · simp only [e, if_true] at h4
     subst h4
     rcases hg with rfl | hg
     · have := hF.there hi hB hl hFb
       exact ⟨this.1, hgl, this.2.2⟩
     · refine ⟨.inr (Nat.le_trans h.fr.size hg), hgl, ?_⟩
       show ρ.im k = none
       cases hk : ρ.im k with
       | none => rfl
       | some c => have := h.imlt hk; omega
   · simp only [e, if_false] at h4
     have := hF.there (nm h1 e) (get e h2 h3).1 h3 h4
     exact ⟨this.1, Nat.lt_of_lt_of_le this.2.1 hf.size, this.2.2⟩
 · rw [Env.set_at, if_neg (by omega)]; exact (h.top (by omega)).1
 · rw [get_tput, if_neg (by omega), get_tput, if_neg (by omega)]; exact (h.top (by omega)).2
 · by_cases e : j = n
   · subst e
     rw [Env.set_same] at h1; cases h1
     refine ⟨?_, hgl⟩
     rcases hg with rfl | hg
     · exact (h.base hi).1
     · exact .inr (Nat.le_trans h.fr.size hg)
   · have := h.base (nm h1 e)
     exact ⟨this.1, Nat.lt_of_lt_of_le this.2 hf.size⟩
 · exact h.fr.trans hf (fun k hk => hk ▸ (h.base hi).1)
 · obtain ⟨T, fz, h2⟩ := h.im h1
   refine ⟨T, fz, (hf.block k (h.imlt h1) fun e => ?_).trans h2⟩
   have := (hF.there hi hB hl hFb).2.2
   have h1' : ρ.im b = some c' := e ▸ h1
   rw [this] at h1'; cases h1'
theorem HR.newB (h : HR w0 ρ H n w) {g c : Nat} {B : AB} {o : Obj} (hf : Fr No w w') (ho : w'.heap[g]? = some o) (hg : w.heap.size ≤ g) (hno : B.isObj = false) (hb : BR (ρ.set n (g, c)) c B o) :
   HR w0 (ρ.set n (g, c)) (tput H n B) (n + 1) w' ∧ Ext ρ (ρ.set n (g, c)) H (tput H n B) n (n + 1) := by
 have hn := (h.top (Nat.le_refl n)).1
 refine ⟨(h.put B).nameF hf hg ho (Nat.lt_succ_self _) hn (by rw [get_tput, if_pos rfl]) hno hb (fun hk => Nat.lt_irrefl _ (h.kb hk).2.1), Env.le_set hn _, fun {i} hi => by rw [Env.set_at, if_neg (by omega)], fun {i} hi _ => Keeps.of (by rw [get_tput, if_neg (by omega)]), Nat.le_succ _⟩
theorem HR.appended (h : HR w0 ρ H n w) {i len m size : Nat} {v v' : Value} {e : TypeId} {l : List Value} {B B' : AB} (hx : VR ρ (.ow i len) v) (hB : H.get i = some B) (hl : B.live = true) (hob : B.isObj = false) (hmem : ∀ T l, B ≠ .mem T none l) (hno : B'.isObj = false)
   (ha : Appended w e size v len m l v' w') (hb : ∀ {g c : Nat} {sp : List Value} {ρ' : Env}, ρ'.im = ρ.im → l.length = (len + m) * size → (l ++ sp).length = c * size → len + m ≤ c → c ≤ maxLen → BR ρ' c B' (.cells (l ++ sp).toArray e (0, 0))) :
   ∃ ρ', VR ρ' (.ow n (len + m)) v' ∧ HR w0 ρ' (tput (tput H i .dead) n B') (n + 1) w' ∧ Ext ρ ρ' H (tput (tput H i .dead) n B') n (n + 1) := by
 have hin : i < n := by
   rcases Nat.lt_or_ge i n with h' | h'
   · exact h'
   · rw [(h.top h').2] at hB; cases hB
 have hn := (h.top (Nat.le_refl n)).1
 have ext : ∀ {g c : Nat}, Ext ρ (ρ.set n (g, c)) H (tput (tput H i .dead) n B') n (n + 1) := fun {g c} => ⟨Env.le_set hn _, fun {j} hj => by rw [Env.set_at, if_neg (by omega)], fun {j} hj _ T l' q => by
   have hji : j ≠ i := fun e => by subst e; rw [hB] at q; cases q; exact hmem _ _ rfl
   rw [get_tput, if_neg (by omega), get_tput, if_neg hji]; exact q, Nat.le_succ _⟩
 rcases ha.own.cases with ⟨rfl, h0, rfl⟩ | ⟨g, c, rfl⟩
 · have hv := (ha.isNil.1 rfl).1
   subst hv
   have hf : Fr No w w' := ha.fr.mono fun k hk => by cases hk
   rw [h0]
   refine ⟨ρ, .ow0 _, ?_, ?_⟩
   · exact ((h.old hf).kill hin).put B'
   · exact ⟨ρ.le_refl, fun _ => rfl, fun {j} hj _ T l' q => by
       have hji : j ≠ i := fun e => by subst e; rw [hB] at q; cases q; exact hmem _ _ rfl
       rw [get_tput, if_neg (by omega), get_tput, if_neg hji]; exact q, Nat.le_succ _⟩
 · obtain ⟨sp, q1, q2, q3, q4, q5⟩ := ha.own.blk
   have hbr := hb (g := g) (c := c) (sp := sp) (ρ' := ρ.set n (g, c)) rfl q2 q3 q4 q5
   have hvr : VR (ρ.set n (g, c)) (.ow n (len + m)) (.slice (some ⟨g, 0, none⟩) (len + m) c) := .ow _ (Env.set_same _ _ _) q4 q5
   cases hx with
   | @ow _ b c0 _ hi hn0 hc0 =>
     refine ⟨_, hvr, h.moveG hi hB hl hob hno ?_ q1 hbr (ha.fr.mono fun k hk => ?_), ext⟩
     · rcases ha.blk with e1 | ⟨k, e1, e2⟩
       · left; simpa [Value.ownBlock] using e1
       · right
         have : g = k := by simpa [Value.ownBlock] using e1
         rw [this]; exact e2
     · have : b = k := by simpa [Value.ownBlock] using hk
       exact this.symm
   | ow0 =>
     have hf : Fr No w w' := ha.fr.mono fun k hk => by cases hk
     have hgn : w.heap.size ≤ g := by
       rcases ha.blk with e1 | ⟨k, e1, e2⟩
       · cases e1
       · have : g = k := by simpa [Value.ownBlock] using e1
         rw [this]; exact e2
     obtain ⟨g1, _⟩ := h.newB (c := c) hf q1 hgn hno hbr
     refine ⟨_, hvr, ?_, ext⟩
     exact (g1.kill (i := i) (by omega)).congr fun j => by
       rw [get_tput, get_tput, get_tput, get_tput]
       by_cases e1 : j = n
       · subst e1; rw [if_pos rfl, if_neg (by omega), if_pos rfl]
       · rw [if_neg e1, if_neg e1]
end
def wsrc (x : AV) (H : Tr AB) : Option (List UInt8 × Prop) :=
 match x with
 | .ws i o n w => match H.get i with
   | some (.bb _ bs) => cond (Nat.beq w 1) (some ((bs.drop o).take n, o + n ≤ bs.length)) none
   | _ => none
 | _ => none
theorem wsrc_sound {w0 : Bs} {ρ : Env} {H : Tr AB} {n : Nat} {w : World} (hr : HR w0 ρ H n w) {x : AV} {u : Value} {r : List UInt8 × Prop} (h : wsrc x H = some r) (hC : r.2) (hx : VR ρ x u) : ∃ a c, u = .slice a r.1.length c ∧ Win w a r.1.length c (r.1.map byt) := by
 unfold wsrc at h
 split at h
 · rename_i i o m ww
   split at h
   · rename_i T bs hB
     rw [beq_dec] at h
     by_cases hw : ww = 1
     · subst hw
       simp only [decide_true, cond_true, Option.some.injEq] at h
       subst h
       have hC' : o + m ≤ bs.length := hC
       have hl : ((bs.drop o).take m).length = m := by simp; omega
       simp only [hl]
       cases hx with
       | @ws _ b d _ _ _ c hi hn hc =>
         obtain ⟨ob, ho, sp, rfl, h1, h2⟩ := hr.blk hi hB
         refine ⟨_, _, rfl, ?_⟩
         have := win_block (o := o) (n := m) ho (by simp; omega) hn hc
         rw [Nat.mul_one]
         rw [List.drop_append_of_le_length (by simp; omega), List.take_append_of_le_length (by simp; omega)] at this
         rwa [← List.map_drop, ← List.map_take] at this
       | ws0 _ _ _ a c hc ha =>
         refine ⟨a, c, rfl, ?_⟩
         rw [List.take_zero]
         exact ⟨rfl, Nat.zero_le _, hc, ha, fun ad had j u hu => by cases hu⟩
     · simp [hw] at h
   · cases h
 · cases h
def symR2 (P : Program) (t : TypeId) (q : AV) (H : Tr AB) : Option (AV × Prop) :=
 match q with
 | .pe i r w j => match H.get i, P.underlying t with
   | some (.bb _ bs), some (.int .u8) => cond (Nat.beq w 1 && Nat.beq j 0) (some (byA bs r, r < bs.length)) none
   | _, _ => none
 | .tup [x] => match P.underlying (t / 65536), P.underlying (t % 65536) with
   | some (.slice e), some .string => match P.underlying e, x with
     | some (.int .u8), .pw i r w j n k => match bsrc (.pw i r w j n k) H with | some (bs, C) => some (.sy (.string (str bs)), C) | none => none
     | some (.int .u8), .sl i o n c => match bsrc (.sl i o n c) H with | some (bs, C) => some (.sy (.string (str bs)), C) | none => none
     | some (.int .u8), .ow i n => match bsrc (.ow i n) H with | some (bs, C) => some (.sy (.string (str bs)), C) | none => none
     | some (.int .u8), .ws i o n w => match wsrc (.ws i o n w) H with | some (bs, C) => some (.sy (.string (str bs)), C) | none => none
     | _, _ => none
   | _, _ => none
 | _ => none
theorem rdOf_tup {T : Tr AV} {o : Oper} {t : TypeId} {x : AV} (h : rdOf T o = some (t, .tup [x])) : ∃ s d y, o.op = .convert s d y ∧ aev T y = x ∧ t / 65536 = s ∧ t % 65536 = d := by
 unfold rdOf at h
 split at h
 · split at h <;> cases h
 · rename_i s d y hop
   cases hb : Nat.blt d 65536 with
   | false => rw [hb] at h; cases h
   | true =>
     rw [hb] at h
     simp only [cond_true, Option.some.injEq, Prod.mk.injEq, AV.tup.injEq, List.cons.injEq, and_true] at h
     obtain ⟨rfl, h2⟩ := h
     have : d < 65536 := by simpa [Nat.blt_eq] using hb
     exact ⟨s, d, y, hop, h2, rd_div s d this, rd_mod s d this⟩
 · cases h
 · cases h
theorem symR2_sound {P : Program} {w0 : Bs} {ρ : Env} {H : Tr AB} {n : Nat} {w : World} {T : Tr AV} {o : Oper} {t : TypeId} {q : AV} {r : AV × Prop} {ev : Operand → Value} (h : rdOf T o = some (t, q) ∨ (rdOf T o = none ∧ symRd T o = some (t, q))) (hx : symR2 P t q H = some r) (hC : r.2) (hr : HR w0 ρ H n w) (hev : ∀ y ∈ o.op.operands, VR ρ (aev T y) (ev y)) :
   ∃ v, VR ρ r.1 v ∧ (execOp ev o).run P w = .ok (.value v) w := by
 unfold symR2 at hx
 split at hx
 · rename_i i rr ww j
   obtain ⟨a, hop, ha⟩ : ∃ a, o.op = .load t a ∧ aev T a = .pe i rr ww j := by
     rcases h with h | ⟨_, h⟩
     · unfold rdOf at h
       split at h
       · split at h <;> cases h
       · rename_i d _ _
         cases hbl : Nat.blt d 65536 <;> rw [hbl] at h <;> cases h
       · cases h
       · cases h
     · unfold symRd at h
       split at h
       · rename_i t' a' hop
         split at h
         · rename_i ha; cases h; exact ⟨a', hop, ha⟩
         · cases h
       · cases h
   obtain ⟨dst, op, type, pos, after, guard⟩ := o
   simp only at hop
   subst hop
   have he := hev a (by simp [Op.operands])
   rw [ha] at he
   split at hx
   · rename_i T' bs hB hu
     cases hc : (Nat.beq ww 1 && Nat.beq j 0) with
     | false => rw [hc] at hx; cases hx
     | true =>
       rw [hc, cond_true, Option.some.injEq] at hx
       subst hx
       simp only [Bool.and_eq_true, Nat.beq_eq] at hc
       obtain ⟨rfl, rfl⟩ := hc
       have hlt : rr < bs.length := hC
       generalize hev' : ev a = u at he
       cases he with
       | @pe _ b c _ _ _ hi =>
         obtain ⟨ob, ho, sp, rfl, h1, h2⟩ := hr.blk hi hB
         refine ⟨_, .sy _, ?_⟩
         have : w.cell? ⟨b, rr * 1 + 0, none⟩ = some (.int .u8 ((bs.getD rr 0).toNat : Int)) := by
           rw [cells_cell ho, List.getElem?_append_left (by simp; omega), List.getElem?_map, Nat.mul_one, Nat.add_zero, List.getElem?_eq_getElem hlt, List.getD_eq_getElem?_getD, List.getElem?_eq_getElem hlt]
           rfl
         rw [Nat.mul_one, Nat.add_zero] at this
         unfold execOp Instr.loadAt loadVar
         simp [hev', Instr.sureAddr, run_isAgg hu, aggB, this]
   · cases hx
 · rename_i x
   obtain ⟨s, d, y, hop, hy, e1, e2⟩ : ∃ s d y, o.op = .convert s d y ∧ aev T y = x ∧ t / 65536 = s ∧ t % 65536 = d := by
     rcases h with h | ⟨_, h⟩
     · exact rdOf_tup h
     · unfold symRd at h
       split at h
       · split at h <;> cases h
       · cases h
   obtain ⟨dst, op, type, pos, after, guard⟩ := o
   simp only at hop
   subst hop
   have he := hev y (by simp [Op.operands])
   rw [hy] at he
   rw [e1, e2] at hx
   have fin : ∀ {e : TypeId} {bs : List UInt8} {C : Prop} , P.underlying s = some (.slice e) → P.underlying d = some .string → P.underlying e = some (.int .u8) → (bsrc x H = some (bs, C) ∨ wsrc x H = some (bs, C)) → C →
       (execOp ev ⟨dst, .convert s d y, type, pos, after, guard⟩).run P w = .ok (.value (.string (str bs))) w := by
     intro e bs C h1 h2 h3 h4 h5
     obtain ⟨a, c, hv, hw⟩ := h4.elim (fun h4 => bsrc_sound hr h4 h5 he) (fun h4 => wsrc_sound hr h4 h5 he)
     have := run_str (P := P) h1 h3 h2 hw
     unfold execOp
     simp only [hv, Sem.run_bind, this, Result.andThen_ok, Sem.run_pure]
   split at hx
   · rename_i e hs hd
     split at hx
     · rename_i hu
       split at hx
       · rename_i bs C hq
         cases hx
         exact ⟨_, .sy _, fin hs hd hu (.inl hq) hC⟩
       · cases hx
     · rename_i hu
       split at hx
       · rename_i bs C hq
         cases hx
         exact ⟨_, .sy _, fin hs hd hu (.inl hq) hC⟩
       · cases hx
     · rename_i hu
       split at hx
       · rename_i bs C hq
         cases hx
         exact ⟨_, .sy _, fin hs hd hu (.inl hq) hC⟩
       · cases hx
     · rename_i hu
       split at hx
       · rename_i bs C hq
         cases hx
         exact ⟨_, .sy _, fin hs hd hu (.inr hq) hC⟩
       · cases hx
     · cases hx
   · cases hx
 · cases hx
/-! Stores. -/
def rwSet (f : Nat → List AV) (r j : Nat) (c : List AV) : Nat → List AV := fun q => cond (Nat.beq q r) (spliceA (f r) j c) (f q)
def rwPush (f : Nat → List AV) (n : Nat) (c : List AV) : Nat → List AV := fun q => cond (Nat.blt q n) (f q) c
theorem HR.rwPut {w0 : Bs} {w : World} {ρ : Env} {H : Tr AB} {n : Nat} (hr : HR w0 ρ H n w) {i b c' ww m r j : Nat} {T : TypeId} {f : Nat → List AV} {c : List AV} {us : List Value} (hi : ρ i = some (b, c')) (hB : H.get i = some (.rw T ww m f)) (hlt : r < m) (hj : j + c.length ≤ ww) (hc : VRs ρ c us) (hb : bareL c = true) :
   w.there b (r * ww + j) us.length ∧ HR w0 ρ (tput H i (.rw T ww m (rwSet f r j c))) n (w.setCells b (r * ww + j) us) := by
 obtain ⟨ob, ho, vs, sp, rfl, h1, h2, h3, h4, h5⟩ := hr.blk hi hB
 have hcl := hc.length
 have hle : r * ww + ww ≤ m * ww := by
   have := Nat.mul_le_mul_right ww (Nat.succ_le_of_lt hlt)
   rw [Nat.succ_mul] at this; exact this
 refine ⟨cells_there ho (.inl rfl) (by simp; omega), ?_⟩
 refine hr.write hi hB rfl rfl (cells_setCells us _ ho (by simp; omega)) ⟨vs.take (r * ww + j) ++ us ++ vs.drop (r * ww + j + us.length), sp, ?_, ?_, ?_, h3, h4, fun q hq => ?_⟩ (fr_setCells us w _)
 · rw [List.take_append_of_le_length (by omega), List.drop_append_of_le_length (by omega)]
   simp
 · simp only [List.length_append, List.length_take, List.length_drop]; omega
 · rw [← h2]; simp only [List.length_append, List.length_take, List.length_drop]; omega
 · unfold rwSet
   rw [beq_dec]
   by_cases e : q = r
   · subst e
     simp only [decide_true, cond_true]
     rw [row_same (by omega) (by omega)]
     unfold spliceA
     rw [hcl]
     have hrow := h5 q hq
     exact ((hrow.take' j).append (bareL_VRs hb hc)).append (hrow.drop _)
   · simp only [e, decide_false, cond_false]
     rw [row_other (by omega) (by omega) e]
     exact h5 q hq
def zeroU : Value → Bool
 | .int .u8 z => decide (z = 0)
 | _ => false
def src1 (k : Nat) (x : AV) (H : Tr AB) : Option (List AV) :=
 match x with
 | .sl i o 1 _ => match H.get i with
   | some (.mem _ _ l) => cond (Nat.ble (o + k) l.length) (some ((l.drop o).take k)) none
   | _ => none
 | _ => none
theorem src1_sound {w0 : Bs} {w : World} {ρ : Env} {H : Tr AB} {n : Nat} (hr : HR w0 ρ H n w) {k : Nat} {x : AV} {l : List AV} {u : Value} (h : src1 k x H = some l) (hx : VR ρ x u) : ∃ (a : Addr) (c : Nat) (us : List Value), u = .slice (some a) 1 c ∧ VRs ρ l us ∧ us.length = k ∧ ∀ j v, us[j]? = some v → w.cell? (a.add j) = some v := by
 unfold src1 at h
 split at h
 · rename_i i o c
   split at h
   · rename_i T z l' hB
     cases hc : Nat.ble (o + k) l'.length with
     | false => rw [hc] at h; cases h
     | true =>
       rw [hc, cond_true, Option.some.injEq] at h
       subst h
       have hle : o + k ≤ l'.length := Nat.le_of_ble_eq_true hc
       cases hx with
       | @sl _ b d _ _ _ hi =>
         obtain ⟨ob, ho, vs, sp, fz, hv, rfl, hz, _⟩ := hr.blk hi hB
         have hlen := hv.length
         refine ⟨_, _, _, rfl, (hv.drop o).take k, by simp; omega, fun j v hj => ?_⟩
         have := cells_range ho (o := o) (k := k) (by simp; omega)
         rw [List.drop_append_of_le_length (by omega), List.take_append_of_le_length (by simp; omega)] at this
         rw [Addr.add_mid]
         exact this j v hj
   · cases h
 · cases h
def symW2 (P : Program) (T : Tr AV) (o : Oper) (H : Tr AB) (n : Nat) : Option ((AV × Tr AB × Nat) × Prop) :=
 match o.op with
 | .store t a x => match aev T a, P.info? t with
   | .pe i r w j, some inf => match H.get i with
     | some (.rw T' w' m f) => cond (Nat.beq w w' && (aev T x).known && Nat.beq (aev T x).cells.length inf.size && Nat.ble (j + (aev T x).cells.length) w && (aev T x).cells.all oneA && bareL (aev T x).cells)
         (some ((.v undef, tput H i (.rw T' w' m (rwSet f r j (aev T x).cells)), n), r < m)) none
     | some (.bb T' bs) => match intA (aev T x) with
       | some (.u8, z) => cond (Nat.beq w 1 && Nat.beq j 0 && Nat.beq inf.size 1) (some ((.v undef, tput H i (.bb T' (bs.set r (UInt8.ofNat z.toNat))), n), r < bs.length ∧ 0 ≤ z ∧ z < 256)) none
       | _ => none
     | _ => none
   | _, _ => none
 | .makeSlice t l c => match intA (aev T l), intA (aev T c), P.underlying t with
   | some (_, a), some (_, b), some (.slice e) => match P.info? e, P.underlying e with
     | some inf, some d => match inf.zero with
       | some z => cond (Nat.ble 1 inf.size && Nat.beq (ofV z).cells.length inf.size && Nat.ble inf.bytes 65536)
           (match d with
            | .int .u8 => cond (zeroU z) (some ((.ow n a.toNat, tput H n (.bb e (List.replicate a.toNat 0)), n + 1), a = b ∧ 0 ≤ a ∧ a ≤ 1073741824)) none
            | _ => match zeroBs z with
              | some zs => cond (Nat.beq zs.length inf.size) (some ((.ow n a.toNat, tput H n (.obj (.rows zs.length (List.replicate a.toNat zs))), n + 1), a = b ∧ 0 ≤ a ∧ a ≤ 1073741824)) none
              | none => cond (bareL (ofV z).cells) (some ((.ow n a.toNat, tput H n (.rw e inf.size a.toNat (fun _ => (ofV z).cells)), n + 1), a = b ∧ 0 ≤ a ∧ a ≤ 1073741824)) none) none
       | none => none
     | _, _ => none
   | _, _, _ => none
 | .call ⟨.builtin .append, args, ats⟩ => match args.toList, ats.toList with
   | [s, x], [t, tx] => match P.underlying t with
     | some (.slice e) => match P.info? e with
       | some inf => match inf.zero with
         | some z => cond (Nat.beq t tx && Nat.ble 1 inf.size && Nat.beq (ofV z).cells.length inf.size && Nat.ble inf.bytes 4096)
           (match aev T s with
            | .ow i len => match H.get i with
              | some (.rw T' w m f) => match src1 inf.size (aev T x) H with
                | some news => cond (Nat.beq T' e && Nat.beq w inf.size && news.all oneA && bareL news)
                    (some ((.ow n (len + 1), tput (tput H i .dead) n (.rw e w (len + 1) (rwPush f len news)), n + 1), m = len ∧ len ≤ 1073741824)) none
                | none => none
              | some (.bb T' bs) => match bsrc (aev T x) H with
                | some (xs, C) => cond (Nat.beq T' e && Nat.beq inf.size 1) (some ((.ow n (len + xs.length), tput (tput H i .dead) n (.bb e (bs ++ xs)), n + 1), C ∧ bs.length = len ∧ len + xs.length ≤ 1073741824)) none
                | none => none
              | _ => none
            | .v (.slice none 0 0) => match bsrc (aev T x) H with
                | some (xs, C) => cond (Nat.beq inf.size 1) (some ((.ow n xs.length, tput H n (.bb e xs), n + 1), C ∧ xs.length ≤ 1073741824)) none
                | none => none
            | _ => none) none
         | none => none
       | none => none
     | _ => none
   | _, _ => none
 | _ => none
theorem zerosV_rows (z : List Value) : ∀ n, zerosV z n = (List.replicate n z).flatten
 | 0 => rfl
 | n + 1 => by simp [zerosV, zerosV_rows z n, List.replicate_succ]
theorem symW2_sound {P : Program} {w0 : Bs} {w : World} {ρ : Env} {T : Tr AV} {o : Oper} {H : Tr AB} {n : Nat} {r : (AV × Tr AB × Nat) × Prop} {ev : Operand → Value} (h : symW2 P T o H n = some r) (hC : r.2) (hr : HR w0 ρ H n w) (hev : ∀ y ∈ o.op.operands, VR ρ (aev T y) (ev y)) :
   ∃ ρ' v w', ((execOp ev o).run P w = .ok (.value v) w' ∨ (v = undef ∧ (execOp ev o).run P w = .ok .skip w')) ∧ VR ρ' r.1.1 v ∧ HR w0 ρ' r.1.2.1 r.1.2.2 w' ∧ Ext ρ ρ' H r.1.2.1 n r.1.2.2 := by
 obtain ⟨dst, op, type, pos, after, guard⟩ := o
 unfold symW2 at h
 split at h
 · rename_i t a x hop
   simp only at hop
   subst hop
   have ha := hev a (by simp [Op.operands])
   have hx := hev x (by simp [Op.operands])
   have fin : ∀ {b o : Nat} {us : List Value} {inf : TypeInfo}, ev a = .pointer (some ⟨b, o, none⟩) → w.there b o us.length → P.info? t = some inf → us = (ev x).cells.toList → us.length = inf.size → (∀ v ∈ us, v.oneCell' = true) →
       (execOp ev ⟨dst, .store t a x, type, pos, after, guard⟩).run P w = .ok .skip (w.setCells b o us) := by
     intro b o us inf e1 h1 h2 h3 h4 h5
     subst h3
     have := run_storeVar_mid (P := P) w b o t (ev x).cells (by simpa using h1) (by simp [h2, ← h4]) (by
       rw [Array.all_eq_true_iff_forall_mem]
       intro q hq
       exact h5 q (by simpa using hq))
     unfold execOp Instr.storeAt
     simp only [e1, Instr.sureAddr, Sem.run_bind, Sem.run_pure, Result.andThen_ok]
     have e : storeVar t ⟨b, o, none⟩ (ev x) = storeVar t ⟨b, o, none⟩ (.agg (ev x).cells) := by unfold storeVar; rfl
     rw [e, this]; rfl
   split at h
   · rename_i i rr ww j inf e1 hinf
     rw [e1] at ha
     generalize hav : ev a = ua at ha
     split at h
     · rename_i T' w' m f hB
       cases hc : (Nat.beq ww w' && (aev T x).known && Nat.beq (aev T x).cells.length inf.size && Nat.ble (j + (aev T x).cells.length) ww && (aev T x).cells.all oneA && bareL (aev T x).cells) with
       | false => rw [hc] at h; cases h
       | true =>
         rw [hc, cond_true, Option.some.injEq] at h
         subst h
         simp only [Bool.and_eq_true, Nat.beq_eq, Nat.ble_eq] at hc
         obtain ⟨⟨⟨⟨⟨rfl, h2⟩, h3⟩, h4⟩, h5⟩, h6⟩ := hc
         have hlt : rr < m := hC
         have hcs := hx.cells h2
         cases ha with
         | pe _ _ _ hi =>
           obtain ⟨g1, g2⟩ := hr.rwPut hi hB hlt h4 hcs h6
           exact ⟨ρ, undef, _, .inr ⟨rfl, fin hav g1 hinf rfl (by rw [← hcs.length]; exact h3) (oneA_VRs h5 hcs)⟩, .v _, g2, Ext.write hi _⟩
     · rename_i T' bs hB
       split at h
       · rename_i z hz
         cases hc : (Nat.beq ww 1 && Nat.beq j 0 && Nat.beq inf.size 1) with
         | false => rw [hc] at h; cases h
         | true =>
           rw [hc, cond_true, Option.some.injEq] at h
           subst h
           simp only [Bool.and_eq_true, Nat.beq_eq] at hc
           obtain ⟨⟨rfl, rfl⟩, h3⟩ := hc
           obtain ⟨hlt, hz0, hz1⟩ : rr < bs.length ∧ 0 ≤ z ∧ z < 256 := hC
           have ex := intA_sound hz hx
           cases ha with
           | @pe _ b c _ _ _ hi =>
             obtain ⟨ob, ho, sp, rfl, h1, h2⟩ := hr.blk hi hB
             have hbz : byt (UInt8.ofNat z.toNat) = .int .u8 z := by
               unfold byt
               congr 1
               have : (UInt8.ofNat z.toNat).toNat = z.toNat := by rw [UInt8.toNat_ofNat']; omega
               rw [this]; omega
             refine ⟨ρ, undef, w.setCells b (rr * 1 + 0) [.int .u8 z], .inr ⟨rfl, fin hav (cells_there ho (.inl rfl) (by simp; omega)) hinf (by rw [ex]; rfl) h3.symm (by intro v hv; rw [List.mem_singleton.1 hv]; rfl)⟩, .v _, ?_, Ext.write hi _⟩
             refine hr.write hi hB rfl rfl (cells_setCells [.int .u8 z] _ ho (by simp; omega)) ⟨sp, ?_, ?_, h2⟩ (fr_setCells _ w _)
             · rw [← hbz]
               congr 2
               rw [Nat.mul_one, Nat.add_zero, List.map_set]
               apply List.ext_getElem?
               intro p
               rw [splice_get _ _ _ (by simp; omega)]
               simp only [List.length_singleton]
               by_cases q1 : p < rr
               · rw [if_pos q1]
                 rw [List.getElem?_append_left (by simp; omega), List.getElem?_append_left (by simp; omega), List.getElem?_set_ne (by omega)]
               · rw [if_neg q1]
                 by_cases q2 : p < rr + 1
                 · have : p = rr := by omega
                   subst this
                   rw [if_pos q2, List.getElem?_append_left (by simp; omega)]
                   simp [hlt]
                 · rw [if_neg q2]
                   by_cases q3 : p < bs.length
                   · rw [List.getElem?_append_left (by simp; omega), List.getElem?_append_left (by simp; omega), List.getElem?_set_ne (by omega)]
                   · rw [List.getElem?_append_right (by simp; omega), List.getElem?_append_right (by simp; omega)]; simp
             · rw [← h1]; simp
       · cases h
     · cases h
   · cases h
 · rename_i t l c hop
   simp only at hop
   subst hop
   have hl := hev l (by simp [Op.operands])
   have hc := hev c (by simp [Op.operands])
   split at h
   · rename_i k1 a k2 b e ea eb hu
     have e1 := intA_sound ea hl
     have e2 := intA_sound eb hc
     split at h
     · rename_i inf d hinf hd
       split at h
       · rename_i z hz
         cases hq : (Nat.ble 1 inf.size && Nat.beq (ofV z).cells.length inf.size && Nat.ble inf.bytes 65536) with
         | false => rw [hq] at h; cases h
         | true =>
           rw [hq, cond_true] at h
           simp only [Bool.and_eq_true, Nat.beq_eq, Nat.ble_eq] at hq
           obtain ⟨⟨hq1, hq2⟩, hq3⟩ := hq
           have hzc := (ofV_cells (ρ := ρ) z)
           have hsz : z.cells.size = inf.size := by rw [← hq2, hzc.length]; simp
           have run : a = b → 0 ≤ a → a ≤ 1073741824 → (execOp ev ⟨dst, .makeSlice t l c, type, pos, after, guard⟩).run P w = .ok (.value (.slice (some ⟨w.heap.size, 0, none⟩) a.toNat a.toNat)) (w.alloc (.cells (zerosV z.cells.toList a.toNat).toArray e)) := by
             rintro rfl h0 h1
             have hb : (inf.bytes : Int) * a ≤ 281474976710656 := by
               have h1 : (inf.bytes : Int) * a ≤ 65536 * a := Int.mul_le_mul_of_nonneg_right (by omega) (by omega)
               omega
             have := run_make (P := P) w t e inf z hu hinf hz k1 k2 a a h0 (Int.le_refl _) hb (by omega)
             have hm : madeCells z.cells (a.toNat * inf.size) = (zerosV z.cells.toList a.toNat).toArray := by
               rw [← hsz]; exact range_zeros _ _
             rw [hm] at this
             unfold execOp
             simp only [e1, e2, Sem.run_bind, this, Result.andThen_ok, Sem.run_pure]
           have fr : Fr No w (w.alloc (.cells (zerosV z.cells.toList a.toNat).toArray e)) := (Fr.refl No w).alloc _
           have new := heap_alloc_new w (.cells (zerosV z.cells.toList a.toNat).toArray e)
           have max : a ≤ 1073741824 → a.toNat ≤ maxLen := fun h => by simp only [maxLen]; omega
           split at h
           · cases hu8 : zeroU z with
             | false => rw [hu8] at h; cases h
             | true =>
               rw [hu8, cond_true, Option.some.injEq] at h
               subst h
               obtain ⟨h1, h2, h3⟩ : a = b ∧ 0 ≤ a ∧ a ≤ 1073741824 := hC
               have hzv : z = byt 0 := by
                 unfold zeroU at hu8
                 split at hu8
                 · rename_i v; have : v = 0 := by simpa using hu8
                   subst this; rfl
                 · cases hu8
               subst hzv
               have hz0 : ∀ m : Nat, (List.replicate m (byt 0).cells.toList).flatten = (List.replicate m (0 : UInt8)).map byt ++ [] := by
                 intro m
                 induction m with
                 | zero => rfl
                 | succ m ih => rw [List.replicate_succ, List.flatten_cons, ih]; simp [List.replicate_succ, byt, Value.cells]
               have hb : BR (ρ.set n (w.heap.size, a.toNat)) a.toNat (.bb e (List.replicate a.toNat 0)) (.cells (zerosV (byt 0).cells.toList a.toNat).toArray e) := ⟨[], by rw [zerosV_rows, hz0], by simp, max h3⟩
               obtain ⟨g1, g2⟩ := hr.newB fr new (Nat.le_refl _) rfl hb
               exact ⟨_, _, _, .inl (run h1 h2 h3), .ow _ (Env.set_same _ _ _) (Nat.le_refl _) (max h3), g1, g2⟩
           · split at h
             · rename_i zs hzs
               rw [beq_dec] at h
               by_cases h0 : zs.length = inf.size
               · simp only [h0, decide_true, cond_true, Option.some.injEq] at h
                 subst h
                 obtain ⟨h1, h2, h3⟩ : a = b ∧ 0 ≤ a ∧ a ≤ 1073741824 := hC
                 have hzv := zeroBs_eq hzs
                 subst hzv
                 have hb : Ob.rep (.rows inf.size (List.replicate a.toNat zs)) ρ.im (w.alloc (.cells (zerosV (bav zs).cells.toList a.toNat).toArray e)) w.heap.size a.toNat (fun k => k = w.heap.size) :=
                   ⟨fun _ => Iff.rfl, e, (0, 0), [], by rw [new, zerosV_rows, bav_cells]; congr 2; simp [List.map_flatten], .inl rfl, fun l hl => by rw [List.eq_of_mem_replicate hl]; exact h0⟩
                 obtain ⟨g1, g2⟩ := hr.newX (c := a.toNat) fr hb rfl (fun k hk => ⟨Nat.le_of_eq hk.symm, by rw [hk]; exact (Array.getElem?_eq_some_iff.1 new).1⟩)
                 exact ⟨_, _, _, .inl (run h1 h2 h3), .ow _ (Env.set_same _ _ _) (Nat.le_refl _) (max h3), g1, g2⟩
               · simp [h0] at h
             · cases hbr : bareL (ofV z).cells with
               | false => rw [hbr] at h; cases h
               | true =>
                 rw [hbr, cond_true, Option.some.injEq] at h
                 subst h
                 obtain ⟨h1, h2, h3⟩ : a = b ∧ 0 ≤ a ∧ a ≤ 1073741824 := hC
                 have hrow : ∀ l ∈ List.replicate a.toNat z.cells.toList, l.length = inf.size := fun l hl => by rw [List.eq_of_mem_replicate hl]; simpa using hsz
                 have hfl := flat_len hrow
                 rw [List.length_replicate] at hfl
                 have hb : BR (ρ.set n (w.heap.size, a.toNat)) a.toNat (.rw e inf.size a.toNat (fun _ => (ofV z).cells)) (.cells (zerosV z.cells.toList a.toNat).toArray e) :=
                   ⟨zerosV z.cells.toList a.toNat, [], by rw [List.append_nil], by rw [zerosV_rows]; exact hfl, by rw [List.append_nil, zerosV_rows]; exact hfl, Nat.le_refl _, max h3, fun r hr' => by
                     rw [zerosV_rows, flat_row hrow (by simpa using hr')]
                     have : (List.replicate a.toNat z.cells.toList).getD r [] = z.cells.toList := by
                       rw [List.getD_eq_getElem?_getD, List.getElem?_replicate, if_pos hr']; rfl
                     rw [this]
                     exact bareL_VRs (ρ := ρ) hbr hzc⟩
                 obtain ⟨g1, g2⟩ := hr.newB fr new (Nat.le_refl _) rfl hb
                 exact ⟨_, _, _, .inl (run h1 h2 h3), .ow _ (Env.set_same _ _ _) (Nat.le_refl _) (max h3), g1, g2⟩
       · cases h
     · cases h
   · cases h
 · rename_i args ats hop
   simp only at hop
   subst hop
   split at h
   · rename_i s x t tx ha ht
     have ha' : args = #[s, x] := Array.toList_inj.1 ha
     have ht' : ats = #[t, tx] := Array.toList_inj.1 ht
     subst ha' ht'
     have hs := hev s (by simp [Op.operands, Call.operands])
     have hx := hev x (by simp [Op.operands, Call.operands])
     split at h
     · rename_i e hu
       split at h
       · rename_i inf hinf
         split at h
         · rename_i z hz
           cases hq : (Nat.beq t tx && Nat.ble 1 inf.size && Nat.beq (ofV z).cells.length inf.size && Nat.ble inf.bytes 4096) with
           | false => rw [hq] at h; cases h
           | true =>
             rw [hq, cond_true] at h
             simp only [Bool.and_eq_true, Nat.beq_eq, Nat.ble_eq] at hq
             obtain ⟨⟨⟨rfl, hq1⟩, hq2⟩, hq3⟩ := hq
             have hzc := (ofV_cells (ρ := ρ) z)
             have hsz : z.cells.size = inf.size := by rw [← hq2, hzc.length]; simp
             have fin : ∀ {v' : Value} {w' : World}, (Builtin.append_ #[t, t] type #[ev s, ev x]).run P w = .ok v' w' → (execOp ev ⟨dst, .call ⟨.builtin .append, #[s, x], #[t, t]⟩, type, pos, after, guard⟩).run P w = .ok (.value v') w' := by
               intro v' w' hq
               have hex : execOp ev ⟨dst, .call ⟨.builtin .append, #[s, x], #[t, t]⟩, type, pos, after, guard⟩ = builtin .append #[t, t] type (#[s, x].map fun | .const _ => true | _ => false) (#[s, x].map ev) := rfl
               rw [hex]
               simp [builtin, hq]
             have max : ∀ {m : Nat}, m ≤ 1073741824 → m ≤ maxLen ∧ m * inf.bytes ≤ 140737488355328 := fun {m} h => ⟨by simp only [maxLen]; omega, by
               have : m * inf.bytes ≤ 1073741824 * 4096 := Nat.mul_le_mul h hq3
               omega⟩
             have appW : ∀ {m len : Nat} {xs : List UInt8} {C : Prop} {ys : List Value}, bsrc (aev T x) H = some (xs, C) → C → inf.size = 1 → Own w e 1 (ev s) len ys → len + xs.length ≤ 1073741824 →
                 ∃ v' w', (Builtin.append_ #[t, t] type #[ev s, ev x]).run P w = .ok v' w' ∧ Appended w e 1 (ev s) len xs.length (ys ++ xs.map byt) v' w' := by
               intro m len xs C ys h1 h2 h3 h4 h5
               obtain ⟨ax, cx, hxv, hwin⟩ := bsrc_sound hr h1 h2 hx
               rw [hxv]
               cases ax with
               | some ad =>
                 exact run_app (P := P) w t type e inf z 1 inf.bytes hu hinf hz h3 rfl (hsz.trans h3) (ev s) len ys h4 ad xs.length cx (xs.map byt) (by simp) (fun j u hj => hwin.cell ad rfl j u hj) (byt_one _) (max h5).1 (max h5).2
               | none =>
                 obtain ⟨h6, rfl, h7⟩ := hwin.nil_inv
                 have hxs : xs = [] := by simpa using h7
                 subst hxs
                 have hr' := run_append_owned_none (P := P) (w := w) 0 t type e inf 1 hu hinf (ev s) len ys h4
                 exact ⟨_, _, hr', by simpa using h4, Fr.refl _ _, .inl rfl, by simp⟩
             split at h
             · rename_i i len es
               rw [es] at hs
               split at h
               · rename_i T' ww m f hB
                 split at h
                 · rename_i news hnews
                   cases hc : (Nat.beq T' e && Nat.beq ww inf.size && news.all oneA && bareL news) with
                   | false => rw [hc] at h; cases h
                   | true =>
                     rw [hc, cond_true, Option.some.injEq] at h
                     subst h
                     simp only [Bool.and_eq_true, Nat.beq_eq] at hc
                     obtain ⟨⟨⟨rfl, rfl⟩, hc3⟩, hc4⟩ := hc
                     obtain ⟨rfl, hlen⟩ : m = len ∧ len ≤ 1073741824 := hC
                     obtain ⟨ad, cx, us, hxv, hus, hul, hcell⟩ := src1_sound hr hnews hx
                     obtain ⟨vs, hown, hvl, hrows⟩ : ∃ vs, Own w T' inf.size (ev s) m vs ∧ vs.length = m * inf.size ∧ ∀ r, r < m → VRs0 ρ.im (f r) ((vs.drop (r * inf.size)).take inf.size) := by
                       generalize hsv : ev s = sv at hs
                       cases hs with
                       | ow _ hi h1 h2 =>
                         obtain ⟨ob, ho, vs, sp, rfl, g1, g2, g3, g4, g5⟩ := hr.blk hi hB
                         exact ⟨vs, Own.of_blk (show Blk w _ T' _ from ho) g1 g2 g3 g4, g1, g5⟩
                       | ow0 => exact ⟨[], ⟨by simp, .inl ⟨rfl, rfl⟩⟩, by simp, fun r hr => absurd hr (Nat.not_lt_zero _)⟩
                     obtain ⟨v', w', h1, h2⟩ := run_app (P := P) w t type T' inf z inf.size inf.bytes hu hinf hz rfl rfl hsz (ev s) m vs hown ad 1 cx us (by rw [hul, Nat.one_mul]) hcell (oneA_VRs hc3 hus) (by simp only [maxLen]; omega) (by
                       have : (m + 1) * inf.bytes ≤ 1073741825 * 4096 := Nat.mul_le_mul (by omega) hq3
                       omega)
                     rw [← hxv] at h1
                     have hrow : ∀ r, r < m + 1 → VRs0 ρ.im (rwPush f m news r) (((vs ++ us).drop (r * inf.size)).take inf.size) := by
                       intro r hr'
                       unfold rwPush
                       by_cases hrm : r < m
                       · have : Nat.blt r m = true := by rw [Nat.blt_eq]; exact hrm
                         rw [this, cond_true]
                         have hle : r * inf.size + inf.size ≤ m * inf.size := by
                           have := Nat.mul_le_mul_right inf.size (Nat.succ_le_of_lt hrm)
                           rw [Nat.succ_mul] at this; exact this
                         rw [List.drop_append_of_le_length (by omega), List.take_append_of_le_length (by simp; omega)]
                         exact hrows r hrm
                       · have hrm' : r = m := by omega
                         subst hrm'
                         have : Nat.blt r r = false := by
                           cases hb : Nat.blt r r with
                           | false => rfl
                           | true => rw [Nat.blt_eq] at hb; omega
                         rw [this, cond_false, ← hvl, List.drop_left, List.take_of_length_le (by omega)]
                         exact bareL_VRs hc4 hus
                     obtain ⟨ρ', g1, g2, g3⟩ := hr.appended (B' := .rw T' inf.size (m + 1) (rwPush f m news)) hs hB rfl rfl (fun _ _ e => by cases e) rfl h2 (fun {g c sp ρ'} him q1 q2 q3 q4 => ⟨vs ++ us, sp, rfl, q1, q2, q3, q4, fun r hr' => by rw [him]; exact hrow r hr'⟩)
                     exact ⟨ρ', v', w', .inl (fin h1), g1, g2, g3⟩
                 · cases h
               · rename_i T' bs hB
                 split at h
                 · rename_i xs C hsrc
                   cases hc : (Nat.beq T' e && Nat.beq inf.size 1) with
                   | false => rw [hc] at h; cases h
                   | true =>
                     rw [hc, cond_true, Option.some.injEq] at h
                     subst h
                     simp only [Bool.and_eq_true, Nat.beq_eq] at hc
                     obtain ⟨rfl, hc2⟩ := hc
                     obtain ⟨hC1, rfl, hlen⟩ : C ∧ bs.length = len ∧ len + xs.length ≤ 1073741824 := hC
                     have hown : Own w T' 1 (ev s) bs.length (bs.map byt) := by
                       generalize hsv : ev s = sv at hs
                       generalize hbl : bs.length = bl at hs hlen
                       cases hs with
                       | ow _ hi h1 h2 =>
                         obtain ⟨ob, ho, sp, rfl, g1, g2⟩ := hr.blk hi hB
                         exact Own.of_blk (show Blk w _ T' _ from ho) (by simp [hbl]) (by rw [g1, Nat.mul_one]) h1 h2
                       | ow0 =>
                         have : bs = [] := List.eq_nil_of_length_eq_zero hbl
                         subst this
                         exact ⟨by simp, .inl ⟨rfl, rfl⟩⟩
                     obtain ⟨v', w', h1, h2⟩ := appW (m := 0) hsrc hC1 hc2 hown hlen
                     obtain ⟨ρ', g1, g2, g3⟩ := hr.appended (B' := .bb T' (bs ++ xs)) hs hB rfl rfl (fun _ _ e => by cases e) rfl h2 (fun {g c sp ρ'} him q1 q2 q3 q4 => ⟨sp, by rw [List.map_append], by rw [List.map_append, q2, Nat.mul_one], q4⟩)
                     exact ⟨ρ', v', w', .inl (fin h1), g1, g2, g3⟩
                 · cases h
               · cases h
             · rename_i es
               rw [es] at hs
               split at h
               · rename_i xs C hsrc
                 rw [beq_dec] at h
                 by_cases h1 : inf.size = 1
                 · simp only [h1, decide_true, cond_true, Option.some.injEq] at h
                   subst h
                   obtain ⟨hC1, hlen⟩ : C ∧ xs.length ≤ 1073741824 := hC
                   have hsv : ev s = .slice none 0 0 := by
                     generalize ev s = sv at hs
                     cases hs; rfl
                   have hown : Own w e 1 (ev s) 0 [] := by rw [hsv]; exact ⟨by simp, .inl ⟨rfl, rfl⟩⟩
                   obtain ⟨v', w', h2, h3⟩ := appW (m := 0) hsrc hC1 h1 hown (by omega)
                   rw [List.nil_append] at h3
                   have hn := (hr.top (Nat.le_refl n)).1
                   have hf : Fr No w w' := h3.fr.mono fun k hk => by rw [hsv] at hk; cases hk
                   rcases h3.own.cases with ⟨rfl, h0, _⟩ | ⟨g, c, rfl⟩
                   · have hx0 : xs = [] := List.eq_nil_of_length_eq_zero (by omega)
                     subst hx0
                     exact ⟨ρ, _, w', .inl (fin h2), .ow0 _, (hr.old hf).put _, Ext.put hr _⟩
                   · obtain ⟨sp, q1, q2, q3, q4, q5⟩ := h3.own.blk
                     have hgn : w.heap.size ≤ g := by
                       rcases h3.blk with e1 | ⟨k, e1, e2⟩
                       · rw [hsv] at e1; cases e1
                       · have : g = k := by simpa [Value.ownBlock] using e1
                         rw [this]; exact e2
                     obtain ⟨g1, g2⟩ := hr.newB (B := .bb e xs) (c := c) hf q1 hgn rfl ⟨sp, rfl, by rw [q3, Nat.mul_one], q5⟩
                     have hvr : VR (ρ.set n (g, c)) (.ow n xs.length) (.slice (some ⟨g, 0, none⟩) (0 + xs.length) c) := by
                       rw [Nat.zero_add]; exact .ow _ (Env.set_same _ _ _) (by omega) q5
                     exact ⟨_, _, w', .inl (fin h2), hvr, g1, g2⟩
                 · simp [h1] at h
               · cases h
             · cases h
         · cases h
       · cases h
     · cases h
   · cases h
 · cases h
def nilT : AV → Bool
 | .v (.slice none _ _) => true
 | _ => false
def catS : BinOp → AV → AV → Option (AV × Prop)
 | .add, x, y => match txtA x, txtA y with
   | some a, some b => some (.sy (.string (str (a.data.toList ++ b.data.toList))), a.size + b.size ≤ 1000000000)
   | _, _ => none
 | _, _, _ => none
def symP3 (P : Program) (T : Tr AV) (o : Oper) : Option (AV × Prop) :=
 match o.op with
 | .binOp op t x y _ => match catS op (aev T x) (aev T y) with
  | some r => some r
  | none => match P.underlying t, aev T x, nilT (aev T y) with
   | some (.slice _), .ix (some _) _ _ _ _, true => match op with
     | .eql => some (.v (.bool false), True)
     | .neq => some (.v (.bool true), True)
     | _ => none
   | _, _, _ => none
 | _ => none
theorem symP3_sound {P : Program} {w0 : Bs} {ρ : Env} {H : Tr AB} {n : Nat} {w : World} {T : Tr AV} {o : Oper} {r : AV × Prop} {ev : Operand → Value} (h : symP3 P T o = some r) (hC : r.2) (_ : HR w0 ρ H n w) (hev : ∀ y ∈ o.op.operands, VR ρ (aev T y) (ev y)) :
   ∃ v, VR ρ r.1 v ∧ (execOp ev o).run P w = .ok (.value v) w := by
 obtain ⟨dst, op, type, pos, after, guard⟩ := o
 unfold symP3 at h
 split at h
 · rename_i op t x y yt hop
   simp only at hop
   subst hop
   have hx := hev x (by simp [Op.operands])
   have hy := hev y (by simp [Op.operands])
   split at h
   · rename_i r' hcat
     cases h
     unfold catS at hcat
     split at hcat
     · split at hcat
       · rename_i a b ha hb
         cases hcat
         rename_i hC
         have hlen : a.size + b.size ≤ 1000000000 := hC
         have ea := txtA_sound ha hx
         have eb := txtA_sound hb hy
         refine ⟨_, .sy _, ?_⟩
         have hs : str (a.data.toList ++ b.data.toList) = a ++ b := by
           apply ByteArray.ext
           rw [ByteArray.data_append]
           apply Array.toList_inj.1
           simp [str]
         rw [hs]
         have hg : ∀ op x y w, (eqGuard op t x y (.string a) (.string b)).run P w = .ok () w := by
           intro op x y w
           unfold eqGuard
           cases op <;> rfl
         unfold execOp
         simp only [ea, eb, Sem.run_bind, hg, Result.andThen_ok]
         show (((do pure (← Op.stringOp .add a b) : Sem Value).run P w).andThen _) = _
         have hlim : ¬ (((a.size + b.size : Nat) : Int) > IntKind.i64.max) := by
           show ¬ (((a.size + b.size : Nat) : Int) > 9223372036854775807)
           omega
         simp only [Op.stringOp, hlim, if_false, Sem.run_bind, Sem.run_pure, Result.andThen_ok]
       · cases hcat
     · cases hcat
   split at h
   · rename_i e ad c w' m f hu hax hn
     rw [hax] at hx
     generalize hxv : ev x = ux at hx
     generalize hyv : ev y = uy at hy
     cases hx
     obtain ⟨l', c', rfl⟩ : ∃ l' c', uy = .slice none l' c' := by
       generalize aev T y = ay at hn hy
       unfold nilT at hn
       split at hn
       · cases hy; exact ⟨_, _, rfl⟩
       · cases hn
     have he : ∀ w, (Op.equal t (.slice (some ad) m c) (.slice none l' c')).run P w = .ok false w := by
       intro w
       rw [equal_unfold]
       unfold Op.equalIn
       simp only [Sem.run_bind, run_underlying hu, Result.andThen_ok]
       rfl
     have hg : ∀ op x y w, (eqGuard op t x y (.slice (some ad) m c) (.slice none l' c')).run P w = .ok () w := by
       intro op x y w
       unfold eqGuard
       cases op <;> rfl
     split at h
     · cases h
       refine ⟨_, .v _, ?_⟩
       unfold execOp
       simp only [hxv, hyv, Sem.run_bind, hg, Result.andThen_ok]
       show (((do pure (Value.bool (← Op.equal t _ _)) : Sem Value).run P w).andThen _) = _
       simp only [Sem.run_bind, he, Result.andThen_ok, Sem.run_pure]
     · cases h
       refine ⟨_, .v _, ?_⟩
       unfold execOp
       simp only [hxv, hyv, Sem.run_bind, hg, Result.andThen_ok]
       show (((do pure (Value.bool (!(← Op.equal t _ _))) : Sem Value).run P w).andThen _) = _
       simp only [Sem.run_bind, he, Result.andThen_ok, Sem.run_pure, Bool.not_false]
     · cases h
   · cases h
 · cases h
def symW3 (P : Program) (T : Tr AV) (o : Oper) (H : Tr AB) (n : Nat) : Option ((AV × Tr AB × Nat) × Prop) :=
 match o.op with
 | .call ⟨.builtin .append, args, ats⟩ => match args.toList, ats.toList with
   | [s, x], [t, tx] => match P.underlying t with
     | some (.slice e) => match P.info? e with
       | some inf => match inf.zero with
         | some z => cond (Nat.beq t tx && Nat.ble 1 inf.size && Nat.beq (ofV z).cells.length inf.size && Nat.ble inf.bytes 4096)
           (match aev T s, aev T x with
            | .sl i o 0 0, .ix (some _) _ w (m + 1) f => cond (Nat.beq w inf.size)
               (some ((.ow n (m + 1), tput H n (.rw e w (m + 1) f), n + 1), m + 1 ≤ 1073741824 ∧ ∀ r, r < m + 1 → (f r).all oneA = true)) none
            | .sl i o 0 0, .ix (some _) _ w 0 f => some ((.sl i o 0 0, H, n), True)
            | _, _ => none) none
         | none => none
       | none => none
     | _ => none
   | _, _ => none
 | _ => none
theorem rows_one {I : Im} {w n : Nat} {f : Nat → List AV} {vs : List Value} (hl : vs.length = n * w) (hw : 1 ≤ w) (h : ∀ r, r < n → VRs0 I (f r) ((vs.drop (r * w)).take w)) (h1 : ∀ r, r < n → (f r).all oneA = true) : ∀ v ∈ vs, v.oneCell' = true := by
 intro v hv
 obtain ⟨j, hj⟩ := List.getElem?_of_mem hv
 have hlt := (List.getElem?_eq_some_iff.1 hj).1
 have hr : j / w < n := by
   rw [Nat.div_lt_iff_lt_mul (by omega)]; omega
 have hmem : v ∈ (vs.drop (j / w * w)).take w := by
   refine List.mem_of_getElem? (i := j % w) ?_
   rw [row_get, if_pos (Nat.mod_lt _ (by omega))]
   rw [show j / w * w + j % w = j by rw [Nat.mul_comm]; exact Nat.div_add_mod j w]
   exact hj
 have := h (j / w) hr
 exact oneA_VRs (ρ := ⟨fun _ => none, I⟩) (h1 _ hr) (bare_VR.go this) v hmem
theorem symW3_sound {P : Program} {w0 : Bs} {w : World} {ρ : Env} {T : Tr AV} {o : Oper} {H : Tr AB} {n : Nat} {r : (AV × Tr AB × Nat) × Prop} {ev : Operand → Value} (h : symW3 P T o H n = some r) (hC : r.2) (hr : HR w0 ρ H n w) (hev : ∀ y ∈ o.op.operands, VR ρ (aev T y) (ev y)) :
   ∃ ρ' v w', ((execOp ev o).run P w = .ok (.value v) w' ∨ (v = undef ∧ (execOp ev o).run P w = .ok .skip w')) ∧ VR ρ' r.1.1 v ∧ HR w0 ρ' r.1.2.1 r.1.2.2 w' ∧ Ext ρ ρ' H r.1.2.1 n r.1.2.2 := by
 obtain ⟨dst, op, type, pos, after, guard⟩ := o
 unfold symW3 at h
 split at h
 · rename_i args ats hop
   simp only at hop
   subst hop
   split at h
   · rename_i s x t tx ha ht
     have ha' : args = #[s, x] := Array.toList_inj.1 ha
     have ht' : ats = #[t, tx] := Array.toList_inj.1 ht
     subst ha' ht'
     have hs := hev s (by simp [Op.operands, Call.operands])
     have hx := hev x (by simp [Op.operands, Call.operands])
     split at h
     · rename_i e hu
       split at h
       · rename_i inf hinf
         split at h
         · rename_i z hz
           cases hq : (Nat.beq t tx && Nat.ble 1 inf.size && Nat.beq (ofV z).cells.length inf.size && Nat.ble inf.bytes 4096) with
           | false => rw [hq] at h; cases h
           | true =>
             rw [hq, cond_true] at h
             simp only [Bool.and_eq_true, Nat.beq_eq, Nat.ble_eq] at hq
             obtain ⟨⟨⟨rfl, hq1⟩, hq2⟩, hq3⟩ := hq
             have hzc := (ofV_cells (ρ := ρ) z)
             have hsz : z.cells.size = inf.size := by rw [← hq2, hzc.length]; simp
             have fin : ∀ {v' : Value} {w' : World}, (Builtin.append_ #[t, t] type #[ev s, ev x]).run P w = .ok v' w' → (execOp ev ⟨dst, .call ⟨.builtin .append, #[s, x], #[t, t]⟩, type, pos, after, guard⟩).run P w = .ok (.value v') w' := by
               intro v' w' hq
               have hex : execOp ev ⟨dst, .call ⟨.builtin .append, #[s, x], #[t, t]⟩, type, pos, after, guard⟩ = builtin .append #[t, t] type (#[s, x].map fun | .const _ => true | _ => false) (#[s, x].map ev) := rfl
               rw [hex]
               simp [builtin, hq]
             split at h
             · rename_i i o ad c' w' m f es ex
               rw [es] at hs
               rw [ex] at hx
               rw [beq_dec] at h
               by_cases hw : w' = inf.size
               · subst hw
                 simp only [decide_true, cond_true, Option.some.injEq] at h
                 subst h
                 obtain ⟨h1, h2⟩ : m + 1 ≤ 1073741824 ∧ ∀ r, r < m + 1 → (f r).all oneA = true := hC
                 generalize hsv : ev s = us at hs
                 generalize hxv : ev x = ux at hx
                 cases hs with
                 | @sl _ b d _ _ _ hi =>
                   cases hx with
                   | ix hwin hrows =>
                     rename_i vs
                     have hone := rows_one hwin.len hq1 hrows h2
                     have hcell : ∀ j u, vs[j]? = some u → w.cell? (ad.add j) = some u := fun j u hu => hr.imcell (hwin.cell ad rfl j u hu)
                     have hrun := run_append_grow (P := P) w t type e inf z hu hinf hz ⟨b, o, none⟩ 0 0 [] (by simp) (fun j v hv => by simp at hv) ad (m + 1) c' vs hwin.len hcell (by omega) (by omega) (growslice_fits (by omega) (by
                       have : (0 + (m + 1)) * inf.bytes ≤ 1073741824 * 4096 := Nat.mul_le_mul (by omega) hq3
                       omega))
                     have hge := grownCap_ge w (0 + (m + 1)) 0 e
                     have hmax := grownCap_le_maxLen w (0 + (m + 1)) 0 e (by simp only [maxLen]; omega)
                     generalize hcap : grownCap w (0 + (m + 1)) 0 e = cap at hrun hge hmax
                     have hf : Fr No w (w.drew.alloc (.cells (([] : List Value).toArray ++ vs.toArray ++ Builtin.zeroCells z.cells (cap - (0 + (m + 1)))) e)) := ((Fr.refl No w).drew).alloc _
                     have hnew : (w.drew.alloc (.cells (([] : List Value).toArray ++ vs.toArray ++ Builtin.zeroCells z.cells (cap - (0 + (m + 1)))) e)).heap[w.heap.size]? = some (.cells (vs ++ (Builtin.zeroCells z.cells (cap - (0 + (m + 1)))).toList).toArray e (0, 0)) := by
                       have := heap_alloc_new w.drew (.cells (([] : List Value).toArray ++ vs.toArray ++ Builtin.zeroCells z.cells (cap - (0 + (m + 1)))) e)
                       refine this.trans ?_
                       congr 2
                       apply Array.ext'
                       simp
                     have hbr : BR (ρ.set n (w.heap.size, cap)) cap (.rw e inf.size (m + 1) f) (.cells (vs ++ (Builtin.zeroCells z.cells (cap - (0 + (m + 1)))).toList).toArray e (0, 0)) := by
                       refine ⟨vs, _, rfl, hwin.len, ?_, by omega, hmax, fun r hr' => hrows r hr'⟩
                       rw [List.length_append, hwin.len, Array.length_toList, size_zeroCells, hsz, ← Nat.add_mul]
                       congr 1
                       omega
                     obtain ⟨g1, g2⟩ := hr.newB hf hnew (Nat.le_refl _) rfl hbr
                     have hvr : VR (ρ.set n (w.heap.size, cap)) (.ow n (m + 1)) (.slice (some ⟨w.heap.size, 0, none⟩) (0 + (m + 1)) cap) := by
                       rw [Nat.zero_add]; exact .ow _ (Env.set_same _ _ _) (by omega) hmax
                     refine ⟨_, _, _, .inl (fin ?_), hvr, g1, g2⟩
                     rw [hsv, hxv]
                     exact hrun
               · simp [hw] at h
             · rename_i i o ad c' w' f es ex
               cases h
               rw [es] at hs
               rw [ex] at hx
               generalize hsv : ev s = us at hs
               generalize hxv : ev x = ux at hx
               cases hs with
               | @sl _ b d _ _ _ hi =>
                 cases hx with
                 | ix hwin hrows =>
                   refine ⟨ρ, _, w, .inl (fin ?_), .sl o 0 0 hi, hr, Ext.refl _ _ _⟩
                   rw [hsv, hxv]
                   simp [Builtin.append_, run_underlying hu, sizeOf, typeInfo, hinf, Builtin.lenOf, Builtin.firstCells, loadCells, loadCellsFrom, storeCells]
             · cases h
         · cases h
       · cases h
     · cases h
   · cases h
 · cases h
theorem VRs0.drop' {I : Im} {l : List AV} {vs : List Value} (h : VRs0 I l vs) (n : Nat) : VRs0 I (l.drop n) (vs.drop n) := by
 induction l generalizing vs n with
 | nil => cases h; simpa using VRs0.nil
 | cons y l ih => cases h with | cons e t => cases n with | zero => exact .cons e t | succ n => exact ih t n
def rwApp (f : Nat → List AV) (n : Nat) (g : Nat → List AV) : Nat → List AV := fun q => cond (Nat.blt q n) (f q) (g (q - n))
def rsrc (k : Nat) (x : AV) (H : Tr AB) : Option (Nat × (Nat → List AV) × Prop) :=
 match x with
 | .v (.slice none 0 0) => some (0, fun _ => [], True)
 | .im w n f => cond (Nat.beq w k) (some (n, f, True)) none
 | .ix _ _ w n f => cond (Nat.beq w k) (some (n, f, True)) none
 | .ow i n => match H.get i with
   | some (.rw _ w m f) => cond (Nat.beq w k) (some (n, f, m = n)) none
   | _ => none
 | .sl i o n _ => match H.get i with
   | some (.mem _ _ l) => cond (Nat.ble (o + n * k) l.length && bareL l) (some (n, fun r => (l.drop (o + r * k)).take k, True)) none
   | _ => none
 | _ => none
structure Rsrc (w : World) (I : Im) (k : Nat) (u : Value) (n : Nat) (f : Nat → List AV) (a : Option Addr) (c : Nat) (vs : List Value) : Prop where
 eq : u = .slice a n c
 nil : a = none → n = 0 ∧ c = 0
 len : vs.length = n * k
 cell : ∀ ad, a = some ad → ∀ j v, vs[j]? = some v → w.cell? (ad.add j) = some v
 rows : ∀ r, r < n → VRs0 I (f r) ((vs.drop (r * k)).take k)
theorem rsrc_sound {w0 : Bs} {w : World} {ρ : Env} {H : Tr AB} {n : Nat} (hr : HR w0 ρ H n w) {k : Nat} {x : AV} {u : Value} {m : Nat} {f : Nat → List AV} {C : Prop} (h : rsrc k x H = some (m, f, C)) (hC : C) (hx : VR ρ x u) : ∃ a c vs, Rsrc w ρ.im k u m f a c vs := by
 unfold rsrc at h
 split at h
 · cases h; cases hx
   exact ⟨none, 0, [], rfl, fun _ => ⟨rfl, rfl⟩, by simp, fun _ e => (by cases e), fun r hr => absurd hr (Nat.not_lt_zero _)⟩
 · rename_i ww nn ff
   rw [beq_dec] at h
   by_cases e : ww = k
   · subst e
     simp only [decide_true, cond_true, Option.some.injEq, Prod.mk.injEq] at h
     obtain ⟨rfl, rfl, _⟩ := h
     cases hx with
     | im hw hf => exact ⟨_, _, _, rfl, fun e => ⟨by have h1 := hw.nil e; have h2 := hw.cap; omega, hw.nil e⟩, hw.len, fun ad had j v hj => hr.imcell (hw.cell ad had j v hj), hf⟩
   · simp [e] at h
 · rename_i ww nn ff
   rw [beq_dec] at h
   by_cases e : ww = k
   · subst e
     simp only [decide_true, cond_true, Option.some.injEq, Prod.mk.injEq] at h
     obtain ⟨rfl, rfl, _⟩ := h
     cases hx with
     | ix hw hf => exact ⟨_, _, _, rfl, fun e => ⟨by have h1 := hw.nil e; have h2 := hw.cap; omega, hw.nil e⟩, hw.len, fun ad had j v hj => hr.imcell (hw.cell ad had j v hj), hf⟩
   · simp [e] at h
 · rename_i i nn
   split at h
   · rename_i T ww mm ff hB
     rw [beq_dec] at h
     by_cases e : ww = k
     · subst e
       simp only [decide_true, cond_true, Option.some.injEq, Prod.mk.injEq] at h
       obtain ⟨rfl, rfl, rfl⟩ := h
       subst hC
       cases hx with
       | @ow _ b c _ hi hn hc =>
         obtain ⟨ob, ho, vs, sp, rfl, g1, g2, g3, g4, g5⟩ := hr.blk hi hB
         refine ⟨_, _, vs, rfl, fun e => (by cases e), g1, fun ad had j v hj => ?_, g5⟩
         cases had
         rw [Addr.add_lit, cells_cell ho, Nat.zero_add, List.getElem?_append_left (List.getElem?_eq_some_iff.1 hj).1]; exact hj
       | ow0 => exact ⟨none, 0, [], rfl, fun _ => ⟨rfl, rfl⟩, by simp, fun _ e => (by cases e), fun r hr => absurd hr (Nat.not_lt_zero _)⟩
     · simp [e] at h
   · cases h
 · rename_i i o nn c
   split at h
   · rename_i T z l hB
     cases hc : (Nat.ble (o + nn * k) l.length && bareL l) with
     | false => rw [hc] at h; cases h
     | true =>
       rw [hc, cond_true, Option.some.injEq, Prod.mk.injEq, Prod.mk.injEq] at h
       obtain ⟨rfl, rfl, _⟩ := h
       simp only [Bool.and_eq_true, Nat.ble_eq] at hc
       obtain ⟨h1, h2⟩ := hc
       cases hx with
       | @sl _ b d _ _ _ hi =>
         obtain ⟨ob, ho, vs, sp, fz, hv, rfl, hz, _⟩ := hr.blk hi hB
         have hlen := hv.length
         refine ⟨_, _, (vs.drop o).take (nn * k), rfl, fun e => (by cases e), by simp; omega, fun ad had j v hj => ?_, fun r hr' => ?_⟩
         · cases had
           rw [Addr.add_lit]
           have := cells_range ho (o := o) (k := nn * k) (by simp; omega)
           rw [List.drop_append_of_le_length (by omega), List.take_append_of_le_length (by simp; omega)] at this
           exact this j v hj
         · have hle : r * k + k ≤ nn * k := by
             have := Nat.mul_le_mul_right k (Nat.succ_le_of_lt hr')
             rw [Nat.succ_mul] at this; exact this
           rw [List.drop_take, List.take_take, List.drop_drop, Nat.min_eq_left (by omega)]
           exact ((bareL_VRs h2 hv).drop' (o + r * k)).take' k
   · cases h
 · cases h
def symW4 (P : Program) (T : Tr AV) (o : Oper) (H : Tr AB) (n : Nat) : Option ((AV × Tr AB × Nat) × Prop) :=
 match o.op with
 | .call ⟨.builtin .append, args, ats⟩ => match args.toList, ats.toList with
   | [s, x], [t, tx] => match P.underlying t with
     | some (.slice e) => match P.info? e with
       | some inf => match inf.zero with
         | some z => cond (Nat.beq t tx && Nat.ble 1 inf.size && Nat.beq (ofV z).cells.length inf.size && Nat.ble inf.bytes 4096)
           (match aev T s with
            | .ow i len => match H.get i, rsrc inf.size (aev T x) H with
              | some (.rw T' w m f), some (k, g, C) => cond (Nat.beq T' e && Nat.beq w inf.size)
                    (some ((.ow n (len + k), tput (tput H i .dead) n (.rw e w (len + k) (rwApp f len g)), n + 1), m = len ∧ C ∧ len + k ≤ 1073741824 ∧ ∀ r, r < k → (g r).all oneA = true)) none
              | _, _ => none
            | .v (.slice none 0 0) => match rsrc inf.size (aev T x) H with
              | some (k, g, C) => some ((.ow n k, tput H n (.rw e inf.size k g), n + 1), C ∧ k ≤ 1073741824 ∧ ∀ r, r < k → (g r).all oneA = true)
              | none => none
            | .sl i 0 0 0 => match H.get i with
              | some (.mem T' none []) => match bsrc (aev T x) H with
                | some (xs, C) => cond (Nat.beq T' e && Nat.beq inf.size 1) (some ((.ow n xs.length, tput (tput H i .dead) n (.bb e xs), n + 1), C ∧ xs.length ≤ 1073741824)) none
                | none => match rsrc inf.size (aev T x) H with
                  | some (k, g, C) => cond (Nat.beq T' e) (some ((.ow n k, tput (tput H i .dead) n (.rw e inf.size k g), n + 1), C ∧ k ≤ 1073741824 ∧ ∀ r, r < k → (g r).all oneA = true)) none
                  | none => none
              | _ => none
            | _ => none) none
         | none => none
       | none => none
     | _ => none
   | _, _ => none
 | _ => none
theorem HR.grewE {w0 : Bs} {w w' : World} {ρ : Env} {H : Tr AB} {n : Nat} (h : HR w0 ρ H n w) {i b d k size : Nat} {v' : Value} {e : TypeId} {l : List Value} {B' : AB} (hi : ρ i = some (b, d)) (hB : H.get i = some (.mem e none [])) (hno : B'.isObj = false)
   (ha : Appended w e size (.slice (some ⟨b, 0, none⟩) 0 0) 0 k l v' w') (hb : ∀ {g c : Nat} {sp : List Value} {ρ' : Env}, ρ'.im = ρ.im → l.length = (0 + k) * size → (l ++ sp).length = c * size → 0 + k ≤ c → c ≤ maxLen → BR ρ' c B' (.cells (l ++ sp).toArray e (0, 0))) :
   ∃ ρ', VR ρ' (.ow n k) v' ∧ HR w0 ρ' (tput (tput H i .dead) n B') (n + 1) w' ∧ Ext ρ ρ' H (tput (tput H i .dead) n B') n (n + 1) := by
 have hn := (h.top (Nat.le_refl n)).1
 have ext : ∀ {g c : Nat}, Ext ρ (ρ.set n (g, c)) H (tput (tput H i .dead) n B') n (n + 1) := fun {g c} => ⟨Env.le_set hn _, fun {j} hj => by rw [Env.set_at, if_neg (by omega)], fun {j} hj hnj T l' q => by
   have hji : j ≠ i := fun e => by subst e; rw [hi] at hnj; cases hnj
   rw [get_tput, if_neg (by omega), get_tput, if_neg hji]; exact q, Nat.le_succ _⟩
 rcases ha.own.cases with ⟨rfl, h0, _⟩ | ⟨g, c, rfl⟩
 · have := (ha.isNil.1 rfl).1
   cases this
 · obtain ⟨sp, q1, q2, q3, q4, q5⟩ := ha.own.blk
   have hbr := hb (g := g) (c := c) (sp := sp) (ρ' := ρ.set n (g, c)) rfl q2 q3 q4 q5
   have hvr : VR (ρ.set n (g, c)) (.ow n k) (.slice (some ⟨g, 0, none⟩) (0 + k) c) := by
     rw [Nat.zero_add]; exact .ow _ (Env.set_same _ _ _) (by omega) q5
   refine ⟨_, hvr, h.moveG hi hB rfl rfl hno ?_ q1 hbr (ha.fr.mono fun q hq => ?_), ext⟩
   · rcases ha.blk with e1 | ⟨q, e1, e2⟩
     · left; simpa [Value.ownBlock] using e1
     · right
       have : g = q := by simpa [Value.ownBlock] using e1
       rw [this]; exact e2
   · have : b = q := by simpa [Value.ownBlock] using hq
     exact this.symm
theorem own_empty {w : World} {b : Nat} {e : TypeId} {size : Nat} (h : w.heap[b]? = some (.cells #[] e (0, 0))) : Own w e size (.slice (some ⟨b, 0, none⟩) 0 0) 0 [] :=
 Own.of_blk (xs := []) (sp := []) (show Blk w b e ([] ++ []) from h) (by simp) (by simp) (Nat.le_refl _) (Nat.zero_le _)
theorem symW4_sound {P : Program} {w0 : Bs} {w : World} {ρ : Env} {T : Tr AV} {o : Oper} {H : Tr AB} {n : Nat} {r : (AV × Tr AB × Nat) × Prop} {ev : Operand → Value} (h : symW4 P T o H n = some r) (hC : r.2) (hr : HR w0 ρ H n w) (hev : ∀ y ∈ o.op.operands, VR ρ (aev T y) (ev y)) :
   ∃ ρ' v w', ((execOp ev o).run P w = .ok (.value v) w' ∨ (v = undef ∧ (execOp ev o).run P w = .ok .skip w')) ∧ VR ρ' r.1.1 v ∧ HR w0 ρ' r.1.2.1 r.1.2.2 w' ∧ Ext ρ ρ' H r.1.2.1 n r.1.2.2 := by
 obtain ⟨dst, op, type, pos, after, guard⟩ := o
 unfold symW4 at h
 split at h
 · rename_i args ats hop
   simp only at hop
   subst hop
   split at h
   · rename_i s x t tx ha ht
     have ha' : args = #[s, x] := Array.toList_inj.1 ha
     have ht' : ats = #[t, tx] := Array.toList_inj.1 ht
     subst ha' ht'
     have hs := hev s (by simp [Op.operands, Call.operands])
     have hx := hev x (by simp [Op.operands, Call.operands])
     split at h
     · rename_i e hu
       split at h
       · rename_i inf hinf
         split at h
         · rename_i z hz
           cases hq : (Nat.beq t tx && Nat.ble 1 inf.size && Nat.beq (ofV z).cells.length inf.size && Nat.ble inf.bytes 4096) with
           | false => rw [hq] at h; cases h
           | true =>
             rw [hq, cond_true] at h
             simp only [Bool.and_eq_true, Nat.beq_eq, Nat.ble_eq] at hq
             obtain ⟨⟨⟨rfl, hq1⟩, hq2⟩, hq3⟩ := hq
             have hzc := (ofV_cells (ρ := ρ) z)
             have hsz : z.cells.size = inf.size := by rw [← hq2, hzc.length]; simp
             have fin : ∀ {v' : Value} {w' : World}, (Builtin.append_ #[t, t] type #[ev s, ev x]).run P w = .ok v' w' → (execOp ev ⟨dst, .call ⟨.builtin .append, #[s, x], #[t, t]⟩, type, pos, after, guard⟩).run P w = .ok (.value v') w' := by
               intro v' w' hq
               have hex : execOp ev ⟨dst, .call ⟨.builtin .append, #[s, x], #[t, t]⟩, type, pos, after, guard⟩ = builtin .append #[t, t] type (#[s, x].map fun | .const _ => true | _ => false) (#[s, x].map ev) := rfl
               rw [hex]
               simp [builtin, hq]
             have max : ∀ {m : Nat}, m ≤ 1073741824 → m ≤ maxLen ∧ m * inf.bytes ≤ 140737488355328 := fun {m} h => ⟨by simp only [maxLen]; omega, by
               have : m * inf.bytes ≤ 1073741824 * 4096 := Nat.mul_le_mul h hq3
               omega⟩
             have appR : ∀ {len k : Nat} {f : Nat → List AV} {ys : List Value} {C : Prop}, rsrc inf.size (aev T x) H = some (k, f, C) → C → (∀ r, r < k → (f r).all oneA = true) → Own w e inf.size (ev s) len ys → len + k ≤ 1073741824 →
                 ∃ v' w' vs, (Builtin.append_ #[t, t] type #[ev s, ev x]).run P w = .ok v' w' ∧ Appended w e inf.size (ev s) len k (ys ++ vs) v' w' ∧ vs.length = k * inf.size ∧ ∀ r, r < k → VRs0 ρ.im (f r) ((vs.drop (r * inf.size)).take inf.size) := by
               intro len k f ys C h1 h2 h3 h4 h5
               obtain ⟨a, c, vs, hR⟩ := rsrc_sound hr h1 h2 hx
               have hone := rows_one hR.len hq1 hR.rows h3
               rw [hR.eq]
               cases ha : a with
               | some ad =>
                 obtain ⟨v', w', q1, q2⟩ := run_app (P := P) w t type e inf z inf.size inf.bytes hu hinf hz rfl rfl hsz (ev s) len ys h4 ad k c vs hR.len (fun j u hj => hR.cell ad ha j u hj) hone (max h5).1 (max h5).2
                 exact ⟨v', w', vs, q1, q2, hR.len, hR.rows⟩
               | none =>
                 obtain ⟨rfl, rfl⟩ := hR.nil ha
                 have hr' := run_append_owned_none (P := P) (w := w) 0 t type e inf inf.size hu hinf (ev s) len ys h4
                 have hv0 : vs = [] := List.eq_nil_of_length_eq_zero (by rw [hR.len]; omega)
                 subst hv0
                 exact ⟨_, _, [], hr', ⟨by simpa using h4, Fr.refl _ _, .inl rfl, by simp⟩, by simp, fun r hr => absurd hr (Nat.not_lt_zero _)⟩
             split at h
             · rename_i i len es
               rw [es] at hs
               split at h
               · rename_i T' ww m f k g C hB hsrc
                 cases hc : (Nat.beq T' e && Nat.beq ww inf.size) with
                 | false => rw [hc] at h; cases h
                 | true =>
                   rw [hc, cond_true, Option.some.injEq] at h
                   subst h
                   simp only [Bool.and_eq_true, Nat.beq_eq] at hc
                   obtain ⟨rfl, rfl⟩ := hc
                   obtain ⟨rfl, hC1, hlen, hC2⟩ : m = len ∧ C ∧ len + k ≤ 1073741824 ∧ ∀ r, r < k → (g r).all oneA = true := hC
                   obtain ⟨vs, hown, hvl, hrows⟩ : ∃ vs, Own w T' inf.size (ev s) m vs ∧ vs.length = m * inf.size ∧ ∀ r, r < m → VRs0 ρ.im (f r) ((vs.drop (r * inf.size)).take inf.size) := by
                     generalize hsv : ev s = sv at hs
                     cases hs with
                     | ow _ hi h1 h2 =>
                       obtain ⟨ob, ho, vs, sp, rfl, g1, g2, g3, g4, g5⟩ := hr.blk hi hB
                       exact ⟨vs, Own.of_blk (show Blk w _ T' _ from ho) g1 g2 g3 g4, g1, g5⟩
                     | ow0 => exact ⟨[], ⟨by simp, .inl ⟨rfl, rfl⟩⟩, by simp, fun r hr => absurd hr (Nat.not_lt_zero _)⟩
                   obtain ⟨v', w', us, h1, h2, hul, hurows⟩ := appR hsrc hC1 hC2 hown hlen
                   have hrow : ∀ r, r < m + k → VRs0 ρ.im (rwApp f m g r) (((vs ++ us).drop (r * inf.size)).take inf.size) := by
                     intro r hr'
                     unfold rwApp
                     by_cases hrm : r < m
                     · have : Nat.blt r m = true := by rw [Nat.blt_eq]; exact hrm
                       rw [this, cond_true]
                       have hle : r * inf.size + inf.size ≤ m * inf.size := by
                         have := Nat.mul_le_mul_right inf.size (Nat.succ_le_of_lt hrm)
                         rw [Nat.succ_mul] at this; exact this
                       rw [List.drop_append_of_le_length (by omega), List.take_append_of_le_length (by simp; omega)]
                       exact hrows r hrm
                     · have : Nat.blt r m = false := by
                         cases hb : Nat.blt r m with
                         | false => rfl
                         | true => rw [Nat.blt_eq] at hb; omega
                       rw [this, cond_false]
                       have he : r * inf.size = vs.length + (r - m) * inf.size := by
                         rw [hvl, ← Nat.add_mul]; congr 1; omega
                       rw [he, ← List.drop_drop, List.drop_left]
                       exact hurows (r - m) (by omega)
                   obtain ⟨ρ', g1, g2, g3⟩ := hr.appended (B' := .rw T' inf.size (m + k) (rwApp f m g)) hs hB rfl rfl (fun _ _ e => by cases e) rfl h2 (fun {g c sp ρ'} him q1 q2 q3 q4 => ⟨vs ++ us, sp, rfl, q1, q2, q3, q4, fun r hr' => by rw [him]; exact hrow r hr'⟩)
                   exact ⟨ρ', v', w', .inl (fin h1), g1, g2, g3⟩
               · cases h
             · rename_i es
               rw [es] at hs
               split at h
               · rename_i k g C hsrc
                 cases h
                 obtain ⟨hC1, hlen, hC2⟩ : C ∧ k ≤ 1073741824 ∧ ∀ r, r < k → (g r).all oneA = true := hC
                 have hsv : ev s = .slice none 0 0 := by
                   generalize ev s = sv at hs
                   cases hs; rfl
                 have hown : Own w e inf.size (ev s) 0 [] := by rw [hsv]; exact ⟨by simp, .inl ⟨rfl, rfl⟩⟩
                 obtain ⟨v', w', us, h2, h3, hul, hurows⟩ := appR hsrc hC1 hC2 hown (by omega)
                 rw [List.nil_append] at h3
                 have hf : Fr No w w' := h3.fr.mono fun k hk => by rw [hsv] at hk; cases hk
                 rcases h3.own.cases with ⟨rfl, h0, _⟩ | ⟨gb, c, rfl⟩
                 · have hk0 : k = 0 := by omega
                   subst hk0
                   exact ⟨ρ, _, w', .inl (fin h2), .ow0 _, (hr.old hf).put _, Ext.put hr _⟩
                 · obtain ⟨sp, q1, q2, q3, q4, q5⟩ := h3.own.blk
                   have hgn : w.heap.size ≤ gb := by
                     rcases h3.blk with e1 | ⟨q, e1, e2⟩
                     · rw [hsv] at e1; cases e1
                     · have : gb = q := by simpa [Value.ownBlock] using e1
                       rw [this]; exact e2
                   obtain ⟨g1, g2⟩ := hr.newB (B := .rw e inf.size k g) (c := c) hf q1 hgn rfl ⟨us, sp, rfl, hul, q3, by omega, q5, fun r hr' => hurows r hr'⟩
                   have hvr : VR (ρ.set n (gb, c)) (.ow n k) (.slice (some ⟨gb, 0, none⟩) (0 + k) c) := by
                     rw [Nat.zero_add]; exact .ow _ (Env.set_same _ _ _) (by omega) q5
                   exact ⟨_, _, w', .inl (fin h2), hvr, g1, g2⟩
               · cases h
             · rename_i i es
               rw [es] at hs
               split at h
               · rename_i T' hB
                 generalize hsv : ev s = sv at hs
                 cases hs with
                 | @sl _ b d _ _ _ hi =>
                 obtain ⟨ob, ho, vs0, sp0, fz, hv0, rfl, hz0, hsp⟩ := hr.blk hi hB
                 cases hv0
                 obtain ⟨rfl, hfz⟩ := hsp
                 obtain rfl := hfz rfl
                 split at h
                 · rename_i xs C hsrc
                   cases hc : (Nat.beq T' e && Nat.beq inf.size 1) with
                   | false => rw [hc] at h; cases h
                   | true =>
                     rw [hc, cond_true, Option.some.injEq] at h
                     subst h
                     simp only [Bool.and_eq_true, Nat.beq_eq] at hc
                     obtain ⟨rfl, hc2⟩ := hc
                     obtain ⟨hC1, hlen⟩ : C ∧ xs.length ≤ 1073741824 := hC
                     have hown : Own w T' 1 (ev s) 0 [] := by rw [hsv]; exact own_empty ho
                     obtain ⟨ax, cx, hxv, hwin⟩ := bsrc_sound hr hsrc hC1 hx
                     obtain ⟨v', w', h1, h2⟩ : ∃ v' w', (Builtin.append_ #[t, t] type #[ev s, ev x]).run P w = .ok v' w' ∧ Appended w T' 1 (ev s) 0 xs.length ([] ++ xs.map byt) v' w' := by
                       rw [hxv]
                       cases ax with
                       | some ad => exact run_app (P := P) w t type T' inf z 1 inf.bytes hu hinf hz hc2 rfl (hsz.trans hc2) (ev s) 0 [] hown ad xs.length cx (xs.map byt) (by simp) (fun j u hj => hwin.cell ad rfl j u hj) (byt_one _) (max (m := 0 + xs.length) (by omega)).1 (max (m := 0 + xs.length) (by omega)).2
                       | none =>
                         obtain ⟨h6, rfl, h7⟩ := hwin.nil_inv
                         have hxs : xs = [] := by simpa using h7
                         subst hxs
                         have hr' := run_append_owned_none (P := P) (w := w) 0 t type T' inf 1 hu hinf (ev s) 0 [] hown
                         exact ⟨_, _, hr', by simpa using hown, Fr.refl _ _, .inl rfl, by simp⟩
                     rw [hsv] at h2
                     obtain ⟨ρ', g1, g2, g3⟩ := hr.grewE (B' := .bb T' xs) hi hB rfl h2 (fun {g c sp ρ'} him q1 q2 q3 q4 => ⟨sp, by simp, by simpa using q2, q4⟩)
                     exact ⟨ρ', v', w', .inl (fin h1), g1, g2, g3⟩
                 · rename_i hnb
                   split at h
                   · rename_i k g C hsrc
                     cases hc : Nat.beq T' e with
                     | false => rw [hc] at h; cases h
                     | true =>
                       rw [hc, cond_true, Option.some.injEq] at h
                       subst h
                       simp only [Nat.beq_eq] at hc
                       subst hc
                       obtain ⟨hC1, hlen, hC2⟩ : C ∧ k ≤ 1073741824 ∧ ∀ r, r < k → (g r).all oneA = true := hC
                       have hown : Own w T' inf.size (ev s) 0 [] := by rw [hsv]; exact own_empty ho
                       obtain ⟨v', w', us, h1, h2, hul, hurows⟩ := appR hsrc hC1 hC2 hown (by omega)
                       rw [hsv, List.nil_append] at h2
                       obtain ⟨ρ', g1, g2, g3⟩ := hr.grewE (B' := .rw T' inf.size k g) hi hB rfl h2 (fun {g c sp ρ'} him q1 q2 q3 q4 => ⟨us, sp, rfl, hul, q2, by omega, q4, fun r hr' => by rw [him]; exact hurows r hr'⟩)
                       exact ⟨ρ', v', w', .inl (fin h1), g1, g2, g3⟩
                   · cases h
               · cases h
             · cases h
         · cases h
       · cases h
     · cases h
   · cases h
 · cases h
mutual
def renA (σ : Nat → Option Nat) : AV → AV
 | .v x => .v x
 | .ptr i o => match σ i with | some j => .ptr j o | none => .any
 | .sl i o n c => match σ i with | some j => .sl j o n c | none => .any
 | .su i o n k q => match σ i with | some j => .su j o n k q | none => .any
 | .se => .se
 | .s0 => .s0
 | .mp i => match σ i with | some j => .mp j | none => .any
 | .agg l => .agg (renL σ l)
 | .tup l => .tup (renL σ l)
 | .fn f l m => .fn f (renL σ l) (renL σ m)
 | .yl i => match σ i with | some j => .yl j | none => .any
 | .ifc t x => .ifc t (renA σ x)
 | .sy x => .sy x
 | .any => .any
 | .by8 bs => .by8 bs
 | .im w n f => .im w n f
 | .ip l => .ip l
 | .ow i n => match σ i with | some j => .ow j n | none => .any
 | .ws i o n w => match σ i with | some j => .ws j o n w | none => .any
 | .pe i r w j => match σ i with | some k => .pe k r w j | none => .any
 | .pw i r w j n k => match σ i with | some q => .pw q r w j n k | none => .any
 | .ba bs => .ba bs
 | .ib bs => .ib bs
 | .ix a c w n f => .ix a c w n f
def renL (σ : Nat → Option Nat) : List AV → List AV
 | [] => []
 | x :: l => renA σ x :: renL σ l
end
structure Ren (σ : Nat → Option Nat) (ρ ρ' : Env) : Prop where
 nm : ∀ {i j : Nat}, σ i = some j → ρ' j = ρ i
 im : ρ'.im = ρ.im
section
variable {σ : Nat → Option Nat} {ρ ρ' : Env}
mutual
theorem VR.ren (h : Ren σ ρ ρ') : ∀ {x : AV} {u : Value}, VR ρ x u → VR ρ' (renA σ x) u
 | _, _, .v x => by simp only [renA]; exact .v x
 | _, _, .ptr (i := i) o e => by
   simp only [renA]
   cases hs : σ i with
   | none => exact .any _
   | some j => exact .ptr o ((h.nm hs).trans e)
 | _, _, .sl (i := i) o n c e => by
   simp only [renA]
   cases hs : σ i with
   | none => exact .any _
   | some j => exact .sl o n c ((h.nm hs).trans e)
 | _, _, .su (i := i) o n k q e hn => by
   simp only [renA]
   cases hs : σ i with
   | none => exact .any _
   | some j => exact .su o n k q ((h.nm hs).trans e) hn
 | _, _, .se a c => by simp only [renA]; exact .se a c
 | _, _, .s0 a c => by simp only [renA]; exact .s0 a c
 | _, _, .mp (i := i) e => by
   simp only [renA]
   cases hs : σ i with
   | none => exact .any _
   | some j => exact .mp ((h.nm hs).trans e)
 | _, _, .agg e => by simp only [renA]; exact .agg (VRs.ren h e)
 | _, _, .tup e => by simp only [renA]; exact .tup (VRs.ren h e)
 | _, _, .fn f e e' => by simp only [renA]; exact .fn f (VRs.ren h e) (VRs.ren h e')
 | _, _, .yl (i := i) e => by
   simp only [renA]
   cases hs : σ i with
   | none => exact .any _
   | some j => exact .yl ((h.nm hs).trans e)
 | _, _, .ifc t e => by simp only [renA]; exact .ifc t (VR.ren h e)
 | _, _, .sy x => by simp only [renA]; exact .sy x
 | _, _, .any u => by simp only [renA]; exact .any u
 | _, _, .by8 k => by simp only [renA]; exact .by8 (by rw [h.im]; exact k)
 | _, _, .im k e => by simp only [renA]; exact .im (by rw [h.im]; exact k) (fun r hr => by rw [h.im]; exact e r hr)
 | _, _, .ip k e => by simp only [renA]; exact .ip (fun j u hu => by rw [h.im]; exact k j u hu) (by rw [h.im]; exact e)
 | _, _, .ow (i := i) n e hn hc => by
   simp only [renA]
   cases hs : σ i with
   | none => exact .any _
   | some j => exact .ow n ((h.nm hs).trans e) hn hc
 | _, _, .ow0 i => by
   simp only [renA]
   cases hs : σ i with
   | none => exact .any _
   | some j => exact .ow0 j
 | _, _, .ws (i := i) o n w c e hn hc => by
   simp only [renA]
   cases hs : σ i with
   | none => exact .any _
   | some j => exact .ws o n w c ((h.nm hs).trans e) hn hc
 | _, _, .ws0 i o w a c hc ha => by
   simp only [renA]
   cases hs : σ i with
   | none => exact .any _
   | some j => exact .ws0 j o w a c hc ha
 | _, _, .pe (i := i) r w j e => by
   simp only [renA]
   cases hs : σ i with
   | none => exact .any _
   | some k => exact .pe r w j ((h.nm hs).trans e)
 | _, _, .pw (i := i) r w j n k e hn => by
   simp only [renA]
   cases hs : σ i with
   | none => exact .any _
   | some q => exact .pw r w j n k ((h.nm hs).trans e) hn
 | _, _, .ba bs => by simp only [renA]; exact .ba bs
 | _, _, .ib k => by simp only [renA]; exact .ib (fun j u hu => by rw [h.im]; exact k j u hu)
 | _, _, .ix k e => by simp only [renA]; exact .ix (by rw [h.im]; exact k) (fun r hr => by rw [h.im]; exact e r hr)
theorem VRs.ren (h : Ren σ ρ ρ') : ∀ {l : List AV} {vs : List Value}, VRs ρ l vs → VRs ρ' (renL σ l) vs
 | _, _, .nil => by simp only [renL]; exact .nil
 | _, _, .cons e t => by simp only [renL]; exact .cons (VR.ren h e) (VRs.ren h t)
end
theorem ERs.ren (h : Ren σ ρ ρ') {l : List (Value × AV × Nat)} {m : List MapEntry} (k : ERs ρ l m) : ERs ρ' (l.map fun e => (e.1, renA σ e.2.1, e.2.2)) m := by
 induction k with
 | nil => exact .nil
 | cons e _ ih => exact .cons (e.ren h) ih
end
/-! Slots. -/
def memS (s : Nat) : List Nat → Bool
 | [] => false
 | x :: l => cond (Nat.beq s x) true (memS s l)
def getS (s : Nat) : List (Nat × AV) → Option AV
 | [] => none
 | p :: l => cond (Nat.beq s p.1) (some p.2) (getS s l)
def slotsF (σ : Nat → Option Nat) (kp : List Nat) (T : Tr AV) : Nat → Nat → List AV
 | 0, _ => []
 | k + 1, s => cond (memS s kp) (renA σ (At T s)) .any :: slotsF σ kp T k (s + 1)
theorem slotsF_get (σ : Nat → Option Nat) (kp : List Nat) (T : Tr AV) : ∀ (k s q : Nat), q < k → (slotsF σ kp T k s)[q]? = some (cond (memS (s + q) kp) (renA σ (At T (s + q))) .any)
 | 0, _, q, h => by omega
 | k + 1, s, 0, _ => rfl
 | k + 1, s, q + 1, h => by
   simp only [slotsF, List.getElem?_cons_succ]
   rw [slotsF_get σ kp T k (s + 1) q (by omega), show s + 1 + q = s + (q + 1) by omega]
theorem slotsF_len (σ : Nat → Option Nat) (kp : List Nat) (T : Tr AV) : ∀ (k s : Nat), (slotsF σ kp T k s).length = k
 | 0, _ => rfl
 | k + 1, s => by simp [slotsF, slotsF_len σ kp T k]
def ovL (ov : List (Nat × AV)) : List AV → Nat → List AV
 | [], _ => []
 | x :: l, s => (match getS s ov with | some y => y | none => x) :: ovL ov l (s + 1)
theorem ovL_get (ov : List (Nat × AV)) : ∀ (l : List AV) (s q : Nat), (ovL ov l s)[q]? = (l[q]?).map fun x => match getS (s + q) ov with | some y => y | none => x
 | [], _, _ => by simp [ovL]
 | x :: l, s, 0 => by simp [ovL]
 | x :: l, s, q + 1 => by
   simp only [ovL, List.getElem?_cons_succ]
   rw [ovL_get ov l (s + 1) q, show s + 1 + q = s + (q + 1) by omega]
theorem ovL_len (ov : List (Nat × AV)) : ∀ (l : List AV) (s : Nat), (ovL ov l s).length = l.length
 | [], _ => rfl
 | x :: l, s => by simp [ovL, ovL_len ov l]
theorem ovL_nil : ∀ (l : List AV) (s : Nat), ovL [] l s = l
 | [], _ => rfl
 | x :: l, s => by simp [ovL, getS, ovL_nil l]
mutual
def leA : AV → AV → Prop
 | _, .any => True
 | .v (.int k a), .sy (.int j b) => k = j ∧ a = b
 | .sy (.int k a), .sy (.int j b) => k = j ∧ a = b
 | .v (.bool a), .sy (.bool b) => a = b
 | .sy (.bool a), .sy (.bool b) => a = b
 | .v (.string a), .sy (.string b) => a = b
 | .sy (.string a), .sy (.string b) => a = b
 | .v a, .sy b => a = b
 | .sy a, .v b => a = b
 | .v (.slice none 0 0), .by8 bs => bs = []
 | .v (.slice none 0 0), .im _ n _ => n = 0
 | .v (.slice none 0 0), .ow _ n => n = 0
 | .by8 a, .by8 b => a = b
 | .ow i n, .ow j m => i = j ∧ n = m
 | .im w n f, .im w' n' f' => w = w' ∧ n = n' ∧ ∀ r, r < n → f r = f' r
 | .agg l, .agg m => leL l m
 | .tup l, .tup m => leL l m
 | x, y => x = y
def leL : List AV → List AV → Prop
 | [], [] => True
 | x :: l, y :: m => leA x y ∧ leL l m
 | _, _ => False
end
theorem winE_nil (I : Im) (w : Nat) : WinE I none 0 0 w [] := ⟨by simp, Nat.le_refl _, Nat.zero_le _, fun _ => rfl, fun _ h => by cases h⟩
mutual
theorem leA_VR {ρ : Env} : ∀ {x y : AV} {u : Value}, leA x y → VR ρ x u → VR ρ y u := by
 intro x y u h hx
 unfold leA at h
 split at h
 · exact .any _
 · obtain ⟨rfl, rfl⟩ := h; cases hx; exact .sy _
 · obtain ⟨rfl, rfl⟩ := h; cases hx; exact .sy _
 · subst h; cases hx; exact .sy _
 · subst h; cases hx; exact .sy _
 · subst h; cases hx; exact .sy _
 · subst h; cases hx; exact .sy _
 · subst h; cases hx; exact .sy _
 · subst h; cases hx; exact .v _
 · subst h; cases hx; exact .by8 (winE_nil _ _)
 · subst h; cases hx; exact .im (winE_nil _ _) (fun r hr => absurd hr (Nat.not_lt_zero _))
 · subst h; cases hx; exact .ow0 _
 · subst h; exact hx
 · obtain ⟨rfl, rfl⟩ := h; exact hx
 · obtain ⟨rfl, rfl, h⟩ := h
   cases hx with
   | im k e => exact .im k (fun r hr => by rw [← h r hr]; exact e r hr)
 · rename_i l m
   cases hx with
   | agg e => exact .agg (leL_VRs h e)
 · rename_i l m
   cases hx with
   | tup e => exact .tup (leL_VRs h e)
 · subst h; exact hx
theorem leL_VRs {ρ : Env} : ∀ {l m : List AV} {us : List Value}, leL l m → VRs ρ l us → VRs ρ m us
 | [], [], _, _, k => k
 | x :: l, y :: m, _, h, k => by
   unfold leL at h
   cases k with
   | cons e t => exact .cons (leA_VR h.1 e) (leL_VRs h.2 t)
 | [], _ :: _, _, h, _ => by simp [leL] at h
 | _ :: _, [], _, h, _ => by simp [leL] at h
end
def ovAsk (l : List AV) : List (Nat × AV) → List Prop
 | [] => []
 | p :: ov => (match l[p.1]? with | some x => leA x p.2 | none => False) :: ovAsk l ov
theorem getS_ask {l : List AV} : ∀ {ov : List (Nat × AV)}, All (ovAsk l ov) → ∀ {s : Nat} {y x : AV}, getS s ov = some y → l[s]? = some x → leA x y
 | [], _, s, y, x, h, _ => by simp [getS] at h
 | p :: ov, ha, s, y, x, h, hx => by
   unfold getS at h
   unfold ovAsk at ha
   cases hb : Nat.beq s p.1 with
   | true =>
     rw [hb] at h
     simp only [cond_true, Option.some.injEq] at h
     have e : s = p.1 := by simpa using hb
     have := All.head ha
     rw [← e, hx] at this
     rw [← h]; exact this
   | false => rw [hb] at h; exact getS_ask (All.tail ha) h hx
theorem TR.cutT {σ : Nat → Option Nat} {ρ ρ' : Env} (hσ : Ren σ ρ ρ') {nt : Nat} {T : Tr AV} {ts : Array Value} (h : TR ρ nt T ts) (kp : List Nat) (ov : List (Nat × AV)) (ha : All (ovAsk (slotsF σ kp T nt 0) ov)) :
   TR ρ' nt (argsT (ovL ov (slotsF σ kp T nt 0) 0) 0 .e) ts := by
 refine ⟨h.1, fun s => ?_⟩
 rw [At_argsT, ovL_len, slotsF_len]
 by_cases hs : s < nt
 · rw [if_pos ⟨Nat.zero_le _, by omega⟩, ovL_get, Nat.sub_zero, slotsF_get _ _ _ _ _ _ hs]
   simp only [Option.map_some, Option.getD_some, Nat.zero_add]
   have h1 : VR ρ' (cond (memS s kp) (renA σ (At T s)) .any) (ts.getD s undef) := by
     cases memS s kp with
     | true => exact (h.2 s).ren hσ
     | false => exact .any _
   cases hg : getS s ov with
   | none => exact h1
   | some y =>
     have := slotsF_get σ kp T nt 0 s hs
     rw [Nat.zero_add] at this
     exact leA_VR (getS_ask ha hg this) h1
 · rw [if_neg (by omega)]
   have : ts.getD s undef = undef := by
     rw [Array.getD_eq_getD_getElem?, Array.getElem?_eq_none (by rw [h.1]; omega)]; rfl
   rw [this]
   exact .v _
def allN : Nat → Nat → List Nat
 | 0, _ => []
 | k + 1, s => s :: allN k (s + 1)
theorem TR.renT {σ : Nat → Option Nat} {ρ ρ' : Env} (hσ : Ren σ ρ ρ') {nt : Nat} {T : Tr AV} {ts : Array Value} (h : TR ρ nt T ts) (kp : List Nat) : TR ρ' nt (argsT (slotsF σ kp T nt 0) 0 .e) ts := by
 have := h.cutT hσ kp [] All.nil
 rwa [ovL_nil] at this
/-! Blocks. -/
def renB (σ : Nat → Option Nat) : AB → AB
 | .mem T z l => .mem T z (renL σ l)
 | .loop st pd fn nt T ps asg bd d => match σ d with
   | some e => .loop st pd fn nt (argsT (slotsF σ (allN nt 0) T nt 0) 0 .e) ps asg bd e
   | none => .dead
 | .dfd b => .dfd b
 | .map l c => .map (l.map fun e => (e.1, renA σ e.2.1, e.2.2)) c
 | .dead => .dead
 | .bb T bs => .bb T bs
 | .rw T w n f => .rw T w n f
 | .obj x => .obj x
theorem BR.ren {σ : Nat → Option Nat} {ρ ρ' : Env} (hσ : Ren σ ρ ρ') {c : Nat} {B : AB} {o : Obj} (h : BR ρ c B o) : BR ρ' c (renB σ B) o := by
 cases B with
 | mem T z l => obtain ⟨vs, sp, fz, h1, h2⟩ := h; exact ⟨vs, sp, fz, h1.ren hσ, h2⟩
 | loop st pd fn nt T ps asg bd d =>
   obtain ⟨ts, db, dc, h1, h2, h3⟩ := h
   cases hs : σ d with
   | none => simp only [renB, hs]; trivial
   | some e => simp only [renB, hs]; exact ⟨ts, db, dc, h1.renT hσ _, (hσ.nm hs).trans h2, h3⟩
 | dfd => exact h
 | map l k => obtain ⟨m, h1, h2⟩ := h; exact ⟨m, h1.ren hσ, h2⟩
 | dead => exact h
 | bb => exact h
 | rw => obtain ⟨vs, sp, h1, h3, h4, h5, h6, h7⟩ := h; exact ⟨vs, sp, h1, h3, h4, h5, h6, fun r hr => by rw [hσ.im]; exact h7 r hr⟩
 | obj => exact h
theorem renB_live {σ : Nat → Option Nat} {B : AB} (h : (renB σ B).live = true) : B.live = true := by
 cases B <;> first | rfl | exact h
theorem renB_obj {σ : Nat → Option Nat} {B : AB} : (renB σ B).live = true → (renB σ B).isObj = false → B.isObj = false := by
 cases B <;> first | (intro _ _; rfl) | (intro _ h; exact h)
theorem renB_obj' {σ : Nat → Option Nat} {B : AB} {x : Ob} (h : renB σ B = .obj x) : B = .obj x := by
 cases B <;> first | exact h | (simp only [renB] at h; cases h; done) | (simp only [renB] at h; split at h <;> cases h)
def leB : AB → AB → Prop
 | _, .dead => True
 | .mem T z l, .mem T' z' l' => T = T' ∧ z = z' ∧ leL l l'
 | .bb T b, .bb T' b' => T = T' ∧ b = b'
 | .rw T w n f, .rw T' w' n' f' => T = T' ∧ w = w' ∧ n = n' ∧ ∀ r, r < n → f r = f' r
 | .obj x, .obj y => x = y
 | a, b => a = b
mutual
theorem leA_refl : ∀ x : AV, leA x x
 | .v x => by cases x <;> simp [leA]
 | .sy x => by cases x <;> simp [leA]
 | .agg l => by unfold leA; exact leL_refl l
 | .tup l => by unfold leA; exact leL_refl l
 | .ptr .. => by simp [leA]
 | .sl .. => by simp [leA]
 | .su .. => by simp [leA]
 | .se => by simp [leA]
 | .s0 => by simp [leA]
 | .mp _ => by simp [leA]
 | .fn .. => by simp [leA]
 | .yl _ => by simp [leA]
 | .ifc .. => by simp [leA]
 | .any => by simp [leA]
 | .by8 _ => by simp [leA]
 | .im .. => by simp [leA]
 | .ip _ => by simp [leA]
 | .ow .. => by simp [leA]
 | .ws .. => by simp [leA]
 | .pe .. => by simp [leA]
 | .pw .. => by simp [leA]
 | .ba _ => by simp [leA]
 | .ib _ => by simp [leA]
 | .ix .. => by simp [leA]
theorem leL_refl : ∀ l : List AV, leL l l
 | [] => by simp [leL]
 | x :: l => by unfold leL; exact ⟨leA_refl x, leL_refl l⟩
end
theorem leB_refl (B : AB) : leB B B := by
 cases B with
 | mem T z l => exact ⟨rfl, rfl, leL_refl l⟩
 | rw => exact ⟨rfl, rfl, rfl, fun _ _ => rfl⟩
 | bb => exact ⟨rfl, rfl⟩
 | loop => simp [leB]
 | dfd => simp [leB]
 | map => simp [leB]
 | dead => trivial
 | obj => simp [leB]
theorem leB_BR {ρ : Env} {c : Nat} {B B' : AB} {o : Obj} (h : leB B B') (k : BR ρ c B o) : BR ρ c B' o := by
 unfold leB at h
 split at h
 · trivial
 · obtain ⟨rfl, rfl, h⟩ := h
   obtain ⟨vs, sp, fz, h1, h2⟩ := k
   exact ⟨vs, sp, fz, leL_VRs h h1, h2⟩
 · obtain ⟨rfl, rfl⟩ := h; exact k
 · obtain ⟨rfl, rfl, rfl, h⟩ := h
   obtain ⟨vs, sp, h1, h3, h4, h5, h6, h7⟩ := k
   exact ⟨vs, sp, h1, h3, h4, h5, h6, fun r hr => by rw [← h r hr]; exact h7 r hr⟩
 · subst h; exact k
 · subst h; exact k
theorem leB_live {B B' : AB} (h : leB B B') (k : B'.live = true) : B.live = true ∧ B'.isObj = B.isObj ∧ ∀ x, B' = .obj x → B = .obj x := by
 unfold leB at h
 split at h
 · cases k
 · exact ⟨rfl, rfl, fun _ e => by cases e⟩
 · exact ⟨rfl, rfl, fun _ e => by cases e⟩
 · exact ⟨rfl, rfl, fun _ e => by cases e⟩
 · subst h; exact ⟨rfl, rfl, fun _ e => e⟩
 · subst h; exact ⟨k, rfl, fun _ e => e⟩
inductive LN where
 | old (i : Nat)
 | new (B : AB)
def rangeL : Nat → Nat → List LN → List LN
 | 0, _, r => r
 | k + 1, s, r => .old s :: rangeL k (s + 1) r
theorem rangeL_get : ∀ (k s : Nat) (r : List LN) (j : Nat), (rangeL k s r)[j]? = if j < k then some (.old (s + j)) else r[j - k]?
 | 0, s, r, j => by simp [rangeL]
 | k + 1, s, r, 0 => by simp [rangeL]
 | k + 1, s, r, j + 1 => by
   simp only [rangeL, List.getElem?_cons_succ]
   rw [rangeL_get k (s + 1) r j]
   by_cases h : j < k
   · rw [if_pos h, if_pos (by omega), show s + 1 + j = s + (j + 1) by omega]
   · rw [if_neg h, if_neg (by omega), show j + 1 - (k + 1) = j - k by omega]
theorem rangeL_len : ∀ (k s : Nat) (r : List LN), (rangeL k s r).length = k + r.length
 | 0, s, r => by simp [rangeL]
 | k + 1, s, r => by simp [rangeL, rangeL_len k]; omega
def findL (i : Nat) : List LN → Nat → Option Nat
 | [], _ => none
 | .old j :: l, k => cond (Nat.beq i j) (some k) (findL i l (k + 1))
 | .new _ :: l, k => findL i l (k + 1)
def sigL (lo : Nat) (L : List LN) (i : Nat) : Option Nat := cond (Nat.blt i lo) (some i) (findL i L lo)
def okL (lo : Nat) : List LN → Bool
 | [] => true
 | .old j :: l => Nat.ble lo j && (findL j l 0).isNone && okL lo l
 | .new (.obj _) :: _ => false
 | .new _ :: l => okL lo l
theorem findL_none {i : Nat} : ∀ {l : List LN} {k : Nat}, findL i l k = none → ∀ j : Nat, l[j]? ≠ some (LN.old i)
 | [], _, _, j => by simp
 | .old q :: l, k, h, j => by
   unfold findL at h
   cases hb : Nat.beq i q with
   | true => rw [hb] at h; cases h
   | false =>
     rw [hb] at h
     cases j with
     | zero => intro e; simp at e; subst e; simp at hb
     | succ j => simpa using findL_none h j
 | .new B :: l, k, h, j => by
   unfold findL at h
   cases j with
   | zero => simp
   | succ j => simpa using findL_none h j
theorem findL_iff {lo i : Nat} : ∀ {l : List LN} {k j : Nat}, okL lo l = true → (findL i l k = some j ↔ k ≤ j ∧ l[j - k]? = some (.old i))
 | [], k, j, _ => by simp [findL]
 | .old q :: l, k, j, h => by
   unfold okL at h
   simp only [Bool.and_eq_true] at h
   unfold findL
   cases hb : Nat.beq i q with
   | true =>
     have e : i = q := by simpa using hb
     subst e
     simp only [cond_true, Option.some.injEq]
     constructor
     · rintro rfl; exact ⟨Nat.le_refl _, by simp⟩
     · rintro ⟨h1, h2⟩
       by_cases hj : k = j
       · exact hj
       · exfalso
         obtain ⟨d, rfl⟩ : ∃ d, j = k + (d + 1) := ⟨j - k - 1, by omega⟩
         rw [show k + (d + 1) - k = d + 1 by omega] at h2
         simp only [List.getElem?_cons_succ] at h2
         exact findL_none (by simpa using h.1.2) d h2
   | false =>
     have e : i ≠ q := by intro e; subst e; simp at hb
     simp only [cond_false]
     rw [findL_iff h.2]
     constructor
     · rintro ⟨h1, h2⟩
       refine ⟨by omega, ?_⟩
       rw [show j - k = (j - (k + 1)) + 1 by omega]; simpa using h2
     · rintro ⟨h1, h2⟩
       by_cases hj : k = j
       · subst hj; simp at h2; exact absurd h2.symm e
       · refine ⟨by omega, ?_⟩
         rw [show j - k = (j - (k + 1)) + 1 by omega] at h2; simpa using h2
 | .new B :: l, k, j, h => by
   have h' : okL lo l = true := by unfold okL at h; cases B <;> first | exact h | cases h
   unfold findL
   rw [findL_iff h']
   constructor
   · rintro ⟨h1, h2⟩
     refine ⟨by omega, ?_⟩
     rw [show j - k = (j - (k + 1)) + 1 by omega]; simpa using h2
   · rintro ⟨h1, h2⟩
     by_cases hj : k = j
     · subst hj; simp at h2
     · refine ⟨by omega, ?_⟩
       rw [show j - k = (j - (k + 1)) + 1 by omega] at h2; simpa using h2
theorem okL_ge {lo : Nat} : ∀ {l : List LN} {i j : Nat}, okL lo l = true → l[j]? = some (.old i) → lo ≤ i
 | [], i, j, _, e => by simp at e
 | .old q :: l, i, j, h, e => by
   unfold okL at h
   simp only [Bool.and_eq_true, Nat.ble_eq] at h
   cases j with
   | zero => simp at e; subst e; exact h.1.1
   | succ j => exact okL_ge h.2 (by simpa using e)
 | .new B :: l, i, j, h, e => by
   have h' : okL lo l = true := by unfold okL at h; cases B <;> first | exact h | cases h
   cases j with
   | zero => simp at e
   | succ j => exact okL_ge h' (by simpa using e)
theorem sigL_iff {lo : Nat} {L : List LN} (h : okL lo L = true) (i j : Nat) : sigL lo L i = some j ↔ (rangeL lo 0 L)[j]? = some (.old i) := by
 rw [rangeL_get]
 unfold sigL
 cases hb : Nat.blt i lo with
 | true =>
   have hi : i < lo := by simpa [Nat.blt_eq] using hb
   simp only [cond_true, Option.some.injEq, Nat.zero_add]
   constructor
   · rintro rfl; rw [if_pos hi]
   · intro e
     split at e
     · simp at e; exact e.symm
     · have := okL_ge h e; omega
 | false =>
   have hi : ¬ i < lo := by intro hlt; have : Nat.blt i lo = true := by rw [Nat.blt_eq]; exact hlt
                            rw [hb] at this; cases this
   simp only [cond_false, Nat.zero_add]
   rw [findL_iff h]
   constructor
   · rintro ⟨h1, h2⟩; rw [if_neg (by omega)]; exact h2
   · intro e
     split at e
     · rename_i hj; simp at e; omega
     · exact ⟨by omega, e⟩
def blkF (σ : Nat → Option Nat) (H : Tr AB) : LN → AB
 | .old i => match H.get i with | some B => renB σ B | none => .dead
 | .new B => B
def blksF (σ : Nat → Option Nat) (H : Tr AB) : List LN → List AB
 | [] => []
 | x :: l => blkF σ H x :: blksF σ H l
theorem blksF_get (σ : Nat → Option Nat) (H : Tr AB) : ∀ (l : List LN) (j : Nat), (blksF σ H l)[j]? = (l[j]?).map (blkF σ H)
 | [], _ => by simp [blksF]
 | x :: l, 0 => by simp [blksF]
 | x :: l, j + 1 => by simp [blksF, blksF_get σ H l]
theorem blksF_len (σ : Nat → Option Nat) (H : Tr AB) : ∀ (l : List LN), (blksF σ H l).length = l.length
 | [] => rfl
 | x :: l => by simp [blksF, blksF_len σ H l]
def getB (s : Nat) : List (Nat × AB) → Option AB
 | [] => none
 | p :: l => cond (Nat.beq s p.1) (some p.2) (getB s l)
def obL (ob : List (Nat × AB)) : List AB → Nat → List AB
 | [], _ => []
 | x :: l, s => (match getB s ob with | some y => y | none => x) :: obL ob l (s + 1)
theorem obL_get (ob : List (Nat × AB)) : ∀ (l : List AB) (s q : Nat), (obL ob l s)[q]? = (l[q]?).map fun x => match getB (s + q) ob with | some y => y | none => x
 | [], _, _ => by simp [obL]
 | x :: l, s, 0 => by simp [obL]
 | x :: l, s, q + 1 => by
   simp only [obL, List.getElem?_cons_succ]
   rw [obL_get ob l (s + 1) q, show s + 1 + q = s + (q + 1) by omega]
theorem obL_len (ob : List (Nat × AB)) : ∀ (l : List AB) (s : Nat), (obL ob l s).length = l.length
 | [], _ => rfl
 | x :: l, s => by simp [obL, obL_len ob l]
def obAsk (l : List AB) : List (Nat × AB) → List Prop
 | [] => []
 | p :: ob => (match l[p.1]? with | some x => leB x p.2 | none => False) :: obAsk l ob
theorem getB_ask {l : List AB} : ∀ {ob : List (Nat × AB)}, All (obAsk l ob) → ∀ {s : Nat} {y x : AB}, getB s ob = some y → l[s]? = some x → leB x y
 | [], _, s, y, x, h, _ => by simp [getB] at h
 | p :: ov, ha, s, y, x, h, hx => by
   unfold getB at h
   unfold obAsk at ha
   cases hb : Nat.beq s p.1 with
   | true =>
     rw [hb] at h
     simp only [cond_true, Option.some.injEq] at h
     have e : s = p.1 := by simpa using hb
     have := All.head ha
     rw [← e, hx] at this
     rw [← h]; exact this
   | false => rw [hb] at h; exact getB_ask (All.tail ha) h hx
def memF : List AB → Nat → Tr AB → Tr AB
 | [], _, H => H
 | x :: l, s, H => memF l (s + 1) (tput H s x)
theorem memF_get : ∀ (l : List AB) (k : Nat) (H : Tr AB) (s : Nat), (memF l k H).get s = if k ≤ s ∧ s < k + l.length then l[s - k]? else H.get s
 | [], k, H, s => by simp [memF]; omega
 | x :: l, k, H, s => by
   unfold memF
   rw [memF_get l (k + 1), get_tput]
   by_cases h1 : s = k
   · subst h1; rw [if_neg (by omega), if_pos rfl, if_pos ⟨by omega, by simp⟩]; simp
   · by_cases h2 : k + 1 ≤ s ∧ s < k + 1 + l.length
     · rw [if_pos h2, if_pos ⟨by omega, by simp; omega⟩]
       rw [show s - k = (s - (k + 1)) + 1 by omega]
       simp
     · rw [if_neg h2, if_neg h1, if_neg (by simp; omega)]
theorem memF_get0 (l : List AB) (s : Nat) : (memF l 0 .e).get s = l[s]? := by
 rw [memF_get]
 by_cases h : s < l.length
 · rw [if_pos ⟨Nat.zero_le _, by omega⟩, Nat.sub_zero]
 · rw [if_neg (by omega), List.getElem?_eq_none (by omega)]; rfl
def cutEnv (ρ : Env) (M : List LN) : Env := ⟨fun j => match M[j]? with | some (.old i) => ρ i | _ => none, ρ.im⟩
theorem cutEnv_at (ρ : Env) (M : List LN) (j : Nat) : (cutEnv ρ M) j = match M[j]? with | some (.old i) => ρ i | _ => none := rfl
theorem cutEnv_some {ρ : Env} {M : List LN} {j : Nat} {p : Nat × Nat} (h : (cutEnv ρ M) j = some p) : ∃ i, M[j]? = some (.old i) ∧ ρ i = some p := by
 rw [cutEnv_at] at h
 split at h
 · rename_i i hi; exact ⟨i, hi, h⟩
 · cases h
theorem renB_mem {σ : Nat → Option Nat} {B : AB} {T : TypeId} {l : List AV} (e : renB σ B = .mem T none l) : ∃ l', B = .mem T none l' := by
 cases B with
 | mem T' z l' => simp only [renB, AB.mem.injEq] at e; obtain ⟨rfl, rfl, _⟩ := e; exact ⟨_, rfl⟩
 | _ => simp only [renB] at e; first | (cases e; done) | (split at e <;> cases e)
theorem leB_nomem {B C : AB} (h : leB B C) (hB : ∀ (T : TypeId) (l : List AV), B ≠ .mem T none l) : ∀ (T : TypeId) (l : List AV), C ≠ .mem T none l := fun T l e => by
 subst e
 unfold leB at h
 split at h
 · rename_i hq; cases hq
 · rename_i hq
   cases hq
   obtain ⟨rfl, rfl, _⟩ := h
   exact hB _ _ rfl
 · rename_i hq; cases hq
 · rename_i hq; cases hq
 · rename_i hq; cases hq
 · exact hB _ _ h
theorem HR.cut {w0 : Bs} {ρ : Env} {H : Tr AB} {n : Nat} {w : World} (hr : HR w0 ρ H n w) {σ : Nat → Option Nat} {M : List LN} (hσ : ∀ i j, σ i = some j ↔ M[j]? = some (.old i)) (hb : ∀ i, (w0.ρ i ≠ none ∨ w0.K i) → σ i = some i)
   (ob : List (Nat × AB)) (ha : All (obAsk (blksF σ H M) ob)) : Ren σ ρ (cutEnv ρ M) ∧ HR w0 (cutEnv ρ M) (memF (obL ob (blksF σ H M) 0) 0 .e) M.length w := by
 have hren : Ren σ ρ (cutEnv ρ M) := ⟨fun {i j} h => by rw [cutEnv_at, (hσ i j).1 h], rfl⟩
 refine ⟨hren, ?_⟩
 -- a block, and where it comes from
 have blk : ∀ {j i : Nat} {B : AB}, M[j]? = some (.old i) → (memF (obL ob (blksF σ H M) 0) 0 .e).get j = some B → ∃ B0, leB B0 B ∧ (B0 = .dead ∨ ∃ B1, H.get i = some B1 ∧ B0 = renB σ B1) := by
   intro j i B hM hB
   rw [memF_get0, obL_get, blksF_get, hM] at hB
   simp only [Option.map_some, Option.some.injEq, Nat.zero_add] at hB
   have h0 : (blksF σ H M)[j]? = some (blkF σ H (.old i)) := by rw [blksF_get, hM]; rfl
   refine ⟨blkF σ H (.old i), ?_, ?_⟩
   · cases hg : getB j ob with
     | none =>
       rw [hg] at hB
       exact hB ▸ leB_refl _
     | some y =>
       rw [hg] at hB
       simp only at hB
       subst hB
       exact getB_ask ha hg h0
   · unfold blkF
     simp only
     cases hH : H.get i with
     | none => exact .inl rfl
     | some B1 => exact .inr ⟨B1, rfl, rfl⟩
 obtain ⟨F, hF⟩ := hr.foot
 -- a live block has an elder live one
 have live : ∀ {j i : Nat} {B : AB}, M[j]? = some (.old i) → (memF (obL ob (blksF σ H M) 0) 0 .e).get j = some B → B.live = true → ∃ B1, H.get i = some B1 ∧ B1.live = true ∧ (B.isObj = false → B1.isObj = false) ∧ ∀ x, B = .obj x → B1 = .obj x := by
   intro j i B hM hB hl
   obtain ⟨B0, h1, h2⟩ := blk hM hB
   obtain ⟨h3, h4, h5⟩ := leB_live h1 hl
   rcases h2 with rfl | ⟨B1, h6, rfl⟩
   · cases h3
   · exact ⟨B1, h6, renB_live h3, fun e => renB_obj h3 (h4 ▸ e), fun x e => renB_obj' (h5 x e)⟩
 refine ⟨fun {j b c B} h1 h2 => ?_, ⟨fun j k => ∃ i, M[j]? = some (.old i) ∧ F i k, fun {j b c B} h1 h2 h3 => ?_, fun {j b c x} h1 h2 => ?_, fun {j l k p q B C} h1 h2 h3 h4 h5 h6 h7 h8 => ?_, fun {j k p B} h1 h2 h3 h4 => ?_⟩, fun {j} hj => ?_, fun {j b c} h1 => ?_, hr.fr, ⟨fun i b h => ?_, hr.le.im⟩, hr.im, hr.imn, fun {j} hk => ?_⟩
 · obtain ⟨i, hM, hi⟩ := cutEnv_some h1
   obtain ⟨B0, h3, h4⟩ := blk hM h2
   rcases h4 with rfl | ⟨B1, h5, rfl⟩
   · have hlt := (hr.base hi).2
     exact ⟨w.heap[b], by simp [hlt], leB_BR h3 trivial⟩
   · obtain ⟨o, ho, hbr⟩ := hr.blk hi h5
     exact ⟨o, ho, leB_BR h3 (hbr.ren hren)⟩
 · obtain ⟨i, hM, hi⟩ := cutEnv_some h1
   obtain ⟨B1, h4, h5, h6, _⟩ := live hM h2 h3
   obtain ⟨h7, h8⟩ := hF.one hi h4 h5
   refine ⟨⟨i, hM, h7⟩, fun e k ⟨i', hM', hk⟩ => ?_⟩
   rw [hM] at hM'; cases hM'
   exact h8 (h6 e) k hk
 · obtain ⟨i, hM, hi⟩ := cutEnv_some h1
   obtain ⟨B1, h4, h5, h6, h7⟩ := live hM h2 rfl
   have := hF.obj hi (h7 x rfl ▸ h4)
   have e : (fun k => ∃ i, M[j]? = some (.old i) ∧ F i k) = F i := by
     funext k
     apply propext
     constructor
     · rintro ⟨i', hM', hk⟩; rw [hM] at hM'; cases hM'; exact hk
     · exact fun hk => ⟨i, hM, hk⟩
   rw [e]; exact this
 · obtain ⟨i, hM, hi⟩ := cutEnv_some h1
   obtain ⟨i', hM', hi'⟩ := cutEnv_some h2
   obtain ⟨B1, g1, g2, _⟩ := live hM h3 h5
   obtain ⟨C1, g3, g4, _⟩ := live hM' h4 h6
   obtain ⟨a, ha1, ha2⟩ := h7
   obtain ⟨a', hb1, hb2⟩ := h8
   rw [hM] at ha1; cases ha1
   rw [hM'] at hb1; cases hb1
   have := hF.apart hi hi' g1 g3 g2 g4 ha2 hb2
   subst this
   have e1 := (hσ i j).2 hM
   have e2 := (hσ i l).2 hM'
   rw [e1] at e2; cases e2; rfl
 · obtain ⟨i, hM, hi⟩ := cutEnv_some h1
   obtain ⟨B1, g1, g2, _⟩ := live hM h2 h3
   obtain ⟨a, ha1, ha2⟩ := h4
   rw [hM] at ha1; cases ha1
   exact hF.there hi g1 g2 ha2
 · refine ⟨?_, ?_⟩
   · rw [cutEnv_at, List.getElem?_eq_none hj]
   · rw [memF_get0, List.getElem?_eq_none (by rw [obL_len, blksF_len]; exact hj)]
 · obtain ⟨i, hM, hi⟩ := cutEnv_some h1
   exact hr.base hi
 · have h1 := hr.le.nm i b h
   have h2 := (hσ i i).1 (hb i (.inl (by rw [h]; exact nofun)))
   rw [cutEnv_at, h2]; exact h1
 · have h2 := (hσ j j).1 (hb j (.inr hk))
   refine ⟨by rw [cutEnv_at, h2]; exact (hr.kb hk).1, (List.getElem?_eq_some_iff.1 h2).1, fun T l hq => ?_⟩
   obtain ⟨B0, h3, h4⟩ := blk h2 hq
   rcases h4 with rfl | ⟨B1, h5, rfl⟩
   · exact leB_nomem h3 (fun _ _ e => by cases e) _ _ rfl
   · refine leB_nomem h3 (fun T l e => ?_) _ _ rfl
     obtain ⟨l', e'⟩ := renB_mem e
     exact (hr.kb hk).2.2 T l' (by rw [h5, e'])
theorem im_cell {I : Im} {g : Nat} {c : Array Value} (h : I g = some c) (k : Nat) : I.cell ⟨g, k, none⟩ = c[k]? := by simp [Im.cell, h]
def bytesL : List AV → Option (List UInt8 × Prop)
 | [] => some ([], True)
 | x :: l => match intA x, bytesL l with
   | some (.u8, z), some r => some (UInt8.ofNat z.toNat :: r.1, (0 ≤ z ∧ z < 256) ∧ r.2)
   | _, _ => none
theorem bytesL_sound {ρ : Env} : ∀ {l : List AV} {r : List UInt8 × Prop} {vs : List Value}, bytesL l = some r → r.2 → VRs ρ l vs → vs = r.1.map byt
 | [], r, vs, h, _, hv => by simp [bytesL] at h; subst h; cases hv; rfl
 | x :: l, r, vs, h, hC, hv => by
   unfold bytesL at h
   split at h
   · rename_i z q hz hq
     cases h
     obtain ⟨h1, h2⟩ := hC
     cases hv with
     | cons e t =>
       rw [intA_sound hz e, bytesL_sound hq h2 t]
       have : byt (UInt8.ofNat z.toNat) = .int .u8 z := by
         unfold byt
         congr 1
         rw [UInt8.toNat_ofNat']; omega
       simp [this]
   · cases h
def byteF : List AV → UInt8
 | [x] => match intA x with | some (_, z) => UInt8.ofNat z.toNat | none => 0
 | _ => 0
def bytesF (n : Nat) (f : Nat → List AV) : List UInt8 := (List.range n).map fun r => byteF (f r)
def ByteRows (n : Nat) (f : Nat → List AV) : Prop := ∀ r, r < n → ∃ x z, f r = [x] ∧ intA x = some (.u8, z) ∧ 0 ≤ z ∧ z < 256
def bysU (l : List UInt8) (r : Nat) : List AV := [.sy (.int .u8 ((l.getD r 0).toNat : Int))]
theorem bytesF_bysU (l : List UInt8) : bytesF l.length (bysU l) = l := by
 unfold bytesF
 apply List.ext_getElem (by simp)
 intro j h1 h2
 simp only [List.getElem_map, List.getElem_range]
 show UInt8.ofNat (Int.toNat ((l.getD j 0).toNat : Int)) = _
 rw [Int.toNat_natCast, List.getD_eq_getElem?_getD, List.getElem?_eq_getElem h2]
 simp
theorem byteRows_bysU (l : List UInt8) (n : Nat) : ByteRows n (bysU l) := fun r _ => ⟨_, _, rfl, rfl, by omega, by have := (l.getD r 0).toNat_lt; omega⟩
def frz1 (by8 : Bool) (B : AB) (x : AV) : AV × Prop :=
 match B with
 | .rw _ w n f => (match x with
   | .ow _ m => cond by8 (cond (Nat.beq w 1) (.by8 (bytesF m f), m ≤ n ∧ ByteRows m f) (.any, True)) (.im w m f, m ≤ n)
   | .ws _ o m w' => cond (Nat.beq w' w) (.im w m (fun r => f (o + r)), o + m ≤ n) (.any, True)
   | _ => (.any, True))
 | .bb _ bs => (match x with
   | .ow _ m => (.by8 bs, m = bs.length)
   | .ws _ o m w' => cond (Nat.beq w' 1) (.by8 ((bs.drop o).take m), o + m ≤ bs.length) (.any, True)
   | _ => (.any, True))
 | .mem _ none l => (match x with
   | .sl _ o m c => cond (Nat.beq o 0 && Nat.ble m c && Nat.ble c 1000000 && Nat.beq (c * (l.length / c)) l.length)
       (cond by8 (match bytesL l with
         | some r => cond (Nat.beq (l.length / c) 1) (.by8 (r.1.take m), r.2) (.any, True)
         | none => (.any, True))
         (.im (l.length / c) m (fun r => (l.drop (r * (l.length / c))).take (l.length / c)), True)) (.any, True)
   | .ptr _ o => (.ip (l.drop o), True)
   | _ => (.any, True))
 | .mem _ (some w) l => (match x with
   | .su _ o m _ _ => cond (Nat.beq o 0 && Nat.ble (m * w) l.length)
       (cond by8 (match bytesL l with
         | some r => cond (Nat.beq w 1) (.by8 (r.1.take m), r.2) (.any, True)
         | none => (.any, True))
         (.im w m (fun r => (l.drop (r * w)).take w), True)) (.any, True)
   | .ptr _ o => (.ip (l.drop o), True)
   | _ => (.any, True))
 | .obj (.arr bs) => (match x with
   | .sl _ o m c => cond (Nat.ble m c && Nat.ble c 1000000) (.by8 ((bs.drop o).take m), o + m ≤ bs.length) (.any, True)
   | _ => (.any, True))
 | _ => (.any, True)
mutual
def frzA (i : Nat) (y : Bool) (B : AB) : AV → AV
 | .v x => .v x
 | .ptr j o => cond (Nat.beq j i) (frz1 y B (.ptr j o)).1 (.ptr j o)
 | .sl j o n c => cond (Nat.beq j i) (frz1 y B (.sl j o n c)).1 (.sl j o n c)
 | .su j o n k q => cond (Nat.beq j i) (frz1 y B (.su j o n k q)).1 (.su j o n k q)
 | .se => .se
 | .s0 => .s0
 | .mp j => cond (Nat.beq j i) .any (.mp j)
 | .agg l => .agg (frzL i y B l)
 | .tup l => .tup (frzL i y B l)
 | .fn f l m => .fn f (frzL i y B l) (frzL i y B m)
 | .yl j => cond (Nat.beq j i) .any (.yl j)
 | .ifc t x => .ifc t (frzA i y B x)
 | .sy x => .sy x
 | .any => .any
 | .by8 bs => .by8 bs
 | .im w n f => .im w n f
 | .ip l => .ip l
 | .ow j n => cond (Nat.beq j i) (frz1 y B (.ow j n)).1 (.ow j n)
 | .ws j o n w => cond (Nat.beq j i) (frz1 y B (.ws j o n w)).1 (.ws j o n w)
 | .pe j r w q => cond (Nat.beq j i) .any (.pe j r w q)
 | .pw j r w q n k => cond (Nat.beq j i) .any (.pw j r w q n k)
 | .ba bs => .ba bs
 | .ib bs => .ib bs
 | .ix a c w n f => .ix a c w n f
def frzL (i : Nat) (y : Bool) (B : AB) : List AV → List AV
 | [] => []
 | x :: l => frzA i y B x :: frzL i y B l
end
mutual
def askZ (i : Nat) (y : Bool) (B : AB) : AV → List Prop
 | .ptr j o => cond (Nat.beq j i) [(frz1 y B (.ptr j o)).2] []
 | .sl j o n c => cond (Nat.beq j i) [(frz1 y B (.sl j o n c)).2] []
 | .su j o n k q => cond (Nat.beq j i) [(frz1 y B (.su j o n k q)).2] []
 | .agg l => askZs i y B l
 | .tup l => askZs i y B l
 | .fn _ l m => askZs i y B l ++ askZs i y B m
 | .ifc _ x => askZ i y B x
 | .ow j n => cond (Nat.beq j i) [(frz1 y B (.ow j n)).2] []
 | .ws j o n w => cond (Nat.beq j i) [(frz1 y B (.ws j o n w)).2] []
 | _ => []
def askZs (i : Nat) (y : Bool) (B : AB) : List AV → List Prop
 | [] => []
 | x :: l => askZ i y B x ++ askZs i y B l
end
theorem intA_sound0 {I : Im} {x : AV} {k : IntKind} {z : Int} {u : Value} (h : intA x = some (k, z)) (hx : VR0 I x u) : u = .int k z := by
 unfold intA at h
 split at h
 · cases h; cases hx; rfl
 · cases h; cases hx; rfl
 · cases h
mutual
def noA (i : Nat) : AV → Bool
 | .ptr j _ => !(Nat.beq j i)
 | .sl j _ _ _ => !(Nat.beq j i)
 | .su j _ _ _ _ => !(Nat.beq j i)
 | .mp j => !(Nat.beq j i)
 | .agg l => noL i l
 | .tup l => noL i l
 | .fn _ l m => noL i l && noL i m
 | .yl j => !(Nat.beq j i)
 | .ifc _ x => noA i x
 | .ow j _ => !(Nat.beq j i)
 | .ws j _ _ _ => !(Nat.beq j i)
 | .pe j _ _ _ => !(Nat.beq j i)
 | .pw j _ _ _ _ _ => !(Nat.beq j i)
 | _ => true
def noL (i : Nat) : List AV → Bool
 | [] => true
 | x :: l => noA i x && noL i l
end
def noE (i : Nat) : List (Value × AV × Nat) → Bool
 | [] => true
 | e :: l => noA i e.2.1 && noE i l
def noT (i : Nat) (T : Tr AV) : Nat → Bool
 | 0 => true
 | k + 1 => noA i (At T k) && noT i T k
def frzE (ρ : Env) (i : Nat) (I : Im) : Env := ⟨fun j => if j = i then none else ρ j, I⟩
section
variable {i : Nat} {y : Bool} {B : AB} {ρ : Env} {I : Im}
mutual
theorem noA_frz : ∀ {x : AV}, noA i x = true → frzA i y B x = x ∧ askZ i y B x = []
 | .v _, _ => ⟨rfl, rfl⟩
 | .sy _, _ => ⟨rfl, rfl⟩
 | .se, _ => ⟨rfl, rfl⟩
 | .s0, _ => ⟨rfl, rfl⟩
 | .any, _ => ⟨rfl, rfl⟩
 | .by8 _, _ => ⟨rfl, rfl⟩
 | .im .., _ => ⟨rfl, rfl⟩
 | .ip _, _ => ⟨rfl, rfl⟩
 | .ba _, _ => ⟨rfl, rfl⟩
 | .ib _, _ => ⟨rfl, rfl⟩
 | .ix .., _ => ⟨rfl, rfl⟩
 | .ptr .., k => by simp only [noA, Bool.not_eq_true'] at k; simp only [frzA, askZ, k, cond_false, and_self]
 | .sl .., k => by simp only [noA, Bool.not_eq_true'] at k; simp only [frzA, askZ, k, cond_false, and_self]
 | .su .., k => by simp only [noA, Bool.not_eq_true'] at k; simp only [frzA, askZ, k, cond_false, and_self]
 | .mp .., k => by simp only [noA, Bool.not_eq_true'] at k; simp only [frzA, askZ, k, cond_false, and_self]
 | .yl .., k => by simp only [noA, Bool.not_eq_true'] at k; simp only [frzA, askZ, k, cond_false, and_self]
 | .ow .., k => by simp only [noA, Bool.not_eq_true'] at k; simp only [frzA, askZ, k, cond_false, and_self]
 | .ws .., k => by simp only [noA, Bool.not_eq_true'] at k; simp only [frzA, askZ, k, cond_false, and_self]
 | .pe .., k => by simp only [noA, Bool.not_eq_true'] at k; simp only [frzA, askZ, k, cond_false, and_self]
 | .pw .., k => by simp only [noA, Bool.not_eq_true'] at k; simp only [frzA, askZ, k, cond_false, and_self]
 | .agg l, k => by simp only [noA] at k; simp only [frzA, askZ]; have h := noL_frz k; exact ⟨by rw [h.1], h.2⟩
 | .tup l, k => by simp only [noA] at k; simp only [frzA, askZ]; have h := noL_frz k; exact ⟨by rw [h.1], h.2⟩
 | .fn f l m, k => by
   simp only [noA, Bool.and_eq_true] at k
   simp only [frzA, askZ]
   have h1 := noL_frz k.1
   have h2 := noL_frz k.2
   exact ⟨by rw [h1.1, h2.1], by rw [h1.2, h2.2]; rfl⟩
 | .ifc t x, k => by simp only [noA] at k; simp only [frzA, askZ]; have h := noA_frz k; exact ⟨by rw [h.1], h.2⟩
theorem noL_frz : ∀ {l : List AV}, noL i l = true → frzL i y B l = l ∧ askZs i y B l = []
 | [], _ => ⟨rfl, rfl⟩
 | x :: l, k => by
   simp only [noL, Bool.and_eq_true] at k
   have h1 := noA_frz k.1
   have h2 := noL_frz k.2
   simp only [frzL, askZs]
   exact ⟨by rw [h1.1, h2.1], by rw [h1.2, h2.2]; rfl⟩
end
theorem frzE_ne {ρ : Env} {i j : Nat} {I : Im} (h : Nat.beq j i = false) {p : Nat × Nat} (e : ρ j = some p) : (frzE ρ i I) j = some p := by
 have : ¬ j = i := fun e => by subst e; simp at h
 show (if j = i then none else ρ j) = _
 rw [if_neg this]; exact e
def LeafOk (i : Nat) (y : Bool) (B : AB) (ρ : Env) (I : Im) : Prop := ∀ (x : AV) (u : Value), VR ρ x u → noA i x = false → bareL [x] = false → (∀ l, x ≠ .agg l ∧ x ≠ .tup l) → (∀ f l m, x ≠ .fn f l m) → (∀ t z, x ≠ .ifc t z) → (frz1 y B x).2 → VR (frzE ρ i I) (frz1 y B x).1 u
mutual
theorem VR.frz (hI : ρ.im.le I) (hl : LeafOk i y B ρ I) : ∀ {x : AV} {u : Value}, VR ρ x u → All (askZ i y B x) → VR (frzE ρ i I) (frzA i y B x) u
 | _, _, .v x, _ => .v x
 | _, _, .sy x, _ => .sy x
 | _, _, .se a c, _ => .se a c
 | _, _, .s0 a c, _ => .s0 a c
 | _, _, .any u, _ => .any u
 | _, _, .by8 k, _ => .by8 (k.mono hI)
 | _, _, .im k e, _ => .im (k.mono hI) (fun r hr => VRs0.mono hI (e r hr))
 | _, _, .ip k e, _ => .ip (fun j u hu => Im.cell_mono hI (k j u hu)) (VRs0.mono hI e)
 | _, _, .ba bs, _ => .ba bs
 | _, _, .ib k, _ => .ib (fun j u hu => Im.cell_mono hI (k j u hu))
 | _, _, .ix k e, _ => .ix (k.mono hI) (fun r hr => VRs0.mono hI (e r hr))
 | _, _, .ptr (i := j) o e, h => by
   simp only [frzA, askZ] at *
   cases hb : Nat.beq j i with
   | false => exact .ptr o (frzE_ne hb e)
   | true => rw [hb] at h; exact hl _ _ (.ptr o e) (by simp [noA, hb]) rfl (fun _ => ⟨nofun, nofun⟩) (fun _ _ _ => nofun) (fun _ _ => nofun) (All.head h)
 | _, _, .sl (i := j) o n c e, h => by
   simp only [frzA, askZ] at *
   cases hb : Nat.beq j i with
   | false => exact .sl o n c (frzE_ne hb e)
   | true => rw [hb] at h; exact hl _ _ (.sl o n c e) (by simp [noA, hb]) rfl (fun _ => ⟨nofun, nofun⟩) (fun _ _ _ => nofun) (fun _ _ => nofun) (All.head h)
 | _, _, .su (i := j) o n k q e hn, h => by
   simp only [frzA, askZ] at *
   cases hb : Nat.beq j i with
   | false => exact .su o n k q (frzE_ne hb e) hn
   | true => rw [hb] at h; exact hl _ _ (.su o n k q e hn) (by simp [noA, hb]) rfl (fun _ => ⟨nofun, nofun⟩) (fun _ _ _ => nofun) (fun _ _ => nofun) (All.head h)
 | _, _, .mp (i := j) e, h => by
   simp only [frzA, askZ] at *
   cases hb : Nat.beq j i with
   | false => exact .mp (frzE_ne hb e)
   | true => exact .any _
 | _, _, .agg e, h => by simp only [frzA, askZ] at *; exact .agg (VRs.frz hI hl e h)
 | _, _, .tup e, h => by simp only [frzA, askZ] at *; exact .tup (VRs.frz hI hl e h)
 | _, _, .fn f e e', h => by simp only [frzA, askZ] at *; exact .fn f (VRs.frz hI hl e (All.left h)) (VRs.frz hI hl e' (All.right h))
 | _, _, .yl (i := j) e, h => by
   simp only [frzA, askZ] at *
   cases hb : Nat.beq j i with
   | false => exact .yl (frzE_ne hb e)
   | true => exact .any _
 | _, _, .ifc t e, h => by simp only [frzA, askZ] at *; exact .ifc t (VR.frz hI hl e h)
 | _, _, .ow (i := j) n e hn hc, h => by
   simp only [frzA, askZ] at *
   cases hb : Nat.beq j i with
   | false => exact .ow n (frzE_ne hb e) hn hc
   | true => rw [hb] at h; exact hl _ _ (.ow n e hn hc) (by simp [noA, hb]) rfl (fun _ => ⟨nofun, nofun⟩) (fun _ _ _ => nofun) (fun _ _ => nofun) (All.head h)
 | _, _, .ow0 j, h => by
   simp only [frzA, askZ] at *
   cases hb : Nat.beq j i with
   | false => exact .ow0 j
   | true => rw [hb] at h; exact hl _ _ (.ow0 j) (by simp [noA, hb]) rfl (fun _ => ⟨nofun, nofun⟩) (fun _ _ _ => nofun) (fun _ _ => nofun) (All.head h)
 | _, _, .ws (i := j) o n w c e hn hc, h => by
   simp only [frzA, askZ] at *
   cases hb : Nat.beq j i with
   | false => exact .ws o n w c (frzE_ne hb e) hn hc
   | true => rw [hb] at h; exact hl _ _ (.ws o n w c e hn hc) (by simp [noA, hb]) rfl (fun _ => ⟨nofun, nofun⟩) (fun _ _ _ => nofun) (fun _ _ => nofun) (All.head h)
 | _, _, .ws0 j o w a c hc ha, h => by
   simp only [frzA, askZ] at *
   cases hb : Nat.beq j i with
   | false => exact .ws0 j o w a c hc ha
   | true => rw [hb] at h; exact hl _ _ (.ws0 j o w a c hc ha) (by simp [noA, hb]) rfl (fun _ => ⟨nofun, nofun⟩) (fun _ _ _ => nofun) (fun _ _ => nofun) (All.head h)
 | _, _, .pe (i := j) r w q e, h => by
   simp only [frzA, askZ] at *
   cases hb : Nat.beq j i with
   | false => exact .pe r w q (frzE_ne hb e)
   | true => exact .any _
 | _, _, .pw (i := j) r w q n k e hn, h => by
   simp only [frzA, askZ] at *
   cases hb : Nat.beq j i with
   | false => exact .pw r w q n k (frzE_ne hb e) hn
   | true => exact .any _
theorem VRs.frz (hI : ρ.im.le I) (hl : LeafOk i y B ρ I) : ∀ {l : List AV} {us : List Value}, VRs ρ l us → All (askZs i y B l) → VRs (frzE ρ i I) (frzL i y B l) us
 | _, _, .nil, _ => by simp only [frzL]; exact .nil
 | _, _, .cons e t, h => by simp only [frzL, askZs] at *; exact .cons (VR.frz hI hl e (All.left h)) (VRs.frz hI hl t (All.right h))
end
theorem VR.frzN (hI : ρ.im.le I) (hl : LeafOk i y B ρ I) {x : AV} {u : Value} (h : VR ρ x u) (hn : noA i x = true) : VR (frzE ρ i I) x u := by
 have := noA_frz (y := y) (B := B) hn
 have k := VR.frz hI hl h (by rw [this.2]; exact All.nil)
 rwa [this.1] at k
end
def frzK : AB → Bool
 | .rw .. => true
 | .bb .. => true
 | .mem _ _ l => bareL l
 | .obj (.arr _) => true
 | _ => false
def frzIm (ρ : Env) (i : Nat) (w : World) : Im := match ρ i with
 | some p => (match w.heap[p.1]? with
   | some (.cells c _ _) => fun k => if k = p.1 then some c else ρ.im k
   | _ => ρ.im)
 | none => ρ.im
theorem VRs0.len {I : Im} {l : List AV} {vs : List Value} (h : VRs0 I l vs) : l.length = vs.length := by
 induction l generalizing vs with
 | nil => cases h; rfl
 | cons y l ih => cases h with | cons e t => simp [ih t]
theorem frzIm_cases (ρ : Env) (i : Nat) (w : World) : frzIm ρ i w = ρ.im ∨ ∃ b c L T fz, ρ i = some (b, c) ∧ w.heap[b]? = some (.cells L T fz) ∧ frzIm ρ i w = fun k => if k = b then some L else ρ.im k := by
 unfold frzIm
 cases h : ρ i with
 | none => exact .inl rfl
 | some p =>
   obtain ⟨b, c⟩ := p
   cases hb : w.heap[b]? with
   | none => left; simp only [hb]
   | some o =>
     cases o with
     | cells L T fz => exact .inr ⟨b, c, L, T, fz, rfl, hb, by simp only [hb]⟩
     | _ => left; simp only [hb]
section
variable {w0 : Bs} {w : World} {ρ : Env} {H : Tr AB} {n i : Nat} {B : AB} {y : Bool}
theorem frzIm_le (hr : HR w0 ρ H n w) (hB : H.get i = some B) (hl : B.live = true) : ρ.im.le (frzIm ρ i w) := by
 unfold frzIm
 cases h : ρ i with
 | none => exact fun _ _ h => h
 | some p =>
   obtain ⟨b, c⟩ := p
   simp only
   split
   · intro k d hd
     have hne : k ≠ b := fun e => by
       obtain ⟨F, hF⟩ := hr.foot
       have := (hF.there h hB hl (hF.one h hB hl).1).2.2
       rw [e, this] at hd; cases hd
     simp only [if_neg hne]; exact hd
   · exact fun _ _ h => h
theorem leaf_ok (hr : HR w0 ρ H n w) (hB : H.get i = some B) (hk : frzK B = true) : LeafOk i y B ρ (frzIm ρ i w) := by
 have hlive : B.live = true := by cases B <;> first | rfl | cases hk
 have hle := frzIm_le hr hB hlive
 have cellb : ∀ {b c : Nat} {T : TypeId} {fz : Nat × Nat} {L : List Value}, ρ i = some (b, c) → w.heap[b]? = some (.cells L.toArray T fz) → ∀ (k : Nat), (frzE ρ i (frzIm ρ i w)).im.cell ⟨b, k, none⟩ = L[k]? := by
   intro b c T fz L h1 h2 k
   show (frzIm ρ i w).cell _ = _
   unfold frzIm
   rw [h1]
   simp only [h2]
   rw [im_cell (c := L.toArray) (by simp)]
   simp
 have eqi : ∀ {j : Nat}, (!(Nat.beq j i)) = false → j = i := fun h => by simpa using h
 intro x u hx hno _ _ _ _ hC
 cases B with
 | mem T z l =>
   cases z with
   | some ww =>
     have hbl : bareL l = true := hk
     cases hx with
     | ptr o h =>
       obtain rfl := eqi (by simpa only [noA] using hno)
       obtain ⟨ob, ho, vs, sp, fz, hv, rfl, _, hsp⟩ := hr.blk h hB
       have hv0 := (bareL_VRs hbl hv).mono hle
       refine .ip (vs := vs.drop o) (fun j u hu => ?_) (hv0.drop' o)
       rw [Addr.add_lit, cellb h ho]
       rw [List.getElem?_drop] at hu
       rwa [List.getElem?_append_left (List.getElem?_eq_some_iff.1 hu).1]
     | su o m k q h hn =>
       obtain rfl := eqi (by simpa only [noA] using hno)
       obtain ⟨ob, ho, vs, sp, fz, hv, rfl, _, hsp1, hsp2⟩ := hr.blk h hB
       have hv0 := (bareL_VRs hbl hv).mono hle
       have hvl := hv0.len
       simp only [frz1] at hC ⊢
       cases hb : (Nat.beq o 0 && Nat.ble (m * ww) l.length) with
       | false => exact .any _
       | true =>
         rw [hb] at hC
         simp only [Bool.and_eq_true, Nat.beq_eq, Nat.ble_eq] at hb
         obtain ⟨rfl, h1⟩ := hb
         cases y with
         | true =>
           simp only [cond_true] at hC ⊢
           split
           · rename_i r hbr
             rw [hbr] at hC
             simp only at hC
             cases hw1 : Nat.beq ww 1 with
             | false => exact .any _
             | true =>
               rw [hw1] at hC
               have hw1' : ww = 1 := by simpa using hw1
               subst hw1'
               obtain rfl := bytesL_sound hbr hC hv
               simp at hvl h1
               refine .by8 ⟨by simp; omega, by omega, by omega, (fun e => by cases e), fun ad had j u hu => ?_⟩
               cases had
               rw [Addr.add_lit, cellb h ho, Nat.zero_add]
               rw [List.map_take, List.getElem?_take] at hu
               split at hu
               · rwa [List.getElem?_append_left (List.getElem?_eq_some_iff.1 hu).1]
               · cases hu
           · exact .any _
         | false =>
           simp only [cond_false, cond_true]
           refine .im (vs := vs.take (m * ww)) ⟨by rw [List.length_take]; omega, by omega, by omega, (fun e => by cases e), fun ad had j u hu => ?_⟩ (fun r hr' => ?_)
           · cases had
             rw [Addr.add_lit, cellb h ho, Nat.zero_add]
             rw [List.getElem?_take] at hu
             split at hu
             · rwa [List.getElem?_append_left (List.getElem?_eq_some_iff.1 hu).1]
             · cases hu
           · have hle2 : (r + 1) * ww ≤ m * ww := Nat.mul_le_mul_right _ hr'
             rw [Nat.succ_mul] at hle2
             rw [List.drop_take, List.take_take, Nat.min_eq_left (by omega)]
             exact (hv0.drop' _).take' _
     | _ => exact .any _
   | none =>
   have hbl : bareL l = true := hk
   cases hx with
   | ptr o h =>
     obtain rfl := eqi (by simpa only [noA] using hno)
     obtain ⟨ob, ho, vs, sp, fz, hv, rfl, _, hsp⟩ := hr.blk h hB
     have hsp' : sp = [] := hsp.1
     subst hsp'
     rw [List.append_nil] at ho
     have hv0 := (bareL_VRs hbl hv).mono hle
     refine .ip (vs := vs.drop o) (fun j u hu => ?_) (hv0.drop' o)
     rw [Addr.add_lit, cellb h ho]
     rwa [List.getElem?_drop] at hu
   | sl o m c h =>
     obtain rfl := eqi (by simpa only [noA] using hno)
     obtain ⟨ob, ho, vs, sp, fz, hv, rfl, _, hsp⟩ := hr.blk h hB
     have hsp' : sp = [] := hsp.1
     subst hsp'
     rw [List.append_nil] at ho
     have hv0 := (bareL_VRs hbl hv).mono hle
     simp only [frz1] at hC ⊢
     cases hb : (Nat.beq o 0 && Nat.ble m c && Nat.ble c 1000000 && Nat.beq (c * (l.length / c)) l.length) with
     | false => exact .any _
     | true =>
       rw [hb] at hC
       simp only [Bool.and_eq_true, Nat.beq_eq, Nat.ble_eq] at hb
       obtain ⟨⟨⟨rfl, h1⟩, h2⟩, h3⟩ := hb
       have hml : c ≤ maxLen := by simp only [maxLen]; omega
       have hvl := hv0.len
       cases y with
       | true =>
         simp only [cond_true] at hC ⊢
         split
         · rename_i r hbr
           rw [hbr] at hC
           simp only at hC
           cases hw1 : Nat.beq (l.length / c) 1 with
           | false => exact .any _
           | true =>
             rw [hw1] at hC
             have hw1' : l.length / c = 1 := by simpa using hw1
             obtain rfl := bytesL_sound hbr hC hv
             rw [hw1', Nat.mul_one] at h3
             simp at hvl
             refine .by8 ⟨by simp; omega, h1, hml, (fun e => by cases e), fun ad had j u hu => ?_⟩
             cases had
             rw [Addr.add_lit, cellb h ho, Nat.zero_add]
             rw [List.map_take, List.getElem?_take] at hu
             split at hu
             · exact hu
             · cases hu
         · exact .any _
       | false =>
         simp only [cond_false, cond_true]
         have hmc : m * (l.length / c) ≤ c * (l.length / c) := Nat.mul_le_mul_right _ h1
         refine .im (vs := vs.take (m * (l.length / c))) ⟨by rw [List.length_take]; omega, h1, hml, (fun e => by cases e), fun ad had j u hu => ?_⟩ (fun r hr' => ?_)
         · cases had
           rw [Addr.add_lit, cellb h ho, Nat.zero_add]
           rw [List.getElem?_take] at hu
           split at hu
           · exact hu
           · cases hu
         · have hle2 : (r + 1) * (l.length / c) ≤ m * (l.length / c) := Nat.mul_le_mul_right _ hr'
           rw [Nat.succ_mul] at hle2
           rw [List.drop_take, List.take_take, Nat.min_eq_left (by omega)]
           exact (hv0.drop' _).take' _
   | _ => exact .any _
 | rw T ww m f =>
   cases hx with
   | ow k h hn hc =>
     obtain rfl := eqi (by simpa only [noA] using hno)
     obtain ⟨ob, ho, vs, sp, rfl, h2, h3, h4, h5, h6⟩ := hr.blk h hB
     cases y with
     | true =>
       simp only [frz1, cond_true] at hC ⊢
       cases hb : Nat.beq ww 1 with
       | false => exact .any _
       | true =>
         rw [hb] at hC
         have e : ww = 1 := by simpa using hb
         subst e
         obtain ⟨hkm, hrows⟩ : k ≤ m ∧ ByteRows k f := hC
         refine .by8 ⟨by simp [bytesF], hn, hc, (fun e => by cases e), fun ad had j u hu => ?_⟩
         cases had
         rw [Addr.add_lit, cellb h ho, Nat.zero_add]
         rw [List.getElem?_map] at hu
         unfold bytesF at hu
         rw [List.getElem?_map] at hu
         have hj : j < k := by
           refine Classical.byContradiction fun hge => ?_
           rw [List.getElem?_eq_none (by simp; omega)] at hu; cases hu
         rw [List.getElem?_range hj] at hu
         simp only [Option.map_some, Option.some.injEq] at hu
         obtain ⟨x, z, q1, q2, q3, q4⟩ := hrows j hj
         have hrow := h6 j (by omega)
         rw [q1] at hrow hu
         have hbyt : byt (byteF [x]) = .int .u8 z := by
           unfold byteF
           simp only [q2]
           unfold byt
           congr 1
           rw [UInt8.toNat_ofNat']; omega
         rw [hbyt] at hu
         subst hu
         rw [Nat.mul_one] at h2 hrow
         have hjl : j < vs.length := by omega
         rw [List.getElem?_append_left hjl]
         rw [List.drop_eq_getElem_cons hjl, List.take_succ_cons, List.take_zero] at hrow
         rw [List.getElem?_eq_getElem hjl]
         cases hrow with
         | cons e t =>
           have := intA_sound0 q2 e
           rw [this]
     | false =>
     have hC' : k ≤ m := hC
     have hmk : k * ww ≤ m * ww := Nat.mul_le_mul_right _ hC'
     refine .im (vs := vs.take (k * ww)) ⟨by rw [List.length_take]; omega, hn, hc, (fun e => by cases e), fun ad had j u hu => ?_⟩ (fun r hr' => ?_)
     · cases had
       rw [Addr.add_lit, cellb h ho, Nat.zero_add]
       rw [List.getElem?_take] at hu
       split at hu
       · rwa [List.getElem?_append_left (List.getElem?_eq_some_iff.1 hu).1]
       · cases hu
     · have hle2 : (r + 1) * ww ≤ k * ww := Nat.mul_le_mul_right _ hr'
       rw [Nat.succ_mul] at hle2
       rw [List.drop_take, List.take_take, Nat.min_eq_left (by omega)]
       exact (h6 r (by omega)).mono hle
   | ow0 =>
     cases y with
     | true =>
       simp only [frz1, cond_true]
       cases hb : Nat.beq ww 1 with
       | false => exact .any _
       | true => exact .by8 (winE_nil _ _)
     | false => exact .im (vs := []) ⟨by simp, Nat.le_refl _, Nat.zero_le _, fun _ => rfl, fun _ e => by cases e⟩ (fun r hr' => absurd hr' (Nat.not_lt_zero _))
   | ws o k w' c h hn hc =>
     obtain rfl := eqi (by simpa only [noA] using hno)
     simp only [frz1] at hC ⊢
     cases hb : Nat.beq w' ww with
     | false => exact .any _
     | true =>
       rw [hb] at hC
       have e : w' = ww := by simpa using hb
       subst e
       have hC' : o + k ≤ m := hC
       obtain ⟨ob, ho, vs, sp, rfl, h2, h3, h4, h5, h6⟩ := hr.blk h hB
       have hmk : (o + k) * w' ≤ m * w' := Nat.mul_le_mul_right _ hC'
       rw [Nat.add_mul] at hmk
       refine .im (vs := (vs.drop (o * w')).take (k * w')) ⟨by rw [List.length_take, List.length_drop]; omega, hn, hc, (fun e => by cases e), fun ad had j u hu => ?_⟩ (fun r hr' => ?_)
       · cases had
         rw [Addr.add_lit, cellb h ho]
         rw [List.getElem?_take] at hu
         split at hu
         · rw [List.getElem?_drop] at hu
           rwa [List.getElem?_append_left (List.getElem?_eq_some_iff.1 hu).1]
         · cases hu
       · have hle2 : (r + 1) * w' ≤ k * w' := Nat.mul_le_mul_right _ hr'
         rw [Nat.succ_mul] at hle2
         rw [List.drop_take, List.take_take, Nat.min_eq_left (by omega), List.drop_drop]
         have := (h6 (o + r) (by omega)).mono hle
         rwa [Nat.add_mul] at this
   | ws0 j o w' a c hc ha =>
     simp only [frz1]
     cases hb : Nat.beq w' ww with
     | false => exact .any _
     | true =>
       exact .im (vs := []) ⟨by simp, Nat.zero_le _, hc, ha, fun _ _ j u hu => by cases hu⟩ (fun r hr' => absurd hr' (Nat.not_lt_zero _))
   | _ => exact .any _
 | bb T bs =>
   cases hx with
   | ow k h hn hc =>
     obtain rfl := eqi (by simpa only [noA] using hno)
     have hC' : k = bs.length := hC
     subst hC'
     obtain ⟨ob, ho, sp, rfl, h1, h2⟩ := hr.blk h hB
     refine .by8 ⟨by simp, hn, hc, (fun e => by cases e), fun ad had j u hu => ?_⟩
     cases had
     rw [Addr.add_lit, cellb h ho, Nat.zero_add]
     rwa [List.getElem?_append_left (List.getElem?_eq_some_iff.1 hu).1]
   | ow0 =>
     have hC' : 0 = bs.length := hC
     obtain rfl := List.eq_nil_of_length_eq_zero hC'.symm
     exact .by8 (winE_nil _ _)
   | ws o k w' c h hn hc =>
     obtain rfl := eqi (by simpa only [noA] using hno)
     simp only [frz1] at hC ⊢
     cases hb : Nat.beq w' 1 with
     | false => exact .any _
     | true =>
       rw [hb] at hC
       have e : w' = 1 := by simpa using hb
       subst e
       have hC' : o + k ≤ bs.length := hC
       obtain ⟨ob, ho, sp, rfl, h1, h2⟩ := hr.blk h hB
       refine .by8 ⟨by simp; omega, hn, hc, (fun e => by cases e), fun ad had j u hu => ?_⟩
       cases had
       rw [Addr.add_lit, cellb h ho, Nat.mul_one]
       rw [List.map_take, List.map_drop, List.getElem?_take] at hu
       split at hu
       · rw [List.getElem?_drop] at hu
         rwa [List.getElem?_append_left (List.getElem?_eq_some_iff.1 hu).1]
       · cases hu
   | ws0 j o w' a c hc ha =>
     simp only [frz1]
     cases hb : Nat.beq w' 1 with
     | false => exact .any _
     | true =>
       simp only [cond_true, List.take_zero]
       exact .by8 ⟨by simp, Nat.zero_le _, hc, ha, fun _ _ j u hu => by cases hu⟩
   | _ => exact .any _
 | obj x =>
   cases x with
   | arr bs =>
     cases hx with
     | sl o m c h =>
       obtain rfl := eqi (by simpa only [noA] using hno)
       simp only [frz1] at hC ⊢
       cases hb : (Nat.ble m c && Nat.ble c 1000000) with
       | false => exact .any _
       | true =>
         rw [hb] at hC
         have hC' : o + m ≤ bs.length := hC
         simp only [Bool.and_eq_true, Nat.ble_eq] at hb
         obtain ⟨F, hF, ⟨_, T, fz, ho, _⟩, _⟩ := hr.obj h hB
         refine .by8 ⟨by simp; omega, hb.1, by have := hb.2; simp only [maxLen]; omega, (fun e => by cases e), fun ad had j u hu => ?_⟩
         cases had
         rw [Addr.add_lit, cellb h ho]
         rw [List.map_take, List.map_drop, List.getElem?_take] at hu
         split at hu
         · rwa [List.getElem?_drop] at hu
         · cases hu
     | _ => exact .any _
   | _ => cases hk
 | _ => cases hk
end
def nameOf : AV → Option Nat
 | .ow j _ => some j
 | .ws j _ _ _ => some j
 | .sl j _ _ _ => some j
 | .su j _ _ _ _ => some j
 | .ptr j _ => some j
 | _ => none
theorem frz1_bare (y : Bool) (B : AB) (x : AV) : bareA (frz1 y B x).1 = true := by
 unfold frz1
 split
 · rename_i w n f
   split
   · cases y
     · rfl
     · simp only [cond_true]
       generalize Nat.beq w 1 = q
       cases q <;> rfl
   · rename_i w'
     generalize Nat.beq w' w = q
     cases q <;> rfl
   · rfl
 · split
   · rfl
   · rename_i w'
     generalize Nat.beq w' 1 = q
     cases q <;> rfl
   · rfl
 · rename_i l
   split
   · rename_i o m c
     generalize (Nat.beq o 0 && Nat.ble m c && Nat.ble c 1000000 && Nat.beq (c * (l.length / c)) l.length) = q
     cases q
     · rfl
     · cases y with
       | false => rfl
       | true =>
         simp only [cond_true]
         split
         · generalize Nat.beq (l.length / c) 1 = q
           cases q <;> rfl
         · rfl
   · rfl
   · rfl
 · rename_i w l
   split
   · rename_i o m k0 q0
     generalize (Nat.beq o 0 && Nat.ble (m * w) l.length) = q
     cases q
     · rfl
     · cases y with
       | false => rfl
       | true =>
         simp only [cond_true]
         split
         · generalize Nat.beq w 1 = q
           cases q <;> rfl
         · rfl
   · rfl
   · rfl
 · split
   · rename_i o m c
     generalize (Nat.ble m c && Nat.ble c 1000000) = q
     cases q <;> rfl
   · rfl
 · rfl
def yOf : AB → Bool
 | .mem _ _ l => (bytesL l).isSome
 | _ => false
def okN (x : AV) (B : AB) : Bool := match x, B with
 | .ow .., .mem .. => false
 | .ws .., .mem .. => false
 | _, _ => true
def thawA (H : Tr AB) (x : AV) : Option (AV × List Nat × Prop) :=
 cond (bareA x) (some (x, [], True)) (match nameOf x with
   | some j => match H.get j with
     | some B => cond (frzK B && okN x B) (some ((frz1 (yOf B) B x).1, [j], (frz1 (yOf B) B x).2)) none
     | none => none
   | none => none)
def thawL (H : Tr AB) : List AV → Option (List AV × List Nat × Prop)
 | [] => some ([], [], True)
 | x :: l => match thawA H x, thawL H l with
   | some (y, js, C), some (m, ks, D) => some (y :: m, js ++ ks, C ∧ D)
   | _, _ => none
def nodupN : List Nat → Bool
 | [] => true
 | j :: l => !(l.contains j) && nodupN l
def killL (H : Tr AB) : List Nat → Tr AB
 | [] => H
 | j :: l => killL (tput H j .dead) l
theorem killL_get : ∀ {l : List Nat} {H : Tr AB} {k : Nat}, (killL H l).get k = if k ∈ l then some .dead else H.get k
 | [], H, k => by simp [killL]
 | j :: l, H, k => by
   rw [killL, killL_get, get_tput]
   by_cases h1 : k ∈ l
   · simp [h1]
   · by_cases h2 : k = j
     · simp [h2]
     · simp [h1, h2]
section
variable {w0 : Bs} {w : World} {ρ : Env} {H : Tr AB} {n : Nat}
theorem HR.thaw1 {j : Nat} {B : AB} (hr : HR w0 ρ H n w) (hB : H.get j = some B) (hk : frzK B = true) : HR w0 ⟨ρ.nm, frzIm ρ j w⟩ (tput H j .dead) n w := by
 have hlive : B.live = true := by cases B <;> first | rfl | cases hk
 have hle := frzIm_le hr hB hlive
 have hE : ρ.le ⟨ρ.nm, frzIm ρ j w⟩ := ⟨fun _ _ h => h, hle⟩
 obtain ⟨F, hF⟩ := hr.foot
 have hin : j < n := by
   rcases Nat.lt_or_ge j n with h | h
   · exact h
   · rw [(hr.top h).2] at hB; cases hB
 have get : ∀ {i : Nat} {C : AB}, (tput H j .dead).get i = some C → C.live = true → i ≠ j ∧ H.get i = some C := fun {i C} hq hl => by
   rw [get_tput] at hq
   split at hq
   · cases hq; cases hl
   · rename_i e; exact ⟨e, hq⟩
 refine ⟨fun {i b c C} h1 h2 => ?_, ⟨F, fun h1 h2 h3 => hF.one h1 (get h2 h3).2 h3, fun h1 h2 => Ob.rep_im hle (hF.obj h1 (get h2 rfl).2), fun h1 h2 h3 h4 h5 h6 => hF.apart h1 h2 (get h3 h5).2 (get h4 h6).2 h5 h6, fun {i k p C} h1 h2 h3 h4 => ?_⟩, fun {i} hi => ⟨(hr.top hi).1, ?_⟩, hr.base, hr.fr, Env.le_trans hr.le hE, fun {b c} h1 => ?_, fun {b c} h1 => ?_, fun {i} hk => ⟨(hr.kb hk).1, (hr.kb hk).2.1, fun T l => by
   rw [get_tput]
   split
   · exact nofun
   · exact (hr.kb hk).2.2 T l⟩⟩
 · rw [get_tput] at h2
   split at h2
   · cases h2
     have := (hr.base h1).2
     exact ⟨w.heap[b], by simp [this], trivial⟩
   · obtain ⟨o, ho, hb⟩ := hr.blk h1 h2
     exact ⟨o, ho, hb.mono hE⟩
 · obtain ⟨hne, g1⟩ := get h2 h3
   have hth := hF.there h1 g1 h3 h4
   refine ⟨hth.1, hth.2.1, ?_⟩
   show frzIm ρ j w k = none
   rcases frzIm_cases ρ j w with e0 | ⟨b, c, L, T, fz, hi, _, e0⟩
   · rw [e0]; exact hth.2.2
   · rw [e0]
     have : k ≠ b := fun e' => by
       subst e'
       exact hne (hF.apart h1 hi g1 hB h3 hlive h4 (hF.one hi hB hlive).1)
     simp only [if_neg this]; exact hth.2.2
 · rw [get_tput, if_neg (by omega)]; exact (hr.top hi).2
 · have h1' : frzIm ρ j w b = some c := h1
   rcases frzIm_cases ρ j w with e0 | ⟨b', c', L, T, fz, hi, hcell, e0⟩
   · rw [e0] at h1'; exact hr.im h1'
   · rw [e0] at h1'
     simp only at h1'
     split at h1'
     · rename_i e; subst e; cases h1'; exact ⟨T, fz, hcell⟩
     · exact hr.im h1'
 · have h1' : frzIm ρ j w b = some c := h1
   rcases frzIm_cases ρ j w with e0 | ⟨b', c', L, T, fz, hi, hcell, e0⟩
   · rw [e0] at h1'; exact hr.imn h1'
   · rw [e0] at h1'
     simp only at h1'
     split at h1'
     · rename_i e; subst e; exact .inr (hr.base hi).1
     · exact hr.imn h1'
theorem leaf_VR0 {j : Nat} {B : AB} {x : AV} {u : Value} (hr : HR w0 ρ H n w) (hB : H.get j = some B) (hk : frzK B = true) (hx : VR ρ x u) (hn : nameOf x = some j) (hC : (frz1 (yOf B) B x).2) : VR0 (frzIm ρ j w) (frz1 (yOf B) B x).1 u := by
 have hno : noA j x = false := by
   unfold nameOf at hn
   split at hn <;> first | (cases hn; simp [noA]) | cases hn
 have := leaf_ok (y := yOf B) hr hB hk x u hx hno (by unfold nameOf at hn; split at hn <;> first | rfl | cases hn) (fun l => ⟨fun e => by subst e; simp [nameOf] at hn, fun e => by subst e; simp [nameOf] at hn⟩) (fun f l m e => by subst e; simp [nameOf] at hn) (fun t z e => by subst e; simp [nameOf] at hn) hC
 exact bareA_VR (ρ := frzE ρ j (frzIm ρ j w)) (frz1_bare _ _ _) this
theorem name_back {ρ ρ' : Env} {x : AV} {u : Value} {j : Nat} (h : ρ'.nm = ρ.nm) (hn : nameOf x = some j) (hx : VR ρ' x u) : VR ρ x u := by
 unfold nameOf at hn
 cases hx <;> simp at hn
 · rename_i o e; exact .ptr o (by rw [← h]; exact e)
 · rename_i o m c e; exact .sl o m c (by rw [← h]; exact e)
 · rename_i o m k q e h1; exact .su o m k q (by rw [← h]; exact e) h1
 · rename_i m e h1 h2; exact .ow m (by rw [← h]; exact e) h1 h2
 · exact .ow0 _
 · rename_i o m w c e h1 h2; exact .ws o m w c (by rw [← h]; exact e) h1 h2
 · rename_i o w a c h1 h2; exact .ws0 _ o w a c h1 h2
theorem HR.thaws : ∀ {js : List Nat} {ρ : Env} {H : Tr AB}, nodupN js = true → HR w0 ρ H n w → (∀ j ∈ js, ∃ B, H.get j = some B ∧ frzK B = true) →
   ∃ ρ', HR w0 ρ' (killL H js) n w ∧ ρ'.nm = ρ.nm ∧ ρ.im.le ρ'.im ∧ ∀ j ∈ js, ∀ B x u, H.get j = some B → VR ρ' x u → nameOf x = some j → (frz1 (yOf B) B x).2 → VR0 ρ'.im (frz1 (yOf B) B x).1 u
 | [], ρ, H, _, hr, _ => ⟨ρ, hr, rfl, fun _ _ h => h, fun j hj => by cases hj⟩
 | j :: js, ρ, H, hd, hr, hB => by
   simp only [nodupN, Bool.and_eq_true, Bool.not_eq_true', List.contains_eq_mem, decide_eq_false_iff_not] at hd
   obtain ⟨B, h1, h2⟩ := hB j (by simp)
   have hr1 := hr.thaw1 h1 h2
   have hlive : B.live = true := by cases B <;> first | rfl | cases h2
   have hle := frzIm_le hr h1 hlive
   have hget : ∀ k ∈ js, (tput H j .dead).get k = H.get k := fun k hk => by
     rw [get_tput, if_neg (fun e => hd.1 (by rw [← e]; exact hk))]
   obtain ⟨ρ', g1, g2, g3, g4⟩ := HR.thaws hd.2 hr1 (fun k hk => by rw [hget k hk]; exact hB k (by simp [hk]))
   refine ⟨ρ', g1, g2, fun b c h => g3 _ _ (hle _ _ h), fun k hk C x u hC hx hn hc => ?_⟩
   rcases List.mem_cons.1 hk with rfl | hk
   · rw [h1] at hC; cases hC
     exact (leaf_VR0 hr h1 h2 (name_back g2 hn hx) hn hc).mono g3
   · exact g4 k hk C x u (by rw [hget k hk]; exact hC) hx hn hc
theorem thawL_sound {js : List Nat} {ρ' : Env} (hj : ∀ j ∈ js, ∀ B x u, H.get j = some B → VR ρ' x u → nameOf x = some j → (frz1 (yOf B) B x).2 → VR0 ρ'.im (frz1 (yOf B) B x).1 u) :
   ∀ {l : List AV} {vs : List Value} {r : List AV × List Nat × Prop}, thawL H l = some r → (∀ j ∈ r.2.1, j ∈ js) → r.2.2 → VRs ρ' l vs → VRs0 ρ'.im r.1 vs
 | [], _, r, h, _, _, hv => by cases h; cases hv; exact .nil
 | x :: l, _, r, h, hs, hC, hv => by
   unfold thawL at h
   split at h
   · rename_i y ks C m ls D hx hl
     cases h
     obtain ⟨c1, c2⟩ : C ∧ D := hC
     cases hv with
     | cons e t =>
       refine .cons ?_ (thawL_sound hj hl (fun j hjm => hs j (by simp [hjm])) c2 t)
       unfold thawA at hx
       cases hb : bareA x with
       | true => rw [hb] at hx; cases hx; exact bareA_VR hb e
       | false =>
         rw [hb] at hx
         simp only [cond_false] at hx
         split at hx
         · rename_i j hn
           split at hx
           · rename_i B hB
             cases hk : (frzK B && okN x B) with
             | false => rw [hk] at hx; cases hx
             | true =>
               rw [hk] at hx
               cases hx
               exact hj j (hs j (by simp)) B x _ hB e hn c1
           · cases hx
         · cases hx
   · cases h
theorem thawL_names : ∀ {l : List AV} {r : List AV × List Nat × Prop}, thawL H l = some r → ∀ j ∈ r.2.1, ∃ B, H.get j = some B ∧ frzK B = true ∧ ∃ x ∈ l, nameOf x = some j ∧ okN x B = true
 | [], r, h, j, hj => by cases h; cases hj
 | x :: l, r, h, j, hj => by
   unfold thawL at h
   split at h
   · rename_i y ks C m ls D hx hl
     cases h
     rcases List.mem_append.1 hj with hq | hq
     · unfold thawA at hx
       cases hb : bareA x with
       | true => rw [hb] at hx; cases hx; cases hq
       | false =>
         rw [hb] at hx
         simp only [cond_false] at hx
         split at hx
         · rename_i j' hn
           split at hx
           · rename_i B hB
             cases hk : (frzK B && okN x B) with
             | false => rw [hk] at hx; cases hx
             | true =>
               rw [hk] at hx
               cases hx
               simp only [Bool.and_eq_true] at hk
               rw [List.mem_singleton.1 hq]
               exact ⟨B, hB, hk.1, x, by simp, hn, hk.2⟩
           · cases hx
         · cases hx
     · obtain ⟨B, h1, h2, x', h3, h4⟩ := thawL_names hl j hq
       exact ⟨B, h1, h2, x', by simp [h3], h4⟩
   · cases h
theorem name_some {x : AV} {u : Value} {j : Nat} (hx : VR ρ x u) (hn : nameOf x = some j) {T : TypeId} {l : List AV} (hC : okN x (.mem T none l) = true) : ρ j ≠ none := by
 unfold nameOf at hn
 cases hx <;> simp at hn <;> subst hn
 · rename_i h; rw [h]; nofun
 · rename_i h; rw [h]; nofun
 · rename_i h _; rw [h]; nofun
 · cases hC
 · cases hC
 · cases hC
 · cases hC
theorem VRs.mem {ρ : Env} : ∀ {l : List AV} {vs : List Value} {x : AV}, VRs ρ l vs → x ∈ l → ∃ u, VR ρ x u
 | [], _, x, _, hx => by cases hx
 | y :: l, _, x, hv, hx => by
   cases hv with
   | cons e t =>
     rcases List.mem_cons.1 hx with rfl | hx
     · exact ⟨_, e⟩
     · exact VRs.mem t hx
theorem bare_VRs'' {ρ : Env} : ∀ {l : List AV} {us : List Value}, VRs0 ρ.im l us → VRs ρ l us
 | _, _, .nil => .nil
 | _, _, .cons e t => .cons (bare_VR e) (bare_VRs'' t)
end
theorem HR.reM {w0 : Bs} {w : World} {ρ : Env} {H : Tr AB} {n i : Nat} {T : TypeId} {l l' : List AV} {p : Nat × Nat} (hr : HR w0 ρ H n w) (hB : H.get i = some (.mem T none l)) (hi : ρ i = some p) (hA : ∀ vs, VRs ρ l vs → VRs ρ l' vs) : HR w0 ρ (tput H i (.mem T none l')) n w := by
 obtain ⟨F, hF⟩ := hr.foot
 have hin : i < n := by
   rcases Nat.lt_or_ge i n with h | h
   · exact h
   · rw [(hr.top h).2] at hB; cases hB
 have get : ∀ {j : Nat} {C : AB}, (tput H i (.mem T none l')).get j = some C → ∃ D, H.get j = some D ∧ D.live = C.live ∧ D.isObj = C.isObj ∧ (j ≠ i → C = D) ∧ ∀ x, C = .obj x → D = .obj x := fun {j C} hq => by
   rw [get_tput] at hq
   split at hq
   · rename_i e; subst e; cases hq; exact ⟨_, hB, rfl, rfl, fun h => absurd rfl h, fun x h => by cases h⟩
   · exact ⟨C, hq, rfl, rfl, fun _ => rfl, fun _ h => h⟩
 refine ⟨fun {j b c C} h1 h2 => ?_, ⟨F, fun h1 h2 h3 => ?_, fun h1 h2 => ?_, fun h1 h2 h3 h4 h5 h6 => ?_, fun h1 h2 h3 => ?_⟩, fun {j} hj => ⟨(hr.top hj).1, ?_⟩, hr.base, hr.fr, hr.le, hr.im, hr.imn, fun {j} hk => ⟨(hr.kb hk).1, (hr.kb hk).2.1, fun T' l => ?_⟩⟩
 · rw [get_tput] at h2
   split at h2
   · rename_i e
     subst e
     cases h2
     obtain ⟨o, ho, vs, sp, fz, g1, g2, g3, g4, g5⟩ := hr.blk h1 hB
     have hvl := (hA vs g1).length
     exact ⟨o, ho, vs, sp, fz, hA vs g1, g2, g3, g4, g5⟩
   · exact hr.blk h1 h2
 · obtain ⟨D, g1, g2, g3, _, _⟩ := get h2
   rw [← g3]; exact hF.one h1 g1 (g2.trans h3)
 · obtain ⟨D, g1, _, _, _, g5⟩ := get h2
   exact hF.obj h1 (g5 _ rfl ▸ g1)
 · obtain ⟨D, g1, g2, _⟩ := get h3
   obtain ⟨D', k1, k2, _⟩ := get h4
   exact hF.apart h1 h2 g1 k1 (g2.trans h5) (k2.trans h6)
 · obtain ⟨D, g1, g2, _⟩ := get h2
   exact hF.there h1 g1 (g2.trans h3)
 · rw [get_tput, if_neg (by omega)]; exact (hr.top hj).2
 · rw [get_tput]
   split
   · rename_i e
     subst e
     exact absurd ((hr.kb hk).1) (by rw [hi]; nofun)
   · exact (hr.kb hk).2.2 T' l
def pre5 (T : Tr AV) (o : Oper) (H : Tr AB) : Option (Tr AB × Prop) :=
 match o.op with
 | .call ⟨.builtin .append, args, _⟩ => match args.toList with
   | [_, x] => match aev T x with
     | .sl i 0 _ _ => match H.get i with
       | some (.mem T' none l) => cond (bareL l) none (match thawL H l with
         | some (l', js, C) => cond (nodupN js && !(js.contains i)) (some (tput (killL H js) i (.mem T' none l'), C)) none
         | none => none)
       | _ => none
     | _ => none
   | _ => none
 | _ => none
def symW5 (P : Program) (T : Tr AV) (o : Oper) (H : Tr AB) (n : Nat) : Option ((AV × Tr AB × Nat) × Prop) :=
 match pre5 T o H with
 | some (H1, C) => match symW2 P T o H1 n with
   | some r => some (r.1, C ∧ r.2)
   | none => match symW4 P T o H1 n with
     | some r => some (r.1, C ∧ r.2)
     | none => none
 | none => none
theorem pre5_sound {w0 : Bs} {w : World} {ρ : Env} {T : Tr AV} {o : Oper} {H : Tr AB} {n : Nat} {r : Tr AB × Prop} {ev : Operand → Value} (h : pre5 T o H = some r) (hC : r.2) (hr : HR w0 ρ H n w) (hev : ∀ y ∈ o.op.operands, VR ρ (aev T y) (ev y)) :
   ∃ ρ', HR w0 ρ' r.1 n w ∧ Ext ρ ρ' H r.1 n n := by
 obtain ⟨dst, op, type, pos, after, guard⟩ := o
 unfold pre5 at h
 split at h
 · rename_i args ats hop
   simp only at hop
   subst hop
   split at h
   · rename_i s x ha
     have ha' : args = #[s, x] := Array.toList_inj.1 ha
     subst ha'
     have hx := hev x (by simp [Op.operands, Call.operands])
     split at h
     · rename_i i m c ex
       rw [ex] at hx
       split at h
       · rename_i T' l hB
         cases hbl : bareL l with
         | true => rw [hbl] at h; cases h
         | false =>
           rw [hbl, cond_false] at h
           split at h
           · rename_i l' js C ht
             cases hq : (nodupN js && !(js.contains i)) with
             | false => rw [hq] at h; cases h
             | true =>
               rw [hq, cond_true, Option.some.injEq] at h
               subst h
               simp only [Bool.and_eq_true, Bool.not_eq_true', List.contains_eq_mem, decide_eq_false_iff_not] at hq
               obtain ⟨q1, q2⟩ := hq
               have hC' : C := hC
               have hnm := thawL_names ht
               obtain ⟨ρ', g1, g2, g3, g4⟩ := HR.thaws q1 hr (fun j hj => by obtain ⟨B, h1, h2, _⟩ := hnm j hj; exact ⟨B, h1, h2⟩)
               have hgi : (killL H js).get i = some (.mem T' none l) := by rw [killL_get, if_neg q2]; exact hB
               have hle : ρ.le ρ' := ⟨fun a b h => by rw [g2]; exact h, g3⟩
               generalize hxv : ev x = xv at hx
               cases hx with
               | @sl _ b d _ _ _ hi =>
                 have hi' : ρ' i = some (b, d) := by rw [g2]; exact hi
                 obtain ⟨o, ho, vs0, _, _, hv0, _⟩ := hr.blk hi hB
                 refine ⟨ρ', g1.reM hgi hi' (fun vs hv => bare_VRs'' (thawL_sound g4 ht (fun _ h => h) hC' hv)), hle, fun {k} _ => by rw [g2], fun {k} hk hn T0 l0 hq => ?_, Nat.le_refl _⟩
                 have hki : k ≠ i := fun e => by subst e; rw [hi] at hn; cases hn
                 rw [get_tput, if_neg hki, killL_get]
                 split
                 · rename_i hkj
                   obtain ⟨B, h1, h2, x', h3, h4, h5⟩ := hnm k hkj
                   rw [hq] at h1
                   cases h1
                   obtain ⟨u', hu'⟩ := VRs.mem hv0 h3
                   exact absurd hn (name_some hu' h4 h5)
                 · exact hq
           · cases h
       · cases h
     · cases h
   · cases h
 · cases h
theorem symW5_sound {P : Program} {w0 : Bs} {w : World} {ρ : Env} {T : Tr AV} {o : Oper} {H : Tr AB} {n : Nat} {r : (AV × Tr AB × Nat) × Prop} {ev : Operand → Value} (h : symW5 P T o H n = some r) (hC : r.2) (hr : HR w0 ρ H n w) (hev : ∀ y ∈ o.op.operands, VR ρ (aev T y) (ev y)) :
   ∃ ρ' v w', ((execOp ev o).run P w = .ok (.value v) w' ∨ (v = undef ∧ (execOp ev o).run P w = .ok .skip w')) ∧ VR ρ' r.1.1 v ∧ HR w0 ρ' r.1.2.1 r.1.2.2 w' ∧ Ext ρ ρ' H r.1.2.1 n r.1.2.2 := by
 unfold symW5 at h
 split at h
 · rename_i H1 C hp
   split at h
   · rename_i q hq
     cases h
     obtain ⟨c1, c2⟩ : C ∧ q.2 := hC
     obtain ⟨ρ1, g1, g2⟩ := pre5_sound hp c1 hr hev
     obtain ⟨ρ', v, w', k1, k2, k3, k4⟩ := symW2_sound hq c2 g1 (fun y hy => (hev y hy).mono g2.le)
     exact ⟨ρ', v, w', k1, k2, k3, g2.trans k4⟩
   · split at h
     · rename_i q hq
       cases h
       obtain ⟨c1, c2⟩ : C ∧ q.2 := hC
       obtain ⟨ρ1, g1, g2⟩ := pre5_sound hp c1 hr hev
       obtain ⟨ρ', v, w', k1, k2, k3, k4⟩ := symW4_sound hq c2 g1 (fun y hy => (hev y hy).mono g2.le)
       exact ⟨ρ', v, w', k1, k2, k3, g2.trans k4⟩
     · cases h
 · cases h
def splB (bs : List UInt8) (o : Nat) (xs : List UInt8) (m : Nat) : List UInt8 := bs.take o ++ (xs.take m ++ bs.drop (o + Nat.min xs.length m))
theorem splB_len {bs xs : List UInt8} {o m : Nat} (h : o + m ≤ bs.length) : (splB bs o xs m).length = bs.length := by
 have h1 : Nat.min xs.length m ≤ m := Nat.min_le_right _ _
 have h2 : (xs.take m).length = Nat.min xs.length m := by rw [List.length_take]; exact Nat.min_comm _ _
 unfold splB
 rw [List.length_append, List.length_append, h2, List.length_take, List.length_drop]
 omega
theorem take_min' (xs : List UInt8) (m : Nat) : xs.take (Nat.min xs.length m) = xs.take m := by
 rcases Nat.le_total xs.length m with h | h
 · rw [show Nat.min xs.length m = xs.length from Nat.min_eq_left h, List.take_of_length_le h, List.take_of_length_le (Nat.le_refl _)]
 · rw [show Nat.min xs.length m = m from Nat.min_eq_right h]
theorem run_copyTo {P : Program} {w : World} {t tx type e : TypeId} {inf : TypeInfo} {b o m k' sc : Nat} {sa : Option Addr} {xs : List UInt8} (hu : P.underlying t = some (.slice e)) (hinf : P.info? e = some inf) (h1 : inf.size = 1)
   (hwin : Win w sa xs.length sc (xs.map byt)) (hth : w.there b o (Nat.min xs.length m)) :
   (Builtin.copy_ #[t, tx] type #[.slice (some ⟨b, o, none⟩) m k', .slice sa xs.length sc]).run P w = .ok (.int .i64 (Nat.min xs.length m : Nat)) (w.setCells b o ((xs.take m).map byt)) := by
 have hmin : (xs.take (Nat.min xs.length m)).length = Nat.min xs.length m := by
   rw [List.length_take]; exact Nat.min_eq_left (Nat.min_le_left _ _)
 have hfirst : (Builtin.firstCells 1 (Nat.min xs.length m) (.slice sa xs.length sc)).run P w = .ok ((xs.take (Nat.min xs.length m)).map byt).toArray w := by
   cases sa with
   | none =>
     obtain ⟨_, _, hx⟩ := hwin.nil_inv
     have : xs = [] := by simpa using hx
     subst this
     rfl
   | some ad =>
     have hl := run_loadCells_list (P := P) w ad ((xs.take (Nat.min xs.length m)).map byt) (fun q v hq => hwin.cell ad rfl q v (by
       rw [List.map_take, List.getElem?_take] at hq
       split at hq
       · exact hq
       · cases hq))
     rw [List.length_map, hmin] at hl
     unfold Builtin.firstCells
     rw [Nat.mul_one]; exact hl
 have hstore := run_storeCells_cells (P := P) b o ((xs.take (Nat.min xs.length m)).map byt) 0 w (fun q hq => by
   have := hth q (by simpa [hmin] using hq)
   simpa using this.1) (fun q hq => by
   have := hth q (by simpa [hmin] using hq)
   simpa using this.2) (byt_one _)
 rw [Nat.add_zero] at hstore
 rw [← take_min' xs m]
 unfold Builtin.copy_
 simp only [List.getElem?_toArray, List.getElem?_cons_zero, List.getElem?_cons_succ, Sem.run_bind, run_underlying hu, Result.andThen_ok, Builtin.lenOf, Sem.run_pure, run_sizeOf hinf, h1, hfirst, hstore]
 rfl
def cpdst (d : AV) (xs : List UInt8) (H : Tr AB) : Option (AV × Tr AB × Prop) :=
 match d with
 | .sl i o m _ => match H.get i with
   | some (.mem _ none l) => cond (Nat.ble (o + m) l.length) (match bytesL l with
     | some (bs, C) => some (.sy (.int .i64 (Nat.min xs.length m : Nat)), tput H i (.obj (.arr (splB bs o xs m))), C)
     | none => none) none
   | some (.obj (.arr bs)) => some (.sy (.int .i64 (Nat.min xs.length m : Nat)), tput H i (.obj (.arr (splB bs o xs m))), o + m ≤ bs.length)
   | _ => none
 | .ow i m => match H.get i with
   | some (.bb T bs) => some (.sy (.int .i64 (Nat.min xs.length m : Nat)), tput H i (.bb T (splB bs 0 xs m)), 1 ≤ m ∧ m ≤ bs.length)
   | _ => none
 | .ws i o m ww => match H.get i with
   | some (.bb T bs) => cond (Nat.beq ww 1) (some (.sy (.int .i64 (Nat.min xs.length m : Nat)), tput H i (.bb T (splB bs o xs m)), 1 ≤ m ∧ o + m ≤ bs.length)) none
   | _ => none
 | _ => none
section
variable {w0 : Bs} {ρ : Env} {H : Tr AB} {n : Nat} {w : World}
theorem spl_cells {b o m : Nat} {bs xs : List UInt8} {sp : List Value} {T : TypeId} {fz : Nat × Nat} (hb : w.heap[b]? = some (.cells (bs.map byt ++ sp).toArray T fz)) (h : o + m ≤ bs.length) :
   (w.setCells b o ((xs.take m).map byt)).heap[b]? = some (.cells ((splB bs o xs m).map byt ++ sp).toArray T fz) := by
 have h1 : Nat.min xs.length m ≤ m := Nat.min_le_right _ _
 have h2 : (xs.take m).length = Nat.min xs.length m := by rw [List.length_take]; exact Nat.min_comm _ _
 rw [cells_setCells _ o hb (by rw [List.length_map, h2, List.length_append, List.length_map]; omega), List.length_map, h2]
 rw [List.take_append_of_le_length (by rw [List.length_map]; omega), List.drop_append_of_le_length (by rw [List.length_map]; omega)]
 simp [splB]
theorem cpdst_sound (hr : HR w0 ρ H n w) {d : AV} {xs : List UInt8} {u : Value} {r : AV × Tr AB × Prop} (h : cpdst d xs H = some r) (hC : r.2.2) (hx : VR ρ d u) :
   ∃ b o m c, u = .slice (some ⟨b, o, none⟩) m c ∧ w.there b o (Nat.min xs.length m) ∧ r.1 = .sy (.int .i64 (Nat.min xs.length m : Nat)) ∧ HR w0 ρ r.2.1 n (w.setCells b o ((xs.take m).map byt)) ∧ Ext ρ ρ H r.2.1 n n := by
 unfold cpdst at h
 split at h
 · rename_i i o m c
   split at h
   · rename_i T l hB
     cases hle : Nat.ble (o + m) l.length with
     | false => rw [hle] at h; cases h
     | true =>
       rw [hle, cond_true] at h
       rw [Nat.ble_eq] at hle
       split at h
       · rename_i bs C hbs
         cases h
         cases hx with
         | @sl _ b d _ _ _ hi =>
           obtain ⟨ob, ho, vs, sp, fz, hv, rfl, hz, rfl, _⟩ := hr.blk hi hB
           rw [List.append_nil] at ho hz
           have hvl := hv.length
           obtain rfl := bytesL_sound hbs hC hv
           have hbl : bs.length = l.length := by simpa using hvl.symm
           have hmin : Nat.min xs.length m ≤ m := Nat.min_le_right _ _
           obtain ⟨g1, g2⟩ := hr.put1 (w' := w.setCells b o ((xs.take m).map byt)) (x := .arr (splB bs o xs m)) hi hB rfl (fun e => by cases e) (fr_setCells _ w _)
             ⟨fun _ => Iff.rfl, T, fz, by have := spl_cells (bs := bs) (sp := []) (m := m) (xs := xs) (o := o) (by rw [List.append_nil]; exact ho) (by omega); rw [List.append_nil] at this; exact this, by rw [splB_len (by omega)]; simpa using hz⟩
           exact ⟨b, o, m, c, rfl, cells_there (L := bs.map byt) ho hz (by rw [List.length_map]; omega), rfl, g1, g2⟩
       · cases h
   · rename_i bs hB
     cases h
     have hle : o + m ≤ bs.length := hC
     cases hx with
     | @sl _ b d _ _ _ hi =>
       obtain ⟨F, hF, ⟨hFi, T, fz, hb, hz⟩, _⟩ := hr.obj hi hB
       have hmin : Nat.min xs.length m ≤ m := Nat.min_le_right _ _
       obtain ⟨g1, g2⟩ := hr.put1 (w' := w.setCells b o ((xs.take m).map byt)) (x := .arr (splB bs o xs m)) hi hB rfl (fun _ => ⟨F, hF, fun k hk => (hFi k).1 hk⟩) (fr_setCells _ w _)
         ⟨fun _ => Iff.rfl, T, fz, by have := spl_cells (bs := bs) (sp := []) (m := m) (xs := xs) (o := o) (by rw [List.append_nil]; exact hb) (by omega); rw [List.append_nil] at this; exact this, by rw [splB_len (by omega)]; exact hz⟩
       exact ⟨b, o, m, c, rfl, cells_there hb (by simpa using hz) (by rw [List.length_map]; omega), rfl, g1, g2⟩
   · cases h
 · rename_i i m
   split at h
   · rename_i T bs hB
     cases h
     obtain ⟨h1, h2⟩ : 1 ≤ m ∧ m ≤ bs.length := hC
     cases hx with
     | @ow _ b c _ hi hn hc =>
       obtain ⟨ob, ho, sp, rfl, h3, h4⟩ := hr.blk hi hB
       have hmin : Nat.min xs.length m ≤ m := Nat.min_le_right _ _
       have hs := spl_cells (bs := bs) (m := m) (xs := xs) (o := 0) ho (by omega)
       exact ⟨b, 0, m, c, rfl, cells_there ho (.inl rfl) (by rw [List.length_append, List.length_map]; omega), rfl, hr.write hi hB rfl rfl hs ⟨sp, rfl, by rw [← h3, List.length_append, List.length_append, List.length_map, List.length_map, splB_len (by omega)], h4⟩ (fr_setCells _ w _), Ext.write hi _⟩
     | ow0 => omega
   · cases h
 · rename_i i o m ww
   split at h
   · rename_i T bs hB
     cases hw : Nat.beq ww 1 with
     | false => rw [hw] at h; cases h
     | true =>
       have e : ww = 1 := by simpa using hw
       subst e
       rw [hw, cond_true] at h
       cases h
       obtain ⟨h1, h2⟩ : 1 ≤ m ∧ o + m ≤ bs.length := hC
       cases hx with
       | @ws _ b c _ _ _ c' hi hn hc =>
         obtain ⟨ob, ho, sp, rfl, h3, h4⟩ := hr.blk hi hB
         have hmin : Nat.min xs.length m ≤ m := Nat.min_le_right _ _
         have hs := spl_cells (bs := bs) (m := m) (xs := xs) (o := o) ho (by omega)
         rw [Nat.mul_one]
         exact ⟨b, o, m, c', rfl, cells_there ho (.inl rfl) (by rw [List.length_append, List.length_map]; omega), rfl, hr.write hi hB rfl rfl hs ⟨sp, rfl, by rw [← h3, List.length_append, List.length_append, List.length_map, List.length_map, splB_len (by omega)], h4⟩ (fr_setCells _ w _), Ext.write hi _⟩
       | ws0 => omega
   · cases h
 · cases h
end
def symW6 (P : Program) (T : Tr AV) (o : Oper) (H : Tr AB) (n : Nat) : Option ((AV × Tr AB × Nat) × Prop) :=
 match o.op with
 | .call ⟨.builtin .copy, args, ats⟩ => match args.toList, ats.toList with
   | [d, s], [t, _] => match P.underlying t with
     | some (.slice e) => match P.info? e with
       | some inf => cond (Nat.beq inf.size 1) (match bsrc (aev T s) H with
         | some (xs, C) => match cpdst (aev T d) xs H with
           | some (y, H', D) => some ((y, H', n), C ∧ D)
           | none => none
         | none => none) none
       | none => none
     | _ => none
   | _, _ => none
 | _ => none
theorem symW6_sound {P : Program} {w0 : Bs} {w : World} {ρ : Env} {T : Tr AV} {o : Oper} {H : Tr AB} {n : Nat} {r : (AV × Tr AB × Nat) × Prop} {ev : Operand → Value} (h : symW6 P T o H n = some r) (hC : r.2) (hr : HR w0 ρ H n w) (hev : ∀ y ∈ o.op.operands, VR ρ (aev T y) (ev y)) :
   ∃ ρ' v w', ((execOp ev o).run P w = .ok (.value v) w' ∨ (v = undef ∧ (execOp ev o).run P w = .ok .skip w')) ∧ VR ρ' r.1.1 v ∧ HR w0 ρ' r.1.2.1 r.1.2.2 w' ∧ Ext ρ ρ' H r.1.2.1 n r.1.2.2 := by
 obtain ⟨dst, op, type, pos, after, guard⟩ := o
 unfold symW6 at h
 split at h
 · rename_i args ats hop
   simp only at hop
   subst hop
   split at h
   · rename_i d s t tx ha ht
     have ha' : args = #[d, s] := Array.toList_inj.1 ha
     have ht' : ats = #[t, tx] := Array.toList_inj.1 ht
     subst ha' ht'
     have hd := hev d (by simp [Op.operands, Call.operands])
     have hs := hev s (by simp [Op.operands, Call.operands])
     split at h
     · rename_i e hu
       split at h
       · rename_i inf hinf
         cases h1 : Nat.beq inf.size 1 with
         | false => rw [h1] at h; cases h
         | true =>
           rw [h1, cond_true] at h
           have h1' : inf.size = 1 := by simpa using h1
           split at h
           · rename_i xs C hsrc
             split at h
             · rename_i y H' D hdst
               cases h
               obtain ⟨hC1, hC2⟩ : C ∧ D := hC
               obtain ⟨sa, sc, hsv, hwin⟩ := bsrc_sound hr hsrc hC1 hs
               obtain ⟨b, o, m, c, hdv, hth, rfl, g1, g2⟩ := cpdst_sound hr hdst hC2 hd
               refine ⟨ρ, _, _, .inl ?_, .sy _, g1, g2⟩
               have hex : execOp ev ⟨dst, .call ⟨.builtin .copy, #[d, s], #[t, tx]⟩, type, pos, after, guard⟩ = builtin .copy #[t, tx] type (#[d, s].map fun | .const _ => true | _ => false) (#[d, s].map ev) := rfl
               rw [hex]
               have hm2 : #[d, s].map ev = #[.slice (some ⟨b, o, none⟩) m c, .slice sa xs.length sc] := by simp [hdv, hsv]
               rw [hm2]
               have hcp := run_copyTo (P := P) (t := t) (tx := tx) (type := type) (k' := c) hu hinf h1' hwin hth
               simp [builtin, hcp]
             · cases h
           · cases h
       · cases h
     · cases h
   · cases h
 · cases h
def aggP : AV → Option (List AV)
 | .agg l => some l
 | .v (.agg cs) => some (cs.toList.map .v)
 | .sy (.agg cs) => some (cs.toList.map .v)
 | _ => none
theorem aggP_sound {ρ : Env} {x : AV} {u : Value} {l : List AV} (h : aggP x = some l) (hx : VR ρ x u) : ∃ vs, u = .agg vs.toArray ∧ VRs ρ l vs := by
 unfold aggP at h
 split at h <;> simp at h
 · subst h
   cases hx with
   | agg e => exact ⟨_, rfl, e⟩
 · subst h; cases hx; exact ⟨_, by simp, VRs.of_vals _⟩
 · subst h; cases hx; exact ⟨_, by simp, VRs.of_vals _⟩
def fldsI (P : Program) (l m : List AV) : List Field → Option (List Int × List Int)
 | [] => some ([], [])
 | f :: fs => match P.underlying f.type, l[f.offset]?, m[f.offset]? with
   | some (.int k), some x, some y => match intA x, intA y with
     | some (kx, a), some (ky, b) => cond (decide (kx = k) && decide (ky = k) && decide (f.name ≠ "_")) (match fldsI P l m fs with
       | some (p, q) => some (a :: p, b :: q)
       | none => none) none
     | _, _ => none
   | _, _, _ => none
theorem fldsI_sound {P : Program} {ρ : Env} {l m : List AV} {vs us : List Value} (hl : VRs ρ l vs) (hm : VRs ρ m us) (d : Nat) (w : World) : ∀ {fs : List Field} {p q : List Int}, fldsI P l m fs = some (p, q) →
   (Op.eqFields (d + 1) vs.toArray us.toArray fs).run P w = .ok (decide (p = q)) w := by
 intro fs
 induction fs with
 | nil => intro p q h; simp [fldsI] at h; obtain ⟨rfl, rfl⟩ := h; simp [Op.eqFields]
 | cons f fs ih =>
   intro p q h
   unfold fldsI at h
   split at h
   · rename_i k x y hk hx hy
     split at h
     · rename_i kx a ky b ha hb
       cases hc : (decide (kx = k) && decide (ky = k) && decide (f.name ≠ "_")) with
       | false => rw [hc] at h; cases h
       | true =>
         rw [hc, cond_true] at h
         simp only [Bool.and_eq_true, decide_eq_true_eq] at hc
         obtain ⟨⟨rfl, rfl⟩, hn⟩ := hc
         split at h
         · rename_i p' q' hpq
           cases h
           obtain ⟨u, hu, hxu⟩ := hl.get hx
           obtain ⟨v, hv, hyv⟩ := hm.get hy
           obtain rfl := intA_sound ha hxu
           obtain rfl := intA_sound hb hyv
           have hpart : ∀ (xs : List Value) (z : Value), xs[f.offset]? = some z → (part f.type xs.toArray f.offset).run P w = .ok z w := fun xs z hz => by
             have hb : aggB (.int ky) = false := rfl
             have hz' : xs.toArray[f.offset]? = some z := by simpa using hz
             simp only [part, Sem.run_bind, run_isAgg hk, hb, Result.andThen_ok]
             simp [hz]
           simp only [Op.eqFields, if_pos hn, Sem.run_bind, hpart _ _ hu, hpart _ _ hv, Result.andThen_ok, run_equalIn_int w d f.type ky ky a b hk]
           by_cases e : a = b
           · subst e
             simp [ih hpq]
           · have e1 : (a == b) = false := by simpa using e
             simp [e1, e]
         · cases h
     · cases h
   · cases h
def cmpB (op : BinOp) (b : Bool) : Option Bool :=
 match op with
 | .eql => some b
 | .neq => some (!b)
 | _ => none
def testA (P : Program) (T : Tr AV) (o : Oper) : Option Bool :=
 match o.op with
 | .binOp op t x y _ => match aggP (aev T x), aggP (aev T y) with
   | some l, some m => match P.underlying t with
     | some (.struct fs) => cond (!P.stoodInHeld t && !P.eqGuardType P.depth t) (match fldsI P l m fs.toList with
       | some (p, q) => cmpB op (decide (p = q))
       | none => none) none
     | _ => none
   | _, _ => none
 | _ => none
theorem testA_sound {P : Program} {ρ : Env} {T : Tr AV} {o : Oper} {b : Bool} {ev : Operand → Value} (h : testA P T o = some b) (hev : ∀ y ∈ o.op.operands, VR ρ (aev T y) (ev y)) (w : World) : (execOp ev o).run P w = .ok (.value (.bool b)) w := by
 obtain ⟨dst, op, type, pos, after, guard⟩ := o
 cases op <;> simp only [testA] at h <;> try (cases h; done)
 rename_i op t x y yt
 have hx := hev x (by simp [Op.operands])
 have hy := hev y (by simp [Op.operands])
 split at h
 · rename_i l m hl hm
   split at h
   · rename_i fs hfs
     cases hc : (!P.stoodInHeld t && !P.eqGuardType P.depth t) with
     | false => rw [hc] at h; cases h
     | true =>
       rw [hc, cond_true] at h
       simp only [Bool.and_eq_true, Bool.not_eq_true'] at hc
       obtain ⟨h1, h2⟩ := hc
       split at h
       · rename_i p q hpq
         obtain ⟨vs, e1, k1⟩ := aggP_sound hl hx
         obtain ⟨us, e2, k2⟩ := aggP_sound hm hy
         have hfo : P.fieldsOf t = fs := by simp [Program.fieldsOf, hfs]
         have hrun : (Op.equalIn 10000 t (.agg vs.toArray) (.agg us.toArray)).run P w = .ok (decide (p = q)) w := by
           rw [run_equalIn_struct w 9999 t _ _ (by rw [hfo]; exact hfs) h1, hfo]
           exact fldsI_sound k1 k2 9998 w hpq
         unfold execOp
         simp only [e1, e2, Sem.run_bind, run_eqGuard_agg w op t x y _ _ h2, Result.andThen_ok]
         cases op <;> simp only [cmpB] at h <;> try (cases h; done)
         all_goals
           simp only [Option.some.injEq] at h
           subst h
         · simp [run_eql_struct, hrun]
         · simp [run_neq_struct, hrun]
       · cases h
   · cases h
 · cases h
def testB (P : Program) (T : Tr AV) (o : Oper) : Option Bool :=
 match o.op with
 | .binOp op t x y _ => match boolA (aev T x), boolA (aev T y), P.underlying t with
   | some p, some q, some .bool => cmpB op (decide (p = q))
   | _, _, _ => none
 | _ => none
theorem testB_sound {P : Program} {ρ : Env} {T : Tr AV} {o : Oper} {b : Bool} {ev : Operand → Value} (h : testB P T o = some b) (hev : ∀ y ∈ o.op.operands, VR ρ (aev T y) (ev y)) (w : World) : (execOp ev o).run P w = .ok (.value (.bool b)) w := by
 obtain ⟨dst, op, type, pos, after, guard⟩ := o
 cases op <;> simp only [testB] at h <;> try (cases h; done)
 rename_i op t x y yt
 have hx := hev x (by simp [Op.operands])
 have hy := hev y (by simp [Op.operands])
 have guardB : ∀ {a b : Bool}, (eqGuard op t x y (.bool a) (.bool b)).run P w = .ok () w := fun {a b} => by
   unfold eqGuard
   cases op <;> rfl
 split at h
 · rename_i p q hp hq ht
   have e1 := boolA_sound hp hx
   have e2 := boolA_sound hq hy
   unfold execOp
   simp only [e1, e2, Sem.run_bind, guardB, Result.andThen_ok]
   cases op <;> simp only [cmpB] at h <;> try (cases h; done)
   all_goals
     simp only [Option.some.injEq] at h
     subst h
   · rw [Go.run_eql_bool w t p q ht]
     cases p <;> cases q <;> rfl
   · rw [Go.run_neq_bool w t p q ht]
     cases p <;> cases q <;> rfl
 · cases h
def testSP (P : Program) (T : Tr AV) (o : Oper) : Option Bool := match testS T o with
 | some b => some b
 | none => match testA P T o with
   | some b => some b
   | none => testB P T o
theorem testSP_sound {P : Program} {ρ : Env} {T : Tr AV} {o : Oper} {b : Bool} {ev : Operand → Value} (h : testSP P T o = some b) (hev : ∀ y ∈ o.op.operands, VR ρ (aev T y) (ev y)) (w : World) : (execOp ev o).run P w = .ok (.value (.bool b)) w := by
 unfold testSP at h
 split at h
 · rename_i hq; cases h; exact testS_sound hq hev w
 · split at h
   · rename_i hq; cases h; exact testA_sound hq hev w
   · exact testB_sound h hev w
abbrev CF := FuncId → List AV → Tr AB → Nat → Option ((AV × Tr AB × Nat) × Prop)
abbrev CG := FuncId → List AV → Tr AB → Option (Bool × Prop × (Nat → Bool → AV × Tr AB × Nat))
structure FOk (P : Program) (F : CF) : Prop where
 ok : ∀ {f : FuncId} {args : List AV} {H : Tr AB} {n : Nat} {r : (AV × Tr AB × Nat) × Prop}, F f args H n = some r → r.2 → (∀ xs w, (callFunc f xs).run P w = .ok (.enter f xs) w) ∧
   ∀ {w0 ρ w vs}, HR w0 ρ H n w → VRs ρ args vs → Calls P f vs.toArray w (fun e w' => ∃ ρ' v, e = .returned v ∧ VR ρ' r.1.1 v ∧ HR w0 ρ' r.1.2.1 r.1.2.2 w' ∧ Ext ρ ρ' H r.1.2.1 n r.1.2.2)
structure GOk (P : Program) (G : CG) : Prop where
 ok : ∀ {f : FuncId} {args : List AV} {H : Tr AB} {r : Bool × Prop × (Nat → Bool → AV × Tr AB × Nat)}, G f args H = some r → r.2.1 → (∀ xs w, (callFunc f xs).run P w = .ok (.enter f xs) w) ∧
   ∀ {w0 ρ w vs n}, HR w0 ρ H n w → VRs ρ args vs → Calls P f vs.toArray w (fun e w' => ∃ ρ' v, e = .returned v ∧ VR ρ' (r.2.2 n r.1).1 v ∧ HR w0 ρ' (r.2.2 n r.1).2.1 (r.2.2 n r.1).2.2 w' ∧ Ext ρ ρ' H (r.2.2 n r.1).2.1 n (r.2.2 n r.1).2.2)
def noF : CF := fun _ _ _ _ => none
def noG : CG := fun _ _ _ => none
theorem noF_ok (P : Program) : FOk P noF := ⟨fun h => by cases h⟩
theorem noG_ok (P : Program) : GOk P noG := ⟨fun h => by cases h⟩
def orF (A B : CF) : CF := fun f args H n => match A f args H n with
 | some r => some r
 | none => B f args H n
theorem orF_ok {P : Program} {A B : CF} (hA : FOk P A) (hB : FOk P B) : FOk P (orF A B) := ⟨fun {f args H n r} h hc => by
 unfold orF at h
 split at h
 · rename_i q hq; cases h; exact hA.ok hq hc
 · exact hB.ok h hc⟩
def orG (A B : CG) : CG := fun f args H => match A f args H with
 | some r => some r
 | none => B f args H
theorem orG_ok {P : Program} {A B : CG} (hA : GOk P A) (hB : GOk P B) : GOk P (orG A B) := ⟨fun {f args H r} h hc => by
 unfold orG at h
 split at h
 · rename_i q hq; cases h; exact hA.ok hq hc
 · exact hB.ok h hc⟩
def symPP (P : Program) (T : Tr AV) (o : Oper) : Option (AV × Prop) := match symP P T o with
 | some r => some r
 | none => match symP2 P T o with
   | some r => some r
   | none => symP3 P T o
def symRR (P : Program) (t : TypeId) (q : AV) (H : Tr AB) : Option (AV × Prop) := match symR P t q H with
 | some r => some r
 | none => symR2 P t q H
def symWW (P : Program) (T : Tr AV) (o : Oper) (H : Tr AB) (n : Nat) : Option ((AV × Tr AB × Nat) × Prop) := match symW P T o H n with
 | some r => some r
 | none => match symW2 P T o H n with
   | some r => some r
   | none => match symW3 P T o H n with
     | some r => some r
     | none => match symW4 P T o H n with
       | some r => some r
       | none => match symW5 P T o H n with
         | some r => some r
         | none => symW6 P T o H n
theorem bsrc_mono {H H' : Tr AB} (hm : ∀ i B, H.get i = some B → H'.get i = some B) {x : AV} {r : List UInt8 × Prop} (h : bsrc x H = some r) : bsrc x H' = some r := by
 unfold bsrc at h ⊢
 split at h
 · exact h
 · exact h
 · rename_i i _ _ _ _ _
   cases hB : H.get i with
   | none => rw [hB] at h; cases h
   | some B => rw [hB] at h; rw [hm _ _ hB]; exact h
 · rename_i i _ _ _
   cases hB : H.get i with
   | none => rw [hB] at h; cases h
   | some B => rw [hB] at h; rw [hm _ _ hB]; exact h
 · rename_i i _
   cases hB : H.get i with
   | none => rw [hB] at h; cases h
   | some B => rw [hB] at h; rw [hm _ _ hB]; exact h
 · cases h
theorem symR_mono {P : Program} {H H' : Tr AB} (hm : ∀ i B, H.get i = some B → H'.get i = some B) {t : TypeId} {q : AV} {r : AV × Prop} (h : symR P t q H = some r) : symR P t q H' = some r := by
 unfold symR at h ⊢
 split at h
 · rename_i i _ _ _
   cases hB : H.get i with
   | none => rw [hB] at h; cases h
   | some B => rw [hB] at h; rw [hm _ _ hB]; exact h
 · rename_i i _
   cases hB : H.get i with
   | none => rw [hB] at h; cases h
   | some B => rw [hB] at h; rw [hm _ _ hB]; exact h
 · rename_i i kx
   cases hB : H.get i with
   | none =>
     rw [hB] at h
     split at h
     · rename_i e _; cases e
     · cases h
   | some B => rw [hB] at h; rw [hm _ _ hB]; exact h
 · cases h
theorem wsrc_mono {H H' : Tr AB} (hm : ∀ i B, H.get i = some B → H'.get i = some B) {x : AV} {r : List UInt8 × Prop} (h : wsrc x H = some r) : wsrc x H' = some r := by
 unfold wsrc at h ⊢
 split at h
 · rename_i i _ _ _
   cases hB : H.get i with
   | none => rw [hB] at h; cases h
   | some B => rw [hB] at h; rw [hm _ _ hB]; exact h
 · cases h
theorem symR2_mono {P : Program} {H H' : Tr AB} (hm : ∀ i B, H.get i = some B → H'.get i = some B) {t : TypeId} {q : AV} {r : AV × Prop} (h : symR2 P t q H = some r) : symR2 P t q H' = some r := by
 unfold symR2 at h ⊢
 split at h
 · rename_i i _ _ _
   cases hB : H.get i with
   | none =>
     rw [hB] at h
     split at h
     · rename_i e _; cases e
     · cases h
   | some B => rw [hB] at h; rw [hm _ _ hB]; exact h
 · split at h
   · split at h
     · split at h
       · rename_i hq; rw [bsrc_mono hm hq]; exact h
       · cases h
     · split at h
       · rename_i hq; rw [bsrc_mono hm hq]; exact h
       · cases h
     · split at h
       · rename_i hq; rw [bsrc_mono hm hq]; exact h
       · cases h
     · split at h
       · rename_i hq; rw [wsrc_mono hm hq]; exact h
       · cases h
     · cases h
   · cases h
 · cases h
theorem symRR_mono {P : Program} {H H' : Tr AB} (hm : ∀ i B, H.get i = some B → H'.get i = some B) {t : TypeId} {q : AV} {r : AV × Prop} (h : symRR P t q H = some r) (hx : ∀ r', symR P t q H' = some r' → symR P t q H = some r') : symRR P t q H' = some r := by
 unfold symRR at h ⊢
 cases h1 : symR P t q H with
 | some r' => rw [h1] at h; rw [symR_mono hm h1]; exact h
 | none =>
   rw [h1] at h
   cases h2 : symR P t q H' with
   | some r' => rw [hx _ h2] at h1; cases h1
   | none => exact symR2_mono hm h
theorem symR2_not {P : Program} {H H' : Tr AB} (hm : ∀ i B, H.get i = some B → H'.get i = some B) {t : TypeId} {q : AV} {r r' : AV × Prop} (h : symR2 P t q H = some r) (h' : symR P t q H' = some r') : False := by
 unfold symR2 at h
 split at h
 · rename_i i _ _ _
   split at h
   · rename_i hB _
     unfold symR at h'
     simp only [hm _ _ hB] at h'
     cases h'
   · cases h
 · unfold symR at h'
   cases h'
 · cases h
theorem reads_apart {P : Program} {H : Tr AB} {t : TypeId} {q x : AV} {r : AV × Prop} (h : readA P t q H = some x) (h' : symRR P t q H = some r) : False := by
 unfold symRR at h'
 cases h1 : symR P t q H with
 | some r' =>
   unfold symR at h1
   split at h1
   · simp [readA] at h
   · rename_i i o
     split at h1
     · rename_i hB
       simp [readA, loadA, hB] at h
     · cases h1
   · rename_i i kx
     split at h1
     · rename_i hB _
       simp only [readA, lookupA, entsA, hB] at h
       split at h
       · rename_i e; cases e
       · cases h
     · cases h1
   · cases h1
 | none =>
   simp only [h1] at h'
   unfold symR2 at h'
   split at h'
   · simp [readA] at h
   · rename_i y
     split at h'
     · split at h'
       · simp only [readA, strA, slenU] at h
         split at h
         · rename_i e; cases e
         · cases h
       · rename_i i o n c _
         split at h'
         · rename_i hq
           unfold bsrc at hq
           simp only at hq
           split at hq
           · rename_i hB
             simp only [readA, strA, slenU, takeU, hB] at h
             split at h
             · split at h
               · rename_i e; cases e
               · cases h
             · cases h
           · cases hq
         · cases h'
       · simp only [readA, strA, slenU] at h
         split at h
         · rename_i e; cases e
         · cases h
       · simp only [readA, strA, slenU] at h
         split at h
         · rename_i e; cases e
         · cases h
       · cases h'
     · cases h'
   · cases h'
def sym (P : Program) (F : CF) (G : CG) : Sy := { p := symPP P, b := testSP P, rd := symRd, r := symRR P, w := symWW P, f := F, g := G }
theorem if_some {α : Type} {C : Prop} {a b : α} {_ : Decidable C} (h : (if C then some a else none) = some b) : C ∧ a = b := by
 split at h
 · rename_i hc; cases h; exact ⟨hc, rfl⟩
 · cases h
theorem sym_ok {P : Program} {F : CF} {G : CG} (hF : FOk P F) (hG : GOk P G) (ht : (P.funcs.toList.all fun fn => !(fn.name == "runtime.NumGoroutine")) = true) (hm : P.follows .mixedOrders = true) : (sym P F G).Ok P := by
 refine ⟨@HKok.mk (sym P F G).true_ P ?_ ?_ ?_ ?_ ?_ ?_ ?_ ?_, tab_ok ht, hm⟩
 · intro w0 ρ H n w T o x ev h hr hev
   rw [true_p] at h
   cases hb : (sym P F G).b T o with
   | some b =>
     simp only [hb] at h
     cases h
     exact ⟨_, .v _, testSP_sound hb hev w⟩
   | none =>
     simp only [hb] at h
     cases hp : (sym P F G).p T o with
     | none => rw [hp] at h; cases h
     | some r =>
       simp only [hp] at h
       obtain ⟨hc, rfl⟩ := if_some h
       have hp' : symPP P T o = some r := hp
       unfold symPP at hp'
       split at hp'
       · rename_i hq; cases hp'; exact symP_sound hq hc hr hev
       · split at hp'
         · rename_i hq; cases hp'; exact symP2_sound hq hc hr hev
         · exact symP3_sound hp' hc hr hev
 · intro w0 ρ H n w T o t q x ev h1 h2 hr hev
   rw [true_r] at h2
   have h1' : rdOf T o = some (t, q) ∨ (rdOf T o = none ∧ symRd T o = some (t, q)) := by
     unfold rdQ at h1
     split at h1
     · rename_i hq; cases h1; exact .inl hq
     · rename_i hq; exact .inr ⟨hq, h1⟩
   cases hq : (sym P F G).r t q H with
   | none => rw [hq] at h2; cases h2
   | some r =>
     simp only [hq] at h2
     obtain ⟨hc, rfl⟩ := if_some h2
     have hq' : symRR P t q H = some r := hq
     unfold symRR at hq'
     split at hq'
     · rename_i hz; cases hq'; exact symR_sound h1' hz hc hr hev
     · exact symR2_sound h1' hq' hc hr hev
 · intro w0 ρ H n w T o t q x ev h1 h2 h3
   exfalso
   have h2' : symRd T o = some (t, q) := h2
   unfold symRd at h2'
   split at h2'
   · split at h2'
     · cases h2'; simp [readA] at h3
     · cases h2'
   · cases h2'
 · intro H H' t q x hmono h2
   rw [true_r] at h2 ⊢
   cases hq : (sym P F G).r t q H with
   | none => rw [hq] at h2; cases h2
   | some r =>
     simp only [hq] at h2
     have hq' : symRR P t q H = some r := hq
     have : symRR P t q H' = some r := by
       refine symRR_mono hmono hq' fun r' hr' => ?_
       unfold symRR at hq'
       split at hq'
       · rename_i hz; rw [symR_mono hmono hz] at hr'; rw [hz]; exact hr'
       · exact (symR2_not hmono hq' hr').elim
     have : (sym P F G).r t q H' = some r := this
     rw [this]
     exact h2
 · intro H t q x y h1 h2
   rw [true_r] at h2
   cases hq : (sym P F G).r t q H with
   | none => rw [hq] at h2; cases h2
   | some r => exact reads_apart h1 (show symRR P t q H = some r from hq)
 · intro w0 ρ H H' n n' w T o x ev h hr hev
   rw [true_w] at h
   cases hq : (sym P F G).w T o H n with
   | none => rw [hq] at h; cases h
   | some r =>
     simp only [hq] at h
     obtain ⟨hc, h⟩ := if_some h
     have hq' : symWW P T o H n = some r := hq
     have key : ∃ ρ' v w', ((execOp ev o).run P w = .ok (.value v) w' ∨ (v = undef ∧ (execOp ev o).run P w = .ok .skip w')) ∧ VR ρ' r.1.1 v ∧ HR w0 ρ' r.1.2.1 r.1.2.2 w' ∧ Ext ρ ρ' H r.1.2.1 n r.1.2.2 := by
       unfold symWW at hq'
       split at hq'
       · rename_i hz; cases hq'; exact symW_sound hz hc hr hev
       · split at hq'
         · rename_i hz; cases hq'; exact symW2_sound hz hc hr hev
         · split at hq'
           · rename_i hz; cases hq'; exact symW3_sound hz hc hr hev
           · split at hq'
             · rename_i hz; cases hq'; exact symW4_sound hz hc hr hev
             · split at hq'
               · rename_i hz; cases hq'; exact symW5_sound hz hc hr hev
               · exact symW6_sound hq' hc hr hev
     rw [h] at key
     exact key
 · intro f args H H' n n' x h
   rw [true_f] at h
   cases hg : (sym P F G).g f args H with
   | some r =>
     simp only [hg] at h
     obtain ⟨hc, h⟩ := if_some h
     obtain ⟨h1, h2⟩ := hG.ok hg hc
     refine ⟨h1, fun hr hv => ?_⟩
     have := h2 hr hv
     rw [h] at this
     exact this
   | none =>
     simp only [hg] at h
     cases hf : (sym P F G).f f args H n with
     | none => rw [hf] at h; cases h
     | some r =>
       simp only [hf] at h
       obtain ⟨hc, h⟩ := if_some h
       have := hF.ok hf hc
       rw [h] at this
       exact this
 · intro x y h
   exact @of_decide_eq_true _ (Classical.propDecidable _) h
theorem HR.newIm {w0 : Bs} {w w' : World} {ρ : Env} {H : Tr AB} {n g : Nat} {c : Array Value} {T : TypeId} {fz : Nat × Nat} (hr : HR w0 ρ H n w) (hf : Fr No w w') (hg : w.heap.size ≤ g) (ho : w'.heap[g]? = some (.cells c T fz)) :
   HR w0 ⟨ρ.nm, fun b => if b = g then some c else ρ.im b⟩ H n w' ∧ Ext ρ ⟨ρ.nm, fun b => if b = g then some c else ρ.im b⟩ H H n n := by
 have hne : ∀ {b : Nat} {d : Array Value}, ρ.im b = some d → b ≠ g := fun h e => by have := hr.imlt h; omega
 have hle : ρ.le ⟨ρ.nm, fun b => if b = g then some c else ρ.im b⟩ := ⟨fun _ _ h => h, fun b d h => by simp only [if_neg (hne h)]; exact h⟩
 have hold := hr.old hf
 obtain ⟨F, hF⟩ := hr.foot
 refine ⟨⟨fun h1 h2 => ?_, ⟨F, hF.one, fun h1 h2 => ?_, hF.apart, fun h1 h2 h3 h4 => ?_⟩, hr.top, hold.base, hold.fr, Env.le_trans hr.le hle, fun {b d} h1 => ?_, fun {b d} h1 => ?_, hr.kb⟩, ⟨hle, fun _ => rfl, fun _ _ => Keeps.refl _ _, Nat.le_refl _⟩⟩
 · obtain ⟨o, h3, h4⟩ := hold.blk h1 h2
   exact ⟨o, h3, h4.mono hle⟩
 · exact Ob.rep_im hle.im (Ob.rep_st (hF.obj h1 h2) fun k hk => hf.block k (hF.there h1 h2 rfl hk).2.1 (No.no _))
 · have := hF.there h1 h2 h3 h4
   refine ⟨this.1, Nat.lt_of_lt_of_le this.2.1 hf.size, ?_⟩
   simp only
   rw [if_neg (by omega)]
   exact this.2.2
 · simp only at h1
   split at h1
   · rename_i e; cases h1; subst e; exact ⟨T, fz, ho⟩
   · exact hold.im h1
 · simp only at h1
   split at h1
   · rename_i e; subst e; exact .inr (.inr (Nat.le_trans hr.fr.size hg))
   · exact hr.imn h1
theorem HR.newBy {w0 : Bs} {w w' : World} {ρ : Env} {H : Tr AB} {n g m c : Nat} {T : TypeId} {bs : List UInt8} (hr : HR w0 ρ H n w) (hf : Fr No w w') (hg : w.heap.size ≤ g) (ho : Own w' T 1 (.slice (some ⟨g, 0, none⟩) m c) m (bs.map byt)) :
   ∃ ρ', HR w0 ρ' H n w' ∧ Ext ρ ρ' H H n n ∧ VR ρ' (.by8 bs) (.slice (some ⟨g, 0, none⟩) m c) := by
 obtain ⟨sp, hB, h1, h2, h3, h4⟩ := ho.blk
 obtain ⟨q1, q2⟩ := hr.newIm hf hg hB
 refine ⟨_, q1, q2, .by8 ⟨?_, h3, h4, (fun e => by cases e), fun ad had j u hu => ?_⟩⟩
 · simpa using h1
 · cases had
   have hc : (fun b => if b = g then some (bs.map byt ++ sp).toArray else ρ.im b : Im) g = some (bs.map byt ++ sp).toArray := by simp
   rw [Addr.add_lit]
   refine (im_cell hc _).trans ?_
   rw [Nat.zero_add, List.getElem?_toArray]
   rw [List.getElem?_append_left (List.getElem?_eq_some_iff.1 hu).1]
   exact hu
theorem hook_call {P : Program} (ht : (P.funcs.toList.all fun fn => !(fn.name == "runtime.NumGoroutine")) = true) {f : FuncId} {fn : Func} (hf : P.funcs[f]? = some fn) (hb : fn.body.isSome = true) (xs : Array Value) (w : World) :
   (callFunc f xs).run P w = .ok (.enter f xs) w := (tab_ok ht).call (show tabOf P f = some fn from hf) hb xs w
/-! Frames. -/
def renN (σ : Nat → Option Nat) (i : Nat) : Nat := match σ i with | some j => j | none => 0
def isN (σ : Nat → Option Nat) (i : Nat) : Bool := match σ i with | some _ => true | none => false
theorem renN_of {σ : Nat → Option Nat} {i : Nat} (h : isN σ i = true) : σ i = some (renN σ i) := by
 unfold isN at h
 unfold renN
 cases hs : σ i with
 | some j => rfl
 | none => rw [hs] at h; cases h
def renI (σ : Nat → Option Nat) : AItem → AItem
 | .inRF i => .inRF (renN σ i)
 | .endRF i => .endRF (renN σ i)
 | x => x
def okI (σ : Nat → Option Nat) : AItem → Bool
 | .inRF i => isN σ i
 | .endRF i => isN σ i
 | _ => true
def renIs (σ : Nat → Option Nat) : List AItem → List AItem
 | [] => []
 | x :: l => renI σ x :: renIs σ l
def okIs (σ : Nat → Option Nat) : List AItem → Bool
 | [] => true
 | x :: l => okI σ x && okIs σ l
def renNs (σ : Nat → Option Nat) : List Nat → List Nat
 | [] => []
 | x :: l => renN σ x :: renNs σ l
def okNs (σ : Nat → Option Nat) : List Nat → Bool
 | [] => true
 | x :: l => isN σ x && okNs σ l
def okRg : ARg → Bool
 | .dr .. => false
 | _ => true
def okRo (σ : Nat → Option Nat) : Option Nat → Bool
 | some l => isN σ l
 | none => true
def renRo (σ : Nat → Option Nat) : Option Nat → Option Nat
 | some l => some (renN σ l)
 | none => none
def okFr (σ : Nat → Option Nat) (fr : AFr) : Bool := okRg fr.rg && okIs σ fr.todo && okNs σ fr.ds && okRo σ fr.round
def cutFr (σ : Nat → Option Nat) (kp : List Nat) (ov : List (Nat × AV)) (lo : Nat) (fr : AFr) : AFr :=
 { fn := fr.fn, nt := fr.nt, T := argsT (ovL ov (slotsF σ kp fr.T fr.nt 0) 0) 0 .e, rg := fr.rg, todo := renIs σ fr.todo, ds := renNs σ fr.ds, ret := fr.ret, round := renRo σ fr.round, lo := lo }
section
variable {σ : Nat → Option Nat} {ρ ρ' : Env}
theorem IRs.ren (h : Ren σ ρ ρ') {l : List AItem} {m : List Item} (k : IRs ρ l m) (hok : okIs σ l = true) : IRs ρ' (renIs σ l) m := by
 induction k with
 | nil => exact .nil
 | @cons x y l m a t ih =>
   unfold okIs at hok
   simp only [Bool.and_eq_true] at hok
   refine .cons ?_ (ih hok.2)
   cases a with
   | code c => exact .code c
   | inBlock id => exact .inBlock id
   | inLoop c => exact .inLoop c
   | inScope c => exact .inScope c
   | inRF e => exact .inRF ((h.nm (renN_of hok.1)).trans e)
   | endRF e => exact .endRF ((h.nm (renN_of hok.1)).trans e)
   | beginRound => exact .beginRound
theorem DsR.ren (h : Ren σ ρ ρ') {l : List Nat} {m : List Deferred} (k : DsR ρ l m) (hok : okNs σ l = true) : DsR ρ' (renNs σ l) m := by
 induction k with
 | nil => exact .nil
 | cons e t ih =>
   unfold okNs at hok
   simp only [Bool.and_eq_true] at hok
   exact .cons ((h.nm (renN_of hok.1)).trans e) (ih hok.2)
theorem RoR.ren (h : Ren σ ρ ρ') {x y : Option Nat} (k : RoR ρ x y) (hok : okRo σ x = true) : RoR ρ' (renRo σ x) y := by
 rcases k with ⟨rfl, rfl⟩ | ⟨i, b, c, rfl, rfl, e⟩
 · exact .inl ⟨rfl, rfl⟩
 · exact .inr ⟨_, b, c, rfl, rfl, (h.nm (renN_of hok)).trans e⟩
variable [Kx] {P : Program}
theorem FRel.cutF (h : Ren σ ρ ρ') {H H' : Tr AB} {hi hi' lo' : Nat} {live live' : Bool} {af : AFr} {fr : Frame} (k : FRel P ρ H hi live af fr) (hok : okFr σ af = true) {kp : List Nat} {ov : List (Nat × AV)} (ha : All (ovAsk (slotsF σ kp af.T af.nt 0) ov)) :
   FRel P ρ' H' hi' live' (cutFr σ kp ov lo' af) fr := by
 unfold okFr at hok
 simp only [Bool.and_eq_true] at hok
 obtain ⟨⟨⟨h1, h2⟩, h3⟩, h4⟩ := hok
 obtain ⟨front, rest, g1, g2, g3⟩ := k.todo
 refine ⟨k.fn, k.kind, k.mode, k.ds.ren h h3, k.ro.ren h h4, front, rest, g1, g2.ren h h2, ?_⟩
 show RgR P ρ' H' lo' hi' live' af.nt _ af.rg front fr.tmps
 cases hrg : af.rg with
 | no => rw [hrg] at g3; exact ⟨g3.1, g3.2.cutT h kp ov ha⟩
 | pl ops l => rw [hrg] at g3; exact ⟨g3.1, g3.2.cutT h kp ov ha⟩
 | dr => rw [hrg] at h1; cases h1
end
/-! The callers. -/
def nilB {α : Type} : List α → Bool
 | [] => true
 | _ => false
def cutCs (σ : Nat → Option Nat) (n' : Nat) : List (List Nat) → List AFr → List AFr
 | [], l => l
 | _ :: _, [] => []
 | kp :: ks, fr :: l => cutFr σ kp [] (cond (nilB ks) fr.lo n') fr :: cutCs σ n' ks l
def okCs (σ : Nat → Option Nat) : List (List Nat) → List AFr → Bool
 | [], _ => true
 | _ :: _, [] => false
 | _ :: ks, fr :: l => okFr σ fr && okCs σ ks l
def lastLo : Nat → List (List Nat) → List AFr → Nat
 | lo, [], _ => lo
 | lo, _ :: _, [] => lo
 | _, _ :: ks, fr :: l => lastLo fr.lo ks l
def restCs : List (List Nat) → List AFr → List AFr
 | [], l => l
 | _ :: _, [] => []
 | _ :: ks, _ :: l => restCs ks l
section
variable [Kx] {P : Program} {w0 : Bs} {ρ ρ' : Env} {H H' : Tr AB}
theorem StackR.low {hi : Nat} {l : List AFr} {m : List Frame} (h : StackR P w0 ρ H hi l m) (him : ρ'.im = ρ.im) : (∀ i, i < hi → ρ' i = ρ i) → (l = [] ∨ ∀ g, g < hi → ρ g = none → Keeps H H' g) → StackR P w0 ρ' H' hi l m := by
 induction h with
 | nil h => exact fun _ _ => .nil h
 | @cons hi af fr l m h hlo t ih =>
   intro hlow hkeep
   have hk := hkeep.resolve_left nofun
   have e : ρ'.upto hi = ρ.upto hi := by
     unfold Env.upto
     rw [him]
     congr 1
     funext i
     by_cases hi' : i < hi
     · rw [if_pos hi', if_pos hi', hlow i hi']
     · rw [if_neg hi', if_neg hi']
   refine .cons ?_ hlo (ih (fun i hi' => hlow i (Nat.lt_of_lt_of_le hi' hlo)) (.inr fun g hg hn => hk g (Nat.lt_of_lt_of_le hg hlo) hn))
   rw [e]
   refine h.mono (Env.le_refl _) (Nat.le_refl _) fun g hg hn => ⟨hn, ?_⟩
   rw [Env.upto_at, if_pos hg] at hn
   exact hk g hg hn
theorem StackR.cut {σ : Nat → Option Nat} (hren : Ren σ ρ ρ') {lo n' : Nat} {rest : List AFr} (hlow : ∀ i, i < lo → ρ' i = ρ i) (htop : ∀ i, n' ≤ i → ρ' i = none) (hn : lo ≤ n') (hkeep : rest = [] ∨ ∀ g, g < lo → ρ g = none → Keeps H H' g) :
   ∀ (ks : List (List Nat)) {hi : Nat} {l : List AFr} {m : List Frame}, StackR P w0 ρ H hi l m → okCs σ ks l = true → lastLo hi ks l = lo → restCs ks l = rest → StackR P w0 ρ' H' (cond (nilB ks) hi n') (cutCs σ n' ks l) m
 | [], hi, l, m, h, _, h2, h3 => by
   simp only [lastLo] at h2
   simp only [restCs] at h3
   subst h2 h3
   exact h.low hren.im hlow hkeep
 | kp :: ks, hi, l, m, h, h1, h2, h3 => by
   cases h with
   | nil => cases h1
   | cons hf hlo t =>
     rename_i af fr l m
     simp only [okCs, Bool.and_eq_true] at h1
     simp only [lastLo] at h2
     simp only [restCs] at h3
     have ht := StackR.cut hren hlow htop hn hkeep ks t h1.2 h2 h3
     have hf' : FRel P ρ H hi false af fr := hf.mono (Env.upto_le ρ _) (Nat.le_refl _) (fun g hg hn => ⟨by rw [Env.upto_at, if_pos hg] at hn; exact hn, Keeps.refl _ _⟩)
     refine .cons ?_ ?_ ht
     · show FRel P (ρ'.upto n') H' n' false _ fr
       rw [Env.upto_of htop]
       exact hf'.cutF hren h1.1 All.nil
     · show cond (nilB ks) af.lo n' ≤ n'
       cases ks with
       | nil => simp only [lastLo] at h2; simp only [nilB, cond_true]; omega
       | cons => exact Nat.le_refl _
theorem StackR.names : ∀ (ks : List (List Nat)) {hi : Nat} {l : List AFr} {m : List Frame}, StackR P w0 ρ H hi l m → ∀ i, (w0.ρ i ≠ none ∨ w0.K i) → i < lastLo hi ks l
 | [], hi, l, m, h => h.base
 | kp :: ks, hi, l, m, h => by
   cases h with
   | nil h => exact h
   | cons hf hlo t => exact StackR.names ks t
end
mutual
def cleanA (lo : Nat) : AV → Bool
 | .ptr i _ => Nat.blt i lo
 | .sl i _ _ _ => Nat.blt i lo
 | .su i _ _ _ _ => Nat.blt i lo
 | .mp i => Nat.blt i lo
 | .agg l => cleanL lo l
 | .tup l => cleanL lo l
 | .fn _ l m => cleanL lo l && cleanL lo m
 | .yl i => Nat.blt i lo
 | .ifc _ x => cleanA lo x
 | .ow i _ => Nat.blt i lo
 | .ws i _ _ _ => Nat.blt i lo
 | .pe i _ _ _ => Nat.blt i lo
 | .pw i _ _ _ _ _ => Nat.blt i lo
 | _ => true
def cleanL (lo : Nat) : List AV → Bool
 | [] => true
 | x :: l => cleanA lo x && cleanL lo l
end
mutual
theorem renA_clean {σ : Nat → Option Nat} {lo : Nat} (h : ∀ i, i < lo → σ i = some i) : ∀ {x : AV}, cleanA lo x = true → renA σ x = x
 | .v _, _ => rfl
 | .sy _, _ => rfl
 | .se, _ => rfl
 | .s0, _ => rfl
 | .any, _ => rfl
 | .by8 _, _ => rfl
 | .im .., _ => rfl
 | .ip _, _ => rfl
 | .ptr i o, k => by simp only [cleanA, Nat.blt_eq] at k; simp only [renA, h i k]
 | .sl i o n c, k => by simp only [cleanA, Nat.blt_eq] at k; simp only [renA, h i k]
 | .su i o n c q, k => by simp only [cleanA, Nat.blt_eq] at k; simp only [renA, h i k]
 | .mp i, k => by simp only [cleanA, Nat.blt_eq] at k; simp only [renA, h i k]
 | .yl i, k => by simp only [cleanA, Nat.blt_eq] at k; simp only [renA, h i k]
 | .ow i n, k => by simp only [cleanA, Nat.blt_eq] at k; simp only [renA, h i k]
 | .ws i o n w, k => by simp only [cleanA, Nat.blt_eq] at k; simp only [renA, h i k]
 | .pe i r w j, k => by simp only [cleanA, Nat.blt_eq] at k; simp only [renA, h i k]
 | .pw i r w j n q, k => by simp only [cleanA, Nat.blt_eq] at k; simp only [renA, h i k]
 | .ba _, _ => rfl
 | .ib _, _ => rfl
 | .ix .., _ => rfl
 | .agg l, k => by simp only [cleanA] at k; simp only [renA, renL_clean h k]
 | .tup l, k => by simp only [cleanA] at k; simp only [renA, renL_clean h k]
 | .fn f l m, k => by simp only [cleanA, Bool.and_eq_true] at k; simp only [renA, renL_clean h k.1, renL_clean h k.2]
 | .ifc t x, k => by simp only [cleanA] at k; simp only [renA, renA_clean h k]
theorem renL_clean {σ : Nat → Option Nat} {lo : Nat} (h : ∀ i, i < lo → σ i = some i) : ∀ {l : List AV}, cleanL lo l = true → renL σ l = l
 | [], _ => rfl
 | x :: l, k => by simp only [cleanL, Bool.and_eq_true] at k; simp only [renL, renA_clean h k.1, renL_clean h k.2]
end
def cleanB (lo : Nat) : AB → Bool
 | .mem _ none l => cleanL lo l
 | _ => true
def cleanH (lo : Nat) (H : Tr AB) : Nat → Bool
 | 0 => true
 | k + 1 => (match H.get k with | some B => cleanB lo B | none => true) && cleanH lo H k
theorem cleanH_at {lo : Nat} {H : Tr AB} : ∀ {k g : Nat} {B : AB}, cleanH lo H k = true → g < k → H.get g = some B → cleanB lo B = true
 | 0, g, B, _, h, _ => absurd h (Nat.not_lt_zero _)
 | k + 1, g, B, h, hg, hB => by
   simp only [cleanH, Bool.and_eq_true] at h
   by_cases e : g = k
   · subst e; have := h.1; rw [hB] at this; exact this
   · exact cleanH_at h.2 (by omega) hB
def obHigh (lo : Nat) : List (Nat × AB) → Bool
 | [] => true
 | p :: l => Nat.ble lo p.1 && obHigh lo l
theorem obHigh_none {lo g : Nat} : ∀ {ob : List (Nat × AB)}, obHigh lo ob = true → g < lo → getB g ob = none
 | [], _, _ => rfl
 | p :: l, h, hg => by
   simp only [obHigh, Bool.and_eq_true, Nat.ble_eq] at h
   unfold getB
   have : Nat.beq g p.1 = false := by
     rw [beq_dec]; simp; omega
   rw [this]; exact obHigh_none h.2 hg
/-! The cut. -/
def cutS (L : List LN) (kp : List Nat) (ks : List (List Nat)) (ov : List (Nat × AV)) (ob : List (Nat × AB)) (s : ASt) : ASt :=
 ⟨cutFr (sigL (lastLo s.fr.lo ks s.cs) L) kp ov (cond (nilB ks) s.fr.lo (rangeL (lastLo s.fr.lo ks s.cs) 0 L).length) s.fr, cutCs (sigL (lastLo s.fr.lo ks s.cs) L) (rangeL (lastLo s.fr.lo ks s.cs) 0 L).length ks s.cs,
   memF (obL ob (blksF (sigL (lastLo s.fr.lo ks s.cs) L) s.H (rangeL (lastLo s.fr.lo ks s.cs) 0 L)) 0) 0 .e, (rangeL (lastLo s.fr.lo ks s.cs) 0 L).length⟩
def cutB (L : List LN) (ks : List (List Nat)) (ob : List (Nat × AB)) (s : ASt) : Bool :=
 okL (lastLo s.fr.lo ks s.cs) L && okFr (sigL (lastLo s.fr.lo ks s.cs) L) s.fr && okCs (sigL (lastLo s.fr.lo ks s.cs) L) ks s.cs && cond (nilB (restCs ks s.cs)) true (cleanH (lastLo s.fr.lo ks s.cs) s.H (lastLo s.fr.lo ks s.cs) && obHigh (lastLo s.fr.lo ks s.cs) ob)
def cutA (L : List LN) (kp : List Nat) (ks : List (List Nat)) (ov : List (Nat × AV)) (ob : List (Nat × AB)) (s : ASt) : List Prop :=
 ovAsk (slotsF (sigL (lastLo s.fr.lo ks s.cs) L) kp s.fr.T s.fr.nt 0) ov ++ obAsk (blksF (sigL (lastLo s.fr.lo ks s.cs) L) s.H (rangeL (lastLo s.fr.lo ks s.cs) 0 L)) ob
theorem SR.cut [Kx] {P : Program} {w0 : Bs} {s : ASt} {fr : Frame} {cs : List Frame} {w : World} {L : List LN} {kp : List Nat} {ks : List (List Nat)} {ov : List (Nat × AV)} {ob : List (Nat × AB)} (h : SR P w0 s fr cs w) (hB : cutB L ks ob s = true) (hA : All (cutA L kp ks ov ob s)) :
   SR P w0 (cutS L kp ks ov ob s) fr cs w := by
 obtain ⟨ρ, hr, hf, hlo, hst⟩ := h
 unfold cutB at hB
 unfold cutA at hA
 simp only [Bool.and_eq_true] at hB
 obtain ⟨⟨⟨h1, h2⟩, h3⟩, h4⟩ := hB
 unfold cutS
 generalize hlo' : lastLo s.fr.lo ks s.cs = lo at *
 have hlen := rangeL_len lo 0 L
 have hσ := sigL_iff h1
 have hlow : ∀ i, i < lo → sigL lo L i = some i := fun i hi => by
   unfold sigL
   have : Nat.blt i lo = true := by rw [Nat.blt_eq]; exact hi
   rw [this]; rfl
 obtain ⟨hren, hr'⟩ := hr.cut hσ (fun i hi => hlow i (hlo' ▸ hst.names ks i hi)) ob (All.right hA)
 refine ⟨cutEnv ρ (rangeL lo 0 L), hr', hf.cutF hren h2 (All.left hA), ?_, ?_⟩
 · show cond (nilB ks) s.fr.lo _ ≤ _
   cases ks with
   | nil => simp only [lastLo] at hlo'; simp only [nilB, cond_true]; omega
   | cons => exact Nat.le_refl _
 · refine StackR.cut hren (fun i hi => hren.nm (hlow i hi)) (fun i hi => (hr'.top hi).1) (by omega) ?_ ks hst h3 hlo' rfl
   cases hrest : restCs ks s.cs with
   | nil => exact .inl rfl
   | cons a l =>
     right
     rw [hrest] at h4
     simp only [nilB, cond_false, Bool.and_eq_true] at h4
     intro g hg hn T l hl
     show (memF _ 0 .e).get g = _
     rw [memF_get0, obL_get, blksF_get, rangeL_get, if_pos hg]
     simp only [Option.map_some, Nat.zero_add, obHigh_none h4.2 hg]
     have := cleanH_at h4.1 hg hl
     simp only [blkF, hl, renB, renL_clean hlow this]
section
variable {S : Sy} {P : Program} {f : FuncId} {s : ASt} {Q : AV → Tr AB → Nat → Prop}
def cutC (L : List LN) (kp : List Nat) (ks : List (List Nat)) (ov : List (Nat × AV)) (ob : List (Nat × AB)) (s : ASt) : Prop := conjL (cutA L kp ks ov ob s)
theorem To.cut {L : List LN} {kp : List Nat} {ks : List (List Nat)} {ov : List (Nat × AV)} {ob : List (Nat × AB)} (hB : cutB L ks ob s = true) (hA : cutC L kp ks ov ob s) (h : To S P f (cutS L kp ks ov ob s) Q) : To S P f s Q :=
 fun w0 base fr cs w hr => h w0 base fr cs w (@SR.cut S.true_ _ _ _ _ _ _ _ _ _ _ _ hr hB (conjL_all hA))
theorem To.loop {α : Type} {L : List LN} {kp : List Nat} {ks : List (List Nat)} (ov : α → List (Nat × AV)) (ob : α → List (Nat × AB)) (I : α → Prop) (m : α → Nat) (a : α) (hI : I a) (hB : cutB L ks (ob a) s = true) {C : Prop} (hC : cutC L kp ks (ov a) (ob a) s = C) (hc : C)
   (step : ∀ a, I a → (∀ b, I b → m b < m a → To S P f (cutS L kp ks (ov b) (ob b) s) Q) → To S P f (cutS L kp ks (ov a) (ob a) s) Q) : To S P f s Q := by
 refine To.cut hB (hC ▸ hc) ?_
 have key : ∀ (k : Nat) (a : α), m a < k → I a → To S P f (cutS L kp ks (ov a) (ob a) s) Q := by
   intro k
   induction k with
   | zero => intro a h; omega
   | succ k ih => intro a h hI; exact step a hI fun b hIb hlt => ih b (by omega) hIb
 exact key _ a (Nat.lt_succ_self _) hI
theorem To.back {s0 : ASt} {L L' : List LN} {kp : List Nat} {ks : List (List Nat)} {ov : List (Nat × AV)} {ob : List (Nat × AB)} (h : To S P f (cutS L kp ks ov ob s0) Q) (hB : cutB L' ks ob s = true) {C : Prop} (hC : cutC L' kp ks ov ob s = C) (hc : C) (he : cutS L' kp ks ov ob s = cutS L kp ks ov ob s0) : To S P f s Q :=
 To.cut hB (hC ▸ hc) (he ▸ h)
end
def imOf (w : World) : Im := fun b => match w.heap[b]? with | some (.cells c _ _) => some c | _ => none
def envOf (w : World) : Env := ⟨fun _ => none, imOf w⟩
theorem imOf_cell {w : World} {a : Addr} {u : Value} (h : w.cell? a = some u) : (imOf w).cell a = some u := by
 unfold World.cell? at h
 unfold Im.cell imOf
 split at h
 · rename_i c T fz hb
   rw [hb]; exact h
 · cases h
theorem HR.all (w : World) : HR ⟨w, No, envOf w, fun _ => False⟩ (envOf w) .e 0 w :=
 ⟨fun h => (by cases h), ⟨fun _ _ => False, fun h => (by cases h), fun h => (by cases h), fun h => (by cases h), fun h => (by cases h)⟩, fun _ => ⟨rfl, rfl⟩, fun h => (by cases h), Fr.refl _ _, Env.le_refl _, fun {b c} h => by
   unfold envOf imOf at h
   simp only at h
   split at h
   · rename_i c' T fz hb; cases h; exact ⟨T, fz, hb⟩
   · exact absurd h nofun, fun h => .inl h, fun h => h.elim⟩
theorem by8_nil (ρ : Env) : VR ρ (.by8 []) (.slice none 0 0) := .by8 ⟨rfl, Nat.le_refl _, Nat.zero_le _, fun _ => rfl, fun _ h => by cases h⟩
def startOf (P : Program) (f : FuncId) (args : List AV) (H : Tr AB) (n : Nat) : ASt := match startF (tabOf P) f args H n with
 | some s => s
 | none => ⟨⟨0, 0, .e, .no, [], [], false, none, 0⟩, [], .e, 0⟩
theorem startOf_some {P : Program} {f : FuncId} {args : List AV} {H : Tr AB} {n : Nat} (h : (startF (tabOf P) f args H n).isSome = true) : startF (tabOf P) f args H n = some (startOf P f args H n) := by
 unfold startOf
 cases hs : startF (tabOf P) f args H n with
 | none => rw [hs] at h; cases h
 | some s => rfl
theorem law_calls {S : Sy} {P : Program} (hok : S.Ok P) {f : FuncId} {args : List AV} (h0 : (startF (tabOf P) f args .e 0).isSome = true) (h : To S P f (startOf P f args .e 0) (fun x _ _ => x = .v (.bool true))) {w : World} {vs : List Value} (hvs : VRs (envOf w) args vs) :
   Calls P f vs.toArray w (fun e w' => e = .returned (.bool true) ∧ Fr No w w') := by
 refine (To.calls hok (startOf_some h0) h (HR.all w) hvs).mono ?_
 rintro e w' ⟨x, H', n', ρ', v, rfl, rfl, hv, hr⟩
 cases hv
 exact ⟨rfl, hr.fr⟩
def oneF (F : FuncId) (K : List AV → Tr AB → Nat → Option ((AV × Tr AB × Nat) × Prop)) : CF := fun f args H n => cond (Nat.beq f F) (K args H n) none
theorem oneF_ok {P : Program} {F : FuncId} {fn : Func} {K : List AV → Tr AB → Nat → Option ((AV × Tr AB × Nat) × Prop)} (ht : (P.funcs.toList.all fun fn => !(fn.name == "runtime.NumGoroutine")) = true) (hF : P.funcs[F]? = some fn) (hb : fn.body.isSome = true)
   (h : ∀ {args H n r}, K args H n = some r → r.2 → ∀ {w0 ρ w vs}, HR w0 ρ H n w → VRs ρ args vs → Calls P F vs.toArray w (fun e w' => ∃ ρ' v, e = .returned v ∧ VR ρ' r.1.1 v ∧ HR w0 ρ' r.1.2.1 r.1.2.2 w' ∧ Ext ρ ρ' H r.1.2.1 n r.1.2.2)) : FOk P (oneF F K) := ⟨fun {f args H n r} hk hc => by
 unfold oneF at hk
 cases hf : Nat.beq f F with
 | false => rw [hf] at hk; cases hk
 | true =>
   rw [hf, cond_true] at hk
   obtain rfl : f = F := by simpa using hf
   exact ⟨fun xs w => hook_call ht hF hb xs w, fun hr hv => h hk hc hr hv⟩⟩
def testG (K : List AV → Tr AB → Option (Bool × Prop)) (args : List AV) (H : Tr AB) : Option (Bool × Prop × (Nat → Bool → AV × Tr AB × Nat)) := match K args H with
 | some r => some (r.1, r.2, fun n b => (.v (.bool b), H, n))
 | none => none
def oneG (F : FuncId) (K : List AV → Tr AB → Option (Bool × Prop × (Nat → Bool → AV × Tr AB × Nat))) : CG := fun f args H => cond (Nat.beq f F) (K args H) none
theorem oneG_ok {P : Program} {F : FuncId} {fn : Func} {K : List AV → Tr AB → Option (Bool × Prop × (Nat → Bool → AV × Tr AB × Nat))} (ht : (P.funcs.toList.all fun fn => !(fn.name == "runtime.NumGoroutine")) = true) (hF : P.funcs[F]? = some fn) (hb : fn.body.isSome = true)
   (h : ∀ {args H r}, K args H = some r → r.2.1 → ∀ {w0 ρ w vs n}, HR w0 ρ H n w → VRs ρ args vs → Calls P F vs.toArray w (fun e w' => ∃ ρ' v, e = .returned v ∧ VR ρ' (r.2.2 n r.1).1 v ∧ HR w0 ρ' (r.2.2 n r.1).2.1 (r.2.2 n r.1).2.2 w' ∧ Ext ρ ρ' H (r.2.2 n r.1).2.1 n (r.2.2 n r.1).2.2)) : GOk P (oneG F K) := ⟨fun {f args H r} hk hc => by
 unfold oneG at hk
 cases hf : Nat.beq f F with
 | false => rw [hf] at hk; cases hk
 | true =>
   rw [hf, cond_true] at hk
   obtain rfl : f = F := by simpa using hf
   exact ⟨fun xs w => hook_call ht hF hb xs w, fun hr hv => h hk hc hr hv⟩⟩
theorem testG_ok {P : Program} {F : FuncId} {fn : Func} {K : List AV → Tr AB → Option (Bool × Prop)} (ht : (P.funcs.toList.all fun fn => !(fn.name == "runtime.NumGoroutine")) = true) (hF : P.funcs[F]? = some fn) (hb : fn.body.isSome = true)
   (h : ∀ {args H r}, K args H = some r → r.2 → ∀ {w0 ρ w vs n}, HR w0 ρ H n w → VRs ρ args vs → Calls P F vs.toArray w (fun e w' => e = .returned (.bool r.1) ∧ Fr No w w')) : GOk P (oneG F (testG K)) :=
 oneG_ok ht hF hb fun {args H r} hk hc {w0 ρ w vs n} hr hv => by
   unfold testG at hk
   split at hk
   · rename_i q hq
     cases hk
     refine (h hq hc hr hv).mono ?_
     rintro e w' ⟨rfl, hf⟩
     exact ⟨ρ, _, rfl, .v _, hr.old hf, Ext.refl _ _ _⟩
   · cases hk
end Go.Proofs.Ytnfdknnbaebagaa.Sm
