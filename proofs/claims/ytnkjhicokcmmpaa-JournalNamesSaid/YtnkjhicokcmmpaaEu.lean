/-
  Maps, bytes and strings, a slice as an array: what the small machine makes of them is what the model makes.
-/
import Derived.Test.YtnkjhicokcmmpaaEg
import Derived.MapKept
import Derived.Carry
import Derived.Laws.IdiomStrings
import Derived.Laws.BytesArg
import Derived.Laws.Cover3
import Derived.RangeFuncRecord
namespace Go.Proofs.Ytnkjhicokcmmpaa.Ev
open Go Go.RowKit

theorem fr_put (w : World) (b : Nat) (o : Obj) : Fr (fun k => k = b) w { w with heap := w.heap.setIfInBounds b o } := ⟨rfl, rfl, rfl, by simp, fun k _ hn => by simp [Array.getElem?_setIfInBounds, Ne.symm hn]⟩
theorem ERs.length {ρ : Env} {l : List (Value × AV × Nat)} {m : List MapEntry} (h : ERs ρ l m) : l.length = m.length := by
  induction h with
  | nil => rfl
  | cons _ _ ih => simp [ih]
theorem ERs.get {ρ : Env} {l : List (Value × AV × Nat)} {m : List MapEntry} (h : ERs ρ l m) : ∀ {i : Nat} {k : Value} {x : AV} {b : Nat}, l[i]? = some (k, x, b) → ∃ u, m[i]? = some ⟨k, u, b⟩ ∧ VR ρ x u := by
  induction h with
  | nil => intro i k x b h; simp at h
  | cons hx _ ih =>
    intro i k x b h
    cases i with
    | zero => simp at h; obtain ⟨rfl, rfl, rfl⟩ := h; exact ⟨_, rfl, hx⟩
    | succ i => simpa using ih (by simpa using h)
theorem ERs.snoc {ρ : Env} {l : List (Value × AV × Nat)} {m : List MapEntry} (h : ERs ρ l m) {k u : Value} {x : AV} {b : Nat} (hx : VR ρ x u) : ERs ρ (l ++ [(k, x, b)]) (m ++ [⟨k, u, b⟩]) := by
  induction h with
  | nil => exact .cons hx .nil
  | cons h1 _ ih => exact .cons h1 ih
def modA (k : Value) (x : AV) : Nat → List (Value × AV × Nat) → List (Value × AV × Nat)
  | _, [] => []
  | 0, e :: l => (k, x, e.2.2) :: l
  | i + 1, e :: l => e :: modA k x i l
theorem ERs.modify {ρ : Env} {l : List (Value × AV × Nat)} {m : List MapEntry} (h : ERs ρ l m) {k u : Value} {x : AV} (hx : VR ρ x u) : ∀ i, ERs ρ (modA k x i l) (m.modify i fun e => { e with key := k, val := u }) := by
  induction h with
  | nil => intro i; cases i <;> exact .nil
  | cons h1 t ih =>
    intro i
    cases i with
    | zero => exact .cons hx t
    | succ i => exact .cons h1 (ih i)

def findA (kind : TypeDesc) (k : Value) : List (Value × AV × Nat) → Nat → Option (Option (Nat × AV))
  | [], _ => some none
  | e :: es, i => match Instr.sameNow kind k e.1 with
    | some b => cond b (some (some (i, e.2.1))) (findA kind k es (i + 1))
    | none => none
theorem findA_sound {ρ : Env} {kind : TypeDesc} {k : Value} {l : List (Value × AV × Nat)} {m : List MapEntry} (h : ERs ρ l m) : ∀ {i : Nat} {r}, findA kind k l i = some r →
    (r = none ∧ Instr.findNow kind k m i = some none) ∨ (∃ j x u, r = some (j, x) ∧ VR ρ x u ∧ Instr.findNow kind k m i = some (some (j, u))) := by
  induction h with
  | nil => intro i r h; simp [findA] at h; subst h; exact .inl ⟨rfl, rfl⟩
  | @cons k' u x b l m hx t ih =>
    intro i r h
    simp only [findA] at h
    cases hs : Instr.sameNow kind k k' with
    | none => simp [hs] at h
    | some q =>
      simp only [hs] at h
      cases q with
      | true =>
        simp at h; subst h
        exact .inr ⟨i, x, u, rfl, hx, by simp [Instr.findNow, hs]⟩
      | false =>
        simp only [cond_false] at h
        rcases ih h with ⟨h1, h2⟩ | ⟨j, x', u', h1, h2, h3⟩
        · exact .inl ⟨h1, by simp [Instr.findNow, hs, h2]⟩
        · exact .inr ⟨j, x', u', h1, h2, by simp [Instr.findNow, hs, h3]⟩

/-- A map's entries. -/
def entsA (m : AV) (H : Tr AB) : Option (List (Value × AV × Nat)) :=
  match m with
  | .v (.map none) => some []
  | .mp i => match H.get i with
    | some (.map l _) => some l
    | _ => none
  | _ => none
def lookupA (P : Program) (t : TypeId) (m k : AV) (ok : Bool) (H : Tr AB) : Option AV :=
  match P.underlying t, k.val?, entsA m H with
  | some (.map kt et), some u, some l =>
    match P.underlying kt, pureRun P (Instr.checkKey l.isEmpty 10000 kt u), P.info? et with
    | some kd, some _, some inf =>
      match findA kd u l 0, inf.zero with
      | some (some (_, x)), _ => some (cond ok (.tup [x, .v (.bool true)]) x)
      | some none, some z => some (cond ok (.tup [ofV z, .v (.bool false)]) (ofV z))
      | _, _ => none
    | _, _, _ => none
  | _, _, _ => none
theorem lookupA_sound {P : Program} {w0 : Bs} {w : World} {ρ : Env} {H : Tr AB} {n : Nat} (hr : HR w0 ρ H n w) {t : TypeId} {m k x : AV} {mu ku : Value} {ok : Bool} (h : lookupA P t m k ok H = some x) (hm : VR ρ m mu) (hk : VR ρ k ku) :
    ∃ v, VR ρ x v ∧ (Instr.lookup t mu ku ok).run P w = .ok v w := by
  unfold lookupA at h
  split at h
  · rename_i kt et u l hu hku hl
    obtain rfl := AV.val?_VR hku hk
    split at h
    · rename_i kd z0 inf hkd hck hinf
      have hE : ∃ es : List MapEntry, ERs ρ l es ∧ ((mu = .map none ∧ es = []) ∨ ∃ b c, mu = .map (some b) ∧ w.heap[b]? = some (.map es.toArray c)) := by
        unfold entsA at hl
        split at hl
        · cases hm; simp at hl; subst hl; exact ⟨[], .nil, .inl ⟨rfl, rfl⟩⟩
        · rename_i i
          cases hm with
          | mp hi =>
            split at hl
            · rename_i l' c hB
              simp at hl; subst hl
              obtain ⟨o, ho, es, he, rfl⟩ := hr.blk hi hB
              exact ⟨es, he, .inr ⟨_, _, rfl, ho⟩⟩
            · cases hl
        · cases hl
      obtain ⟨es, he, hget⟩ := hE
      have hemp : es.toArray.isEmpty = l.isEmpty := by cases he <;> simp
      have hck' := pureRun_run w hck
      cases hf : findA kd ku l 0 with
      | none => simp [hf] at h
      | some r =>
        have hfind := findA_sound he hf
        have base : ∀ {a : Option (Nat × Value)}, Instr.findNow kd ku es 0 = some a → (Instr.lookup t mu ku ok).run P w =
            (match a with
              | some (_, v) => Result.ok (v, true) w
              | none => ((zeroValue et).run P w).andThen fun z w' => .ok (z, false) w').andThen fun p w' => .ok (if ok then .tuple #[p.1, .bool p.2] else p.1) w' := by
          intro a ha
          rcases hget with ⟨rfl, rfl⟩ | ⟨b, c, rfl, ho⟩
          · unfold Instr.lookup
            simp only [Sem.run_bind, run_underlying hu, Result.andThen_ok, Sem.run_pure]
            have hemp' : (#[] : Array MapEntry).isEmpty = l.isEmpty := hemp
            have ha' : Instr.findNow kd ku (#[] : Array MapEntry).toList 0 = some a := ha
            simp only [hemp', hck', Result.andThen_ok, MapKept.run_findKey hkd ha']
            cases a with
            | none => simp [Result.andThen]; cases (zeroValue et).run P w <;> rfl
            | some q => obtain ⟨j, v⟩ := q; rfl
          · unfold Instr.lookup
            simp only [Sem.run_bind, run_underlying hu, Result.andThen_ok, MapKept.run_getObj_map ho, Sem.run_pure]
            simp only [hemp, hck', Result.andThen_ok, MapKept.run_findKey hkd ha]
            cases a with
            | none => simp [Result.andThen]; cases (zeroValue et).run P w <;> rfl
            | some q => obtain ⟨j, v⟩ := q; rfl
        rcases hfind with ⟨rfl, hn⟩ | ⟨j, y, v, rfl, hy, hn⟩
        · simp only [hf] at h
          cases hz : inf.zero with
          | none => simp [hz] at h
          | some z =>
            simp only [hz, Option.some.injEq] at h
            have hb := base hn
            simp only [run_zeroValue hinf hz, Result.andThen_ok] at hb
            cases ok with
            | true =>
              simp only [cond_true] at h; subst h
              exact ⟨_, .tup (.cons (ofV_VR z) (.cons (.v _) .nil)), by rw [hb]; rfl⟩
            | false =>
              simp only [cond_false] at h; subst h
              exact ⟨_, ofV_VR z, by rw [hb]; rfl⟩
        · simp only [hf, Option.some.injEq] at h
          have hb := base hn
          simp only [Result.andThen_ok] at hb
          cases ok with
          | true =>
            simp only [cond_true] at h; subst h
            exact ⟨_, .tup (.cons hy (.cons (.v _) .nil)), by rw [hb]; rfl⟩
          | false =>
            simp only [cond_false] at h; subst h
            exact ⟨_, hy, by rw [hb]; rfl⟩
    · cases h
  · cases h

def mapPutA (P : Program) (t : TypeId) (m k x : AV) (H : Tr AB) : Option (Tr AB) :=
  match P.underlying t, k.val?, m with
  | some (.map kt _), some u, .mp i =>
    match P.underlying kt, pureRun P (Instr.checkKey false 10000 kt u), H.get i with
    | some kd, some _, some (.map l c) =>
      match findA kd u l 0 with
      | some (some (j, _)) => match l[j]? with
        | some (old, _, _) => cond (Instr.sameBits 10000 old u) (some (tput H i (.map (modA u x j l) c))) none
        | none => none
      | some none => some (tput H i (.map (l ++ [(u, x, c)]) (c + 1)))
      | none => none
    | _, _, _ => none
  | _, _, _ => none
theorem mapPutA_sound {P : Program} {w0 : Bs} {w : World} {ρ : Env} {H H' : Tr AB} {n : Nat} (hr : HR w0 ρ H n w) {t : TypeId} {m k x : AV} {mu ku xu : Value} (h : mapPutA P t m k x H = some H') (hm : VR ρ m mu) (hk : VR ρ k ku) (hx : VR ρ x xu) :
    ∃ w', (Instr.mapUpdate t mu ku xu).run P w = .ok () w' ∧ HR w0 ρ H' n w' ∧ Ext ρ ρ H H' n n := by
  unfold mapPutA at h
  split at h
  · rename_i kt et u i hu hku
    obtain rfl := AV.val?_VR hku hk
    split at h
    · rename_i kd z0 l c hkd hck hB
      cases hm with
      | @mp _ b d hi =>
        obtain ⟨o, ho, es, he, rfl⟩ := hr.blk hi hB
        have hck' := pureRun_run w hck
        have hput := MapKept.heap_set (o' := Obj.map #[] 0) ho
        have hset : ∀ o' : Obj, (setObj b o').run P w = .ok () { w with heap := w.heap.setIfInBounds b o' } := fun o' => MapKept.run_setObj_map o' ho
        cases hf : findA kd ku l 0 with
        | none => simp [hf] at h
        | some r =>
          rcases findA_sound he hf with ⟨rfl, hn⟩ | ⟨j, y, v, rfl, hy, hn⟩
          · simp only [hf, Option.some.injEq] at h
            subst h
            refine ⟨_, ?_, hr.write hi hB rfl (MapKept.heap_set ho).1 ⟨es ++ [⟨ku, xu, c⟩], he.snoc hx, rfl⟩ (fr_put w b _), Ext.write hi _⟩
            unfold Instr.mapUpdate
            simp only [Sem.run_bind, run_underlying hu, Result.andThen_ok, MapKept.run_getObj_map ho, hck', MapKept.run_findKey hkd hn, hset]
            simp
          · simp only [hf] at h
            cases hlj : l[j]? with
            | none => simp [hlj] at h
            | some p =>
              obtain ⟨old, y', b'⟩ := p
              simp only [hlj] at h
              obtain ⟨u', hej, _⟩ := he.get hlj
              cases hs : Instr.sameBits 10000 old ku with
              | false => simp [hs] at h
              | true =>
                simp only [hs, cond_true, Option.some.injEq] at h
                subst h
                refine ⟨_, ?_, hr.write hi hB rfl (MapKept.heap_set ho).1 ⟨_, he.modify (k := ku) hx j, rfl⟩ (fr_put w b _), Ext.write hi _⟩
                unfold Instr.mapUpdate
                simp only [Sem.run_bind, run_underlying hu, Result.andThen_ok, MapKept.run_getObj_map ho, hck', MapKept.run_findKey hkd hn]
                have hk' : ((es.toArray[j]?).map (·.key)).getD ku = old := by simp [hej]
                rw [hk']
                have hst : (Instr.keyThatStays old ku).run P w = .ok ku w := by unfold Instr.keyThatStays; simp [hs]
                simp only [hst, Result.andThen_ok, hset]
                simp
    · cases h
  · cases h

/-- The bytes of cells. -/
def bytesA : List AV → Option (List Int)
  | [] => some []
  | .v (.int .u8 k) :: l => match bytesA l with
    | some r => some (k :: r)
    | none => none
  | _ => none
theorem bytesA_sound {ρ : Env} : ∀ {l : List AV} {ns : List Int} {us : List Value}, bytesA l = some ns → VRs ρ l us → us = ns.map (Value.int .u8)
  | [], ns, us, h, hu => by simp [bytesA] at h; subst h; cases hu; rfl
  | x :: l, ns, us, h, hu => by
    cases hu with
    | cons e t =>
      unfold bytesA at h
      split at h
      · rename_i heq; cases heq
      · rename_i k l' heq
        cases heq
        cases e
        split at h
        · rename_i r hr
          cases h
          rw [bytesA_sound hr t]
          rfl
        · cases h
      · cases h
def strOf (ns : List Int) : ByteArray := ⟨(ns.map fun n => UInt8.ofNat n.toNat).toArray⟩
/-- How long a slice is; its first elements of one cell each. -/
def slenU : AV → Option Nat
  | .sl _ _ n _ => some n
  | .su _ _ n _ _ => some n
  | .se => some 0
  | .v (.slice none 0 _) => some 0
  | _ => none
def takeU (n : Nat) (x : AV) (H : Tr AB) : Option (List AV) :=
  match x with
  | .sl i o _ _ => match H.get i with
    | some (.mem _ _ l) => cond (Nat.ble (o + n) l.length) (some ((l.drop o).take n)) none
    | _ => none
  | .su i o _ _ _ => match H.get i with
    | some (.mem _ _ l) => cond (Nat.ble (o + n) l.length) (some ((l.drop o).take n)) none
    | _ => none
  | _ => some []
/-- A slice of bytes as a string. -/
def strA (P : Program) (s d : TypeId) (x : AV) (H : Tr AB) : Option AV :=
  match P.underlying s, P.underlying d, slenU x with
  | some (.slice e), some .string, some n =>
    match P.underlying e, takeU n x H with
    | some (.int .u8), some l => match bytesA l with
      | some ns => some (.v (.string (strOf ns)))
      | none => none
    | _, _ => none
  | _, _, _ => none
theorem strA_sound {P : Program} {w0 : Bs} {w : World} {ρ : Env} {H : Tr AB} {n : Nat} (hr : HR w0 ρ H n w) {s d : TypeId} {x y : AV} {u : Value} (h : strA P s d x H = some y) (hx : VR ρ x u) :
    ∃ v, VR ρ y v ∧ (convert s d u).run P w = .ok v w := by
  unfold strA at h
  split at h
  · rename_i e m hs hd hlen
    split at h
    · rename_i l he htake
      split at h
      · rename_i ns hns
        cases h
        refine ⟨_, .v _, ?_⟩
        have fin : ∀ (a : Addr) (c : Nat) (us : List Value), VRs ρ l us → (loadCells a m).run P w = .ok us.toArray w → (convert s d (.slice (some a) m c)).run P w = .ok (.string (strOf ns)) w := by
          intro a c us hus hload
          have := bytesA_sound hns hus
          subst this
          rw [run_convert_bytes_string w s d e _ m c hs he hd, run_bytesToString w a m c ns hload, foldl_push_bytes]
          simp [strOf, ByteArray.empty, ByteArray.emptyWithCapacity]
          rfl
        have mid : ∀ {i o b c cc : Nat} {T : TypeId} {z : Option Nat} {l' : List AV}, ρ i = some (b, cc) → H.get i = some (.mem T z l') →
            (cond (Nat.ble (o + m) l'.length) (some ((l'.drop o).take m)) none = some l) → (convert s d (.slice (some ⟨b, o, none⟩) m c)).run P w = .ok (.string (strOf ns)) w := by
          intro i o b c cc T z l' hi hB hq
          cases hc : Nat.ble (o + m) l'.length with
          | false => simp [hc] at hq
          | true =>
            simp only [hc, cond_true, Option.some.injEq] at hq
            subst hq
            have hle : o + m ≤ l'.length := Nat.le_of_ble_eq_true hc
            obtain ⟨ob, ho, vs, sp, fz, hv, rfl, hz, _⟩ := hr.blk hi hB
            have hvl := hv.length
            have hcs : w.rangeAt b o ((vs.drop o).take m) := by
              have := cells_range ho (o := o) (k := m) (by simp; omega)
              rwa [List.drop_append_of_le_length (by omega), List.take_append_of_le_length (by simp; omega)] at this
            refine fin _ c _ ((hv.drop o).take m) ?_
            have hl2 := run_loadCells_list (P := P) w ⟨b, o, none⟩ ((vs.drop o).take m) (fun j u hu => by rw [Addr.add_mid]; exact hcs j u hu)
            rwa [show ((vs.drop o).take m).length = m by simp; omega] at hl2
        unfold slenU at hlen
        unfold takeU at htake
        split at hlen <;> simp at hlen <;> subst hlen
        · cases hx with
          | sl _ _ _ hi =>
            simp only at htake
            split at htake
            · rename_i hB; exact mid hi hB htake
            · cases htake
        · cases hx with
          | su _ _ _ _ hi hn =>
            simp only at htake
            split at htake
            · rename_i hB; exact mid hi hB htake
            · cases htake
        · cases hx with
          | se a c =>
            simp at htake; subst htake
            exact fin a c [] .nil (by simp [loadCells, loadCellsFrom])
        · cases hx
          simp at htake; subst htake
          simp [bytesA] at hns; subst hns
          exact run_convert_bytes_nil w s e hs he 0 _ d hd
      · cases h
    · cases h
  · cases h

/-- A string as a slice of bytes; a constant's row gets its mark. -/
def toBytesA (P : Program) (s d : TypeId) (x : AV) (H : Tr AB) (n : Nat) : Option (AV × Tr AB × Nat) :=
  match P.underlying d with
  | some (.slice e) => match P.underlying e with
    | some (.int .u8) => match x with
      | .v (.string b) => match P.underlying s with
        | some .string => cond (Nat.ble b.size 1073741824) (some (.su n 0 b.size 0 b.size, tput H n (.mem e (some 1) ((byteCells b).map .v)), n + 1)) none
        | _ => none
      | .sl i o k c => match H.get i with
        | some (.mem _ _ _) => cond (Nat.beq s d) (some (.sl i o k c, H, n)) none
        | _ => none
      | _ => none
    | _ => none
  | _ => none
theorem toBytesA_sound {P : Program} {w0 : Bs} {w : World} {ρ : Env} {H H' : Tr AB} {n n' : Nat} (hr : HR w0 ρ H n w) {s d : TypeId} {x y : AV} {u : Value} (h : toBytesA P s d x H n = some (y, H', n')) (hx : VR ρ x u) :
    ∃ ρ' v w', (convert s d u).run P w = .ok v w' ∧ VR ρ' y v ∧ HR w0 ρ' H' n' w' ∧ Ext ρ ρ' H H' n n' := by
  unfold toBytesA at h
  split at h
  · rename_i e hd
    split at h
    · rename_i he
      split at h
      · rename_i b
        cases hx
        split at h
        · rename_i hs
          cases hbs : Nat.ble b.size 1073741824 with
          | false => simp [hbs] at h
          | true =>
          simp only [hbs, cond_true, Option.some.injEq, Prod.mk.injEq] at h
          obtain ⟨rfl, rfl, rfl⟩ := h
          have hbs' := Nat.le_of_ble_eq_true hbs
          have hge := grownCap_ge w b.size 0 e
          have hmx := grownCap_le_maxLen w b.size 0 e (by unfold maxLen; omega)
          have hrun := run_bytes_of_string w s d e b hs hd he
          have hr' : HR w0 ρ H n w.drew := hr.same rfl (Fr.refl No w).drew
          have hsz : (byteCells b).length = b.size := by simp [byteCells]
          have hbc : (bytesRow b (grownCap w b.size 0 e)) = ((byteCells b) ++ List.replicate (grownCap w b.size 0 e - b.size) (Value.int .u8 0)).toArray := by
            apply Array.ext'
            simp [bytesRow, byteCells]
          have hsz2 : (bytesRow b (grownCap w b.size 0 e)).size = grownCap w b.size 0 e := by rw [hbc]; simp [hsz]; omega
          generalize hG : grownCap w b.size 0 e = G at *
          refine ⟨ρ.set n (w.heap.size, G), _, _, hrun, VR.su 0 _ 0 _ (Env.set_same _ _ _) ⟨Nat.le_refl _, by simpa using hge⟩, ?_, Ext.alloc hr _ _⟩
          refine hr'.alloc (c := G) (B := .mem e (some 1) ((byteCells b).map .v)) ⟨byteCells b, _, _, VRs.of_vals _, by rw [hbc], .inr ?_, ?_⟩
          · simp
          · exact ⟨by simp [hsz]; omega, hmx⟩
        · cases h
      · rename_i i o k c
        split at h
        · rename_i T z l hB
          cases hc : Nat.beq s d with
          | false => simp [hc] at h
          | true =>
            simp only [hc, cond_true, Option.some.injEq, Prod.mk.injEq] at h
            obtain ⟨rfl, rfl, rfl⟩ := h
            have hsd : s = d := by simpa using hc
            subst hsd
            cases hx with
            | @sl _ b' cc _ _ _ hi =>
              obtain ⟨ob, ho, vs, sp, fz, hv, rfl, hz, hq⟩ := hr.blk hi hB
              have hsh : w.shape? b' = some (T, (vs ++ sp).length) := by simp [World.shape?, ho]
              refine ⟨ρ, _, w.freeze ⟨b', (vs ++ sp).length, none⟩ 1, ?_, .sl _ _ _ hi, ?_, Ext.refl _ _ _⟩
              · simp [convert, run_underlying hd, run_underlying he, markStringish, hsh]
              · obtain ⟨lo, hi'⟩ := fz
                have hfz : (w.freeze ⟨b', (vs ++ sp).length, none⟩ 1).heap[b']? = some (.cells (vs ++ sp).toArray T (if lo == hi' then ((vs ++ sp).length, (vs ++ sp).length + 1) else (min lo (vs ++ sp).length, max hi' ((vs ++ sp).length + 1)))) := by
                  unfold World.freeze
                  rw [if_neg (by decide)]
                  simp only [Array.getElem?_modify, if_true, ho, Option.map_some]
                refine hr.touch hi hB rfl hfz ⟨vs, sp, _, hv, rfl, ?_, hq⟩ ⟨rfl, rfl, rfl, ?_, fun k hk hn => ?_⟩
                · by_cases hl : lo = hi'
                  · right; simp [hl]
                  · rcases hz with hz | hz
                    · simp only [Prod.mk.injEq] at hz; omega
                    · right
                      simp only [beq_iff_eq, hl, if_false]
                      exact Nat.le_min.2 ⟨hz, Nat.le_refl _⟩
                · unfold World.freeze; simp
                · have hn' : ¬ b' = k := fun e => hn e.symm
                  unfold World.freeze
                  simp [Array.getElem?_modify, hn']
        · cases h
      · cases h
    · cases h
  · cases h

/-- A slice as an array's address. -/
def arrA (P : Program) (t : TypeId) (x : AV) : Option AV :=
  match P.underlying t with
  | some (.array n _) => match x with
    | .sl i o k _ => cond (Nat.ble n k) (some (.ptr i o)) none
    | .su i o k _ _ => cond (Nat.ble n k) (some (.ptr i o)) none
    | _ => none
  | _ => none
theorem arrA_sound {P : Program} {w : World} {ρ : Env} {t : TypeId} {x y : AV} {u : Value} (h : arrA P t x = some y) (hx : VR ρ x u) : ∃ v, VR ρ y v ∧ (Instr.arrayAt t u).run P w = .ok v w := by
  unfold arrA at h
  split at h
  · rename_i n e hu
    split at h
    · rename_i i o k c
      cases hc : Nat.ble n k with
      | false => simp [hc] at h
      | true =>
        simp [hc] at h; subst h
        cases hx with
        | sl _ _ _ hi => exact ⟨_, .ptr _ hi, run_arrayAt w t e n _ k _ hu (Nat.le_of_ble_eq_true hc)⟩
    · rename_i i o k kk q
      cases hc : Nat.ble n k with
      | false => simp [hc] at h
      | true =>
        simp [hc] at h; subst h
        cases hx with
        | su _ _ _ _ hi hn => exact ⟨_, .ptr _ hi, run_arrayAt w t e n _ k _ hu (Nat.le_of_ble_eq_true hc)⟩
    · cases h
  · cases h

/-- Operations on maps, and the like. -/
def aopM (P : Program) (T : Tr AV) (o : Oper) (H : Tr AB) (n : Nat) : Option (AV × Tr AB × Nat) :=
  match o.op with
  | .makeMap _ none => some (.mp n, tput H n (.map [] 0), n + 1)
  | .lookup t m k ok => match lookupA P t (aev T m) (aev T k) ok H with | some x => some (x, H, n) | none => none
  | .mapUpdate t m k x => match mapPutA P t (aev T m) (aev T k) (aev T x) H with | some H' => some (.v undef, H', n) | none => none
  | .insert t m k x => match mapPutA P t (aev T m) (aev T k) (aev T x) H with | some H' => some (.v undef, H', n) | none => none
  | .sliceToArrayPointer t x => match arrA P t (aev T x) with | some y => some (y, H, n) | none => none
  | .convert s d x => match strA P s d (aev T x) H with
    | some y => some (y, H, n)
    | none => toBytesA P s d (aev T x) H n
  | .call ⟨.builtin b, args, ats⟩ =>
    match b, args.toList, ats.toList with
    | .len, [x], [t] => match aev T x, P.underlying t with
      | .mp i, some (.map _ _) => match H.get i with
        | some (.map l _) => some (.v (.int .i64 l.length), H, n)
        | _ => none
      | _, _ => none
    | .clear, [x], [t] => match aev T x, P.underlying t with
      | .mp i, some (.map _ _) => match H.get i with
        | some (.map _ c) => some (.v (.tuple #[]), tput H i (.map [] c), n)
        | _ => none
      | _, _ => none
    | _, _, _ => none
  | _ => none
theorem aopM_sound {P : Program} {w0 : Bs} {w : World} {ρ : Env} {T : Tr AV} {o : Oper} {H H' : Tr AB} {n n' : Nat} {x : AV} {ev : Operand → Value} (hr : HR w0 ρ H n w) (h : aopM P T o H n = some (x, H', n')) (hev : ∀ y ∈ o.op.operands, VR ρ (aev T y) (ev y)) :
    ∃ ρ' v w', ((execOp ev o).run P w = .ok (.value v) w' ∨ (v = undef ∧ (execOp ev o).run P w = .ok .skip w')) ∧ VR ρ' x v ∧ HR w0 ρ' H' n' w' ∧ Ext ρ ρ' H H' n n' := by
  obtain ⟨dst, op, type, pos, after, guard⟩ := o
  cases op <;> simp only [aopM] at h <;> try (cases h; done)
  case makeMap t r =>
    cases r with
    | some _ => simp at h
    | none =>
      simp only [Option.some.injEq, Prod.mk.injEq] at h
      obtain ⟨rfl, rfl, rfl⟩ := h
      exact ⟨_, _, _, .inl (by unfold execOp; simp [run_makeMap]), .mp (Env.set_same ρ n (w.heap.size, 0)), hr.alloc (c := 0) (B := .map [] 0) ⟨[], .nil, rfl⟩, Ext.alloc hr _ _⟩
  case lookup t m k ok =>
    split at h
    · rename_i y hl
      simp only [Option.some.injEq, Prod.mk.injEq] at h
      obtain ⟨rfl, rfl, rfl⟩ := h
      obtain ⟨v, hv, hrun⟩ := lookupA_sound hr hl (hev m (by simp [Op.operands])) (hev k (by simp [Op.operands]))
      exact ⟨ρ, v, w, .inl (by unfold execOp; simp [hrun]), hv, hr, Ext.refl _ _ _⟩
    · cases h
  case mapUpdate t m k y =>
    split at h
    · rename_i H2 hl
      simp only [Option.some.injEq, Prod.mk.injEq] at h
      obtain ⟨rfl, rfl, rfl⟩ := h
      obtain ⟨w', hrun, h2, h3⟩ := mapPutA_sound hr hl (hev m (by simp [Op.operands])) (hev k (by simp [Op.operands])) (hev y (by simp [Op.operands]))
      exact ⟨ρ, undef, w', .inr ⟨rfl, by unfold execOp; simp [hrun]⟩, .v _, h2, h3⟩
    · cases h
  case insert t m k y =>
    split at h
    · rename_i H2 hl
      simp only [Option.some.injEq, Prod.mk.injEq] at h
      obtain ⟨rfl, rfl, rfl⟩ := h
      obtain ⟨w', hrun, h2, h3⟩ := mapPutA_sound hr hl (hev m (by simp [Op.operands])) (hev k (by simp [Op.operands])) (hev y (by simp [Op.operands]))
      exact ⟨ρ, undef, w', .inr ⟨rfl, by unfold execOp; simp [hrun]⟩, .v _, h2, h3⟩
    · cases h
  case sliceToArrayPointer t y =>
    split at h
    · rename_i z hl
      simp only [Option.some.injEq, Prod.mk.injEq] at h
      obtain ⟨rfl, rfl, rfl⟩ := h
      obtain ⟨v, hv, hrun⟩ := arrA_sound (w := w) hl (hev y (by simp [Op.operands]))
      exact ⟨ρ, v, w, .inl (by unfold execOp; simp [hrun]), hv, hr, Ext.refl _ _ _⟩
    · cases h
  case convert s d y =>
    split at h
    · rename_i z hl
      simp only [Option.some.injEq, Prod.mk.injEq] at h
      obtain ⟨rfl, rfl, rfl⟩ := h
      obtain ⟨v, hv, hrun⟩ := strA_sound hr hl (hev y (by simp [Op.operands]))
      exact ⟨ρ, v, w, .inl (by unfold execOp; simp [hrun]), hv, hr, Ext.refl _ _ _⟩
    · obtain ⟨ρ', v, w', hrun, h1, h2, h3⟩ := toBytesA_sound hr h (hev y (by simp [Op.operands]))
      exact ⟨ρ', v, w', .inl (by unfold execOp; simp [hrun]), h1, h2, h3⟩
  case call c =>
    obtain ⟨callee, args, ats⟩ := c
    cases callee <;> simp only at h <;> try (cases h; done)
    rename_i b
    have hex : execOp ev ⟨dst, .call ⟨.builtin b, args, ats⟩, type, pos, after, guard⟩ = builtin b ats type (args.map fun | .const _ => true | _ => false) (args.map ev) := rfl
    split at h
    · rename_i y t ha ht
      have ha' : args = #[y] := Array.toList_inj.1 ha
      have ht' : ats = #[t] := Array.toList_inj.1 ht
      subst ha' ht'
      have hy := hev y (by simp [Op.operands, Call.operands])
      split at h
      · rename_i i kt et hi0 hu
        rw [hi0] at hy
        generalize hyv : ev y = yv at hy
        cases hy with
        | mp hi =>
          split at h
          · rename_i l c hB
            simp only [Option.some.injEq, Prod.mk.injEq] at h
            obtain ⟨rfl, rfl, rfl⟩ := h
            obtain ⟨o, ho, es, he, rfl⟩ := hr.blk hi hB
            refine ⟨ρ, _, w, .inl ?_, .v _, hr, Ext.refl _ _ _⟩
            rw [hex, he.length]
            unfold builtin Builtin.len_
            simp [hyv, run_underlying hu, MapKept.run_getObj_map ho, goInt]
          · cases h
      · cases h
    · rename_i y t ha ht
      have ha' : args = #[y] := Array.toList_inj.1 ha
      have ht' : ats = #[t] := Array.toList_inj.1 ht
      subst ha' ht'
      have hy := hev y (by simp [Op.operands, Call.operands])
      split at h
      · rename_i i kt et hi0 hu
        rw [hi0] at hy
        generalize hyv : ev y = yv at hy
        cases hy with
        | mp hi =>
          split at h
          · rename_i l c hB
            simp only [Option.some.injEq, Prod.mk.injEq] at h
            obtain ⟨rfl, rfl, rfl⟩ := h
            obtain ⟨o, ho, es, he, rfl⟩ := hr.blk hi hB
            refine ⟨ρ, _, { w with heap := w.heap.setIfInBounds _ (.map #[] c) }, .inl ?_, .v _, hr.write hi hB rfl (MapKept.heap_set ho).1 ⟨[], .nil, rfl⟩ (fr_put w _ _), Ext.write hi _⟩
            rw [hex]
            unfold builtin Builtin.clear_
            simp [hyv, run_underlying hu, MapKept.run_getObj_map ho, MapKept.run_setObj_map _ ho]
          · cases h
      · cases h
    · cases h
end Go.Proofs.Ytnkjhicokcmmpaa.Ev
