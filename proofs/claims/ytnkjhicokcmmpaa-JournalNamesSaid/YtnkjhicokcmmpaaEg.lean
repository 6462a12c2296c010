/-
  New blocks; append, copy and clear.
-/
import Derived.Test.YtnkjhicokcmmpaaEf
import Derived.Deep.AppendSrc
namespace Go.Proofs.Ytnkjhicokcmmpaa.Ev
open Go Go.RowKit

/-- Zero cells of n elements. -/
def zerosA (z : List AV) : Nat → List AV
  | 0 => []
  | n + 1 => z ++ zerosA z n
theorem zerosA_length (z : List AV) : ∀ n, (zerosA z n).length = n * z.length
  | 0 => by simp [zerosA]
  | n + 1 => by simp [zerosA, zerosA_length z n, Nat.succ_mul, Nat.add_comm]
def zerosV (z : List Value) : Nat → List Value
  | 0 => []
  | n + 1 => z ++ zerosV z n
theorem zeros_VR {ρ : Env} {z : List AV} {zs : List Value} (h : VRs ρ z zs) : ∀ n, VRs ρ (zerosA z n) (zerosV zs n)
  | 0 => .nil
  | n + 1 => h.append (zeros_VR h n)
theorem zerosV_get (z : List Value) : ∀ (n j : Nat), j < n * z.length → (zerosV z n)[j]? = z[j % z.length]?
  | 0, j, h => by simp at h
  | n + 1, j, h => by
    unfold zerosV
    by_cases hj : j < z.length
    · rw [List.getElem?_append_left hj, Nat.mod_eq_of_lt hj]
    · rw [List.getElem?_append_right (by omega), zerosV_get z n (j - z.length) (by rw [Nat.succ_mul] at h; omega)]
      congr 1
      conv => rhs; rw [show j = (j - z.length) + z.length by omega]
      simp
theorem zerosV_length (z : List Value) : ∀ n, (zerosV z n).length = n * z.length
  | 0 => by simp [zerosV]
  | n + 1 => by simp [zerosV, zerosV_length z n, Nat.succ_mul, Nat.add_comm]
theorem range_zeros (z : Array Value) (n : Nat) : (Array.range (n * z.size)).map (fun i => z[i % z.size]!) = (zerosV z.toList n).toArray := by
  apply Array.ext'
  apply List.ext_getElem?
  intro j
  simp only [Array.toList_map, Array.toList_range, List.getElem?_map]
  by_cases hj : j < n * z.size
  · rw [List.getElem?_range hj, zerosV_get _ _ _ (by simpa using hj)]
    have hz : 0 < z.size := Nat.pos_of_ne_zero (fun e => by rw [e] at hj; simp at hj)
    have hm : j % z.size < z.size := Nat.mod_lt _ hz
    simp [hm]
  · rw [List.getElem?_eq_none (by simp; omega), List.getElem?_eq_none (by rw [zerosV_length]; simp; omega)]
    rfl
theorem zeroCells_eq (z : Array Value) (n : Nat) : Builtin.zeroCells z n = (zerosV z.toList n).toArray := range_zeros z n

/-- What a new block holds, and the value that is answered. -/
inductive NewV where
  | ptr
  | sl (n c : Nat)
def NewV.av (i : Nat) : NewV → AV
  | .ptr => .ptr i 0
  | .sl n c => .sl i 0 n c
def NewV.val (b : Nat) : NewV → Value
  | .ptr => .pointer (some ⟨b, 0, none⟩)
  | .sl n c => .slice (some ⟨b, 0, none⟩) n c
theorem NewV.VR {ρ : Env} {i b c : Nat} (h : ρ i = some (b, c)) (k : NewV) : VR ρ (k.av i) (k.val b) := by
  cases k with
  | ptr => exact .ptr _ h
  | sl n c => exact .sl _ _ _ h

/-- The operations that lay a block and do no more. -/
def aopN (P : Program) (T : Tr AV) (o : Oper) : Option (TypeId × List AV × NewV) :=
  match o.op with
  | .alloc t => match P.info? t with
    | some i => match i.zero with
      | some z => some (t, (ofV z).cells, .ptr)
      | none => none
    | none => none
  | .box t x => some (t, (aev T x).cells, .ptr)
  | .buildSlice t len ps =>
    match P.underlying t with
    | some (.slice e) => match P.info? e with
      | some i => cond (Nat.beq len 0) (match ps.toList with | [] => some (e, [], .sl 0 0) | _ => none) <| match i.zero with
        | some z =>
          let zc := (ofV z).cells
          cond (Nat.beq zc.length i.size && Nat.ble 1 (len * i.size) && Nat.ble (len * i.size) 16777216)
            (match fillA (fun j => some (j * i.size, i.size)) (zerosA zc len) (ps.toList.map fun p => (p.1, aev T p.2)) with
             | some l => some (e, l, .sl len len)
             | none => none) none
        | none => none
      | none => none
    | _ => none
  | .makeSlice t l c =>
    match aev T l, aev T c, P.underlying t with
    | .v (.int _ n), .v (.int _ m), some (.slice e) => match P.info? e with
      | some i => match i.zero with
        | some z =>
          let zc := (ofV z).cells
          cond (Nat.beq zc.length i.size && Nat.ble 1 i.size && decide (0 ≤ n) && decide (n ≤ m) && decide (m ≤ 1073741824) && Nat.ble i.bytes 65536)
            (some (e, zerosA zc m.toNat, .sl n.toNat m.toNat)) none
        | none => none
      | none => none
    | _, _, _ => none
  | _ => none
theorem buildSlice_zero {z : Value} {len size : Nat} (h : z.cells.size = size) : (Array.range (len * size)).map (z.cells[· % z.cells.size]!) = (zerosV z.cells.toList len).toArray := by
  subst h; exact range_zeros _ _
theorem aopN_sound {P : Program} {ρ : Env} {T : Tr AV} {o : Oper} {e : TypeId} {l : List AV} {k : NewV} {ev : Operand → Value} (h : aopN P T o = some (e, l, k)) (hev : ∀ y ∈ o.op.operands, VR ρ (aev T y) (ev y)) :
    ∃ vs, VRs ρ l vs ∧ ∀ w, (execOp ev o).run P w = .ok (.value (k.val w.heap.size)) (w.alloc (.cells vs.toArray e)) := by
  obtain ⟨dst, op, type, pos, after, guard⟩ := o
  cases op <;> simp only [aopN] at h <;> try (cases h; done)
  case alloc t =>
    split at h
    · rename_i i hi
      split at h
      · rename_i z hz
        simp only [Option.some.injEq, Prod.mk.injEq] at h
        obtain ⟨rfl, rfl, rfl⟩ := h
        refine ⟨_, (ofV_VR z).cells, fun w => ?_⟩
        unfold execOp Instr.alloc
        simp [run_zeroValue hi hz, newVar, newRow, NewV.val]
      · cases h
    · cases h
  case box t x =>
    simp only [Option.some.injEq, Prod.mk.injEq] at h
    obtain ⟨rfl, rfl, rfl⟩ := h
    refine ⟨_, (hev x (by simp [Op.operands])).cells, fun w => ?_⟩
    unfold execOp Instr.box
    simp [newVar, newRow, NewV.val]
  case buildSlice t len ps =>
    split at h
    · rename_i el hu
      split at h
      · rename_i i hi
        rw [beq_dec] at h
        by_cases hl0 : len = 0
        · subst hl0
          simp only [decide_true, cond_true] at h
          split at h
          · rename_i hps
            simp only [Option.some.injEq, Prod.mk.injEq] at h
            obtain ⟨rfl, rfl, rfl⟩ := h
            have hps' : ps = #[] := Array.toList_inj.1 hps
            subst hps'
            refine ⟨[], .nil, fun w => ?_⟩
            have hr0 : Array.range 0 = (#[] : Array Nat) := Array.toList_inj.1 (by simp)
            unfold execOp Instr.buildSlice
            simp [run_underlying hu, run_sizeOf hi, hr0, Instr.fill, newRow, NewV.val]
          · cases h
        simp only [hl0, decide_false, cond_false] at h
        split at h
        · rename_i z hz
          have hzc := (ofV_VR (ρ := ρ) z).cells
          cases hc : (Nat.beq (ofV z).cells.length i.size && Nat.ble 1 (len * i.size) && Nat.ble (len * i.size) 16777216) with
          | false => simp [hc] at h
          | true =>
            simp only [hc, cond_true] at h
            simp only [Bool.and_eq_true, Nat.beq_eq, Nat.ble_eq] at hc
            split at h
            · rename_i r hr
              simp only [Option.some.injEq, Prod.mk.injEq] at h
              obtain ⟨rfl, rfl, rfl⟩ := h
              have hq : VRs ρ ((ps.toList.map fun p => (p.1, aev T p.2)).map Prod.snd) ((ps.toList.map fun p => (p.1, ev p.2)).map Prod.snd) := by
                have : VRs ρ ((ps.toList.map Prod.snd).map (aev T)) ((ps.toList.map Prod.snd).map ev) := VRs.map_ev fun y hy => hev y (by simp [Op.operands] at hy ⊢; exact hy)
                simpa [Function.comp_def] using this
              obtain ⟨us, h1, h2⟩ := fillA_sound (qs := ps.toList.map fun p => (p.1, ev p.2)) hr (zeros_VR hzc len) (by simp) hq
              refine ⟨us, h1, fun w => ?_⟩
              have hsz : z.cells.size = i.size := by rw [← hc.1.1, hzc.length]; simp
              have hne : ¬ (len = 0 ∨ i.size = 0) := by
                intro h0
                have : len * i.size = 0 := by rcases h0 with h0 | h0 <;> simp [h0]
                omega
              have hz' := range_zeros z.cells len
              rw [hsz] at hz'
              unfold execOp Instr.buildSlice
              simp only [Sem.run_bind, run_underlying hu, Result.andThen_ok, run_sizeOf hi]
              rw [if_neg (by omega)]
              simp only [Sem.run_bind, Sem.run_pure, Result.andThen_ok]
              rw [if_neg (by omega)]
              simp only [Sem.run_bind, Sem.run_pure, Result.andThen_ok, run_zeroValue hi hz, hsz, hz']
              have h2' : Instr.fill (fun j => some (j * i.size, i.size)) (zerosV z.cells.toList len).toArray (ps.map fun p => (p.1, ev p.2)).toList = some us.toArray := by
                rw [← h2]; congr 1; simp
              rw [h2']
              simp [newRow, NewV.val]
            · cases h
        · cases h
      · cases h
    · cases h
  case makeSlice t ln cp =>
    have hl := hev ln (by simp [Op.operands])
    have hcp := hev cp (by simp [Op.operands])
    split at h
    · rename_i k1 nn k2 mm el e1 e2 hu
      rw [e1] at hl
      rw [e2] at hcp
      generalize hlv : ev ln = lv at hl
      generalize hcv : ev cp = cv at hcp
      cases hl
      cases hcp
      split at h
      · rename_i i hi
        split at h
        · rename_i z hz
          have hzc := (ofV_VR (ρ := ρ) z).cells
          cases hc : (Nat.beq (ofV z).cells.length i.size && Nat.ble 1 i.size && decide (0 ≤ nn) && decide (nn ≤ mm) && decide (mm ≤ 1073741824) && Nat.ble i.bytes 65536) with
          | false => simp [hc] at h
          | true =>
            simp only [hc, cond_true, Option.some.injEq, Prod.mk.injEq] at h
            simp only [Bool.and_eq_true, Nat.beq_eq, Nat.ble_eq, decide_eq_true_eq] at hc
            obtain ⟨⟨⟨⟨⟨hc1, hc2⟩, hc3⟩, hc4⟩, hc5⟩, hc6⟩ := hc
            obtain ⟨rfl, rfl, rfl⟩ := h
            refine ⟨_, zeros_VR hzc _, fun w => ?_⟩
            have hsz : z.cells.size = i.size := by rw [← hc1, hzc.length]; simp
            have w1 : IntKind.i64.wrap nn = nn := IntWalk.i64_in _ ⟨by omega, by omega⟩
            have w2 : IntKind.i64.wrap mm = mm := IntWalk.i64_in _ ⟨by omega, by omega⟩
            have hb : (i.bytes : Int) * mm ≤ 281474976710656 := by
              have h1 : (i.bytes : Int) * mm ≤ 65536 * mm := Int.mul_le_mul_of_nonneg_right (by omega) (by omega)
              omega
            have hz' := range_zeros z.cells mm.toNat
            rw [hsz] at hz'
            have hn0 : ¬ (mm < 0) := by omega
            have hn1 : ¬ (nn < 0) := by omega
            have hn2 : ¬ (mm < nn) := by omega
            have hn3 : ¬ ((281474976710656 : Int) < (i.bytes : Int) * mm) := by omega
            unfold execOp Instr.makeSlice
            have hd : (decide (mm < 0) || decide ((i.bytes : Int) * mm > 2 ^ 48) || decide (nn < 0) || decide (nn > mm)) = false := by
              simp [hn0, hn1, hn2, hn3]
            simp only [Sem.run_bind, run_underlying hu, Result.andThen_ok, hlv, hcv, asInt, asIntOf, Sem.run_pure, run_typeInfo hi, w1, w2]
            rw [if_neg (by rw [hd]; simp)]
            by_cases hm0 : mm.toNat * i.size = 0
            · have h0 : mm.toNat = 0 := by rcases Nat.mul_eq_zero.1 hm0 with h | h <;> omega
              have hr0 : Array.range 0 = (#[] : Array Nat) := Array.toList_inj.1 (by simp)
              simp [run_sizeOf hi, h0, zerosV, newRow, NewV.val, hr0]
            · simp only [Sem.run_bind, run_askRoom, Result.andThen_ok, run_sizeOf hi, if_neg hm0, run_zeroValue hi hz, Sem.run_pure, hsz, hz']
              simp [newRow, NewV.val]
        · cases h
      · cases h
    · cases h

/-- What an append or a copy takes from: how many elements, and their cells. -/
def srcA (P : Program) (tx : TypeId) (k : Nat) (x : AV) (H : Tr AB) : Option (Nat × List AV) :=
  match P.underlying tx with
  | some (.slice _) =>
    match x with
    | .v (.slice none 0 _) => some (0, [])
    | .se => some (0, [])
    | .sl i o n _ => match H.get i with
      | some (.mem _ _ l) => cond (Nat.ble (o + n * k) l.length) (some (n, (l.drop o).take (n * k))) none
      | _ => none
    | .su i o n _ _ => match H.get i with
      | some (.mem _ _ l) => cond (Nat.ble (o + n * k) l.length) (some (n, (l.drop o).take (n * k))) none
      | _ => none
    | _ => none
  | some .string =>
    match x with
    | .v (.string s) => cond (Nat.beq k 1) (some (s.size, (byteCells s).map .v)) none
    | _ => none
  | _ => none
theorem srcA_sound {P : Program} {w0 : Bs} {w : World} {ρ : Env} {H : Tr AB} {n : Nat} (hr : HR w0 ρ H n w) {tx : TypeId} {k m : Nat} {x : AV} {news : List AV} {u : Value} (h : srcA P tx k x H = some (m, news)) (hx : VR ρ x u) (h1 : news.all oneA = true) :
    ∃ us, VRs ρ news us ∧ Src P k tx u m us w := by
  have part : ∀ {i o nn c b : Nat} {e : TypeId} {T : TypeId} {z : Option Nat} {l : List AV} {cc : Nat}, P.underlying tx = some (.slice e) → ρ i = some (b, cc) → H.get i = some (.mem T z l) →
      (cond (Nat.ble (o + nn * k) l.length) (some (nn, (l.drop o).take (nn * k))) none = some (m, news)) → ∃ us, VRs ρ news us ∧ Src P k tx (.slice (some ⟨b, o, none⟩) nn c) m us w := by
    intro i o nn c b e T z l cc hu hi hB h
    cases hc : Nat.ble (o + nn * k) l.length with
    | false => simp [hc] at h
    | true =>
      simp only [hc, cond_true, Option.some.injEq, Prod.mk.injEq] at h
      obtain ⟨rfl, rfl⟩ := h
      have hle : o + nn * k ≤ l.length := Nat.le_of_ble_eq_true hc
      obtain ⟨ob, ho, vs, sp, fz, hv, rfl, hz, _⟩ := hr.blk hi hB
      have hlen := hv.length
      have hn := (hv.drop o).take (nn * k)
      have hcs : w.rangeAt b o ((vs.drop o).take (nn * k)) := by
        have := cells_range ho (o := o) (k := nn * k) (by simp; omega)
        rwa [List.drop_append_of_le_length (by omega), List.take_append_of_le_length (by simp; omega)] at this
      exact ⟨_, hn, Src.ofSlice w hu _ _ _ _ (by simp; omega) (fun j u hu => by rw [Addr.add_mid]; exact hcs j u hu) (oneA_VRs h1 hn)⟩
  unfold srcA at h
  split at h
  · rename_i e hu
    split at h
    · cases hx
      simp only [Option.some.injEq, Prod.mk.injEq] at h
      obtain ⟨rfl, rfl⟩ := h
      exact ⟨[], .nil, Src.ofNil w hu _⟩
    · cases hx
      simp only [Option.some.injEq, Prod.mk.injEq] at h
      obtain ⟨rfl, rfl⟩ := h
      exact ⟨[], .nil, Src.ofSlice w hu _ _ _ _ (by simp) (by simp) (by simp)⟩
    · cases hx with
      | sl _ _ _ hi =>
        split at h
        · rename_i hB; exact part hu hi hB h
        · cases h
    · cases hx with
      | su _ _ _ _ hi hn =>
        split at h
        · rename_i hB; exact part hu hi hB h
        · cases h
    · cases h
  · rename_i hu
    split at h
    · rename_i s
      cases hx
      rw [beq_dec] at h
      by_cases hk : k = 1
      · subst hk
        simp only [decide_true, cond_true, Option.some.injEq, Prod.mk.injEq] at h
        obtain ⟨rfl, rfl⟩ := h
        exact ⟨_, VRs.of_vals _, Src.ofString w hu s⟩
      · simp [hk] at h
    · cases h
  · cases h

/-- append -/
def appendA (P : Program) (t tx : TypeId) (s x : AV) (H : Tr AB) (n : Nat) : Option (AV × Tr AB × Nat) :=
  match P.underlying t with
  | some (.slice e) =>
    match P.info? e with
    | some inf =>
      let k := inf.size
      match inf.zero, srcA P tx k x H with
      | some z, some (m, news) =>
        cond (Nat.ble 1 k && Nat.beq (ofV z).cells.length k && news.all oneA && Nat.ble m 1073741824 && Nat.ble inf.bytes 4096)
          (match s with
           | .v (.slice none 0 0) => cond (Nat.beq m 0) (some (s, H, n)) (some (.su n 0 m 0 m, tput H n (.mem e (some k) news), n + 1))
           | .sl i o len c =>
             match H.get i with
             | some (.mem T zz l) =>
               cond (Nat.ble len 1073741824 && Nat.ble c 1073741824 && Nat.ble (o + len * k) l.length)
                 (cond (Nat.ble (len + m) c)
                   (cond (Nat.ble (o + len * k + news.length) l.length) (some (.sl i o (len + m) c, tput H i (.mem T zz (spliceA l (o + len * k) news)), n)) none)
                   (some (.su n 0 (len + m) 0 (len + m), tput H n (.mem e (some k) ((l.drop o).take (len * k) ++ news)), n + 1))) none
             | _ => none
           | .su i o len kk q =>
             match H.get i with
             | some (.mem T (some zz) l) =>
               cond (Nat.ble (len + m) q && Nat.ble (o + len * k + news.length) l.length)
                (some (.su i o (len + m) kk q, tput H i (.mem T (some zz) (spliceA l (o + len * k) news)), n)) <|
               cond (Nat.beq o 0 && Nat.beq kk 0 && Nat.beq T e && Nat.beq zz k && Nat.ble len 1073741824 && Nat.ble (len * k) l.length)
                 (some (.su n 0 (len + m) 0 (len + m), tput (tput H i .dead) n (.mem e (some k) (l.take (len * k) ++ news)), n + 1)) none
             | _ => none
           | _ => none) none
      | _, _ => none
    | none => none
  | _ => none

theorem Src.firstOlds {P : Program} {w : World} {w0 : Bs} {ρ : Env} {H : Tr AB} {n i b c o len k : Nat} {T : TypeId} {z : Option Nat} {l : List AV} (hr : HR w0 ρ H n w) (hi : ρ i = some (b, c)) (hB : H.get i = some (.mem T z l)) (hle : o + len * k ≤ l.length) (cap : Nat) :
    ∃ olds, VRs ρ ((l.drop o).take (len * k)) olds ∧ (Builtin.firstCells k len (.slice (some ⟨b, o, none⟩) len cap)).run P w.drew = .ok olds.toArray w.drew := by
  obtain ⟨ob, ho, vs, sp, fz, hv, rfl, hz, _⟩ := hr.blk hi hB
  have hlen := hv.length
  have hn := (hv.drop o).take (len * k)
  have hcs : w.rangeAt b o ((vs.drop o).take (len * k)) := by
    have := cells_range ho (o := o) (k := len * k) (by simp; omega)
    rwa [List.drop_append_of_le_length (by omega), List.take_append_of_le_length (by simp; omega)] at this
  exact ⟨_, hn, run_firstCells_some w.drew k len _ len cap _ (by simp; omega) (fun j u hu => by rw [Addr.add_mid]; simpa using hcs j u hu)⟩
/-- The new row of an append that grows. -/
theorem HR.grown {P : Program} {w : World} {w0 : Bs} {ρ : Env} {H : Tr AB} {n : Nat} (hr : HR w0 ρ H n w) {e : TypeId} {k need cap : Nat} {l : List AV} {vs : List Value} {z : Array Value} (hv : VRs ρ l vs) (hz : z.size = k) (hl : l.length = need * k) (hc : need ≤ cap) (hmx : cap ≤ maxLen) :
    HR w0 (ρ.set n (w.heap.size, cap)) (tput H n (.mem e (some k) l)) (n + 1) (w.drew.alloc (.cells (vs.toArray ++ Builtin.zeroCells z (cap - need)) e)) := by
  have hr' : HR w0 ρ H n w.drew := hr.same rfl (Fr.refl No w).drew
  refine hr'.alloc (c := cap) (B := .mem e (some k) l) ⟨vs, zerosV z.toList (cap - need), (0, 0), ?_, ?_, unfrozen_zero _, ?_⟩
  · exact hv.mono (Env.le_set (hr.top (Nat.le_refl _)).1 _)
  · rw [zeroCells_eq]; simp
  · have := hv.length
    simp only [List.length_append, zerosV_length, Array.length_toList, hz]
    refine ⟨?_, hmx⟩
    rw [← this, hl, ← Nat.add_mul]
    congr 1; omega
set_option maxHeartbeats 2000000 in
theorem appendA_sound {P : Program} {w0 : Bs} {w : World} {ρ : Env} {H H' : Tr AB} {n n' : Nat} (hr : HR w0 ρ H n w) {t tx ty : TypeId} {s x y : AV} {su xu : Value} (h : appendA P t tx s x H n = some (y, H', n')) (hs : VR ρ s su) (hx : VR ρ x xu) :
    ∃ ρ' v w', (Builtin.append_ #[t, tx] ty #[su, xu]).run P w = .ok v w' ∧ VR ρ' y v ∧ HR w0 ρ' H' n' w' ∧ Ext ρ ρ' H H' n n' := by
  unfold appendA at h
  split at h
  · rename_i e hu
    split at h
    · rename_i inf hinf
      cases hz : inf.zero with
      | none => simp [hz] at h
      | some z =>
      cases hsrc : srcA P tx inf.size x H with
      | none => simp [hz, hsrc] at h
      | some mn =>
        obtain ⟨m, news⟩ := mn
        simp only [hz, hsrc] at h
        cases hc : (Nat.ble 1 inf.size && Nat.beq (ofV z).cells.length inf.size && news.all oneA && Nat.ble m 1073741824 && Nat.ble inf.bytes 4096) with
        | false => simp [hc] at h
        | true =>
          simp only [hc, cond_true] at h
          simp only [Bool.and_eq_true, Nat.beq_eq, Nat.ble_eq] at hc
          obtain ⟨⟨⟨⟨hk1, hzl⟩, hone⟩, hm⟩, hby⟩ := hc
          obtain ⟨us, hus, hSrc⟩ := srcA_sound hr hsrc hx hone
          have hnl : news.length = m * inf.size := hus.length.trans hSrc.newsLen
          have hzs : z.cells.size = inf.size := by rw [← hzl, ((ofV_VR (ρ := ρ) z).cells).length]; simp
          have hfit : ∀ {need cap : Nat}, cap < need → need ≤ 2147483648 → Builtin.nextslicecap need cap * inf.bytes ≤ 281474976710656 := fun {need cap} h1 h2 =>
            growslice_fits h1 (by
              have : need * inf.bytes ≤ 2147483648 * 4096 := Nat.mul_le_mul h2 hby
              omega)
          have hnew : ∀ (need cap : Nat), need ≤ grownCap w need cap e := fun need cap => grownCap_ge w need cap e
          have grow : ∀ {base : Option Addr} {len cap : Nat} {olds : List AV} {ovs : List Value}, VRs ρ olds ovs → olds.length = len * inf.size → (Builtin.firstCells inf.size len (.slice base len cap)).run P w.drew = .ok ovs.toArray w.drew →
              cap < len + m → len + m ≤ 2147483648 → ∃ ρ' v w', (Builtin.append_ #[t, tx] ty #[.slice base len cap, xu]).run P w = .ok v w' ∧ VR ρ' (.su n 0 (len + m) 0 (len + m)) v ∧
                HR w0 ρ' (tput H n (.mem e (some inf.size) (olds ++ news))) (n + 1) w' ∧ Ext ρ ρ' H (tput H n (.mem e (some inf.size) (olds ++ news))) n (n + 1) := by
            intro base len cap olds ovs ho hol hold hg hle
            have hrun := run_append_grow_src (P := P) w t tx ty e inf z hu hinf hz base len cap ovs hold xu m us hSrc hg (by omega) (hfit hg hle)
            have hgr := hr.grown (P := P) (e := e) (k := inf.size) (need := len + m) (cap := grownCap w (len + m) cap e) (ho.append hus) hzs (by rw [List.length_append, hol, hnl, Nat.add_mul]) (hnew _ _) (grownCap_le_maxLen w _ cap e (by unfold maxLen; omega))
            exact ⟨_, _, _, hrun, by simpa using VR.su (ρ := ρ.set n (w.heap.size, grownCap w (len + m) cap e)) 0 (len + m) 0 (len + m) (Env.set_same _ _ _) ⟨Nat.le_refl _, by have := hnew (len + m) cap; omega⟩, hgr, Ext.alloc hr _ _⟩
          split at h
          · cases hs
            rw [beq_dec] at h
            by_cases hm0 : m = 0
            · subst hm0
              simp only [decide_true, cond_true, Option.some.injEq, Prod.mk.injEq] at h
              obtain ⟨rfl, rfl, rfl⟩ := h
              refine ⟨ρ, _, w, ?_, .v _, hr, Ext.refl _ _ _⟩
              have hnil : us = [] := List.eq_nil_of_length_eq_zero (by have := hSrc.newsLen; simpa using this)
              have hcl := hSrc.cells
              rw [hnil] at hcl
              rcases hSrc.kind with ⟨e', hk⟩ | hk <;> simp [Builtin.append_, run_underlying hu, run_underlying hk, sizeOf, run_typeInfo hinf, hSrc.len, hcl]
            · simp only [hm0, decide_false, cond_false, Option.some.injEq, Prod.mk.injEq] at h
              obtain ⟨rfl, rfl, rfl⟩ := h
              have := grow (base := none) (len := 0) (cap := 0) (olds := []) VRs.nil (by simp) (by simp [Builtin.firstCells]) (by omega) (by omega)
              simpa using this
          · rename_i i o len c
            split at h
            · rename_i T zz l hB
              cases hc : (Nat.ble len 1073741824 && Nat.ble c 1073741824 && Nat.ble (o + len * inf.size) l.length) with
              | false => simp [hc] at h
              | true =>
                simp only [hc, cond_true] at h
                simp only [Bool.and_eq_true, Nat.ble_eq] at hc
                cases hs with
                | @sl _ b d _ _ _ hi =>
                  cases hroom : Nat.ble (len + m) c with
                  | true =>
                    simp only [hroom, cond_true] at h
                    cases hfits : Nat.ble (o + len * inf.size + news.length) l.length with
                    | false => simp [hfits] at h
                    | true =>
                      simp only [hfits, cond_true, Option.some.injEq, Prod.mk.injEq] at h
                      obtain ⟨rfl, rfl, rfl⟩ := h
                      obtain ⟨ht, hr'⟩ := hr.splice hi hB (Nat.le_of_ble_eq_true hfits) hus
                      have hrun := run_append_room_src (P := P) w t tx ty e inf hu hinf b o len c xu m us hSrc (Nat.le_of_ble_eq_true hroom) (fun j hj => (ht j hj).1) (fun j hj => (ht j hj).2)
                      exact ⟨ρ, _, _, hrun, .sl _ _ _ hi, hr', Ext.write hi _⟩
                  | false =>
                    simp only [hroom, cond_false, Option.some.injEq, Prod.mk.injEq] at h
                    obtain ⟨rfl, rfl, rfl⟩ := h
                    have hlt : c < len + m := by
                      rcases Nat.lt_or_ge c (len + m) with h' | h'
                      · exact h'
                      · rw [Nat.ble_eq_true_of_le h'] at hroom; cases hroom
                    obtain ⟨olds, ho, hold⟩ := Src.firstOlds (P := P) (k := inf.size) hr hi hB hc.2 c
                    exact grow ho (by simp; omega) hold hlt (by omega)
            · cases h
          · rename_i i o len kk q
            split at h
            · rename_i T zz l hB
              cases hq : (Nat.ble (len + m) q && Nat.ble (o + len * inf.size + news.length) l.length) with
              | true =>
                simp only [hq, cond_true, Option.some.injEq, Prod.mk.injEq] at h
                simp only [Bool.and_eq_true, Nat.ble_eq] at hq
                obtain ⟨rfl, rfl, rfl⟩ := h
                cases hs with
                | @su _ b d _ _ _ _ hi hn =>
                  obtain ⟨ht, hr'⟩ := hr.splice hi hB hq.2 hus
                  have hrun := run_append_room_src (P := P) w t tx ty e inf hu hinf b o len (d - kk) xu m us hSrc (by omega) (fun j hj => (ht j hj).1) (fun j hj => (ht j hj).2)
                  exact ⟨ρ, _, _, hrun, .su _ _ _ _ hi ⟨hq.1, hn.2⟩, hr', Ext.write hi _⟩
              | false =>
              simp only [hq, cond_false] at h
              cases hc : (Nat.beq o 0 && Nat.beq kk 0 && Nat.beq T e && Nat.beq zz inf.size && Nat.ble len 1073741824 && Nat.ble (len * inf.size) l.length) with
              | false => simp [hc] at h
              | true =>
                simp only [hc, cond_true, Option.some.injEq, Prod.mk.injEq] at h
                simp only [Bool.and_eq_true, Nat.beq_eq, Nat.ble_eq] at hc
                obtain ⟨⟨⟨⟨⟨rfl, rfl⟩, rfl⟩, rfl⟩, hlen⟩, hle⟩ := hc
                obtain ⟨rfl, rfl, rfl⟩ := h
                cases hs with
                | @su _ b d _ _ _ _ hi hn =>
                  have hin : i < n := by
                    rcases Nat.lt_or_ge i n with h' | h'
                    · exact h'
                    · rw [(hr.top h').1] at hi; cases hi
                  have hdead : HR w0 ρ (tput H i .dead) n w := by
                    obtain ⟨ob, ho, hb⟩ := hr.blk hi hB
                    exact hr.write hi hB rfl ho trivial (Fr.refl _ _)
                  by_cases hroom : len + m ≤ d - 0
                  · obtain ⟨ob, ho, vs, sp, fz, hv, rfl, hz', hs'⟩ := hr.blk hi hB
                    have hvl := hv.length
                    simp only at hs'
                    have hfit' : 0 + len * inf.size + us.length ≤ (vs ++ sp).length := by
                      rw [hs'.1, hSrc.newsLen, Nat.zero_add, ← Nat.add_mul]
                      exact Nat.mul_le_mul_right _ (by omega)
                    have ht := cells_there ho hz' hfit'
                    have hrun := run_append_room_src (P := P) w t tx ty T inf hu hinf b 0 len (d - 0) xu m us hSrc hroom (fun j hj => (ht j hj).1) (fun j hj => (ht j hj).2)
                    have hset := cells_setCells us (0 + len * inf.size) ho hfit'
                    refine ⟨ρ.set n (b, d), _, _, hrun, VR.su 0 _ 0 _ (Env.set_same _ _ _) ⟨Nat.le_refl _, hroom⟩, ?_, ?_⟩
                    · have hle' : ρ.le (ρ.set n (b, d)) := Env.le_set (hr.top (Nat.le_refl _)).1 _
                      have hfr := fr_setCells (b := b) us w (0 + len * inf.size)
                      have hd2 : HR w0 ρ (tput H i .dead) n (w.setCells b (0 + len * inf.size) us) := by
                        have := hr.write (B' := .dead) hi hB rfl hset trivial hfr
                        exact this
                      have hp := hd2.put (.mem T (some inf.size) (l.take (len * inf.size) ++ news))
                      refine ⟨fun {j b' d' C} h1 h2 => ?_, fun {j k b' d' e' C D} h1 h2 h3 h4 h5 h6 => ?_, fun {j} hj => ?_, fun {j b' d'} h1 => ?_, hp.fr, Env.le_trans hp.le hle'⟩
                      · unfold Env.set at h1
                        split at h1
                        · rename_i ej
                          subst ej
                          cases h1
                          rw [get_tput, if_pos rfl] at h2
                          cases h2
                          refine ⟨_, hset, vs.take (len * inf.size) ++ us, (vs ++ sp).drop (len * inf.size + us.length), fz, ?_, ?_, ?_, ?_⟩
                          · exact ((hv.take _).append hus).mono hle'
                          · simp only [Nat.zero_add]
                            rw [List.take_append_of_le_length (by omega)]
                          · have : (vs.take (len * inf.size) ++ us ++ (vs ++ sp).drop (len * inf.size + us.length)).length = (vs ++ sp).length := by
                              simp at hfit' ⊢; omega
                            rw [this]; exact hz'
                          · have : (vs.take (len * inf.size) ++ us ++ (vs ++ sp).drop (len * inf.size + us.length)).length = (vs ++ sp).length := by
                              simp at hfit' ⊢; omega
                            simp only [this]; exact hs'
                        · obtain ⟨o', h3, h4⟩ := hp.blk h1 h2
                          exact ⟨o', h3, h4.mono hle'⟩
                      · have aux : ∀ {j b' d' : Nat} {C : AB}, ρ j = some (b, d') → (tput (tput H i .dead) n (.mem T (some inf.size) (l.take (len * inf.size) ++ news))).get j = some C → C.live = true → j ≠ n → False := by
                          intro j b' d' C q1 q2 q3 q4
                          rw [get_tput, if_neg q4, get_tput] at q2
                          split at q2
                          · cases q2; cases q3
                          · rename_i hji
                            exact hji (hr.inj q1 hi q2 hB q3 rfl)
                        unfold Env.set at h1 h2
                        split at h1 <;> split at h2
                        · rename_i e1 e2; rw [e1, e2]
                        · rename_i e1 e2; cases h1; exact (aux (b' := 0) h2 h4 h6 e2).elim
                        · rename_i e1 e2; cases h2; exact (aux (b' := 0) h1 h3 h5 e1).elim
                        · exact hp.inj h1 h2 h3 h4 h5 h6
                      · have := hp.top hj
                        refine ⟨?_, this.2⟩
                        unfold Env.set
                        rw [if_neg (by omega)]
                        exact this.1
                      · unfold Env.set at h1
                        split at h1
                        · cases h1; exact hd2.base hi
                        · exact hp.base h1
                    · exact ⟨Env.le_set (hr.top (Nat.le_refl _)).1 _, fun {j} hj => by unfold Env.set; rw [if_neg (by omega)], fun {j} hj hn => by
                        rw [get_tput, if_neg (by omega), get_tput, if_neg (fun ej => by subst ej; rw [hi] at hn; cases hn)], Nat.le_succ _⟩
                  · obtain ⟨olds, ho, hold⟩ := Src.firstOlds (P := P) (k := inf.size) (o := 0) (len := len) hr hi hB (by omega) (d - 0)
                    obtain ⟨ρ', v, w', g1, g2, g3, g4⟩ := grow ho (by simp; omega) hold (by omega) (by omega)
                    have hl0 : l.drop 0 = l := List.drop_zero
                    rw [hl0] at g3 g4
                    refine ⟨ρ', v, w', g1, g2, ?_, ?_⟩
                    · have hi' := g4.le _ _ hi
                      have hB' : (tput H n (.mem T (some inf.size) (l.take (len * inf.size) ++ news))).get i = some (.mem T (some inf.size) l) := by
                        rw [get_tput, if_neg (by omega)]; exact hB
                      obtain ⟨ob, hob, hbr⟩ := g3.blk hi' hB'
                      have hw := g3.write (B' := .dead) hi' hB' rfl hob trivial (Fr.refl _ _)
                      have hcomm : ∀ j, (tput (tput H i .dead) n (.mem T (some inf.size) (l.take (len * inf.size) ++ news))).get j = (tput (tput H n (.mem T (some inf.size) (l.take (len * inf.size) ++ news))) i .dead).get j := by
                        intro j
                        simp only [get_tput]
                        by_cases e1 : j = n
                        · have e3 : ¬ j = i := by omega
                          simp [e1, show ¬ n = i by omega]
                        · by_cases e2 : j = i
                          · subst e2; simp [e1]
                          · simp [e1, e2]
                      exact ⟨fun q1 q2 => hw.blk q1 (by rwa [hcomm] at q2), fun q1 q2 q3 q4 => hw.inj q1 q2 (by rwa [hcomm] at q3) (by rwa [hcomm] at q4), fun q => by rw [hcomm]; exact hw.top q, hw.base, hw.fr, hw.le⟩
                    · exact ⟨g4.le, g4.old, fun {j} hj hn => by
                        rw [get_tput, if_neg (by omega), get_tput, if_neg (fun ej => by subst ej; rw [hi] at hn; cases hn)], g4.nn⟩
            · cases h
          · cases h
    · cases h
  · cases h

end Go.Proofs.Ytnkjhicokcmmpaa.Ev
