/-
  Texts of this claim, laid together: Ei, Ej, Ek, El, Em, En, Eo, Ep, Eq, Er, Es, Ev, Db, Ha, Gh, Gj, Gk, Gi, Gl.
-/
import Derived.Test.YtnkjhicokcmmpaaQe
import Derived.RangeFuncRecord
import Derived.Test.YtnkjhicokcmmpaaQa
import Derived.Test.YtnkjhicokcmmpaaQd

/-
  The small machine: its frames, its regions (those that draw their order, too), its steps.
-/
namespace Go.Proofs.Ytnkjhicokcmmpaa.Ev
open Go Go.RowKit
def vsame : Value → Value → Bool
  | .bool a, .bool b => cond a b (!b)
  | .int k n, .int j m => decide (k = j) && decide (n = m)
  | .string a, .string b => decide (a.data.toList = b.data.toList)
  | .pointer none, .pointer none => true
  | .slice none a b, .slice none c d => Nat.beq a c && Nat.beq b d
  | .map none, .map none => true
  | .nilFunc, .nilFunc => true
  | .nilIface, .nilIface => true
  | _, _ => false
mutual
def sameA : AV → AV → Bool
  | .v x, .v y => vsame x y
  | .ptr i o, .ptr j q => Nat.beq i j && Nat.beq o q
  | .sl i o n c, .sl j q m d => Nat.beq i j && Nat.beq o q && Nat.beq n m && Nat.beq c d
  | .su i o n c e, .su j q m d f => Nat.beq i j && Nat.beq o q && Nat.beq n m && Nat.beq c d && Nat.beq e f
  | .se, .se => true
  | .s0, .s0 => true
  | .mp i, .mp j => Nat.beq i j
  | .agg l, .agg m => sameAs l m
  | .tup l, .tup m => sameAs l m
  | .fn f l m, .fn g l' m' => decide (f = g) && sameAs l l' && sameAs m m'
  | .yl i, .yl j => Nat.beq i j
  | .ifc t x, .ifc u y => Nat.beq t u && sameA x y
  | _, _ => false
def sameAs : List AV → List AV → Bool
  | [], [] => true
  | x :: l, y :: m => sameA x y && sameAs l m
  | _, _ => false
end
inductive AItem where
  | code (c : Code)
  | inBlock (id : Nat)
  | inLoop (body : Code)
  | inScope (body : Code)
  | inRF (i : Nat)
  | endRF (i : Nat)
  | beginRound
inductive ARg where
  | no
  | pl (ops : Array Oper) (l : List Oper)
  | dr (ops : Array Oper) (D : Nat) (X : Tr AV) (T0 : Tr AV) (lds : List (Nat × TypeId × AV × AV)) (cur : Option Nat)
structure AFr where
  fn : FuncId
  nt : Nat
  T : Tr AV
  rg : ARg
  todo : List AItem
  ds : List Nat
  ret : Bool
  round : Option Nat
  lo : Nat
structure ASt where
  fr : AFr
  cs : List AFr
  H : Tr AB
  n : Nat
def putT (nt : Nat) (T : Tr AV) (d : Option Tmp) (x : AV) : Tr AV :=
  match d with
  | some d => cond (Nat.blt d nt) (tput T d x) T
  | none => T
def wantedA (T : Tr AV) (dstOf : Nat → Option Tmp) (o : Oper) : Bool :=
  match o.guard with
  | none => true
  | some (j, want) => match dstOf j with
    | some d => match At T d with
      | .v (.bool b) => cond b want (!want)
      | _ => false
    | none => false
def dstIn (l : List Oper) (j : Nat) : Option Tmp := match l[j]? with | some o => o.dst | none => none
/-! Regions that draw their order. -/
def predMask (o : Oper) : Nat := o.after.toList.foldl (fun m e => cond (Region.binds .any e) (m ||| 2 ^ e.on) m) 0
def ancOf (an : Tr Nat) (o : Oper) : Nat := o.after.toList.foldl (fun m e => cond (Region.binds .any e) (m ||| (2 ^ e.on ||| (match an.get e.on with | some k => k | none => 0))) m) 0
def ancL : List Oper → Nat → Tr Nat → Tr Nat
  | [], _, an => an
  | o :: l, y, an => ancL l (y + 1) (tput an y (ancOf an o))
def writersL : List Oper → Nat → Tr Nat → Option (Tr Nat)
  | [], _, W => some W
  | o :: l, y, W => match o.dst with
    | none => writersL l (y + 1) W
    | some d => match W.get d with
      | some _ => none
      | none => writersL l (y + 1) (tput W d y)
def edgesBelow (o : Oper) (y : Nat) : Bool := o.after.toList.all fun e => cond (Region.binds .any e) (Nat.blt e.on y) true
def slotsOf (o : Oper) : List Tmp := o.op.operands.toList.filterMap fun | .tmp t => some t | _ => none
def guardSlot (dstOf : Nat → Option Tmp) (o : Oper) : List Tmp := match o.guard with | some (g, _) => (match dstOf g with | some d => [d] | none => []) | none => []
def anBit (an : Tr Nat) (y i : Nat) : Bool := Nat.testBit (match an.get y with | some k => k | none => 0) i
def slotOk (an W : Tr Nat) (y : Nat) (s : Tmp) : Bool :=
  match W.get s with
  | none => true
  | some i => Nat.beq i y || anBit an y i || anBit an i y
def plainOp (o : Oper) : Bool := match o.op with | .defer _ => false | .select .. => false | .go _ => false | _ => true
def scL (all : List Oper) (an W : Tr Nat) : List Oper → Nat → Bool
  | [], _ => true
  | o :: l, y => edgesBelow o y && plainOp o && ((slotsOf o).all (slotOk an W y)) && ((guardSlot (dstIn all) o).all (slotOk an W y)) && scL all an W l (y + 1)
def scOk (l : List Oper) : Bool :=
  match writersL l 0 .e with
  | some W => scL l (ancL l 0 .e) W l 0
  | none => false
def readyL (D : Nat) : List Oper → Nat → List (Nat × Oper)
  | [], _ => []
  | o :: l, y => cond (Nat.testBit D y) (readyL D l (y + 1)) (let m := predMask o; cond (Nat.beq (m &&& D) m) ((y, o) :: readyL D l (y + 1)) (readyL D l (y + 1)))
def rdOf (T : Tr AV) (o : Oper) : Option (TypeId × AV) :=
  match o.op with
  | .load t a => match aev T a with
    | .ptr i k => some (t, .ptr i k)
    | _ => none
  | .convert s d x => cond (Nat.blt d 65536) (some (s * 65536 + d, .tup [aev T x])) none
  | .lookup t m k ok => some (t * 2 + cond ok 1 0, .agg [aev T m, aev T k])
  | _ => none
def readA (P : Program) (t : TypeId) (p : AV) (H : Tr AB) : Option AV :=
  match p with
  | .ptr i k => loadA P t (.ptr i k) H
  | .tup [x] => strA P (t / 65536) (t % 65536) x H
  | .agg [m, k] => lookupA P (t / 2) m k (Nat.beq (t % 2) 1) H
  | _ => none
theorem rd_div (s d : Nat) (h : d < 65536) : (s * 65536 + d) / 65536 = s := by omega
theorem rd_mod (s d : Nat) (h : d < 65536) : (s * 65536 + d) % 65536 = d := by omega
theorem rd_two (s : Nat) (b : Bool) : (s * 2 + cond b 1 0) / 2 = s := by cases b <;> simp only [cond_true, cond_false] <;> omega
theorem rd_ok (s : Nat) (b : Bool) : Nat.beq ((s * 2 + cond b 1 0) % 2) 1 = b := by
  cases b
  · have : (s * 2 + 0) % 2 = 0 := by omega
    simp only [cond_false, this]; rfl
  · have : (s * 2 + 1) % 2 = 1 := by omega
    simp only [cond_true, this]; rfl
theorem readA_sound {P : Program} {w0 : Bs} {w : World} {ρ : Env} {H : Tr AB} {n : Nat} {T : Tr AV} {o : Oper} {t : TypeId} {p x : AV} {ev : Operand → Value} (hr : HR w0 ρ H n w) (h : rdOf T o = some (t, p)) (hx : readA P t p H = some x) (hev : ∀ y ∈ o.op.operands, VR ρ (aev T y) (ev y)) :
    ∃ v, VR ρ x v ∧ (execOp ev o).run P w = .ok (.value v) w := by
  obtain ⟨dst, op, type, pos, after, guard⟩ := o
  unfold rdOf at h
  split at h
  · rename_i t' a hop
    simp only at hop
    subst hop
    split at h
    · rename_i i k ha
      cases h
      obtain ⟨v, hv, hrun⟩ := loadA_sound hr (show loadA P t (.ptr i k) H = some x from hx) (by rw [← ha]; exact hev a (by simp [Op.operands]))
      exact ⟨v, hv, by unfold execOp; simp only [Sem.run_bind, hrun, Result.andThen_ok, Sem.run_pure]⟩
    · cases h
  · rename_i s d y hop
    simp only at hop
    subst hop
    cases hd : Nat.blt d 65536 with
    | false => rw [hd] at h; cases h
    | true =>
      rw [hd] at h
      cases h
      have hd' : d < 65536 := by simpa [Nat.blt_eq] using hd
      have e1 : (s * 65536 + d) / 65536 = s := rd_div s d hd'
      have e2 : (s * 65536 + d) % 65536 = d := rd_mod s d hd'
      have hx' : strA P ((s * 65536 + d) / 65536) ((s * 65536 + d) % 65536) (aev T y) H = some x := hx
      rw [e1, e2] at hx'
      obtain ⟨v, hv, hrun⟩ := strA_sound hr hx' (hev y (by simp [Op.operands]))
      exact ⟨v, hv, by unfold execOp; simp [hrun]⟩
  · rename_i t' m k ok hop
    simp only at hop
    subst hop
    cases h
    have hx' : lookupA P ((t' * 2 + cond ok 1 0) / 2) (aev T m) (aev T k) (Nat.beq ((t' * 2 + cond ok 1 0) % 2) 1) H = some x := hx
    have e1 : (t' * 2 + cond ok 1 0) / 2 = t' := rd_two t' ok
    have e2 : Nat.beq ((t' * 2 + cond ok 1 0) % 2) 1 = ok := rd_ok t' ok
    rw [e1, e2] at hx'
    obtain ⟨v, hv, hrun⟩ := lookupA_sound hr hx' (hev m (by simp [Op.operands])) (hev k (by simp [Op.operands]))
    exact ⟨v, hv, by unfold execOp; simp [hrun]⟩
  · cases h
theorem readA_of {P : Program} {H H' : Tr AB} {t : TypeId} {p x : AV} (h : ∀ i T z l, H.get i = some (.mem T z l) → H'.get i = some (.mem T z l)) (hm : ∀ i l c, H.get i = some (.map l c) → H'.get i = some (.map l c)) (hl : readA P t p H = some x) : readA P t p H' = some x := by
  have ld : ∀ i k, loadA P t (.ptr i k) H = some x → loadA P t (.ptr i k) H' = some x := by
    intro i k hq
    simp only [loadA] at hq ⊢
    cases hB : H.get i with
    | none => rw [hB] at hq; cases hq
    | some B =>
      rw [hB] at hq
      cases B with
      | mem T z l => rw [h _ _ _ _ hB]; exact hq
      | _ => cases hq
  have st : ∀ s d y, strA P s d y H = some x → strA P s d y H' = some x := by
    intro s d y hq
    have tk : ∀ n l, takeU n y H = some l → takeU n y H' = some l := by
      intro n l ht
      unfold takeU at ht ⊢
      split at ht
      · split at ht
        · rename_i hB; rw [h _ _ _ _ hB]; exact ht
        · cases ht
      · split at ht
        · rename_i hB; rw [h _ _ _ _ hB]; exact ht
        · cases ht
      · exact ht
    unfold strA at hq ⊢
    split at hq
    · split at hq
      · rename_i he ht
        simp only [he, tk _ _ ht]
        exact hq
      · cases hq
    · cases hq
  have lk : ∀ t m k ok, lookupA P t m k ok H = some x → lookupA P t m k ok H' = some x := by
    intro t m k ok hq
    have en : ∀ l, entsA m H = some l → entsA m H' = some l := by
      intro l ht
      unfold entsA at ht ⊢
      split at ht
      · exact ht
      · split at ht
        · rename_i hB; rw [hm _ _ _ hB]; exact ht
        · cases ht
      · cases ht
    unfold lookupA at hq ⊢
    split at hq
    · rename_i h1 h2 h3
      simp only [h1, h2, en _ h3]
      exact hq
    · cases hq
  unfold readA at hl ⊢
  split at hl
  · exact ld _ _ hl
  · exact st _ _ _ hl
  · exact lk _ _ _ _ hl
  · cases hl
def eagerA (P : Program) (T : Tr AV) (all : List Oper) (o : Oper) (H : Tr AB) (n : Nat) : Option (AV × Tr AB × Nat × Option (TypeId × AV × AV)) :=
  cond (wantedA T (dstIn all) o)
    (match aopP P T o with
     | some x => some (x, H, n, none)
     | none => match rdOf T o with
       | some (t, p) => match readA P t p H with
         | some x => some (x, H, n, some (t, p, x))
         | none => none
       | none => match aopN P T o with
         | some (e, l, k) => some (k.av n, tput H n (.mem e none l), n + 1, none)
         | none => none)
    (some (.v undef, H, n, none))
def firstEager (P : Program) (T : Tr AV) (all : List Oper) (H : Tr AB) (n : Nat) : List (Nat × Oper) → Option (Nat × Oper × AV × Tr AB × Nat × Option (TypeId × AV × AV))
  | [] => none
  | (y, o) :: r => match eagerA P T all o H n with
    | some (x, H', n', l) => some (y, o, x, H', n', l)
    | none => firstEager P T all H n r
def ldsOk (P : Program) (H : Tr AB) (l : List (Nat × TypeId × AV × AV)) : Bool :=
  l.all fun p => match readA P p.2.1 p.2.2.1 H with | some x => sameA x p.2.2.2 | none => false
def ldsFor (all : List Oper) (y : Nat) (l : List (Nat × TypeId × AV × AV)) : List (Nat × TypeId × AV × AV) :=
  l.filter fun p => !(anBit (ancL all 0 .e) y p.1)
def addLd (y : Nat) (q : Option (TypeId × AV × AV)) (l : List (Nat × TypeId × AV × AV)) : List (Nat × TypeId × AV × AV) :=
  match q with
  | some p => (y, p) :: l
  | none => l
def finishA (P : Program) (H : Tr AB) (c : AFr) (x : AV) : Option AFr :=
  match c.rg with
  | .pl ops (o :: r) => some { c with T := putT c.nt c.T o.dst x, rg := .pl ops r }
  | .dr ops D X T0 lds (some y) =>
    match ops.toList[y]? with
    | some o => cond (ldsOk P H lds) (some { c with T := putT c.nt c.T o.dst x, rg := .dr ops (D ||| 2 ^ y) (tput X y x) T0 lds none }) none
    | none => none
  | .no => match c.todo with
    | .inRF i :: k => some { c with todo := .endRF i :: k }
    | _ => none
  | _ => none
def aexit (id : Nat) : List AItem → Option (List AItem)
  | .inBlock j :: k => cond (Nat.beq j id) (some k) (aexit id k)
  | _ :: k => aexit id k
  | [] => none
def methodA (P : Program) (t : TypeId) (name : String) : Option FuncId :=
  match P.info? t with
  | some inf => match inf.methods.find? (·.name == name) with
    | some m => match m.path.toList, m.func, P.underlying t with
      | [], some (f, true), some (.pointer _) => some f
      | [], some (_, false), some (.pointer _) => none
      | [], some (f, false), some _ => some f
      | _, _, _ => none
    | none => none
  | none => none
inductive Callee' where
  | fn (f : FuncId) (args : List AV)
  | yl (i : Nat) (args : List AV)
def calleeOf (P : Program) (f : AV) (args : List AV) : Option Callee' :=
  match f with
  | .fn (.func g) first cap => some (.fn g (first ++ args ++ cap))
  | .yl i => some (.yl i args)
  | _ => none
def callOf (P : Program) (T : Tr AV) (o : Oper) : Option Callee' :=
  match o.op with
  | .call ⟨.value f, args, _⟩ => calleeOf P (aev T f) (args.toList.map (aev T))
  | .call ⟨.invoke r name, args, _⟩ => match aev T r with
    | .ifc t x => match methodA P t name with
      | some g => some (.fn g (x :: args.toList.map (aev T)))
      | none => none
    | _ => none
  | _ => none
def argsT : List AV → Nat → Tr AV → Tr AV
  | [], _, T => T
  | x :: l, s, T => argsT l (s + 1) (tput T s x)
def putParams (nt : Nat) : List Tmp → List AV → Tr AV → Tr AV
  | p :: ps, x :: xs, T => putParams nt ps xs (putT nt T (some p) x)
  | _, _, T => T
def enterA (FT : FuncId → Option Func) (fr : AFr) (s : ASt) (c : Callee') : Option ASt :=
  match c with
  | .fn f args => match FT f with
    | some fn => match fn.body with
      | some b => some { s with fr := { fn := f, nt := cond (Nat.ble fn.ntmps args.length) args.length fn.ntmps, T := argsT args 0 .e, rg := .no, todo := [.code b], ds := [], ret := false, round := none, lo := s.n }, cs := fr :: s.cs }
      | none => none
    | none => none
  | .yl i args => match s.H.get i with
    | some (.loop _ _ fn nt T ps asg bd _) =>
      cond (Nat.beq args.length ps.length)
        (some { s with fr := { fn := fn, nt := nt, T := putParams nt ps args T, rg := .no, todo := [.code asg, .beginRound, .code bd], ds := [], ret := false, round := some i, lo := s.n }, cs := fr :: s.cs }) none
    | _ => none
def backA (P : Program) (s : ASt) (x : AV) : Option ASt :=
  match s.cs with
  | c :: cs => match finishA P s.H c x with
    | some c' => some { s with fr := c', cs := cs }
    | none => none
  | [] => none
def stOf : Option Code → LoopState
  | none => .ready
  | some _ => .done
def goesOn : Option Code → Bool
  | none => true
  | some _ => false
def leaveA (P : Program) (s : ASt) (jump : Option Code) : Option ASt :=
  match s.fr.round with
  | none => match jump with
    | none => some { s with fr := { s.fr with ret := true } }
    | some .ret => some { s with fr := { s.fr with ret := true } }
    | _ => none
  | some l => match s.H.get l with
    | some (.loop _ _ fn nt T ps asg bd d) =>
      backA P { s with H := tput s.H l (.loop (stOf jump) jump fn nt T ps asg bd d) } (.v (.bool (goesOn jump)))
    | _ => none
def resA (P : Program) (T : Tr AV) (H : Tr AB) : List ResultVar → Option (List AV)
  | [] => some []
  | .tmp t :: l => match resA P T H l with | some r => some (At T t :: r) | none => none
  | .cell a t :: l => match At T a with
    | .ptr i o => match loadA P t (.ptr i o) H, resA P T H l with
      | some x, some r => some (x :: r)
      | _, _ => none
    | _ => none
def tupA : List AV → AV
  | [x] => x
  | l => .tup l
abbrev Hook := FuncId → List AV → Tr AB → Nat → Option (AV × Tr AB × Nat)
def hooked (HK : Hook) (P : Program) (T : Tr AV) (o : Oper) (H : Tr AB) (n : Nat) : Option (AV × Tr AB × Nat) :=
  match callOf P T o with
  | some (.fn f args) => HK f args H n
  | _ => none
def nowA (HK : Hook) (P : Program) (T : Tr AV) (o : Oper) (H : Tr AB) (n : Nat) : Option (AV × Tr AB × Nat) :=
  match aopW P T o H n with
  | some r => some r
  | none => hooked HK P T o H n
def stepPl (HK : Hook) (P : Program) (FT : FuncId → Option Func) (s : ASt) (ops : Array Oper) (o : Oper) (r : List Oper) : Option ASt :=
  let fr := s.fr
  let done (x : AV) (H : Tr AB) (n : Nat) : Option ASt := some { s with fr := { fr with T := putT fr.nt fr.T o.dst x, rg := .pl ops r }, H := H, n := n }
  cond (plainOp o) (cond (wantedA fr.T (dstIn ops.toList) o)
    (match aopP P fr.T o with
     | some x => done x s.H s.n
     | none => match o.op with
       | .load t a => match loadA P t (aev fr.T a) s.H with
         | some x => done x s.H s.n
         | none => none
       | _ => match aopN P fr.T o with
         | some (e, l, k) => done (k.av s.n) (tput s.H s.n (.mem e none l)) (s.n + 1)
         | none => match nowA HK P fr.T o s.H s.n with
           | some (x, H, n) => done x H n
           | none => match callOf P fr.T o with
             | some c => enterA FT fr s c
             | none => none)
    (done (.v undef) s.H s.n)) none
def stepDr (HK : Hook) (P : Program) (FT : FuncId → Option Func) (s : ASt) (ops : Array Oper) (D : Nat) (X T0 : Tr AV) (lds : List (Nat × TypeId × AV × AV)) : Option ASt :=
  let fr := s.fr
  let all := ops.toList
  match readyL D all 0 with
  | [] => some { s with fr := { fr with rg := .no } }
  | rs => match firstEager P fr.T all s.H s.n rs with
    | some (y, o, x, H, n, l) => some { s with fr := { fr with T := putT fr.nt fr.T o.dst x, rg := .dr ops (D ||| 2 ^ y) (tput X y x) T0 (addLd y l lds) none }, H := H, n := n }
    | none => match rs with
      | [(y, o)] => match nowA HK P fr.T o s.H s.n with
        | some (x, H, n) => cond (ldsOk P H (ldsFor all y lds)) (some { s with fr := { fr with T := putT fr.nt fr.T o.dst x, rg := .dr ops (D ||| 2 ^ y) (tput X y x) T0 (ldsFor all y lds) none }, H := H, n := n }) none
        | none => match callOf P fr.T o with
          | some c => enterA FT { fr with rg := .dr ops D X T0 (ldsFor all y lds) (some y) } s c
          | none => none
      | _ => none
def loopHome (s : ASt) : Option (Nat × Tr AB × Nat × List Nat) :=
  match s.fr.round with
  | none => some (s.n, tput s.H s.n (.dfd true), s.n + 1, s.n :: s.fr.ds)
  | some l => match s.H.get l with
    | some (.loop _ _ _ _ _ _ _ _ d) => some (d, s.H, s.n, s.fr.ds)
    | _ => none
def stepCode (P : Program) (FT : FuncId → Option Func) (s : ASt) (c : Code) (k : List AItem) : Option ASt :=
  let fr := s.fr
  let tto (l : List AItem) : Option ASt := some { s with fr := { fr with todo := l } }
  match c with
  | .ret => leaveA P s (some .ret)
  | .skip => tto k
  | .label _ => tto k
  | .seq a b => tto (.code a :: .code b :: k)
  | .cond x a b => match aev fr.T x with
    | .v (.bool t) => tto (.code (cond t a b) :: k)
    | _ => none
  | .block id body => tto (.code body :: .inBlock id :: k)
  | .loop body => tto (.code body :: .inLoop body :: k)
  | .scope body => tto (.code body :: .inScope body :: k)
  | .exit id => match aexit id k with
    | some l => tto l
    | none => leaveA P s (some (.exit id))
  | .goto _ => none
  | .refuse _ => none
  | .region _ ops draw => cond draw
      (cond (scOk ops.toList) (some { s with fr := { fr with todo := k, rg := .dr ops 0 .e fr.T [] none } }) none)
      (some { s with fr := { fr with todo := k, rg := .pl ops ops.toList } })
  | .rangeFunc f ps asg bd =>
    match loopHome s with
    | some (d, H, n, ds) =>
      match calleeOf P (aev fr.T f) [.yl n] with
      | some c => enterA FT { fr with todo := .inRF n :: k, ds := ds } { s with H := tput H n (.loop .ready none fr.fn fr.nt fr.T ps.toList asg bd d), n := n + 1 } c
      | none => none
    | none => none
def stepRet (P : Program) (FT : FuncId → Option Func) (s : ASt) : Option ASt :=
  match s.fr.ds with
  | d :: ds => match s.H.get d with
    | some (.dfd true) => some { s with fr := { s.fr with ds := ds }, H := tput s.H d (.dfd false) }
    | _ => none
  | [] => match s.fr.rg with
    | .dr .. => none
    | _ => match FT s.fr.fn with
      | some fn => match resA P s.fr.T s.H fn.results.toList with
        | some l => backA P s (tupA l)
        | none => none
      | none => none
def pendItems : Option Code → List AItem
  | some c => [.code c]
  | none => []
def endA (s : ASt) (i : Nat) (k : List AItem) : Option ASt :=
  match s.H.get i with
  | some (.loop st pd fn nt T ps asg bd d) => match st with
    | .busy => none
    | _ => some { s with fr := { s.fr with todo := pendItems pd ++ k }, H := tput s.H i (.loop .exhausted pd fn nt T ps asg bd d) }
  | _ => none
def beginA (s : ASt) (i : Nat) (k : List AItem) : Option ASt :=
  match s.H.get i with
  | some (.loop .ready pd fn nt T ps asg bd d) => some { s with fr := { s.fr with todo := k }, H := tput s.H i (.loop .busy pd fn nt T ps asg bd d) }
  | _ => none
def stepPlEnd (s : ASt) : Option ASt := some { s with fr := { s.fr with rg := .no } }
def stepItem (P : Program) (FT : FuncId → Option Func) (s : ASt) : Option ASt :=
  match s.fr.todo with
  | [] => leaveA P s none
  | .code c :: k => stepCode P FT s c k
  | .inBlock _ :: k => some { s with fr := { s.fr with todo := k } }
  | .inScope _ :: k => some { s with fr := { s.fr with todo := k } }
  | .inLoop body :: k => some { s with fr := { s.fr with todo := .code body :: .inLoop body :: k } }
  | .inRF _ :: _ => none
  | .endRF i :: k => endA s i k
  | .beginRound :: k => match s.fr.round with
    | some i => beginA s i k
    | none => none
def stepE (HK : Hook) (P : Program) (FT : FuncId → Option Func) (s : ASt) : Option ASt :=
  cond s.fr.ret (stepRet P FT s)
    (match s.fr.rg with
     | .pl ops (o :: r) => stepPl HK P FT s ops o r
     | .pl _ [] => stepPlEnd s
     | .dr ops D X T0 lds none => stepDr HK P FT s ops D X T0 lds
     | .dr _ _ _ _ _ (some _) => none
     | .no => stepItem P FT s)
def runE (HK : Hook) (P : Program) (FT : FuncId → Option Func) : Nat → ASt → ASt
  | 0, s => s
  | k + 1, s => match stepE HK P FT s with
    | some s' => runE HK P FT k s'
    | none => s
def startE (FT : FuncId → Option Func) (f : FuncId) : Option ASt :=
  match FT f with
  | some fn => match fn.body with
    | some b => some { fr := { fn := f, nt := fn.ntmps, T := .e, rg := .no, todo := [.code b], ds := [], ret := false, round := none, lo := 0 }, cs := [], H := .e, n := 0 }
    | none => none
  | none => none
def finalE (P : Program) (FT : FuncId → Option Func) (f : FuncId) (s : ASt) : Option AV :=
  match s.cs, s.fr.ret, s.fr.ds, s.fr.rg, FT s.fr.fn with
  | [], true, [], .no, some fn => cond (Nat.beq s.fr.fn f) (match resA P s.fr.T s.H fn.results.toList with
    | some l => some (tupA l)
    | none => none) none
  | _, _, _, _, _ => none
end Go.Proofs.Ytnkjhicokcmmpaa.Ev

/-
  What it means that the small machine's frames stand for the model's; the model's steps, one by one.
-/
namespace Go.Proofs.Ytnkjhicokcmmpaa.Ev
open Go Go.RowKit
/-! The model's steps. -/
section steps
variable {P : Program} {fr : Frame} {cs : List Frame} {w w' : World} {ops : Array Oper} {i : Nat} {rest : List Nat} {k : List Item} {o : Oper}
theorem plainOp_spec (h : plainOp o = true) : (∀ c, o.op ≠ .defer c) ∧ (∀ a b, o.op ≠ .select a b) := by
  unfold plainOp at h
  constructor
  · intro c e; rw [e] at h; cases h
  · intro a b e; rw [e] at h; cases h
theorem stepG_oper (ht : fr.todo = .inRegion ops (i :: rest) :: k) (hm : fr.mode = .run) (ho : ops[i]? = some o) (hw : Region.wanted o (yielded ops fr.tmps) = true) (hp : plainOp o = true) :
    stepG P true { frame := fr, callers := cs, status := .running, dying := none } w = stepG.apply P true fr cs none (execOp fr.eval o) w := by
  have hd := (plainOp_spec hp).1
  obtain ⟨fn, tmps, todo, defers, mode, kind, ro⟩ := fr
  simp only at ht hm hw
  subst ht hm
  cases ro with
  | none => simp [stepG, stepG.exec, stepG.oper, Frame.oper?, ho, hw]
  | some l =>
    have : ∀ {α : Type} (f : Call → α) (g : α), (match o.op with | .defer c => f c | _ => g) = g := by
      intro α f g
      split
      · rename_i c e; exact absurd e (hd c)
      · rfl
    simp only [stepG, stepG.exec, ho, Option.map_some, Option.getD_some, hw, if_true, stepG.oper, Frame.oper?]
    split
    · rename_i _ c _ e; exact absurd e (hd c)
    · rfl
theorem step_value {s : Sem Next} {v : Value} (hg : stepG P true { frame := fr, callers := cs, status := .running, dying := none } w = stepG.apply P true fr cs none s w) (hr : s.run P w = .ok (.value v) w') :
    step P (lone fr cs w) = .next (lone (fr.finish v) cs w') := step_lone_go (by rw [hg]; simp [stepG.apply, hr])
theorem step_skip' {s : Sem Next} (hg : stepG P true { frame := fr, callers := cs, status := .running, dying := none } w = stepG.apply P true fr cs none s w) (hr : s.run P w = .ok .skip w') :
    step P (lone fr cs w) = .next (lone (fr.finish undef) cs w') := step_lone_go (by rw [hg]; simp [stepG.apply, hr])
theorem step_enter {s : Sem Next} {f : FuncId} {args : Array Value} (hc : ∀ d x y z r, fr.todo ≠ .call d x y z :: r) (hg : stepG P true { frame := fr, callers := cs, status := .running, dying := none } w = stepG.apply P true fr cs none s w) (hr : s.run P w = .ok (.enter f args) w') :
    step P (lone fr cs w) = .next (lone (Frame.enter P f args .normal) (fr :: cs) w') := step_lone_go (by
      rw [hg]
      have : (match fr.todo with | .call _ true _ _ :: _ => CallKind.wrapped | _ => .normal) = .normal := by
        split
        · rename_i e; exact absurd e (hc _ _ _ _ _)
        · rfl
      simp [stepG.apply, hr]
      exact congrArg (Frame.enter P f args) this)
theorem step_unwanted (ht : fr.todo = .inRegion ops (i :: rest) :: k) (hm : fr.mode = .run) (hw : ((ops[i]?).map (Region.wanted · (yielded ops fr.tmps))).getD false = false) :
    step P (lone fr cs w) = .next (lone (fr.finish undef) cs w) := by
  obtain ⟨fn, tmps, todo, defers, mode, kind, ro⟩ := fr
  simp only at ht hm hw
  subst ht hm
  exact step_lone_go (by simp [stepG, stepG.exec, hw])
theorem step_todo {fr' : Frame} (hm : fr.mode = .run) (h : stepG.exec P true true fr cs none w = .go { frame := fr', callers := cs, status := .running, dying := none } w') : step P (lone fr cs w) = .next (lone fr' cs w') := by
  obtain ⟨fn, tmps, todo, defers, mode, kind, ro⟩ := fr
  simp only at hm
  subst hm
  exact step_lone_go (by simp [stepG, h])
end steps
/-! Frames. -/
inductive IR (ρ : Env) : AItem → Item → Prop
  | code (c : Code) : IR ρ (.code c) (.code c)
  | inBlock (id : Nat) : IR ρ (.inBlock id) (.inBlock id)
  | inLoop (c : Code) : IR ρ (.inLoop c) (.inLoop c)
  | inScope (c : Code) : IR ρ (.inScope c) (.inScope c)
  | inRF {i b c : Nat} (h : ρ i = some (b, c)) : IR ρ (.inRF i) (.inRangeFunc b)
  | endRF {i b c : Nat} (h : ρ i = some (b, c)) : IR ρ (.endRF i) (.endRangeFunc b)
  | beginRound : IR ρ .beginRound .beginRound
inductive IRs (ρ : Env) : List AItem → List Item → Prop
  | nil : IRs ρ [] []
  | cons {x : AItem} {y : Item} {l : List AItem} {m : List Item} (h : IR ρ x y) (t : IRs ρ l m) : IRs ρ (x :: l) (y :: m)
theorem IR.mono {ρ ρ' : Env} (h : ρ.le ρ') {x : AItem} {y : Item} (k : IR ρ x y) : IR ρ' x y := by
  cases k with
  | inRF e => exact .inRF (h _ _ e)
  | endRF e => exact .endRF (h _ _ e)
  | code => exact .code _
  | inBlock => exact .inBlock _
  | inLoop => exact .inLoop _
  | inScope => exact .inScope _
  | beginRound => exact .beginRound
theorem IRs.mono {ρ ρ' : Env} (h : ρ.le ρ') {l : List AItem} {m : List Item} (k : IRs ρ l m) : IRs ρ' l m := by
  induction k with
  | nil => exact .nil
  | cons a _ ih => exact .cons (a.mono h) ih
theorem aexit_sound {ρ : Env} {id : Nat} {l l' : List AItem} {m : List Item} (h : IRs ρ l m) : (aexit id l = some l' → ∃ m', exitTo id m = some m' ∧ IRs ρ l' m') ∧ (aexit id l = none → exitTo id m = none) := by
  induction h with
  | nil => exact ⟨fun h => by simp [aexit] at h, fun _ => rfl⟩
  | @cons x y l m a t ih =>
    cases a with
    | inBlock j =>
      simp only [aexit, exitTo, beq_dec]
      by_cases e : j = id
      · subst e; simp; intro e; subst e; exact t
      · have : (j == id) = false := by simpa using e
        simp only [e, decide_false, cond_false, this, Bool.false_eq_true, if_false]; exact ih
    | code => simpa [aexit, exitTo] using ih
    | inLoop => simpa [aexit, exitTo] using ih
    | inScope => simpa [aexit, exitTo] using ih
    | inRF => simpa [aexit, exitTo] using ih
    | endRF => simpa [aexit, exitTo] using ih
    | beginRound => simpa [aexit, exitTo] using ih
inductive DsR (ρ : Env) : List Nat → List Deferred → Prop
  | nil : DsR ρ [] []
  | cons {i b c : Nat} {l : List Nat} {m : List Deferred} (h : ρ i = some (b, c)) (t : DsR ρ l m) : DsR ρ (i :: l) ({ target := .collected b, args := #[] } :: m)
theorem DsR.mono {ρ ρ' : Env} (h : ρ.le ρ') {l : List Nat} {m : List Deferred} (k : DsR ρ l m) : DsR ρ' l m := by
  induction k with
  | nil => exact .nil
  | cons a _ ih => exact .cons (h _ _ a) ih
def RoR (ρ : Env) (x y : Option Nat) : Prop := (x = none ∧ y = none) ∨ ∃ i b c, x = some i ∧ y = some b ∧ ρ i = some (b, c)
theorem RoR.mono {ρ ρ' : Env} (h : ρ.le ρ') {x y : Option Nat} (k : RoR ρ x y) : RoR ρ' x y := by
  rcases k with k | ⟨i, b, c, h1, h2, h3⟩
  · exact .inl k
  · exact .inr ⟨i, b, c, h1, h2, h _ _ h3⟩
def PlR (ops : Array Oper) (l : List Oper) (rest : List Nat) : Prop := ∃ k, rest = List.range' k l.length ∧ ∀ j, l[j]? = ops[k + j]?
theorem PlR.start (ops : Array Oper) : PlR ops ops.toList (List.range ops.size) := ⟨0, by rw [List.range_eq_range']; simp, fun j => by simp⟩
theorem PlR.head {ops : Array Oper} {o : Oper} {l : List Oper} {rest : List Nat} (h : PlR ops (o :: l) rest) : ∃ i r, rest = i :: r ∧ ops[i]? = some o ∧ PlR ops l r := by
  obtain ⟨k, h1, h2⟩ := h
  refine ⟨k, _, by rw [h1]; simp [List.range'_succ], by simpa using (h2 0).symm, k + 1, rfl, fun j => by have := h2 (j + 1); simpa [Nat.add_assoc, Nat.add_comm 1 j] using this⟩
theorem PlR.nil {ops : Array Oper} {rest : List Nat} (h : PlR ops [] rest) : rest = [] := by
  obtain ⟨k, h1, _⟩ := h
  simpa using h1
theorem TR.at {ρ : Env} {n : Nat} {T : Tr AV} {ts : Array Value} (h : TR ρ n T ts) (s : Nat) : VR ρ (At T s) (ts.getD s undef) := h.2 s
theorem TR.ev {ρ : Env} {n : Nat} {T : Tr AV} {fr : Frame} (h : TR ρ n T fr.tmps) (y : Operand) : VR ρ (aev T y) (fr.eval y) := by
  cases y with
  | tmp t => exact h.2 t
  | const x => exact ofV_VR x
  | global g => exact .v _
  | func f => simpa [aev, Frame.eval] using VR.fn (.func f) (VRs.nil (ρ := ρ)) VRs.nil
theorem At_tput (T : Tr AV) (d : Nat) (x : AV) (s : Nat) : At (tput T d x) s = if s = d then x else At T s := by
  unfold At
  rw [get_tput]
  by_cases h : s = d <;> simp [h]
theorem getD_set (ts : Array Value) (d : Nat) (v : Value) (s : Nat) (hd : d < ts.size) : (ts.setIfInBounds d v).getD s undef = if s = d then v else ts.getD s undef := by
  by_cases h : s = d
  · subst h; simp [hd]
  · have : d ≠ s := fun e => h e.symm
    simp only [if_neg h, Array.getD_eq_getD_getElem?, Array.getElem?_setIfInBounds_ne this]
theorem TR.put {ρ : Env} {n : Nat} {T : Tr AV} {ts : Array Value} (h : TR ρ n T ts) {d : Option Tmp} {x : AV} {v : Value} (hx : VR ρ x v) :
    TR ρ n (putT n T d x) (match d with | some d => ts.setIfInBounds d v | none => ts) := by
  cases d with
  | none => exact h
  | some d =>
    simp only [putT]
    cases hb : Nat.blt d n with
    | true =>
      have hd : d < ts.size := by rw [h.1]; simpa [Nat.blt_eq] using hb
      refine ⟨by simp [h.1], fun s => ?_⟩
      simp only [cond_true]
      rw [At_tput, getD_set _ _ _ _ hd]
      by_cases e : s = d
      · rw [if_pos e, if_pos e]; exact hx
      · rw [if_neg e, if_neg e]; exact h.2 s
    | false =>
      have hd : ¬ d < ts.size := by
        rw [h.1]; intro hlt
        have : Nat.blt d n = true := by rw [Nat.blt_eq]; exact hlt
        rw [hb] at this; cases this
      have : ts.setIfInBounds d v = ts := by simp [Array.setIfInBounds, hd]
      simp only [cond_false, this]
      exact h
theorem wantedA_sound {ρ : Env} {n : Nat} {T : Tr AV} {ts : Array Value} {ops : Array Oper} {o : Oper} (hg : ∀ d ∈ guardSlot (dstIn ops.toList) o, VR ρ (At T d) (ts.getD d undef)) : Region.wanted o (yielded ops ts) = wantedA T (dstIn ops.toList) o := by
  unfold Region.wanted wantedA
  cases hgd : o.guard with
  | none => rfl
  | some jw =>
    obtain ⟨j, want⟩ := jw
    simp only
    have hdst : (ops[j]?).bind (·.dst) = dstIn ops.toList j := by
      unfold dstIn
      simp only [Array.getElem?_toList]
      cases ops[j]? <;> rfl
    unfold yielded
    rw [hdst]
    cases hd : dstIn ops.toList j with
    | none => simp
    | some d =>
      have hv := hg d (by simp [guardSlot, hgd, hd])
      simp only [Option.bind_some]
      by_cases hlt : d < ts.size
      · have he : ts[d]? = some (ts.getD d undef) := by simp [hlt]
        rw [he]
        generalize ts.getD d undef = u at hv
        generalize At T d = x at hv
        cases hv with
        | v =>
          cases u with
          | bool b => cases b <;> cases want <;> rfl
          | _ => rfl
        | _ => rfl
      · rw [Array.getElem?_eq_none (Nat.le_of_not_lt hlt)]
        have hu : ts.getD d undef = undef := by simp [Array.getD, hlt]
        rw [hu] at hv
        generalize At T d = x at hv
        cases hv with
        | v => simp [undef]
        | tup => simp
end Go.Proofs.Ytnkjhicokcmmpaa.Ev

/-
  Regions that draw their order: what the small machine's tables say, and in which orders the model may go.
-/
namespace Go.Proofs.Ytnkjhicokcmmpaa.Ev
open Go Go.RowKit
theorem fold_or {α : Type} (b : α → Bool) (f : α → Nat) : ∀ (l : List α) (m i : Nat), Nat.testBit (l.foldl (fun m e => cond (b e) (m ||| f e) m) m) i = (Nat.testBit m i || l.any fun e => b e && Nat.testBit (f e) i)
  | [], m, i => by simp
  | e :: l, m, i => by
    rw [List.foldl_cons, fold_or b f l]
    cases hb : b e <;> simp [hb, Nat.testBit_or, Bool.or_assoc]
def Pred (l : List Oper) (y p : Nat) : Prop := ∃ o e, l[y]? = some o ∧ e ∈ o.after.toList ∧ Region.binds .any e = true ∧ e.on = p
def Below' (l : List Oper) : Prop := ∀ y o, l[y]? = some o → edgesBelow o y = true
theorem pred_lt {l : List Oper} (hE : Below' l) {y p : Nat} (h : Pred l y p) : p < y := by
  obtain ⟨o, e, ho, he, hb, rfl⟩ := h
  have := hE y o ho
  unfold edgesBelow at this
  rw [List.all_eq_true] at this
  have := this e he
  rw [hb] at this
  simpa [Nat.blt_eq] using this
theorem predMask_bit {l : List Oper} {y i : Nat} {o : Oper} (ho : l[y]? = some o) : Nat.testBit (predMask o) i = true ↔ Pred l y i := by
  unfold predMask
  rw [fold_or]
  simp only [Nat.zero_testBit, Bool.false_or, List.any_eq_true, Bool.and_eq_true, Nat.testBit_two_pow, decide_eq_true_eq]
  constructor
  · rintro ⟨e, he, hb, hi⟩; exact ⟨o, e, ho, he, hb, hi⟩
  · rintro ⟨o', e, ho', he, hb, hi⟩
    rw [ho] at ho'; cases ho'
    exact ⟨e, he, hb, hi⟩
theorem ancL_old : ∀ (l : List Oper) (k : Nat) (an : Tr Nat) (j : Nat), j < k ∨ k + l.length ≤ j → (ancL l k an).get j = an.get j
  | [], _, _, _, _ => rfl
  | o :: l, k, an, j, h => by
    unfold ancL
    rw [ancL_old l (k + 1) _ j (by simp at h; omega), get_tput, if_neg (by simp at h; omega)]
theorem ancOf_congr {an an' : Tr Nat} {o : Oper} (h : ∀ e ∈ o.after.toList, Region.binds .any e = true → an.get e.on = an'.get e.on) : ancOf an o = ancOf an' o := by
  have key : ∀ (L : List Edge) (m : Nat), (∀ e ∈ L, Region.binds .any e = true → an.get e.on = an'.get e.on) →
      L.foldl (fun m e => cond (Region.binds .any e) (m ||| (2 ^ e.on ||| (match an.get e.on with | some k => k | none => 0))) m) m = L.foldl (fun m e => cond (Region.binds .any e) (m ||| (2 ^ e.on ||| (match an'.get e.on with | some k => k | none => 0))) m) m := by
    intro L
    induction L with
    | nil => intro m _; rfl
    | cons e L ih =>
      intro m h
      simp only [List.foldl_cons]
      cases hb : Region.binds .any e with
      | false => simp only [cond_false]; exact ih _ (fun e' he' => h e' (by simp [he']))
      | true =>
        simp only [cond_true]
        rw [h e (by simp) hb]
        exact ih _ (fun e' he' => h e' (by simp [he']))
  exact key _ 0 h
theorem ancL_new : ∀ (l : List Oper) (k : Nat) (an : Tr Nat) (y : Nat) (o : Oper), l[y]? = some o → (∀ j o', l[j]? = some o' → edgesBelow o' (k + j) = true) → (ancL l k an).get (k + y) = some (ancOf (ancL l k an) o)
  | [], _, _, y, o, h, _ => by simp at h
  | o :: l, k, an, y, o', h, hE => by
    cases y with
    | zero =>
      simp at h; subst h
      unfold ancL
      show (ancL l (k + 1) (tput an k (ancOf an o))).get k = _
      rw [ancL_old l (k + 1) _ k (by omega), get_tput, if_pos rfl]
      congr 1
      refine ancOf_congr fun e he hb => ?_
      have := hE 0 o rfl
      unfold edgesBelow at this
      rw [List.all_eq_true] at this
      have := this e he
      rw [hb] at this
      have hlt : e.on < k := by simpa [Nat.blt_eq] using this
      rw [ancL_old l (k + 1) _ _ (by omega), get_tput, if_neg (by omega)]
    | succ y =>
      unfold ancL
      have := ancL_new l (k + 1) (tput an k (ancOf an o)) y o' (by simpa using h) (fun j o'' hj => by
        have := hE (j + 1) o'' (by simpa using hj)
        rwa [show k + (j + 1) = k + 1 + j by omega] at this)
      rwa [show k + (y + 1) = k + 1 + y by omega]
def ancB (l : List Oper) (y i : Nat) : Bool := anBit (ancL l 0 .e) y i
theorem ancB_spec {l : List Oper} (hE : Below' l) {y i : Nat} (h : ancB l y i = true) : ∃ p, Pred l y p ∧ (i = p ∨ ancB l p i = true) := by
  unfold ancB anBit at h
  cases ho : l[y]? with
  | none =>
    have hy : l.length ≤ y := by simpa using ho
    rw [ancL_old l 0 .e y (by omega)] at h
    simp [Tr.get] at h
  | some o =>
    have := ancL_new l 0 .e y o ho (fun j o' hj => by simpa using hE j o' hj)
    rw [Nat.zero_add] at this
    rw [this] at h
    simp only at h
    unfold ancOf at h
    rw [fold_or] at h
    simp only [Nat.zero_testBit, Bool.false_or, List.any_eq_true, Bool.and_eq_true, Nat.testBit_or, Nat.testBit_two_pow, Bool.or_eq_true, decide_eq_true_eq] at h
    obtain ⟨e, he, hb, hi⟩ := h
    refine ⟨e.on, ⟨o, e, ho, he, hb, rfl⟩, ?_⟩
    rcases hi with hi | hi
    · exact .inl hi.symm
    · exact .inr hi
theorem anc_closed {l : List Oper} (hE : Below' l) {C : Nat → Prop} (hC : ∀ y p, C y → Pred l y p → C p) : ∀ (y i : Nat), (∀ p, Pred l y p → C p) → ancB l y i = true → C i := by
  intro y
  induction y using Nat.strongRecOn with
  | ind y ih =>
    intro i hp h
    obtain ⟨p, h1, h2⟩ := ancB_spec hE h
    rcases h2 with rfl | h2
    · exact hp _ h1
    · exact ih p (pred_lt hE h1) i (fun q hq => hC p q (hp _ h1) hq) h2
theorem ancB_lt {l : List Oper} (hE : Below' l) : ∀ (y i : Nat), ancB l y i = true → i < y := by
  intro y i h
  exact anc_closed hE (C := fun z => z < y) (fun a p ha hp => Nat.lt_trans (pred_lt hE hp) ha) y i (fun p hp => pred_lt hE hp) h
theorem writersL_spec : ∀ (l : List Oper) (k : Nat) (W0 W : Tr Nat), writersL l k W0 = some W → ∀ d y, W.get d = some y ↔ W0.get d = some y ∨ ∃ j o, l[j]? = some o ∧ y = k + j ∧ o.dst = some d
  | [], k, W0, W, h, d, y => by simp [writersL] at h; subst h; simp
  | o :: l, k, W0, W, h, d, y => by
    unfold writersL at h
    cases hd : o.dst with
    | none =>
      rw [hd] at h
      rw [writersL_spec l (k + 1) W0 W h d y]
      constructor
      · rintro (h1 | ⟨j, o', h1, h2, h3⟩)
        · exact .inl h1
        · exact .inr ⟨j + 1, o', by simpa using h1, by omega, h3⟩
      · rintro (h1 | ⟨j, o', h1, h2, h3⟩)
        · exact .inl h1
        · cases j with
          | zero => simp at h1; subst h1; rw [hd] at h3; cases h3
          | succ j => exact .inr ⟨j, o', by simpa using h1, by omega, h3⟩
    | some d' =>
      rw [hd] at h
      simp only at h
      cases hw : W0.get d' with
      | some x => simp [hw] at h
      | none =>
        simp only [hw] at h
        rw [writersL_spec l (k + 1) _ W h d y, get_tput]
        constructor
        · rintro (h1 | ⟨j, o', h1, h2, h3⟩)
          · split at h1
            · rename_i e; cases h1; exact .inr ⟨0, o, rfl, rfl, by rw [hd, e]⟩
            · exact .inl h1
          · exact .inr ⟨j + 1, o', by simpa using h1, by omega, h3⟩
        · rintro (h1 | ⟨j, o', h1, h2, h3⟩)
          · left
            rw [if_neg (fun e => by subst e; rw [hw] at h1; cases h1)]
            exact h1
          · cases j with
            | zero =>
              simp at h1; subst h1
              rw [hd] at h3; cases h3
              left; rw [if_pos rfl]; simp [h2]
            | succ j => exact .inr ⟨j, o', by simpa using h1, by omega, h3⟩
structure Sc (l : List Oper) (W : Tr Nat) : Prop where
  below : Below' l
  plain : ∀ {y : Nat} {o : Oper}, l[y]? = some o → plainOp o = true
  wr : ∀ d y, W.get d = some y ↔ ∃ o, l[y]? = some o ∧ o.dst = some d
  slot : ∀ {y s i : Nat} {o : Oper}, l[y]? = some o → (s ∈ slotsOf o ∨ s ∈ guardSlot (dstIn l) o) → W.get s = some i → i = y ∨ ancB l y i = true ∨ ancB l i y = true
theorem scL_spec (all : List Oper) (an W : Tr Nat) : ∀ (l : List Oper) (k : Nat), scL all an W l k = true → ∀ y o, l[y]? = some o → edgesBelow o (k + y) = true ∧ plainOp o = true ∧ (∀ s, (s ∈ slotsOf o ∨ s ∈ guardSlot (dstIn all) o) → slotOk an W (k + y) s = true)
  | [], _, _, y, o, h => by simp at h
  | o :: l, k, h, y, o', ho => by
    simp only [scL, Bool.and_eq_true, List.all_eq_true] at h
    obtain ⟨⟨⟨⟨h1, h2⟩, h3⟩, h4⟩, h5⟩ := h
    cases y with
    | zero =>
      simp at ho; subst ho
      exact ⟨h1, h2, fun s hs => hs.elim (h3 s) (h4 s)⟩
    | succ y =>
      have := scL_spec all an W l (k + 1) h5 y o' (by simpa using ho)
      rwa [show k + (y + 1) = k + 1 + y by omega]
theorem scOk_spec {l : List Oper} (h : scOk l = true) : ∃ W, Sc l W := by
  unfold scOk at h
  cases hw : writersL l 0 .e with
  | none => simp [hw] at h
  | some W =>
    simp only [hw] at h
    have hs := scL_spec l _ W l 0 h
    refine ⟨W, fun y o ho => by simpa using (hs y o ho).1, fun ho => (hs _ _ ho).2.1, fun d y => ?_, fun {y s i o} ho hs' hi => ?_⟩
    · rw [writersL_spec l 0 .e W hw d y]
      constructor
      · rintro (h1 | ⟨j, o, h1, h2, h3⟩)
        · simp [Tr.get] at h1
        · rw [Nat.zero_add] at h2; subst h2; exact ⟨o, h1, h3⟩
      · rintro ⟨o, h1, h2⟩; exact .inr ⟨y, o, h1, by simp, h2⟩
    · have := (hs y o ho).2.2 s hs'
      rw [Nat.zero_add] at this
      unfold slotOk at this
      rw [hi] at this
      simp only [Bool.or_eq_true, Nat.beq_eq] at this
      rcases this with (h1 | h1) | h1
      · exact .inl h1
      · exact .inr (.inl h1)
      · exact .inr (.inr h1)
theorem readyL_spec (all : List Oper) (D : Nat) : ∀ (l : List Oper) (k : Nat), (∀ j, l[j]? = all[k + j]?) → ∀ y o, (y, o) ∈ readyL D l k ↔ k ≤ y ∧ all[y]? = some o ∧ y < k + l.length ∧ Nat.testBit D y = false ∧ ∀ p, Pred all y p → Nat.testBit D p = true
  | [], k, _, y, o => by simp [readyL]; omega
  | o :: l, k, h, y, o' => by
    have h0 : all[k]? = some o := by simpa using (h 0).symm
    have ih := readyL_spec all D l (k + 1) (fun j => by have := h (j + 1); simpa [Nat.add_assoc, Nat.add_comm 1 j] using this) y o'
    have hm : (Nat.beq (predMask o &&& D) (predMask o) = true) ↔ ∀ p, Pred all k p → Nat.testBit D p = true := by
      rw [Nat.beq_eq]
      constructor
      · intro he p hp
        have := (predMask_bit h0).2 hp
        rw [← he, Nat.testBit_and, Bool.and_eq_true] at this
        exact this.2
      · intro hp
        refine Nat.eq_of_testBit_eq fun i => ?_
        rw [Nat.testBit_and]
        cases hb : Nat.testBit (predMask o) i with
        | false => rfl
        | true => rw [hp i ((predMask_bit h0).1 hb)]; rfl
    have key : ∀ (b : Prop), ((y, o') ∈ readyL D l (k + 1) ∨ (b ∧ y = k ∧ o' = o)) ↔ ((k + 1 ≤ y ∧ all[y]? = some o' ∧ y < k + 1 + l.length ∧ Nat.testBit D y = false ∧ ∀ p, Pred all y p → Nat.testBit D p = true) ∨ (b ∧ y = k ∧ o' = o)) := fun b => by rw [ih]
    have hlen : k + (o :: l).length = k + 1 + l.length := by simp; omega
    unfold readyL
    cases hd : Nat.testBit D k with
    | true =>
      simp only [cond_true]
      rw [ih, hlen]
      constructor
      · rintro ⟨h1, h2⟩; exact ⟨by omega, h2⟩
      · rintro ⟨h1, h2, h3, h4, h5⟩
        have : y ≠ k := fun e => by subst e; rw [hd] at h4; cases h4
        exact ⟨by omega, h2, h3, h4, h5⟩
    | false =>
      simp only [cond_false]
      cases hb : Nat.beq (predMask o &&& D) (predMask o) with
      | true =>
        simp only [cond_true, List.mem_cons, Prod.mk.injEq]
        rw [ih, hlen]
        constructor
        · rintro (⟨rfl, rfl⟩ | ⟨h1, h2⟩)
          · exact ⟨Nat.le_refl _, h0, by omega, hd, hm.1 hb⟩
          · exact ⟨by omega, h2⟩
        · rintro ⟨h1, h2, h3, h4, h5⟩
          by_cases e : y = k
          · subst e; rw [h0] at h2; cases h2; exact .inl ⟨rfl, rfl⟩
          · exact .inr ⟨by omega, h2, h3, h4, h5⟩
      | false =>
        simp only [cond_false]
        rw [ih, hlen]
        constructor
        · rintro ⟨h1, h2⟩; exact ⟨by omega, h2⟩
        · rintro ⟨h1, h2, h3, h4, h5⟩
          have : y ≠ k := fun e => by
            subst e
            have := hm.2 h5
            rw [hb] at this; cases this
          exact ⟨by omega, h2, h3, h4, h5⟩
theorem mem_ready' {all : List Oper} {D y : Nat} {o : Oper} : (y, o) ∈ readyL D all 0 ↔ all[y]? = some o ∧ Nat.testBit D y = false ∧ ∀ p, Pred all y p → Nat.testBit D p = true := by
  rw [readyL_spec all D all 0 (fun j => by simp) y o]
  constructor
  · rintro ⟨_, h1, _, h2⟩; exact ⟨h1, h2⟩
  · rintro ⟨h1, h2⟩
    have := (List.getElem?_eq_some_iff.1 h1).1
    exact ⟨Nat.zero_le _, h1, by omega, h2⟩
inductive Lin (l : List Oper) : (Nat → Prop) → List Nat → Prop
  | nil {C : Nat → Prop} (h : ∀ y, y < l.length → C y) : Lin l C []
  | cons {C : Nat → Prop} {y : Nat} {r : List Nat} (hy : y < l.length) (hn : ¬ C y) (hp : ∀ p, Pred l y p → C p) (t : Lin l (fun z => C z ∨ z = y) r) : Lin l C (y :: r)
theorem Lin.congr {l : List Oper} {C C' : Nat → Prop} {r : List Nat} (h : Lin l C r) (hc : ∀ z, C z ↔ C' z) : Lin l C' r := by
  have : C = C' := funext fun z => propext (hc z)
  exact this ▸ h
theorem lin_go {ops : Array Oper} (hE : Below' ops.toList) : ∀ (fuel t : Nat) (listed : Array Bool), listed.size = ops.size → listed.toList.count false ≤ fuel →
    Lin ops.toList (fun z => listed.getD z false = true) (Region.linearise.go .any ops fuel t listed []) := by
  have hready : ∀ (listed : Array Bool), listed.size = ops.size → ∀ i, i ∈ ((List.range ops.size).filter fun i => !listed.getD i true && ((ops[i]?).map (·.after.all fun e => !Region.binds .any e || listed.getD e.on false)).getD false) ↔ (i < ops.size ∧ listed.getD i false = false ∧ ∀ p, Pred ops.toList i p → listed.getD p false = true) := by
    intro listed hsz i
    rw [List.mem_filter, List.mem_range, Bool.and_eq_true]
    constructor
    · rintro ⟨h1, h2, h3⟩
      refine ⟨h1, ?_, ?_⟩
      · have : i < listed.size := by omega
        simp [Array.getD, this] at h2 ⊢; exact h2
      · rintro p ⟨o, e, ho, he, hb, rfl⟩
        rw [Array.getElem?_toList] at ho
        rw [ho] at h3
        simp only [Option.map_some, Option.getD_some] at h3
        rw [Array.all_eq_true_iff_forall_mem] at h3
        have := h3 e (by simpa using he)
        rw [hb] at this
        simpa using this
    · rintro ⟨h1, h2, h3⟩
      refine ⟨h1, ?_, ?_⟩
      · have : i < listed.size := by omega
        simp [Array.getD, this] at h2 ⊢; exact h2
      · have ho : ops[i]? = some ops[i] := Array.getElem?_eq_getElem h1
        rw [ho]
        simp only [Option.map_some, Option.getD_some]
        rw [Array.all_eq_true_iff_forall_mem]
        intro e he
        cases hb : Region.binds .any e with
        | false => rfl
        | true =>
          have := h3 e.on ⟨ops[i], e, by rw [Array.getElem?_toList]; exact ho, by simpa using he, hb, rfl⟩
          simp [this]
  have hall : ∀ (listed : Array Bool), listed.size = ops.size → (∀ i, ¬ (i < ops.size ∧ listed.getD i false = false ∧ ∀ p, Pred ops.toList i p → listed.getD p false = true)) → ∀ y, y < ops.toList.length → listed.getD y false = true := by
    intro listed hsz h y
    induction y using Nat.strongRecOn with
    | ind y ih =>
      intro hy
      cases hb : listed.getD y false with
      | true => rfl
      | false =>
        exfalso
        refine h y ⟨by simpa using hy, hb, fun p hp => ih p (pred_lt hE hp) (Nat.lt_trans (pred_lt hE hp) hy)⟩
  intro fuel
  induction fuel with
  | zero =>
    intro t listed hsz hc
    simp only [Region.linearise.go, List.reverse_nil]
    refine .nil fun y hy => ?_
    have hc0 : listed.toList.count false = 0 := by omega
    rw [List.count_eq_zero] at hc0
    have hlt : y < listed.size := by rw [hsz]; simpa using hy
    have : listed[y] ∈ listed.toList := by simp
    cases hb : listed[y] with
    | true => simp [Array.getD, hlt, hb]
    | false => rw [hb] at this; exact absurd this hc0
  | succ fuel ih =>
    intro t listed hsz hc
    simp only [Region.linearise.go]
    split
    · rename_i i hi
      have hmem := (hready listed hsz i).1 (List.mem_of_getElem? hi)
      obtain ⟨h1, h2, h3⟩ := hmem
      have hlt : i < listed.size := by omega
      have hfalse : listed[i] = false := by simpa [Array.getD, hlt] using h2
      rw [linearise_go_acc, List.reverse_singleton, List.singleton_append]
      refine .cons (by simpa using h1) (by rw [h2]; simp) h3 ?_
      refine (ih _ (listed.setIfInBounds i true) (by simpa using hsz) ?_).congr ?_
      · rw [Array.toList_setIfInBounds, List.count_set (by simpa using hlt)]
        have : listed.toList[i]'(by simpa using hlt) = false := by simpa using hfalse
        have e1 : (if (false == false) = true then (1 : Nat) else 0) = 1 := rfl
        have e2 : (if (true == false) = true then (1 : Nat) else 0) = 0 := rfl
        rw [this, e1, e2]
        omega
      · intro z
        by_cases e : z = i
        · subst e; simp [Array.getD, hlt]
        · have he : ¬ i = z := fun h => e h.symm
          have : (listed.setIfInBounds i true).getD z false = listed.getD z false := by
            rw [Array.getD_eq_getD_getElem?, Array.getD_eq_getD_getElem?, Array.getElem?_setIfInBounds_ne he]
          rw [this]
          simp [e]
    · rename_i hnone
      rw [List.reverse_nil]
      refine .nil (hall listed hsz ?_)
      intro i hi
      have hmem := (hready listed hsz i).2 hi
      have hpos : 0 < ((List.range ops.size).filter fun i => !listed.getD i true && ((ops[i]?).map (·.after.all fun e => !Region.binds .any e || listed.getD e.on false)).getD false).length := List.length_pos_of_mem hmem
      have := List.getElem?_eq_none_iff.1 hnone
      exact absurd (Nat.mod_lt t hpos) (by omega)
theorem lin_schedule {ops : Array Oper} (hE : Below' ops.toList) (t : Nat) : Lin ops.toList (fun _ => False) (Region.schedule true ops t) := by
  unfold Region.schedule Region.linearise
  simp only [Bool.true_or, if_true]
  refine (lin_go hE ops.size t (Array.replicate ops.size false) (by simp) ?_).congr ?_
  · simp
  · intro z
    simp [Array.getD]
end Go.Proofs.Ytnkjhicokcmmpaa.Ev

/-
  A region that draws its order: the small machine may be ahead of the model; the model catches up.
-/
namespace Go.Proofs.Ytnkjhicokcmmpaa.Ev
open Go Go.RowKit
theorem vsame_eq : ∀ {x y : Value}, vsame x y = true → x = y := by
  intro x y h
  unfold vsame at h
  split at h
  · rename_i a b; cases a <;> cases b <;> simp at h <;> rfl
  · simp only [Bool.and_eq_true, decide_eq_true_eq] at h; rw [h.1, h.2]
  · rename_i a b
    simp only [decide_eq_true_eq] at h
    congr 1
    obtain ⟨a⟩ := a; obtain ⟨b⟩ := b
    congr 1
    exact Array.toList_inj.1 h
  · rfl
  · simp only [Bool.and_eq_true, Nat.beq_eq] at h; rw [h.1, h.2]
  · rfl
  · rfl
  · rfl
  · cases h
mutual
theorem sameA_eq : ∀ {x y : AV}, sameA x y = true → x = y
  | .v x, y, h => by cases y <;> simp [sameA] at h; rw [vsame_eq h]
  | .ptr i o, y, h => by cases y <;> simp [sameA] at h; simp [h]
  | .sl i o n c, y, h => by cases y <;> simp [sameA] at h; simp [h]
  | .su i o n c q, y, h => by cases y <;> simp [sameA] at h; simp [h]
  | .se, y, h => by cases y <;> simp [sameA] at h; rfl
  | .s0, y, h => by cases y <;> simp [sameA] at h; rfl
  | .mp i, y, h => by cases y <;> simp [sameA] at h; simp [h]
  | .agg l, y, h => by cases y <;> simp [sameA] at h; rw [sameAs_eq h]
  | .tup l, y, h => by cases y <;> simp [sameA] at h; rw [sameAs_eq h]
  | .fn f l m, y, h => by
    cases y <;> simp [sameA] at h
    obtain ⟨⟨h1, h2⟩, h3⟩ := h
    rw [h1, sameAs_eq h2, sameAs_eq h3]
  | .yl i, y, h => by cases y <;> simp [sameA] at h; simp [h]
  | .ifc t x, y, h => by
    cases y <;> simp [sameA] at h
    rw [h.1, sameA_eq h.2]
theorem sameAs_eq : ∀ {l m : List AV}, sameAs l m = true → l = m
  | [], m, h => by cases m <;> simp [sameAs] at h; rfl
  | x :: l, m, h => by
    cases m <;> simp [sameAs] at h
    rw [sameA_eq h.1, sameAs_eq h.2]
end
def envS (l : List Oper) (W : Tr Nat) (nt : Nat) (X T0 : Tr AV) (y s : Nat) : AV :=
  match W.get s with
  | some i => cond (Nat.blt s nt && ancB l y i) (At X i) (At T0 s)
  | none => At T0 s
def valS (W : Tr Nat) (nt : Nat) (X T0 : Tr AV) (C : Nat → Prop) [DecidablePred C] (s : Nat) : AV :=
  match W.get s with
  | some i => if s < nt ∧ C i then At X i else At T0 s
  | none => At T0 s
def Sees (l : List Oper) (o : Oper) (s : Nat) : Prop := s ∈ slotsOf o ∨ s ∈ guardSlot (dstIn l) o
section
variable {l : List Oper} {W : Tr Nat} (sc : Sc l W) {nt : Nat} {X T0 : Tr AV}
include sc
theorem envS_val {C : Nat → Prop} [DecidablePred C] (hC : ∀ y p, C y → Pred l y p → C p) {y s : Nat} {o : Oper} (ho : l[y]? = some o) (hs : Sees l o s) (hy : ¬ C y) (hp : ∀ p, Pred l y p → C p) :
    envS l W nt X T0 y s = valS W nt X T0 C s := by
  unfold envS valS
  cases hw : W.get s with
  | none => rfl
  | some i =>
    simp only
    have hlt : ∀ a b, ancB l a b = true → b < a := fun a b h => ancB_lt sc.below a b h
    by_cases hn : s < nt
    · have hb : Nat.blt s nt = true := by rw [Nat.blt_eq]; exact hn
      simp only [hb, Bool.true_and, hn, true_and]
      rcases sc.slot ho hs hw with rfl | h | h
      · have : ancB l i i = false := by
          cases h : ancB l i i with
          | false => rfl
          | true => exact absurd (hlt _ _ h) (Nat.lt_irrefl _)
        rw [this, if_neg hy]; rfl
      · have := anc_closed sc.below hC y i hp h
        rw [h, if_pos this]; rfl
      · have hni : ¬ C i := fun hi => hy (anc_closed sc.below hC i y (fun p hpp => hC i p hi hpp) h)
        have : ancB l y i = false := by
          cases h' : ancB l y i with
          | false => rfl
          | true => exact absurd (hlt _ _ h') (Nat.lt_asymm (hlt _ _ h))
        rw [this, if_neg hni]; rfl
    · have hb : Nat.blt s nt = false := by
        cases h : Nat.blt s nt with
        | false => rfl
        | true => rw [Nat.blt_eq] at h; exact absurd h hn
      simp [hb, hn]
end
def Pend (P : Program) (ρ : Env) (H : Tr AB) (lo hi : Nat) (live : Bool) (l : List Oper) (W : Tr Nat) (nt : Nat) (X T0 : Tr AV) (lds : List (Nat × TypeId × AV × AV)) (G : Nat → Option Nat) (y : Nat) : Prop :=
  ∃ o Ty, l[y]? = some o ∧ (∀ s, Sees l o s → At Ty s = envS l W nt X T0 y s) ∧
    ((wantedA Ty (dstIn l) o = false ∧ At X y = .v undef) ∨
     (wantedA Ty (dstIn l) o = true ∧ aopP P Ty o = some (At X y)) ∨
     (wantedA Ty (dstIn l) o = true ∧ ∃ t p, rdOf Ty o = some (t, p) ∧ (live = true → readA P t p H = some (At X y)) ∧ (y, t, p, At X y) ∈ lds) ∨
     (wantedA Ty (dstIn l) o = true ∧ ∃ e c k g, aopN P Ty o = some (e, c, k) ∧ At X y = k.av g ∧ G y = some g ∧ H.get g = some (.mem e none c) ∧ ρ g = none ∧ lo ≤ g ∧ g < hi))
structure DrR (P : Program) (ρ : Env) (H : Tr AB) (lo hi : Nat) (live : Bool) (nt : Nat) (T : Tr AV) (l : List Oper) (D : Nat) (X T0 : Tr AV) (lds : List (Nat × TypeId × AV × AV)) (W : Tr Nat) (C : Nat → Prop) (G : Nat → Option Nat) (rest : List Nat) (ts : Array Value) : Prop where
  sc : Sc l W
  lin : Lin l C rest
  closC : ∀ y p, C y → Pred l y p → C p
  closD : ∀ y p, Nat.testBit D y = true → Pred l y p → Nat.testBit D p = true
  sub : ∀ y, C y → Nat.testBit D y = true
  dlt : ∀ y, Nat.testBit D y = true → y < l.length
  size : ts.size = nt
  T : ∀ s, At T s = valS W nt X T0 (fun i => Nat.testBit D i = true) s
  ts : ∀ [DecidablePred C] s, VR ρ (valS W nt X T0 C s) (ts.getD s undef)
  pend : ∀ y, Nat.testBit D y = true → ¬ C y → Pend P ρ H lo hi live l W nt X T0 lds G y
  ginj : ∀ {y z g}, G y = some g → G z = some g → y = z
  gb : ∀ {y g}, G y = some g → g < hi ∧ Nat.testBit D y = true
theorem Pend.mono {P : Program} {ρ ρ' : Env} {H H' : Tr AB} {lo hi : Nat} {live : Bool} {l : List Oper} {W : Tr Nat} {nt : Nat} {X T0 : Tr AV} {lds lds' : List (Nat × TypeId × AV × AV)} {G : Nat → Option Nat} {y : Nat}
    (h : Pend P ρ H lo hi live l W nt X T0 lds G y) {hi' : Nat} {live' : Bool} (hhi : hi ≤ hi') (hg : ∀ g, G y = some g → lo ≤ g → g < hi → ρ g = none → ρ' g = none ∧ H'.get g = H.get g)
    (hl : ∀ t p x, (y, t, p, x) ∈ lds → (y, t, p, x) ∈ lds' ∧ (live' = true → (live = true → readA P t p H = some x) → readA P t p H' = some x)) : Pend P ρ' H' lo hi' live' l W nt X T0 lds' G y := by
  obtain ⟨o, Ty, ho, hs, h⟩ := h
  refine ⟨o, Ty, ho, hs, ?_⟩
  rcases h with h | h | ⟨h1, t, a, h2, h3, h4⟩ | ⟨h1, e, c, k, g, h2, h3, h4, h5, h6, h7, h8⟩
  · exact .inl h
  · exact .inr (.inl h)
  · exact .inr (.inr (.inl ⟨h1, t, a, h2, fun hlv => (hl _ _ _ h4).2 hlv h3, (hl _ _ _ h4).1⟩))
  · have := hg g h4 h7 h8 h6
    exact .inr (.inr (.inr ⟨h1, e, c, k, g, h2, h3, h4, by rw [this.2]; exact h5, this.1, h7, by omega⟩))
theorem DrR.mono {P : Program} {ρ ρ' : Env} {H H' : Tr AB} {lo hi hi' nt D : Nat} {live : Bool} {T X T0 : Tr AV} {l : List Oper} {lds : List (Nat × TypeId × AV × AV)} {W : Tr Nat} {C : Nat → Prop} {G : Nat → Option Nat} {rest : List Nat} {ts : Array Value}
    (h : DrR P ρ H lo hi live nt T l D X T0 lds W C G rest ts) (hle : ρ.le ρ') (hhi : hi ≤ hi') (hg : ∀ g, g < hi → ρ g = none → ρ' g = none ∧ H'.get g = H.get g) : DrR P ρ' H' lo hi' false nt T l D X T0 lds W C G rest ts :=
  { h with
    ts := fun s => (h.ts s).mono hle
    pend := fun y h1 h2 => (h.pend y h1 h2).mono hhi (fun g _ _ hb hn => hg g hb hn) (fun t p x hm => ⟨hm, fun h => by cases h⟩)
    gb := fun hgy => ⟨Nat.lt_of_lt_of_le (h.gb hgy).1 hhi, (h.gb hgy).2⟩ }
theorem DrR.live {P : Program} {ρ : Env} {H : Tr AB} {lo hi nt D : Nat} {T X T0 : Tr AV} {l : List Oper} {lds : List (Nat × TypeId × AV × AV)} {W : Tr Nat} {C : Nat → Prop} {G : Nat → Option Nat} {rest : List Nat} {ts : Array Value}
    (h : DrR P ρ H lo hi false nt T l D X T0 lds W C G rest ts) (hl : ldsOk P H lds = true) : DrR P ρ H lo hi true nt T l D X T0 lds W C G rest ts :=
  { h with
    pend := fun y h1 h2 => (h.pend y h1 h2).mono (Nat.le_refl _) (fun g _ _ _ hn => ⟨hn, rfl⟩) (fun t p x hm => ⟨hm, fun _ _ => by
      unfold ldsOk at hl
      rw [List.all_eq_true] at hl
      have := hl _ hm
      simp only at this
      split at this
      · rename_i x' hx; rw [hx, sameA_eq this]
      · cases this⟩) }
theorem DrR.forOp {P : Program} {ρ : Env} {H : Tr AB} {lo hi nt D : Nat} {live : Bool} {T X T0 : Tr AV} {l : List Oper} {lds : List (Nat × TypeId × AV × AV)} {W : Tr Nat} {C : Nat → Prop} {G : Nat → Option Nat} {rest : List Nat} {ts : Array Value}
    (h : DrR P ρ H lo hi live nt T l D X T0 lds W C G rest ts) {x : Nat} (hp : ∀ p, Pred l x p → C p) : DrR P ρ H lo hi live nt T l D X T0 (ldsFor l x lds) W C G rest ts :=
  { h with
    pend := fun y h1 h2 => (h.pend y h1 h2).mono (Nat.le_refl _) (fun g _ _ _ hn => ⟨hn, rfl⟩) (fun t p v hm => ⟨by
      unfold ldsFor
      rw [List.mem_filter]
      refine ⟨hm, ?_⟩
      have : ancB l x y = false := by
        cases hb : ancB l x y with
        | false => rfl
        | true => exact absurd (anc_closed h.sc.below h.closC x y hp hb) h2
      unfold ancB at this
      simp only [this, Bool.not_false], fun hlv hv => hv hlv⟩) }
theorem testBit_put (D y z : Nat) : Nat.testBit (D ||| 2 ^ y) z = (Nat.testBit D z || decide (y = z)) := by
  rw [Nat.testBit_or, Nat.testBit_two_pow]
theorem valS_congr {W : Tr Nat} {nt : Nat} {X X' T0 : Tr AV} {C C' : Nat → Prop} [DecidablePred C] [DecidablePred C'] {s : Nat} (h : ∀ i, W.get s = some i → (C i ↔ C' i) ∧ (C i → At X i = At X' i)) : valS W nt X T0 C s = valS W nt X' T0 C' s := by
  unfold valS
  cases hw : W.get s with
  | none => rfl
  | some i =>
    obtain ⟨h1, h2⟩ := h i hw
    simp only
    by_cases hc : s < nt ∧ C i
    · rw [if_pos hc, if_pos ⟨hc.1, h1.1 hc.2⟩, h2 hc.2]
    · rw [if_neg hc, if_neg (fun h => hc ⟨h.1, h1.2 h.2⟩)]
theorem envS_congr {l : List Oper} {W : Tr Nat} {nt : Nat} {X X' T0 : Tr AV} {y s : Nat} (h : ∀ i, ancB l y i = true → At X i = At X' i) : envS l W nt X T0 y s = envS l W nt X' T0 y s := by
  unfold envS
  cases hw : W.get s with
  | none => rfl
  | some i =>
    simp only
    cases hb : (Nat.blt s nt && ancB l y i) with
    | false => rfl
    | true =>
      simp only [Bool.and_eq_true] at hb
      simp only [cond_true]; exact h i hb.2
section
variable {P : Program} {ρ : Env} {H : Tr AB} {lo hi nt D : Nat} {live : Bool} {T X T0 : Tr AV} {l : List Oper} {lds : List (Nat × TypeId × AV × AV)} {W : Tr Nat} {C : Nat → Prop} {G : Nat → Option Nat} {rest : List Nat} {ts : Array Value}
theorem DrR.sees (h : DrR P ρ H lo hi live nt T l D X T0 lds W C G rest ts) {y s : Nat} {o : Oper} (ho : l[y]? = some o) (hs : Sees l o s) (hy : Nat.testBit D y = false) (hp : ∀ p, Pred l y p → Nat.testBit D p = true) : At T s = envS l W nt X T0 y s := by
  rw [h.T s]
  exact (envS_val h.sc (C := fun i => Nat.testBit D i = true) h.closD ho hs (by rw [hy]; simp) hp).symm
theorem DrR.seesC (h : DrR P ρ H lo hi live nt T l D X T0 lds W C G rest ts) {y s : Nat} {o : Oper} (ho : l[y]? = some o) (hs : Sees l o s) (hy : ¬ C y) (hp : ∀ p, Pred l y p → C p) : VR ρ (envS l W nt X T0 y s) (ts.getD s undef) := by
  classical
  rw [envS_val h.sc (C := C) h.closC ho hs hy hp]
  exact h.ts s
theorem DrR.putT (h : DrR P ρ H lo hi live nt T l D X T0 lds W C G rest ts) {y : Nat} {o : Oper} (ho : l[y]? = some o) (hy : Nat.testBit D y = false) (x : AV) (s : Nat) :
    At (putT nt T o.dst x) s = valS W nt (tput X y x) T0 (fun i => Nat.testBit (D ||| 2 ^ y) i = true) s := by
  have hX : ∀ i, i ≠ y → At (tput X y x) i = At X i := fun i hi => by rw [At_tput, if_neg hi]
  have hXy : At (tput X y x) y = x := by rw [At_tput, if_pos rfl]
  have hrest : ∀ s, (∀ i, W.get s = some i → i ≠ y) → At T s = valS W nt (tput X y x) T0 (fun i => Nat.testBit (D ||| 2 ^ y) i = true) s := fun s hs => by
    rw [h.T s]
    refine valS_congr fun i hi => ⟨?_, fun _ => (hX i (hs i hi)).symm⟩
    rw [testBit_put]
    have : y ≠ i := fun e => hs i hi e.symm
    simp [this]
  have hno : ∀ s, o.dst ≠ some s → ∀ i, W.get s = some i → i ≠ y := fun s hd i hi e => by
    subst e
    obtain ⟨o', h1, h2⟩ := (h.sc.wr s i).1 hi
    rw [ho] at h1; cases h1
    exact hd h2
  cases hd : o.dst with
  | none => exact hrest s (hno s (by rw [hd]; simp))
  | some d =>
    simp only [Ev.putT]
    cases hb : Nat.blt d nt with
    | true =>
      have hlt : d < nt := by simpa [Nat.blt_eq] using hb
      simp only [cond_true]
      rw [At_tput]
      by_cases e : s = d
      · subst e
        rw [if_pos rfl]
        unfold valS
        rw [(h.sc.wr s y).2 ⟨o, ho, hd⟩]
        simp only
        rw [if_pos ⟨hlt, by rw [testBit_put]; simp⟩, hXy]
      · rw [if_neg e]
        exact hrest s (hno s (by rw [hd]; simpa using fun h => e h.symm))
    | false =>
      have hlt : ¬ d < nt := fun hlt => by
        have : Nat.blt d nt = true := by rw [Nat.blt_eq]; exact hlt
        rw [hb] at this; cases this
      simp only [cond_false]
      by_cases e : s = d
      · subst e
        rw [h.T s]
        unfold valS
        rw [(h.sc.wr s y).2 ⟨o, ho, hd⟩]
        simp only
        rw [if_neg (fun h => hlt h.1), if_neg (fun h => hlt h.1)]
      · exact hrest s (hno s (by rw [hd]; simpa using fun h => e h.symm))
theorem DrR.putTs (h : DrR P ρ H lo hi live nt T l D X T0 lds W C G rest ts) {ρ' : Env} (hle : ρ.le ρ') {y : Nat} {o : Oper} (ho : l[y]? = some o) (hy : ¬ C y) {X' : Tr AV} {v : Value} (hX : ∀ i, C i → At X' i = At X i) (hv : VR ρ' (At X' y) v) [DecidablePred (fun z => C z ∨ z = y)] (s : Nat) :
    VR ρ' (valS W nt X' T0 (fun z => C z ∨ z = y) s) ((match o.dst with | some d => ts.setIfInBounds d v | none => ts).getD s undef) := by
  classical
  have hrest : ∀ s, (∀ i, W.get s = some i → i ≠ y) → VR ρ' (valS W nt X' T0 (fun z => C z ∨ z = y) s) (ts.getD s undef) := fun s hs => by
    have := (h.ts s).mono hle
    rwa [valS_congr (C := C) (C' := fun z => C z ∨ z = y) (X' := X') (fun i hi => ⟨by simp [hs i hi], fun hc => (hX i hc).symm⟩)] at this
  have hno : ∀ s, o.dst ≠ some s → ∀ i, W.get s = some i → i ≠ y := fun s hd i hi e => by
    subst e
    obtain ⟨o', h1, h2⟩ := (h.sc.wr s i).1 hi
    rw [ho] at h1; cases h1
    exact hd h2
  cases hd : o.dst with
  | none => exact hrest s (hno s (by rw [hd]; simp))
  | some d =>
    simp only
    by_cases hlt : d < nt
    · rw [getD_set _ _ _ _ (by rw [h.size]; exact hlt)]
      by_cases e : s = d
      · subst e
        rw [if_pos rfl]
        unfold valS
        rw [(h.sc.wr s y).2 ⟨o, ho, hd⟩]
        simp only
        rw [if_pos ⟨hlt, by simp⟩]
        exact hv
      · rw [if_neg e]
        exact hrest s (hno s (by rw [hd]; simpa using fun h => e h.symm))
    · have hs : ts.setIfInBounds d v = ts := by simp [Array.setIfInBounds, h.size, hlt]
      rw [hs]
      by_cases e : s = d
      · subst e
        have := (h.ts s).mono hle
        unfold valS at this ⊢
        rw [(h.sc.wr s y).2 ⟨o, ho, hd⟩] at this ⊢
        simp only at this ⊢
        rw [if_neg (fun h => hlt h.1)] at this ⊢
        exact this
      · exact hrest s (hno s (by rw [hd]; simpa using fun h => e h.symm))
end
end Go.Proofs.Ytnkjhicokcmmpaa.Ev

/-
  A region that draws its order: the small machine goes ahead; the model catches up.
-/
namespace Go.Proofs.Ytnkjhicokcmmpaa.Ev
open Go Go.RowKit
theorem mem_slots {o : Oper} {s : Tmp} (h : Operand.tmp s ∈ o.op.operands) : s ∈ slotsOf o := by
  unfold slotsOf
  rw [List.mem_filterMap]
  exact ⟨.tmp s, by simpa using h, rfl⟩
theorem ev_of_slots {ρ : Env} {Ty : Tr AV} {fr : Frame} {o : Oper} (h : ∀ s, s ∈ slotsOf o → VR ρ (At Ty s) (fr.tmps.getD s undef)) : ∀ y ∈ o.op.operands, VR ρ (aev Ty y) (fr.eval y) := by
  intro y hy
  cases y with
  | tmp t => exact h t (mem_slots hy)
  | const x => exact ofV_VR x
  | global g => exact .v _
  | func f => simpa [aev, Frame.eval] using VR.fn (.func f) (VRs.nil (ρ := ρ)) VRs.nil
theorem finish_region {fr : Frame} {ops : Array Oper} {i : Nat} {r : List Nat} {k : List Item} {o : Oper} (ht : fr.todo = .inRegion ops (i :: r) :: k) (ho : ops[i]? = some o) (v : Value) :
    fr.finish v = { fr with tmps := (match o.dst with | some d => fr.tmps.setIfInBounds d v | none => fr.tmps), todo := .inRegion ops r :: k } := by
  unfold Frame.finish
  rw [ht]
  simp only [ho, Option.bind_some]
  cases o.dst <;> rfl
theorem DrR.caught {P : Program} {ρ ρ' : Env} {H : Tr AB} {lo hi nt D : Nat} {T X T0 : Tr AV} {l : List Oper} {lds : List (Nat × TypeId × AV × AV)} {W : Tr Nat} {C : Nat → Prop} {G : Nat → Option Nat} {y : Nat} {r : List Nat} {ts : Array Value}
    (h : DrR P ρ H lo hi true nt T l D X T0 lds W C G (y :: r) ts) (hD : Nat.testBit D y = true) {o : Oper} (ho : l[y]? = some o) {v : Value} (hle : ρ.le ρ') (hg : ∀ g z, G z = some g → z ≠ y → ρ g = none → ρ' g = none) (hv : VR ρ' (At X y) v) :
    DrR P ρ' H lo hi true nt T l D X T0 lds W (fun z => C z ∨ z = y) G r (match o.dst with | some d => ts.setIfInBounds d v | none => ts) := by
  cases h.lin with
  | cons hy hn hp t =>
    exact { h with
      lin := t
      closC := fun z p hz hzp => by
        rcases hz with hz | rfl
        · exact .inl (h.closC z p hz hzp)
        · exact .inl (hp p hzp)
      sub := fun z hz => by
        rcases hz with hz | rfl
        · exact h.sub z hz
        · exact hD
      size := by cases o.dst <;> simp [h.size]
      ts := fun s => h.putTs hle ho hn (fun _ _ => rfl) hv s
      pend := fun z h1 h2 => (h.pend z h1 (fun hc => h2 (.inl hc))).mono (Nat.le_refl _) (fun g hG _ _ hn => ⟨hg g z hG (fun e => h2 (.inr e)) hn, rfl⟩) (fun t p x hm => ⟨hm, fun _ hl => hl rfl⟩) }
theorem catchup {P : Program} {w0 : Bs} {H : Tr AB} {lo n nt D : Nat} {T X T0 : Tr AV} {ops : Array Oper} {lds : List (Nat × TypeId × AV × AV)} {W : Tr Nat} {G : Nat → Option Nat} {k : List Item} {cs : List Frame} :
    ∀ (rest : List Nat) (ρ : Env) (w : World) (fr : Frame) (C : Nat → Prop), HR w0 ρ H n w → fr.todo = .inRegion ops rest :: k → fr.mode = .run → DrR P ρ H lo n true nt T ops.toList D X T0 lds W C G rest fr.tmps →
    ∃ (rest' : List Nat) (ρ' : Env) (w' : World) (fr' : Frame) (C' : Nat → Prop), Steps P (lone fr cs w) (lone fr' cs w') ∧ HR w0 ρ' H n w' ∧ ρ.le ρ' ∧ (∀ g, g < lo → ρ' g = ρ g) ∧
      fr' = { fr with tmps := fr'.tmps, todo := .inRegion ops rest' :: k } ∧ DrR P ρ' H lo n true nt T ops.toList D X T0 lds W C' G rest' fr'.tmps ∧ (∀ y r, rest' = y :: r → Nat.testBit D y = false) := by
  intro rest
  induction rest with
  | nil =>
    intro ρ w fr C hr ht hm hd
    exact ⟨[], ρ, w, fr, C, Steps.refl _ _, hr, ρ.le_refl, fun _ _ => rfl, by rw [← ht], hd, fun y r e => by cases e⟩
  | cons y r ih =>
    intro ρ w fr C hr ht hm hd
    cases hD : Nat.testBit D y with
    | false => exact ⟨y :: r, ρ, w, fr, C, Steps.refl _ _, hr, ρ.le_refl, fun _ _ => rfl, by rw [← ht], hd, fun y' r' e => by cases e; exact hD⟩
    | true =>
      obtain ⟨hy, hn, hp⟩ : y < ops.toList.length ∧ ¬ C y ∧ ∀ p, Pred ops.toList y p → C p := by
        cases hd.lin with | cons hy hn hp t => exact ⟨hy, hn, hp⟩
      obtain ⟨o, Ty, ho, hs, hcase⟩ := hd.pend y hD hn
      have ho' : ops[y]? = some o := by simpa using ho
      have hsee : ∀ s, Sees ops.toList o s → VR ρ (At Ty s) (fr.tmps.getD s undef) := fun s h => by
        rw [hs s h]; exact hd.seesC ho h hn hp
      have hev := ev_of_slots (fr := fr) (fun s h => hsee s (.inl h))
      have hw := wantedA_sound (n := 0) (ops := ops) (fun d h => hsee d (.inr h))
      have hplain := hd.sc.plain ho
      -- what is left, behind one step
      have go : ∀ (ρ' : Env) (w' : World) (v : Value), step P (lone fr cs w) = .next (lone (fr.finish v) cs w') → HR w0 ρ' H n w' → ρ.le ρ' → (∀ g, g < lo → ρ' g = ρ g) → (∀ g z, G z = some g → z ≠ y → ρ g = none → ρ' g = none) → VR ρ' (At X y) v →
          ∃ (rest' : List Nat) (ρ' : Env) (w' : World) (fr' : Frame) (C' : Nat → Prop), Steps P (lone fr cs w) (lone fr' cs w') ∧ HR w0 ρ' H n w' ∧ ρ.le ρ' ∧ (∀ g, g < lo → ρ' g = ρ g) ∧
            fr' = { fr with tmps := fr'.tmps, todo := .inRegion ops rest' :: k } ∧ DrR P ρ' H lo n true nt T ops.toList D X T0 lds W C' G rest' fr'.tmps ∧ (∀ y r, rest' = y :: r → Nat.testBit D y = false) := by
        intro ρ' w' v hst hr' hle hlo hg hv
        have hf := finish_region ht ho' v
        have hd' := hd.caught hD ho hle hg hv
        obtain ⟨rest', ρ2, w2, fr2, C2, h1, h2, h3, h4, h5, h6, h7⟩ := ih ρ' w' (fr.finish v) _ hr' (by rw [hf]) (by rw [hf]; exact hm) (by rw [hf]; exact hd')
        refine ⟨rest', ρ2, w2, fr2, C2, .head hst h1, h2, Env.le_trans hle h3, fun g hgl => (h4 g hgl).trans (hlo g hgl), ?_, h6, h7⟩
        rw [h5, hf]
      rcases hcase with ⟨h1, h2⟩ | ⟨h1, h2⟩ | ⟨h1, t, a, h2, h3, _⟩ | ⟨h1, e, c, kk, g, h2, h3, h4, h5, h6, h7, h8⟩
      · refine go ρ w undef (step_unwanted ht hm ?_) hr ρ.le_refl (fun _ _ => rfl) (fun _ _ _ _ h => h) (by rw [h2]; exact .v _)
        rw [ho']; simp only [Option.map_some, Option.getD_some]; rw [hw]; exact h1
      · obtain ⟨v, hv, hrun⟩ := aopP_sound h2 hev
        exact go ρ w v (step_value (stepG_oper ht hm ho' (by rw [hw]; exact h1) hplain) (hrun w)) hr ρ.le_refl (fun _ _ => rfl) (fun _ _ _ _ h => h) hv
      · obtain ⟨v, hv, hrun⟩ := readA_sound hr h2 (h3 rfl) hev
        exact go ρ w v (step_value (stepG_oper ht hm ho' (by rw [hw]; exact h1) hplain) hrun) hr ρ.le_refl (fun _ _ => rfl) (fun _ _ _ _ h => h) hv
      · obtain ⟨vs, hvs, hrun⟩ := aopN_sound h2 hev
        have hbr : BR (ρ.set g (w.heap.size, 0)) 0 (.mem e none c) (.cells vs.toArray e) := ⟨vs, [], (0, 0), hvs.mono (Env.le_set h6 _), by simp, unfrozen_zero _, rfl⟩
        refine go (ρ.set g (w.heap.size, 0)) _ _ (step_value (stepG_oper ht hm ho' (by rw [hw]; exact h1) hplain) (hrun w)) (hr.name h8 h6 h5 hbr) (Env.le_set h6 _) (fun g' hl => ?_) (fun g' z hz hne hn' => ?_) ?_
        · unfold Env.set; rw [if_neg (by omega)]
        · unfold Env.set
          rw [if_neg (fun e => by subst e; exact hne (hd.ginj hz h4))]
          exact hn'
        · rw [h3]; exact NewV.VR (Env.set_same _ _ _) kk
theorem DrR.ahead {P : Program} {ρ : Env} {H H' : Tr AB} {lo n n' nt D : Nat} {T X T0 : Tr AV} {l : List Oper} {lds : List (Nat × TypeId × AV × AV)} {W : Tr Nat} {C : Nat → Prop} {G : Nat → Option Nat} {rest : List Nat} {ts : Array Value} {w0 : Bs} {w : World}
    (h : DrR P ρ H lo n true nt T l D X T0 lds W C G rest ts) (hr : HR w0 ρ H n w) (hlo : lo ≤ n) {y : Nat} {o : Oper} {x : AV} {q : Option (TypeId × AV × AV)} (hy : (y, o) ∈ readyL D l 0) (he : eagerA P T l o H n = some (x, H', n', q)) :
    ∃ G', HR w0 ρ H' n' w ∧ Ext ρ ρ H H' n n' ∧ DrR P ρ H' lo n' true nt (Ev.putT nt T o.dst x) l (D ||| 2 ^ y) (tput X y x) T0 (addLd y q lds) W C G' rest ts := by
  obtain ⟨ho, hyD, hp⟩ := mem_ready'.1 hy
  have hnC : ¬ C y := fun hc => by have := h.sub y hc; rw [hyD] at this; cases this
  have hX : ∀ i, i ≠ y → At (tput X y x) i = At X i := fun i hi => by rw [At_tput, if_neg hi]
  have hXy : At (tput X y x) y = x := by rw [At_tput, if_pos rfl]
  have hanc : ∀ z i, Nat.testBit D z = true → ancB l z i = true → i ≠ y := fun z i hz hi e => by
    have := anc_closed h.sc.below (C := fun i => Nat.testBit D i = true) h.closD z i (fun p hpp => h.closD z p hz hpp) hi
    rw [e, hyD] at this; cases this
  have hancy : ∀ i, ancB l y i = true → i ≠ y := fun i hi e => by subst e; exact absurd (ancB_lt h.sc.below _ _ hi) (Nat.lt_irrefl _)
  have hsee : ∀ s, Sees l o s → At T s = envS l W nt (tput X y x) T0 y s := fun s hs => by
    rw [h.sees ho hs hyD hp]
    exact envS_congr fun i hi => (hX i (hancy i hi)).symm
  have finish : ∀ (G' : Nat → Option Nat) (lds' : List (Nat × TypeId × AV × AV)), n ≤ n' → (∀ z, z ≠ y → G' z = G z) → (∀ g, G' y = some g → n ≤ g ∧ g < n') → (∀ g, g < n → ρ g = none → H'.get g = H.get g) → (∀ t p v, readA P t p H = some v → readA P t p H' = some v) → (∀ e, e ∈ lds → e ∈ lds') →
      Pend P ρ H' lo n' true l W nt (tput X y x) T0 lds' G' y → DrR P ρ H' lo n' true nt (Ev.putT nt T o.dst x) l (D ||| 2 ^ y) (tput X y x) T0 lds' W C G' rest ts := by
    intro G' lds' hnn hGo hGy hH hL hlds hpy
    refine { h with closD := fun z p hz hzp => ?_, sub := fun z hz => ?_, dlt := fun z hz => ?_, T := h.putT ho hyD x, ts := fun s => ?_, pend := fun z hz hzC => ?_, ginj := fun {a b g} ha hb => ?_, gb := fun {a g} ha => ?_ }
    · rw [testBit_put] at hz ⊢
      by_cases e : y = z
      · subst e; rw [hp p hzp]; rfl
      · simp [e] at hz; rw [h.closD z p hz hzp]; rfl
    · rw [testBit_put, h.sub z hz]; rfl
    · rw [testBit_put] at hz
      by_cases e : y = z
      · subst e; exact (List.getElem?_eq_some_iff.1 ho).1
      · simp [e] at hz; exact h.dlt z hz
    · have := h.ts s
      rwa [valS_congr (X' := tput X y x) (C' := C) (fun i hi => ⟨Iff.rfl, fun hc => (hX i (fun e => hnC (e ▸ hc))).symm⟩)] at this
    · by_cases e : z = y
      · subst e; exact hpy
      · have hzD : Nat.testBit D z = true := by
          rw [testBit_put] at hz
          have : y ≠ z := fun h => e h.symm
          simpa [this] using hz
        obtain ⟨o', Ty, h1, h2, h3⟩ := h.pend z hzD hzC
        refine ⟨o', Ty, h1, fun s hs => (h2 s hs).trans (envS_congr fun i hi => (hX i (hanc z i hzD hi)).symm), ?_⟩
        rw [hX z e]
        rcases h3 with h3 | h3 | ⟨h3, t, a, h4, h5, h6⟩ | ⟨h3, e', c, k, g, h4, h5, h6, h7, h8, h9, h10⟩
        · exact .inl h3
        · exact .inr (.inl h3)
        · exact .inr (.inr (.inl ⟨h3, t, a, h4, fun _ => hL _ _ _ (h5 rfl), hlds _ h6⟩))
        · exact .inr (.inr (.inr ⟨h3, e', c, k, g, h4, h5, (hGo z e).trans h6, (hH g h10 h8).trans h7, h8, h9, by omega⟩))
    · by_cases ea : a = y <;> by_cases eb : b = y
      · rw [ea, eb]
      · subst ea
        rw [hGo b eb] at hb
        have := hGy g ha; have := (h.gb hb).1; omega
      · subst eb
        rw [hGo a ea] at ha
        have := hGy g hb; have := (h.gb ha).1; omega
      · rw [hGo a ea] at ha; rw [hGo b eb] at hb; exact h.ginj ha hb
    · by_cases ea : a = y
      · subst ea; exact ⟨(hGy g ha).2, by rw [testBit_put]; simp⟩
      · rw [hGo a ea] at ha
        exact ⟨Nat.lt_of_lt_of_le (h.gb ha).1 hnn, by rw [testBit_put, (h.gb ha).2]; rfl⟩
  have hGn : G y = none := by
    cases hg : G y with
    | none => rfl
    | some g => have := (h.gb hg).2; rw [hyD] at this; cases this
  unfold eagerA at he
  cases hw : wantedA T (dstIn l) o with
  | false =>
    simp only [hw, cond_false, Option.some.injEq, Prod.mk.injEq] at he
    obtain ⟨rfl, rfl, rfl, rfl⟩ := he
    refine ⟨G, hr, Ext.refl _ _ _, finish G lds (Nat.le_refl _) (fun _ _ => rfl) (fun g hg => by rw [hGn] at hg; cases hg) (fun _ _ _ => rfl) (fun _ _ _ h => h) (fun _ h => h) ?_⟩
    exact ⟨o, T, ho, hsee, .inl ⟨hw, hXy⟩⟩
  | true =>
    simp only [hw, cond_true] at he
    cases hP : aopP P T o with
    | some x' =>
      simp only [hP, Option.some.injEq, Prod.mk.injEq] at he
      obtain ⟨rfl, rfl, rfl, rfl⟩ := he
      refine ⟨G, hr, Ext.refl _ _ _, finish G lds (Nat.le_refl _) (fun _ _ => rfl) (fun g hg => by rw [hGn] at hg; cases hg) (fun _ _ _ => rfl) (fun _ _ _ h => h) (fun _ h => h) ?_⟩
      exact ⟨o, T, ho, hsee, .inr (.inl ⟨hw, by rw [hXy]; exact hP⟩)⟩
    | none =>
      simp only [hP] at he
      have alloc : (match aopN P T o with | some (e, l, k) => some (k.av n, tput H n (.mem e none l), n + 1, none) | none => none) = some (x, H', n', q) →
          ∃ G', HR w0 ρ H' n' w ∧ Ext ρ ρ H H' n n' ∧ DrR P ρ H' lo n' true nt (Ev.putT nt T o.dst x) l (D ||| 2 ^ y) (tput X y x) T0 (addLd y q lds) W C G' rest ts := by
        intro he
        cases hN : aopN P T o with
        | none => simp [hN] at he
        | some r =>
          obtain ⟨e, c, k⟩ := r
          simp only [hN, Option.some.injEq, Prod.mk.injEq] at he
          obtain ⟨rfl, rfl, rfl, rfl⟩ := he
          have htop := hr.top (Nat.le_refl n)
          refine ⟨fun z => if z = y then some n else G z, hr.put _, Ext.put hr _, finish _ lds (Nat.le_succ _) (fun z hz => by simp [hz]) (fun g hg => by simp at hg; omega) (fun g hg _ => by rw [get_tput, if_neg (by omega)]) (fun t p v hl => ?_) (fun _ h => h) ?_⟩
          · have hne : ∀ {i B}, H.get i = some B → (tput H n (.mem e none c)).get i = some B := fun {i B} hB => by
              have : i ≠ n := fun e => by subst e; rw [htop.2] at hB; cases hB
              rw [get_tput, if_neg this]; exact hB
            exact readA_of (fun _ _ _ _ hB => hne hB) (fun _ _ _ hB => hne hB) hl
          · refine ⟨o, T, ho, hsee, .inr (.inr (.inr ⟨hw, e, c, k, n, hN, hXy, by simp, by rw [get_tput, if_pos rfl], htop.1, hlo, Nat.lt_succ_self _⟩))⟩
      split at he
      · rename_i t a hop
        cases hl : readA P t a H with
        | none => simp [hl] at he
        | some x' =>
          simp only [hl, Option.some.injEq, Prod.mk.injEq] at he
          obtain ⟨rfl, rfl, rfl, rfl⟩ := he
          refine ⟨G, hr, Ext.refl _ _ _, finish G _ (Nat.le_refl _) (fun _ _ => rfl) (fun g hg => by rw [hGn] at hg; cases hg) (fun _ _ _ => rfl) (fun _ _ _ h => h) (fun _ h => by simp [addLd, h]) ?_⟩
          exact ⟨o, T, ho, hsee, .inr (.inr (.inl ⟨hw, t, a, hop, fun _ => by rw [hXy]; exact hl, by rw [hXy]; simp [addLd]⟩))⟩
      · exact alloc he
end Go.Proofs.Ytnkjhicokcmmpaa.Ev

/-
  Frames and stacks that stand for the model's; the pieces of a step.
-/
namespace Go.Proofs.Ytnkjhicokcmmpaa.Ev
open Go Go.RowKit
def RgR (P : Program) (ρ : Env) (H : Tr AB) (lo hi : Nat) (live : Bool) (nt : Nat) (T : Tr AV) : ARg → List Item → Array Value → Prop
  | .no, front, ts => front = [] ∧ TR ρ nt T ts
  | .pl ops l, front, ts => (∃ rest, front = [.inRegion ops rest] ∧ PlR ops l rest) ∧ TR ρ nt T ts
  | .dr ops D X T0 lds cur, front, ts => ∃ W C G rest, front = [.inRegion ops rest] ∧ DrR P ρ H lo hi live nt T ops.toList D X T0 lds W C G rest ts ∧ (∀ y, cur = some y → ∃ r, rest = y :: r ∧ Nat.testBit D y = false)
structure FRel (P : Program) (ρ : Env) (H : Tr AB) (hi : Nat) (live : Bool) (af : AFr) (fr : Frame) : Prop where
  fn : fr.fn = af.fn
  kind : fr.kind = .normal
  mode : fr.mode = cond af.ret .returning .run
  ds : DsR ρ af.ds fr.defers
  ro : RoR ρ af.round fr.roundOf
  todo : ∃ front rest, fr.todo = front ++ rest ∧ IRs ρ af.todo rest ∧ RgR P ρ H af.lo hi live af.nt af.T af.rg front fr.tmps
theorem RgR.mono {P : Program} {ρ ρ' : Env} {H H' : Tr AB} {lo hi hi' nt : Nat} {live : Bool} {T : Tr AV} {rg : ARg} {front : List Item} {ts : Array Value} (h : RgR P ρ H lo hi live nt T rg front ts) (hle : ρ.le ρ') (hhi : hi ≤ hi')
    (hg : ∀ g, g < hi → ρ g = none → ρ' g = none ∧ H'.get g = H.get g) : RgR P ρ' H' lo hi' false nt T rg front ts := by
  cases rg with
  | no => exact ⟨h.1, h.2.mono hle⟩
  | pl ops l => exact ⟨h.1, h.2.mono hle⟩
  | dr ops D X T0 lds cur =>
    obtain ⟨W, C, G, rest, h1, h2, h3⟩ := h
    exact ⟨W, C, G, rest, h1, h2.mono hle hhi hg, h3⟩
theorem FRel.mono {P : Program} {ρ ρ' : Env} {H H' : Tr AB} {hi hi' : Nat} {live : Bool} {af : AFr} {fr : Frame} (h : FRel P ρ H hi live af fr) (hle : ρ.le ρ') (hhi : hi ≤ hi')
    (hg : ∀ g, g < hi → ρ g = none → ρ' g = none ∧ H'.get g = H.get g) : FRel P ρ' H' hi' false af fr := by
  obtain ⟨front, rest, h1, h2, h3⟩ := h.todo
  exact ⟨h.fn, h.kind, h.mode, h.ds.mono hle, h.ro.mono hle, front, rest, h1, h2.mono hle, h3.mono hle hhi hg⟩
inductive StackR (P : Program) (ρ : Env) (H : Tr AB) : Nat → List AFr → List Frame → Prop
  | nil (hi : Nat) : StackR P ρ H hi [] []
  | cons {hi : Nat} {af : AFr} {fr : Frame} {l : List AFr} {m : List Frame} (h : FRel P ρ H hi false af fr) (hlo : af.lo ≤ hi) (t : StackR P ρ H af.lo l m) : StackR P ρ H hi (af :: l) (fr :: m)
theorem StackR.mono {P : Program} {ρ ρ' : Env} {H H' : Tr AB} {hi : Nat} {l : List AFr} {m : List Frame} (h : StackR P ρ H hi l m) (hle : ρ.le ρ') (hg : ∀ g, g < hi → ρ g = none → ρ' g = none ∧ H'.get g = H.get g) : StackR P ρ' H' hi l m := by
  induction h with
  | nil => exact .nil _
  | cons h hlo t ih => exact .cons (h.mono hle (Nat.le_refl _) hg) hlo (ih (fun g hl hn => hg g (Nat.lt_of_lt_of_le hl hlo) hn))
def SR (P : Program) (w0 : Bs) (s : ASt) (fr : Frame) (cs : List Frame) (w : World) : Prop :=
  ∃ ρ, HR w0 ρ s.H s.n w ∧ FRel P ρ s.H s.n true s.fr fr ∧ s.fr.lo ≤ s.n ∧ StackR P ρ s.H s.fr.lo s.cs cs
theorem Ext.low {ρ ρ' : Env} {H H' : Tr AB} {n n' m : Nat} (h : Ext ρ ρ' H H' n n') (hm : m ≤ n) : ∀ g, g < m → ρ g = none → ρ' g = none ∧ H'.get g = H.get g := fun g hg hn =>
  ⟨(h.old (Nat.lt_of_lt_of_le hg hm)).trans hn, h.keep (Nat.lt_of_lt_of_le hg hm) hn⟩
structure FTok (P : Program) (FT : FuncId → Option Func) : Prop where
  fn : ∀ {f fn}, FT f = some fn → P.funcs[f]? = some fn
  call : ∀ {f fn}, FT f = some fn → fn.body.isSome = true → ∀ args w, (callFunc f args).run P w = .ok (.enter f args) w
def HKok (P : Program) (HK : Hook) : Prop := ∀ {f args H n x H' n'}, HK f args H n = some (x, H', n') → (∀ xs w, (callFunc f xs).run P w = .ok (.enter f xs) w) ∧
  ∀ {w0 ρ w vs}, HR w0 ρ H n w → VRs ρ args vs → Calls P f vs.toArray w (fun e w' => ∃ ρ' v, e = .returned v ∧ VR ρ' x v ∧ HR w0 ρ' H' n' w' ∧ Ext ρ ρ' H H' n n')
def toCallee (fv : Value) (args : Array Value) : Sem Next := do let d ← Deferred.ofValue fv args; invoke d.target d.args
theorem calleeOf_sound {P : Program} {ρ : Env} {f : AV} {args : List AV} {fv : Value} {vs : List Value} {c : Callee'} (h : calleeOf P f args = some c) (hf : VR ρ f fv) (ha : VRs ρ args vs) :
    (∃ g xs us, c = .fn g xs ∧ VRs ρ xs us ∧ ∀ w, (toCallee fv vs.toArray).run P w = (callFunc g us.toArray).run P w) ∨
    (∃ i b cc, c = .yl i args ∧ ρ i = some (b, cc) ∧ ∀ w, (toCallee fv vs.toArray).run P w = (Instr.yield b vs.toArray).run P w) := by
  unfold calleeOf at h
  split at h
  · rename_i g first cap
    simp only [Option.some.injEq] at h; subst h
    cases hf with
    | fn _ e e' =>
      refine .inl ⟨g, _, _, rfl, (e.append ha).append e', fun w => ?_⟩
      unfold toCallee
      simp [Deferred.ofValue, invoke]
  · rename_i i
    simp at h; subst h
    cases hf with
    | yl e =>
      refine .inr ⟨i, _, _, rfl, e, fun w => ?_⟩
      unfold toCallee
      simp [Deferred.ofValue, invoke]
  · cases h
theorem methodA_sound {P : Program} {t : TypeId} {name : String} {f : FuncId} (h : methodA P t name = some f) : ∀ v w, (method (P.types.size + Made.depth) t v name).run P w = .ok (f, v) w := by
  unfold methodA at h
  split at h
  · rename_i inf hinf
    split at h
    · rename_i m hm
      intro v w
      obtain ⟨d, hd⟩ : ∃ d, P.types.size + Made.depth = d + 1 := ⟨P.types.size + Made.depth - 1, by unfold Made.depth; omega⟩
      rw [hd]
      unfold method
      have hpath : ∀ {l : List FieldStep}, m.path.toList = l → l = [] → m.path.isEmpty = true := fun h1 h2 => by
        rw [h2] at h1
        simpa using h1
      split at h
      · rename_i g e hp hfn hu
        simp at h; subst h
        have hpe := hpath hp rfl
        simp [run_typeInfo hinf, hm, hp, follow, hfn, receiverAt, run_underlying hu, Place.get, hpe]
      · cases h
      · rename_i g d' hne hp hfn hu
        simp at h; subst h
        have hpe := hpath hp rfl
        simp only [Sem.run_bind, run_typeInfo hinf, Result.andThen_ok, hm, hp, follow, Sem.run_pure, hfn, receiverAt, run_underlying hu]
        cases d' <;> first | (exact absurd rfl (hne _)) | simp [Place.get]
      · cases h
    · cases h
  · cases h
theorem callOf_sound {P : Program} {ρ : Env} {T : Tr AV} {o : Oper} {c : Callee'} {ev : Operand → Value} (h : callOf P T o = some c) (hev : ∀ y ∈ o.op.operands, VR ρ (aev T y) (ev y)) :
    (∃ g xs us, c = .fn g xs ∧ VRs ρ xs us ∧ ∀ w, (execOp ev o).run P w = (callFunc g us.toArray).run P w) ∨
    (∃ i xs vs b cc, c = .yl i xs ∧ VRs ρ xs vs ∧ ρ i = some (b, cc) ∧ ∀ w, (execOp ev o).run P w = (Instr.yield b vs.toArray).run P w) := by
  obtain ⟨dst, op, type, pos, after, guard⟩ := o
  unfold callOf at h
  split at h
  · rename_i f args ats hop
    simp only at hop
    subst hop
    have hargs : VRs ρ (args.toList.map (aev T)) (args.toList.map ev) := VRs.map_ev fun y hy => hev y (by simp [Op.operands, Call.operands]; exact .inr (by simpa using hy))
    have hf := hev f (by simp [Op.operands, Call.operands])
    have hex : ∀ w, (execOp ev ⟨dst, .call ⟨.value f, args, ats⟩, type, pos, after, guard⟩).run P w = (toCallee (ev f) (args.toList.map ev).toArray).run P w := fun w => by
      unfold execOp toCallee resolve
      rw [arrmap]
    rcases calleeOf_sound h hf hargs with ⟨g, xs, us, h1, h2, h3⟩ | ⟨i, b, cc, h1, h2, h3⟩
    · exact .inl ⟨g, xs, us, h1, h2, fun w => (hex w).trans (h3 w)⟩
    · exact .inr ⟨i, _, _, b, cc, h1, hargs, h2, fun w => (hex w).trans (h3 w)⟩
  · rename_i r name args ats hop
    simp only at hop
    subst hop
    have hargs : VRs ρ (args.toList.map (aev T)) (args.toList.map ev) := VRs.map_ev fun y hy => hev y (by simp [Op.operands, Call.operands]; exact .inr (by simpa using hy))
    have hr := hev r (by simp [Op.operands, Call.operands])
    split at h
    · rename_i t x hrx
      rw [hrx] at hr
      generalize hrv : ev r = rv at hr
      cases hr with
      | ifc _ hx =>
        rename_i u
        cases hm : methodA P t name with
        | none => simp [hm] at h
        | some g =>
          simp [hm] at h; subst h
          refine .inl ⟨g, _, _, rfl, .cons hx hargs, fun w => ?_⟩
          have e0 : ∀ (a : Value) (ys : Array Value), (#[a] ++ ys)[0]? = some a := fun a ys => by rw [← Array.getElem?_toList]; simp
          have e1 : ∀ (a : Value) (ys : Array Value), (#[a] ++ ys).extract 1 (#[a] ++ ys).size = ys := fun a ys => Array.toList_inj.1 (by simp [List.extract_eq_take_drop])
          have e2 : (u :: args.toList.map ev).toArray = #[u] ++ args.map ev := Array.toList_inj.1 (by simp)
          unfold execOp resolve
          simp only [Sem.run_bind, Sem.run_pure, Result.andThen_ok, invoke, hrv, e0, e1, callMethod, run_program, methodA_sound hm, e2]
    · cases h
  · cases h
end Go.Proofs.Ytnkjhicokcmmpaa.Ev

/-
  Calls, rounds and returns of the small machine.
-/
namespace Go.Proofs.Ytnkjhicokcmmpaa.Ev
open Go Go.RowKit
section
variable {P : Program} {FT : FuncId → Option Func} {HK : Hook} {w0 : Bs} {w : World} {ρ : Env} {H H' : Tr AB} {n n' : Nat}
theorem At_argsT : ∀ (l : List AV) (k : Nat) (T : Tr AV) (s : Nat), At (argsT l k T) s = if k ≤ s ∧ s < k + l.length then (l[s - k]?).getD (.v undef) else At T s
  | [], k, T, s => by simp [argsT]; omega
  | x :: l, k, T, s => by
    unfold argsT
    rw [At_argsT l (k + 1), At_tput]
    by_cases h1 : s = k
    · subst h1; rw [if_neg (by omega), if_pos rfl, if_pos ⟨by omega, by simp⟩]; simp
    · by_cases h2 : k + 1 ≤ s ∧ s < k + 1 + l.length
      · rw [if_pos h2, if_pos ⟨by omega, by simp; omega⟩]
        rw [show s - k = (s - (k + 1)) + 1 by omega]
        simp
      · rw [if_neg h2, if_neg h1, if_neg (by simp; omega)]
theorem argsT_TR {l : List AV} {vs : List Value} (h : VRs ρ l vs) (m : Nat) : TR ρ (cond (Nat.ble m l.length) l.length m) (argsT l 0 .e) (vs.toArray ++ Array.replicate (m - vs.toArray.size) undef) := by
  have hl := h.length
  constructor
  · simp
    cases hb : Nat.ble m l.length with
    | true => have := Nat.le_of_ble_eq_true hb; simp; omega
    | false =>
      have : l.length < m := by
        rcases Nat.lt_or_ge l.length m with h' | h'
        · exact h'
        · rw [Nat.ble_eq_true_of_le h'] at hb; cases hb
      simp; omega
  · intro s
    rw [At_argsT]
    by_cases hs : s < l.length
    · rw [if_pos ⟨Nat.zero_le _, by omega⟩]
      obtain ⟨u, hu, hx⟩ := h.get (k := s) (x := l[s]) (List.getElem?_eq_getElem hs)
      have : (vs.toArray ++ Array.replicate (m - vs.toArray.size) undef).getD s undef = u := by
        rw [Array.getD_eq_getD_getElem?, ← Array.getElem?_toList]
        simp only [Array.toList_append]
        rw [List.getElem?_append_left (by rw [← hl]; exact hs), hu]
        rfl
      rw [this]
      simp [hs]
      exact hx
    · rw [if_neg (by omega)]
      have : (vs.toArray ++ Array.replicate (m - vs.toArray.size) undef).getD s undef = undef := by
        rw [Array.getD_eq_getD_getElem?, ← Array.getElem?_toList]
        simp only [Array.toList_append]
        rw [List.getElem?_append_right (by rw [← hl]; omega)]
        simp only [Array.toList_replicate, List.getElem?_replicate]
        split <;> rfl
      rw [this]
      exact .v _
theorem putParams_TR : ∀ {ps : List Tmp} {xs : List AV} {vs : List Value} {nt : Nat} {T : Tr AV} {ts : Array Value}, TR ρ nt T ts → VRs ρ xs vs → TR ρ nt (putParams nt ps xs T) ((ps.zip vs).foldl (fun t p => t.setIfInBounds p.1 p.2) ts)
  | [], xs, vs, nt, T, ts, h, _ => by cases xs <;> simpa [putParams] using h
  | p :: ps, [], vs, nt, T, ts, h, hx => by cases hx; simpa [putParams] using h
  | p :: ps, x :: xs, vs, nt, T, ts, h, hx => by
    cases hx with
    | cons e t =>
      simp only [putParams, List.zip_cons_cons, List.foldl_cons]
      exact putParams_TR (h.put (d := some p) e) t
theorem apply_enter {fr : Frame} {cs : List Frame} {w' : World} {S : Sem Next} {f : FuncId} {args : Array Value} (hc : ∀ d x y z r, fr.todo ≠ .call d x y z :: r) (hr : S.run P w = .ok (.enter f args) w') :
    (stepG.apply P true fr cs none S w).bare = .go { frame := Frame.enter P f args .normal, callers := fr :: cs, status := .running, dying := none } w' := by
  have : (match fr.todo with | .call _ true _ _ :: _ => CallKind.wrapped | _ => .normal) = .normal := by
    split
    · rename_i e; exact absurd e (hc _ _ _ _ _)
    · rfl
  simp [stepG.apply, hr]
  exact congrArg (Frame.enter P f args) this
theorem apply_round {fr : Frame} {cs : List Frame} {w' : World} {S : Sem Next} {l : Nat} {f : FuncId} {tmps : Array Value} {a b : Code} (hr : S.run P w = .ok (.round l f tmps a b) w') :
    (stepG.apply P true fr cs none S w).bare = .go { frame := Frame.round l f tmps a b .normal, callers := fr :: cs, status := .running, dying := none } w' := by
  simp [stepG.apply, hr]
theorem enter_sound (hft : FTok P FT) {s s' : ASt} {af : AFr} {fr : Frame} {cs base : List Frame} {c : Callee'} (h : enterA FT af s c = some s') (hr : HR w0 ρ s.H s.n w) (hfr : FRel P ρ s.H s.n false af fr) (hlo : af.lo ≤ s.n)
    (hst : StackR P ρ s.H af.lo s.cs cs) {S : Sem Next} {fr0 : Frame} {w1 : World} (hg : (stepG P true { frame := fr0, callers := cs ++ base, status := .running, dying := none } w1).bare = (stepG.apply P true fr (cs ++ base) none S w).bare) (hc : ∀ d x y z r, fr.todo ≠ .call d x y z :: r)
    (hS : (∃ g xs us, c = .fn g xs ∧ VRs ρ xs us ∧ S.run P w = (callFunc g us.toArray).run P w) ∨ (∃ i xs vs b cc, c = .yl i xs ∧ VRs ρ xs vs ∧ ρ i = some (b, cc) ∧ S.run P w = (Instr.yield b vs.toArray).run P w)) :
    ∃ fr', step P (lone fr0 (cs ++ base) w1) = .next (lone fr' (fr :: cs ++ base) w) ∧ SR P w0 s' fr' (fr :: cs) w := by
  rcases hS with ⟨g, xs, us, rfl, hx, hrun⟩ | ⟨i, xs, vs, b, cc, rfl, hx, hi, hrun⟩
  · simp only [enterA] at h
    cases hfn : FT g with
    | none => simp [hfn] at h
    | some fn =>
      cases hb : fn.body with
      | none => simp [hfn, hb] at h
      | some body =>
        simp only [hfn, hb, Option.some.injEq] at h
        subst h
        refine ⟨_, step_lone_go (hg.trans (apply_enter hc (hrun.trans (hft.call hfn (by rw [hb]; rfl) _ _)))), ρ, hr, ?_, Nat.le_refl _, .cons hfr hlo hst⟩
        have hP := hft.fn hfn
        refine ⟨rfl, rfl, rfl, .nil, .inl ⟨rfl, rfl⟩, [], _, rfl, ?_, rfl, ?_⟩
        · simp only [Frame.enter, hP, Option.bind_some, hb, Option.getD_some]
          exact .cons (.code _) .nil
        · have := argsT_TR hx fn.ntmps
          simpa [Frame.enter, hP] using this
  · simp only [enterA] at h
    split at h
    · rename_i st pd fn nt T ps asg bd d hB
      rw [beq_dec] at h
      by_cases hl : xs.length = ps.length
      · simp only [hl, decide_true, cond_true, Option.some.injEq] at h
        subst h
        obtain ⟨o, ho, ts, db, dc, hts, hd, rfl⟩ := hr.blk hi hB
        have hvl := hx.length
        have hy : (Instr.yield b vs.toArray).run P w = .ok (.round b fn ((ps.toArray.zip vs.toArray).foldl (fun tmps (x : Tmp × Value) => tmps.setIfInBounds x.1 x.2) ts) asg bd) w := by
          unfold Instr.yield
          have hne : ¬ (vs.toArray.size ≠ ps.toArray.size) := by simp; omega
          simp only [Sem.run_bind, run_getLoop ho, Result.andThen_ok, if_neg hne, Sem.run_pure]
        refine ⟨_, step_lone_go (hg.trans (apply_round (hrun.trans hy))), ρ, hr, ?_, Nat.le_refl _, .cons hfr hlo hst⟩
        refine ⟨rfl, rfl, rfl, .nil, .inr ⟨i, b, cc, rfl, rfl, hi⟩, [], _, rfl, .cons (.code _) (.cons .beginRound (.cons (.code _) .nil)), rfl, ?_⟩
        have := putParams_TR (ps := ps) hts hx
        have he : (ps.toArray.zip vs.toArray).foldl (fun tmps (x : Tmp × Value) => tmps.setIfInBounds x.1 x.2) ts = (ps.zip vs).foldl (fun t p => t.setIfInBounds p.1 p.2) ts := by
          rw [← Array.foldl_toList]; simp
        simp only [Frame.round, he]
        exact this
      · simp [hl] at h
    · cases h
theorem now_sound (hk : HKok P HK) {T : Tr AV} {o : Oper} {x : AV} (hr : HR w0 ρ H n w) (h : nowA HK P T o H n = some (x, H', n')) {fr : Frame} {cs : List Frame} (hev : ∀ y ∈ o.op.operands, VR ρ (aev T y) (fr.eval y))
    (hg : stepG P true { frame := fr, callers := cs, status := .running, dying := none } w = stepG.apply P true fr cs none (execOp fr.eval o) w) (hc : ∀ d x y z r, fr.todo ≠ .call d x y z :: r) :
    ∃ ρ' v w', Steps P (lone fr cs w) (lone (fr.finish v) cs w') ∧ VR ρ' x v ∧ HR w0 ρ' H' n' w' ∧ Ext ρ ρ' H H' n n' := by
  unfold nowA at h
  cases hW : aopW P T o H n with
  | some r =>
    rw [hW] at h
    simp at h; subst h
    obtain ⟨ρ', v, w', h1, h2, h3, h4⟩ := aopW_sound hr hW hev
    refine ⟨ρ', v, w', ?_, h2, h3, h4⟩
    rcases h1 with h1 | ⟨rfl, h1⟩
    · exact .one (step_value hg h1)
    · exact .one (step_skip' hg h1)
  | none =>
    rw [hW] at h
    simp only [hooked] at h
    split at h
    · rename_i f args hco
      obtain ⟨hen, hcalls⟩ := hk h
      rcases callOf_sound hco hev with ⟨g, xs, us, h1, h2, h3⟩ | ⟨i, xs, vs, b, cc, h1, _⟩
      · cases h1
        have hst := step_enter hc hg ((h3 w).trans (hen _ _))
        obtain ⟨e, w', fr'', hR, hcomes, _, hleave⟩ := hcalls hr h2 (fr :: cs)
        obtain ⟨ρ', v, rfl, hv, hr', hx⟩ := hR
        exact ⟨ρ', v, w', .head hst (Steps.trans hcomes (.one (step_leave_returned hleave))), hv, hr', hx⟩
      · cases h1
    · cases h
theorem FRel.pl_done {af : AFr} {fr : Frame} {hi hi' : Nat} {live : Bool} {ρ' : Env} {ops : Array Oper} {o : Oper} {r : List Oper} (h : FRel P ρ H hi live af fr) (hrg : af.rg = .pl ops (o :: r)) (hle : ρ.le ρ') {x : AV} {v : Value} (hv : VR ρ' x v) (live' : Bool) :
    FRel P ρ' H' hi' live' { af with T := putT af.nt af.T o.dst x, rg := .pl ops r } (fr.finish v) := by
  obtain ⟨front, rest, h1, h2, h3⟩ := h.todo
  rw [hrg] at h3
  obtain ⟨⟨rest', rfl, hp⟩, hT⟩ := h3
  obtain ⟨i, r', rfl, hi, hp'⟩ := hp.head
  have ht : fr.todo = .inRegion ops (i :: r') :: rest := h1
  rw [finish_region ht hi v]
  exact ⟨h.fn, h.kind, h.mode, h.ds.mono hle, h.ro.mono hle, [.inRegion ops r'], rest, rfl, h2.mono hle, ⟨r', rfl, hp'⟩, (hT.mono hle).put hv⟩
theorem DrR.opdone {ρ' : Env} {lo nt D : Nat} {live : Bool} {T X T0 : Tr AV} {l : List Oper} {lds : List (Nat × TypeId × AV × AV)} {W : Tr Nat} {C : Nat → Prop} {G : Nat → Option Nat} {y : Nat} {r : List Nat} {ts : Array Value} {hi hi' : Nat}
    (h : DrR P ρ H lo hi live nt T l D X T0 lds W C G (y :: r) ts) (hy : Nat.testBit D y = false) {o : Oper} (ho : l[y]? = some o) {x : AV} {v : Value} (hle : ρ.le ρ') (hg : ∀ g, g < hi → ρ g = none → ρ' g = none ∧ H'.get g = H.get g) (hnn : hi ≤ hi')
    (hl : ldsOk P H' lds = true) (hv : VR ρ' x v) :
    DrR P ρ' H' lo hi' true nt (Ev.putT nt T o.dst x) l (D ||| 2 ^ y) (tput X y x) T0 lds W (fun z => C z ∨ z = y) G r (match o.dst with | some d => ts.setIfInBounds d v | none => ts) := by
  cases h.lin with
  | cons hylt hn hp t =>
    have hX : ∀ i, i ≠ y → At (tput X y x) i = At X i := fun i hi => by rw [At_tput, if_neg hi]
    have hXy : At (tput X y x) y = x := by rw [At_tput, if_pos rfl]
    have hpD : ∀ p, Pred l y p → Nat.testBit D p = true := fun p hpp => h.sub p (hp p hpp)
    have hanc : ∀ z i, Nat.testBit D z = true → ancB l z i = true → i ≠ y := fun z i hz hi e => by
      have := anc_closed h.sc.below (C := fun i => Nat.testBit D i = true) h.closD z i (fun p hpp => h.closD z p hz hpp) hi
      rw [e, hy] at this; cases this
    have h2 := (h.mono hle hnn hg).live hl
    refine { h with lin := t, closC := fun z p hz hzp => ?_, closD := fun z p hz hzp => ?_, sub := fun z hz => ?_, dlt := fun z hz => ?_, size := ?_, T := h.putT ho hy x, ts := fun s => ?_, pend := fun z hz hzC => ?_, gb := fun {a g} ha => ?_ }
    · rcases hz with hz | rfl
      · exact .inl (h.closC z p hz hzp)
      · exact .inl (hp p hzp)
    · rw [testBit_put] at hz ⊢
      by_cases e : y = z
      · subst e; rw [hpD p hzp]; rfl
      · simp [e] at hz; rw [h.closD z p hz hzp]; rfl
    · rw [testBit_put]
      rcases hz with hz | rfl
      · rw [h.sub z hz]; rfl
      · simp
    · rw [testBit_put] at hz
      by_cases e : y = z
      · subst e; exact hylt
      · simp [e] at hz; exact h.dlt z hz
    · cases o.dst <;> simp [h.size]
    · exact h.putTs hle ho hn (fun i hi => hX i (fun e => hn (e ▸ hi))) (by rw [hXy]; exact hv) s
    · have hne : z ≠ y := fun e => hzC (.inr e)
      have hzD : Nat.testBit D z = true := by
        rw [testBit_put] at hz
        have : y ≠ z := fun h => hne h.symm
        simpa [this] using hz
      obtain ⟨o', Ty, q1, q2, q3⟩ := h2.pend z hzD (fun hc => hzC (.inl hc))
      refine ⟨o', Ty, q1, fun s hs => (q2 s hs).trans (envS_congr fun i hi => (hX i (hanc z i hzD hi)).symm), ?_⟩
      rw [hX z hne]
      exact q3
    · have := h.gb ha
      exact ⟨Nat.lt_of_lt_of_le this.1 hnn, by rw [testBit_put, this.2]; rfl⟩
theorem finishA_sound {c c' : AFr} {cfr : Frame} {hi hi' : Nat} {x : AV} {v : Value} (h : finishA P H c x = some c') (hf : FRel P ρ H hi false c cfr) (hhi : hi ≤ hi') (hv : VR ρ x v) : FRel P ρ H hi' true c' (cfr.finish v) ∧ c'.lo = c.lo := by
  unfold finishA at h
  split at h
  · rename_i ops o r hrg
    simp only [Option.some.injEq] at h
    subst h
    exact ⟨hf.pl_done hrg ρ.le_refl hv true, rfl⟩
  · rename_i ops D X T0 lds y hrg
    split at h
    · rename_i o ho
      cases hl : ldsOk P H lds with
      | false => simp [hl] at h
      | true =>
        simp only [hl, cond_true, Option.some.injEq] at h
        subst h
        obtain ⟨front, rest, h1, h2, h3⟩ := hf.todo
        rw [hrg] at h3
        obtain ⟨W, C, G, rest', rfl, hd, hcur⟩ := h3
        obtain ⟨r, rfl, hyD⟩ := hcur y rfl
        have ht : cfr.todo = .inRegion ops (y :: r) :: rest := h1
        have ho' : ops[y]? = some o := by simpa using ho
        rw [finish_region ht ho' v]
        refine ⟨⟨hf.fn, hf.kind, hf.mode, hf.ds, hf.ro, [.inRegion ops r], rest, rfl, h2, W, _, G, r, rfl, hd.opdone hyD ho ρ.le_refl (fun g _ hn => ⟨hn, rfl⟩) hhi hl hv, fun y hy => by cases hy⟩, rfl⟩
    · cases h
  · rename_i hrg
    split at h
    · rename_i i k htd
      simp only [Option.some.injEq] at h
      subst h
      obtain ⟨front, rest, h1, h2, h3⟩ := hf.todo
      rw [hrg] at h3
      obtain ⟨rfl, hT⟩ := h3
      rw [htd] at h2
      cases h2 with
      | cons a t =>
        cases a with
        | inRF hb =>
          rename_i m b cc
          have ht : cfr.todo = .inRangeFunc b :: m := h1
          have hfin : cfr.finish v = { cfr with todo := .endRangeFunc b :: m } := by unfold Frame.finish; rw [ht]
          rw [hfin]
          refine ⟨⟨hf.fn, hf.kind, hf.mode, hf.ds, hf.ro, [], _, rfl, .cons (.endRF hb) t, ?_⟩, rfl⟩
          simp only [hrg]
          exact ⟨rfl, hT⟩
    · cases h
  · cases h
end
end Go.Proofs.Ytnkjhicokcmmpaa.Ev

/-
  THE SMALL MACHINE's STEP IS THE MODEL's: wherever the one goes on, the other comes to a state that the first stands for.
-/
namespace Go.Proofs.Ytnkjhicokcmmpaa.Ev
open Go Go.RowKit
section
variable {P : Program} {FT : FuncId → Option Func} {HK : Hook} {w0 : Bs}
def Goes (P : Program) (w0 : Bs) (base : List Frame) (s' : ASt) (fr : Frame) (cs : List Frame) (w : World) : Prop :=
  ∃ fr' cs' w', Steps P (lone fr (cs ++ base) w) (lone fr' (cs' ++ base) w') ∧ SR P w0 s' fr' cs' w'
theorem Goes.head {base : List Frame} {s' : ASt} {fr fr1 : Frame} {cs cs1 : List Frame} {w w1 : World} (h : Steps P (lone fr (cs ++ base) w) (lone fr1 (cs1 ++ base) w1)) (k : Goes P w0 base s' fr1 cs1 w1) : Goes P w0 base s' fr cs w := by
  obtain ⟨fr', cs', w', h1, h2⟩ := k
  exact ⟨fr', cs', w', h.trans h1, h2⟩
theorem back_sound {base : List Frame} {s s' : ASt} {fr : Frame} {cs : List Frame} {w w' : World} {ρ : Env} {x : AV} {v : Value} (h : backA P s x = some s') (hr : HR w0 ρ s.H s.n w') (hst : StackR P ρ s.H s.fr.lo s.cs cs) (hlo : s.fr.lo ≤ s.n) (hv : VR ρ x v)
    (hk : ∀ c cs', cs = c :: cs' → step P (lone fr (cs ++ base) w) = .next (lone (c.finish v) (cs' ++ base) w')) : Goes P w0 base s' fr cs w := by
  unfold backA at h
  generalize hscs : s.cs = scs at hst h
  cases hst with
  | nil => cases h
  | cons hf hl t =>
    rename_i c cfr l m
    simp only at h
    cases hc : finishA P s.H c x with
    | none => simp [hc] at h
    | some c' =>
      simp only [hc, Option.some.injEq] at h
      subst h
      obtain ⟨h1, h2⟩ := finishA_sound hc hf hlo hv
      refine ⟨_, m, w', .one (hk cfr m rfl), ρ, hr, h1, ?_, ?_⟩
      · show c'.lo ≤ s.n
        rw [h2]; omega
      · show StackR P ρ s.H c'.lo l m
        rw [h2]; exact t
theorem todo_sound {base : List Frame} {s : ASt} {fr : Frame} {cs : List Frame} {w : World} (h : SR P w0 s fr cs w) (hrg : s.fr.rg = .no) (hret : s.fr.ret = false) {l : List AItem} {m : List Item} (hl : ∀ ρ, IRs ρ s.fr.todo fr.todo → IRs ρ l m)
    (hs : stepG.exec P true true fr (cs ++ base) none w = .go { frame := { fr with todo := m }, callers := cs ++ base, status := .running, dying := none } w) : Goes P w0 base { s with fr := { s.fr with todo := l } } fr cs w := by
  obtain ⟨ρ, hr, hf, hlo, hst⟩ := h
  obtain ⟨front, rest, h1, h2, h3⟩ := hf.todo
  rw [hrg] at h3
  obtain ⟨rfl, hT⟩ := h3
  have ht : fr.todo = rest := h1
  have hm := hf.mode
  rw [hret] at hm
  refine ⟨_, cs, w, .one (step_todo hm hs), ρ, hr, ⟨hf.fn, hf.kind, hf.mode, hf.ds, hf.ro, [], m, rfl, hl ρ (ht ▸ h2), ?_⟩, hlo, hst⟩
  simp only [hrg]
  exact ⟨rfl, hT⟩
theorem Fr.put (w : World) (b : Nat) (o : Obj) : Fr (fun k => k = b) w (w.putObj b o) := ⟨rfl, rfl, rfl, by simp [World.putObj], fun k _ hn => World.putObj_heap_other hn⟩
theorem leave_sound {base : List Frame} {s s' : ASt} {fr : Frame} {cs : List Frame} {w : World} (h : SR P w0 s fr cs w) (hrg : s.fr.rg = .no) (hret : s.fr.ret = false) {jump : Option Code} (hl : leaveA P s jump = some s')
    (hs0 : fr.roundOf = none → (jump = none ∨ jump = some .ret) → stepG.exec P true true fr (cs ++ base) none w = .go { frame := { fr with mode := .returning }, callers := cs ++ base, status := .running, dying := none } w)
    (hs1 : ∀ l, fr.roundOf = some l → stepG.exec P true true fr (cs ++ base) none w = GStep.after (seen P fr.fn ((Instr.endRound l jump).runT P w #[]).2) (match ((Instr.endRound l jump).runT P w #[]).1 with
        | .ok v w => doReturn P true fr (cs ++ base) none v w
        | .halt _ w => .ended (.stuck "range over a function: no such loop" (fr.pos P)) w)) : Goes P w0 base s' fr cs w := by
  obtain ⟨ρ, hr, hf, hlo, hst⟩ := h
  have hm := hf.mode
  rw [hret] at hm
  unfold leaveA at hl
  rcases hf.ro with ⟨hro, hro'⟩ | ⟨i, b, c, hro, hro', hi⟩
  · rw [hro] at hl
    simp only at hl
    have key : ∀ s'', some { s with fr := { s.fr with ret := true } } = some s'' → (jump = none ∨ jump = some .ret) → Goes P w0 base s'' fr cs w := by
      intro s'' he hj
      simp only [Option.some.injEq] at he
      subst he
      obtain ⟨front, rest, h1, h2, h3⟩ := hf.todo
      exact ⟨_, cs, w, .one (step_todo hm (hs0 hro' hj)), ρ, hr, ⟨hf.fn, hf.kind, rfl, hf.ds, hf.ro, front, rest, h1, h2, h3⟩, hlo, hst⟩
    split at hl
    · exact key _ hl (.inl rfl)
    · exact key _ hl (.inr rfl)
    · cases hl
  · rw [hro] at hl
    have hs := hs1 b hro'
    simp only at hl
    split at hl
    · rename_i st pd fn nt T ps asg bd d hB
      obtain ⟨o, ho, ts, db, dc, hts, hd, rfl⟩ := hr.blk hi hB
      have hrun : (Instr.endRound b jump).run P w = .ok (.bool (goesOn jump)) (w.putObj b (.loop { state := (stOf jump), pending := jump, fn := fn, tmps := ts, params := ps.toArray, assign := asg, body := bd, defers := db })) := by
        unfold Instr.endRound
        simp only [Sem.run_bind, run_getLoop ho, Result.andThen_ok, Sem.run_pure]
        simp only [setObj, Sem.run, ho, Result.andThen_ok, World.putObj]
        cases jump <;> rfl
      have hw' : HR w0 ρ (tput s.H i (.loop (stOf jump) jump fn nt T ps asg bd d)) s.n (w.putObj b (.loop { state := (stOf jump), pending := jump, fn := fn, tmps := ts, params := ps.toArray, assign := asg, body := bd, defers := db })) :=
        hr.write hi hB rfl (World.putObj_heap_same (hr.base hi).2) ⟨ts, db, dc, hts, hd, rfl⟩ (Fr.put w b _)
      refine back_sound hl hw' ?_ hlo (VR.v _) (fun c cs' hcs => ?_)
      · exact hst.mono ρ.le_refl (fun g _ hn => ⟨hn, by rw [get_tput, if_neg (fun e => by subst e; rw [hi] at hn; cases hn)]⟩)
      · refine step_lone_go ?_
        have hstep : stepG P true { frame := fr, callers := cs ++ base, status := .running, dying := none } w = stepG.exec P true true fr (cs ++ base) none w := by
          obtain ⟨fn, tmps, todo, defers, mode, kind, ro⟩ := fr
          simp only at hm; subst hm
          rfl
        rw [hstep, hs]
        simp only [Sem.runT_eq, hrun, GStep.bare_after]
        rw [hcs]
        simp only [List.cons_append, doReturn, hf.kind]
        rfl
    · cases hl
end
end Go.Proofs.Ytnkjhicokcmmpaa.Ev

/-
  THE SMALL MACHINE's STEP, second half: regions, loops over functions, the whole run.
-/
namespace Go.Proofs.Ytnkjhicokcmmpaa.Ev
open Go Go.RowKit
section
variable {P : Program} {FT : FuncId → Option Func} {HK : Hook} {w0 : Bs}
theorem inRegion_not_call {ops : Array Oper} {l : List Nat} {k : List Item} : ∀ d x y z r, (Item.inRegion ops l :: k) ≠ .call d x y z :: r := fun _ _ _ _ _ e => by cases e
theorem stepPl_sound (hft : FTok P FT) (hk : HKok P HK) {base : List Frame} {s s' : ASt} {fr : Frame} {cs : List Frame} {w : World} {ops : Array Oper} {o : Oper} {r : List Oper} (h : SR P w0 s fr cs w) (hrg : s.fr.rg = .pl ops (o :: r)) (hret : s.fr.ret = false)
    (hs : stepPl HK P FT s ops o r = some s') : Goes P w0 base s' fr cs w := by
  obtain ⟨ρ, hr, hf, hlo, hst⟩ := h
  have hm := hf.mode
  rw [hret] at hm
  obtain ⟨front, rest, h1, h2, h3⟩ := hf.todo
  rw [hrg] at h3
  obtain ⟨⟨rest', rfl, hp⟩, hT⟩ := h3
  obtain ⟨i, r', rfl, hoi, hp'⟩ := hp.head
  have ht : fr.todo = .inRegion ops (i :: r') :: rest := h1
  have hev : ∀ y ∈ o.op.operands, VR ρ (aev s.fr.T y) (fr.eval y) := fun y _ => hT.ev y
  have hw := wantedA_sound (n := 0) (ops := ops) (o := o) (T := s.fr.T) (fun d _ => hT.2 d)
  have fin : ∀ {ρ' : Env} {x : AV} {v : Value} {H' : Tr AB} {n' : Nat} {w' : World}, Steps P (lone fr (cs ++ base) w) (lone (fr.finish v) (cs ++ base) w') → VR ρ' x v → HR w0 ρ' H' n' w' → Ext ρ ρ' s.H H' s.n n' →
      Goes P w0 base { s with fr := { s.fr with T := putT s.fr.nt s.fr.T o.dst x, rg := .pl ops r }, H := H', n := n' } fr cs w := by
    intro ρ' x v H' n' w' hsteps hv hr' hx
    exact ⟨_, cs, w', hsteps, ρ', hr', hf.pl_done hrg hx.le hv true, Nat.le_trans hlo hx.nn, hst.mono hx.le (hx.low hlo)⟩
  unfold stepPl at hs
  cases hpl : plainOp o with
  | false => simp [hpl] at hs
  | true =>
    simp only [hpl, cond_true] at hs
    cases hwa : wantedA s.fr.T (dstIn ops.toList) o with
    | false =>
      simp only [hwa, cond_false, Option.some.injEq] at hs
      subst hs
      refine fin (.one (step_unwanted ht hm ?_)) (.v undef) hr (Ext.refl _ _ _)
      rw [hoi]; simp only [Option.map_some, Option.getD_some]; rw [hw, hwa]
    | true =>
      simp only [hwa, cond_true] at hs
      have hg := stepG_oper (P := P) (cs := cs ++ base) (w := w) ht hm hoi (by rw [hw, hwa]) hpl
      have hc : ∀ d x y z r, fr.todo ≠ .call d x y z :: r := by rw [ht]; exact inRegion_not_call
      cases hP : aopP P s.fr.T o with
      | some x =>
        simp only [hP, Option.some.injEq] at hs
        subst hs
        obtain ⟨v, hv, hrun⟩ := aopP_sound hP hev
        exact fin (.one (step_value hg (hrun w))) hv hr (Ext.refl _ _ _)
      | none =>
        simp only [hP] at hs
        split at hs
        · rename_i t a hop
          cases hl : loadA P t (aev s.fr.T a) s.H with
          | none => simp [hl] at hs
          | some x =>
            simp only [hl, Option.some.injEq] at hs
            subst hs
            obtain ⟨v, hv, hrun⟩ := loadA_sound hr hl (hev a (by rw [hop]; simp [Op.operands]))
            refine fin (.one (step_value hg ?_)) hv hr (Ext.refl _ _ _)
            unfold execOp
            simp only [hop, Sem.run_bind, hrun, Result.andThen_ok, Sem.run_pure]
        · cases hN : aopN P s.fr.T o with
          | some q =>
            obtain ⟨e, l, k⟩ := q
            simp only [hN, Option.some.injEq] at hs
            subst hs
            obtain ⟨vs, hvs, hrun⟩ := aopN_sound hN hev
            have hbr : BR (ρ.set s.n (w.heap.size, 0)) 0 (.mem e none l) (.cells vs.toArray e) := ⟨vs, [], (0, 0), hvs.mono (Env.le_set (hr.top (Nat.le_refl _)).1 _), by simp, unfrozen_zero _, rfl⟩
            exact fin (.one (step_value hg (hrun w))) (NewV.VR (Env.set_same _ _ _) k) (hr.alloc hbr) (Ext.alloc hr _ _)
          | none =>
            simp only [hN] at hs
            cases hnow : nowA HK P s.fr.T o s.H s.n with
            | some q =>
              obtain ⟨x, H', n'⟩ := q
              simp only [hnow, Option.some.injEq] at hs
              subst hs
              obtain ⟨ρ', v, w', g1, g2, g3, g4⟩ := now_sound hk hr hnow hev hg hc
              exact fin g1 g2 g3 g4
            | none =>
              simp only [hnow] at hs
              cases hco : callOf P s.fr.T o with
              | none => simp [hco] at hs
              | some c =>
                simp only [hco] at hs
                have hS := callOf_sound (P := P) hco hev
                obtain ⟨fr', g1, g2⟩ := enter_sound (base := base) hft hs hr (hf.mono ρ.le_refl (Nat.le_refl _) (fun g _ hn => ⟨hn, rfl⟩)) hlo hst (congrArg GStep.bare hg) hc (by
                  rcases hS with ⟨g, xs, us, q1, q2, q3⟩ | ⟨j, xs, vs, b, cc, q1, q2, q3, q4⟩
                  · exact .inl ⟨g, xs, us, q1, q2, q3 w⟩
                  · exact .inr ⟨j, xs, vs, b, cc, q1, q2, q3, q4 w⟩)
                exact ⟨fr', fr :: cs, w, .one g1, g2⟩
theorem firstEager_spec {T : Tr AV} {all : List Oper} {H : Tr AB} {n : Nat} : ∀ {l : List (Nat × Oper)} {r}, firstEager P T all H n l = some r → (r.1, r.2.1) ∈ l ∧ eagerA P T all r.2.1 H n = some r.2.2
  | [], r, h => by simp [firstEager] at h
  | (y, o) :: l, r, h => by
    unfold firstEager at h
    cases he : eagerA P T all o H n with
    | some q =>
      obtain ⟨x, H', n', q⟩ := q
      simp only [he, Option.some.injEq] at h
      subst h
      exact ⟨by simp, he⟩
    | none =>
      simp only [he] at h
      obtain ⟨h1, h2⟩ := firstEager_spec h
      exact ⟨by simp [h1], h2⟩
theorem stepDr_sound (hft : FTok P FT) (hk : HKok P HK) {base : List Frame} {s s' : ASt} {fr : Frame} {cs : List Frame} {w : World} {ops : Array Oper} {D : Nat} {X T0 : Tr AV} {lds : List (Nat × TypeId × AV × AV)} (h : SR P w0 s fr cs w) (hrg : s.fr.rg = .dr ops D X T0 lds none) (hret : s.fr.ret = false)
    (hs : stepDr HK P FT s ops D X T0 lds = some s') : Goes P w0 base s' fr cs w := by
  obtain ⟨ρ, hr, hf, hlo, hst⟩ := h
  have hm := hf.mode
  rw [hret] at hm
  obtain ⟨front, rest, h1, h2, h3⟩ := hf.todo
  rw [hrg] at h3
  obtain ⟨W, C, G, rest', rfl, hd, _⟩ := h3
  have ht : fr.todo = .inRegion ops rest' :: rest := h1
  unfold stepDr at hs
  simp only at hs
  split at hs
  · -- all is done
    rename_i hnone
    simp only [Option.some.injEq] at hs
    subst hs
    obtain ⟨rest2, ρ2, w2, fr2, C2, g1, g2, g3, g4, g5, g6, g7⟩ := catchup (cs := cs ++ base) rest' ρ w fr C hr ht hm hd
    have hnil : rest2 = [] := by
      cases rest2 with
      | nil => rfl
      | cons y r =>
        have hy := g7 y r rfl
        cases g6.lin with
        | cons hylt hn hp t =>
          have ho : ops.toList[y]? = some (ops.toList[y]) := List.getElem?_eq_getElem hylt
          have : (y, ops.toList[y]) ∈ readyL D ops.toList 0 := mem_ready'.2 ⟨ho, hy, fun p hpp => g6.sub p (hp p hpp)⟩
          rw [hnone] at this; cases this
    subst hnil
    have ht2 : fr2.todo = .inRegion ops [] :: rest := by rw [g5]
    have hm2 : fr2.mode = .run := by rw [g5]; exact hm
    have hstep : step P (lone fr2 (cs ++ base) w2) = .next (lone { fr2 with todo := rest } (cs ++ base) w2) := step_todo hm2 (by simp only [stepG.exec, ht2])
    have hall : ∀ i, i < ops.toList.length → C2 i := by
      cases g6.lin with | nil h => exact h
    refine ⟨_, cs, w2, g1.trans (.one hstep), ρ2, g2, ⟨by rw [g5]; exact hf.fn, by rw [g5]; exact hf.kind, by rw [g5]; exact hf.mode, by rw [g5]; exact hf.ds.mono g3, by rw [g5]; exact hf.ro.mono g3, [], rest, rfl, h2.mono g3, rfl, g6.size, fun q => ?_⟩, hlo, hst.mono g3 (fun g hg hn => ⟨(g4 g hg).trans hn, rfl⟩)⟩
    classical
    have h4 := g6.ts q
    show VR ρ2 (At s.fr.T q) _
    rw [g6.T q]
    rwa [valS_congr (C' := fun i => Nat.testBit D i = true) (X' := X) (fun i hi => ⟨⟨g6.sub i, fun hb => hall i (g6.dlt i hb)⟩, fun _ => rfl⟩)] at h4
  · rename_i hne
    split at hs
    · -- ahead
      rename_i y o x H n l he
      simp only [Option.some.injEq] at hs
      subst hs
      obtain ⟨hmem, he'⟩ := firstEager_spec he
      obtain ⟨G', g1, g2, g3⟩ := hd.ahead hr hlo hmem he'
      exact ⟨fr, cs, w, Steps.refl _ _, ρ, g1, ⟨hf.fn, hf.kind, hf.mode, hf.ds, hf.ro, _, rest, h1, h2, W, C, G', rest', rfl, g3, fun y hy => by cases hy⟩, Nat.le_trans hlo g2.nn, hst.mono g2.le (g2.low hlo)⟩
    · split at hs
      · rename_i y o hrs
        obtain ⟨rest2, ρ2, w2, fr2, C2, g1, g2, g3, g4, g5, g6, g7⟩ := catchup (cs := cs ++ base) rest' ρ w fr C hr ht hm hd
        have hmem : (y, o) ∈ readyL D ops.toList 0 := by rw [hrs]; simp
        obtain ⟨ho, hyD, hpD⟩ := mem_ready'.1 hmem
        obtain ⟨r, rfl⟩ : ∃ r, rest2 = y :: r := by
          cases hrest : rest2 with
          | nil =>
            subst hrest
            cases g6.lin with
            | nil h =>
              have := g6.sub y (h y (List.getElem?_eq_some_iff.1 ho).1)
              rw [hyD] at this; cases this
          | cons z r =>
            subst hrest
            have hz := g7 z r rfl
            cases g6.lin with
            | cons hzlt hn hp t =>
              have hoz : ops.toList[z]? = some (ops.toList[z]) := List.getElem?_eq_getElem hzlt
              have : (z, ops.toList[z]) ∈ readyL D ops.toList 0 := mem_ready'.2 ⟨hoz, hz, fun p hpp => g6.sub p (hp p hpp)⟩
              rw [hrs] at this
              simp at this
              exact ⟨r, by rw [this.1]⟩
        have hlin : ¬ C2 y ∧ ∀ p, Pred ops.toList y p → C2 p := by
          cases g6.lin with | cons _ hn hp _ => exact ⟨hn, hp⟩
        have ht2 : fr2.todo = .inRegion ops (y :: r) :: rest := by rw [g5]
        have hm2 : fr2.mode = .run := by rw [g5]; exact hm
        have ho' : ops[y]? = some o := by simpa using ho
        have hsee : ∀ q, Sees ops.toList o q → VR ρ2 (At s.fr.T q) (fr2.tmps.getD q undef) := fun q hq => by
          rw [g6.sees ho hq hyD hpD]; exact g6.seesC ho hq hlin.1 hlin.2
        have hev := ev_of_slots (fr := fr2) (fun q hq => hsee q (.inl hq))
        have hw := wantedA_sound (n := 0) (ops := ops) (fun d hd => hsee d (.inr hd))
        have hst2 : StackR P ρ2 s.H s.fr.lo s.cs cs := hst.mono g3 (fun g hg hn => ⟨(g4 g hg).trans hn, rfl⟩)
        have hwa : wantedA s.fr.T (dstIn ops.toList) o = true := by
          cases hwa : wantedA s.fr.T (dstIn ops.toList) o with
          | true => rfl
          | false =>
            rename_i hnoE _
            have : firstEager P s.fr.T ops.toList s.H s.n (readyL D ops.toList 0) ≠ none := by
              rw [hrs]
              simp [firstEager, eagerA, hwa]
            exact absurd hnoE this
        have hpl := g6.sc.plain ho
        have hg := stepG_oper (P := P) (cs := cs ++ base) (w := w2) ht2 hm2 ho' (by rw [hw, hwa]) hpl
        have hc : ∀ d x y z r, fr2.todo ≠ .call d x y z :: r := by rw [ht2]; exact inRegion_not_call
        have g6' := g6.forOp hlin.2
        split at hs
        · -- at once
          rename_i x H' n' hnow
          cases hl : ldsOk P H' (ldsFor ops.toList y lds) with
          | false => simp [hl] at hs
          | true =>
            simp only [hl, cond_true, Option.some.injEq] at hs
            subst hs
            obtain ⟨ρ', v, w', q1, q2, q3, q4⟩ := now_sound hk g2 hnow hev hg hc
            rw [finish_region ht2 ho' v] at q1
            have hdone := g6'.opdone (hi' := n') hyD ho q4.le (fun g hgl hn => ⟨(q4.old hgl).trans hn, q4.keep hgl hn⟩) q4.nn hl q2
            refine ⟨_, cs, w', g1.trans q1, ρ', q3, ⟨by rw [g5]; exact hf.fn, by rw [g5]; exact hf.kind, by rw [g5]; exact hf.mode, by rw [g5]; exact (hf.ds.mono g3).mono q4.le, by rw [g5]; exact (hf.ro.mono g3).mono q4.le, [.inRegion ops r], rest, rfl, (h2.mono g3).mono q4.le, W, _, G, r, rfl, hdone, fun y hy => by cases hy⟩, Nat.le_trans hlo q4.nn, hst2.mono q4.le (q4.low hlo)⟩
        · split at hs
          · -- a call
            rename_i c hco
            have hS := callOf_sound (P := P) hco hev
            have hfr2 : FRel P ρ2 s.H s.n false { s.fr with rg := .dr ops D X T0 (ldsFor ops.toList y lds) (some y) } fr2 :=
              ⟨by rw [g5]; exact hf.fn, by rw [g5]; exact hf.kind, by rw [g5]; exact hf.mode, by rw [g5]; exact hf.ds.mono g3, by rw [g5]; exact hf.ro.mono g3, [.inRegion ops (y :: r)], rest, ht2, h2.mono g3, W, C2, G, y :: r, rfl,
                g6'.mono ρ2.le_refl (Nat.le_refl _) (fun g _ hn => ⟨hn, rfl⟩), fun y' hy' => by cases hy'; exact ⟨r, rfl, hyD⟩⟩
            obtain ⟨fr', q1, q2⟩ := enter_sound (base := base) hft hs g2 hfr2 hlo hst2 (congrArg GStep.bare hg) hc (by
              rcases hS with ⟨g, xs, us, e1, e2, e3⟩ | ⟨j, xs, vs, b, cc, e1, e2, e3, e4⟩
              · exact .inl ⟨g, xs, us, e1, e2, e3 w2⟩
              · exact .inr ⟨j, xs, vs, b, cc, e1, e2, e3, e4 w2⟩)
            exact ⟨fr', fr2 :: cs, w2, g1.trans (.one q1), q2⟩
          · cases hs
      · cases hs
end
end Go.Proofs.Ytnkjhicokcmmpaa.Ev

/-
  THE SMALL MACHINE's RUN IS THE MODEL's: what it answers at its end, the model's call answers, from whatever world.
-/
namespace Go.Proofs.Ytnkjhicokcmmpaa.Ev
open Go Go.RowKit
section
variable {P : Program} {FT : FuncId → Option Func} {HK : Hook} {w0 : Bs}
theorem IRs.tail {ρ : Env} {x : AItem} {y : Item} {l : List AItem} {m : List Item} (h : IRs ρ (x :: l) (y :: m)) : IRs ρ l m := by cases h with | cons _ t => exact t
theorem stepCode_sound (hft : FTok P FT) (hmix : P.follows .mixedOrders = true) {base : List Frame} {s s' : ASt} {fr : Frame} {cs : List Frame} {w : World} {c : Code} {k : List AItem} (h : SR P w0 s fr cs w) (hrg : s.fr.rg = .no) (hret : s.fr.ret = false) (htd : s.fr.todo = .code c :: k)
    (hs : stepCode P FT s c k = some s') : Goes P w0 base s' fr cs w := by
  have h0 := h
  obtain ⟨ρ, hr, hf, hlo, hst⟩ := h
  have hm := hf.mode
  rw [hret] at hm
  obtain ⟨front, rest, h1, h2, h3⟩ := hf.todo
  rw [hrg] at h3
  obtain ⟨rfl, hT⟩ := h3
  rw [htd] at h2
  obtain ⟨k', rfl, hk'⟩ : ∃ k', rest = .code c :: k' ∧ IRs ρ k k' := by
    cases h2 with | cons a t => cases a; exact ⟨_, rfl, t⟩
  have ht : fr.todo = .code c :: k' := h1
  have tl : ∀ ρ', IRs ρ' s.fr.todo fr.todo → IRs ρ' k k' := fun ρ' hh => by rw [htd, ht] at hh; exact hh.tail
  have tto : ∀ {l : List AItem} {m : List Item}, (∀ ρ', IRs ρ' k k' → IRs ρ' l m) → stepG.exec P true true fr (cs ++ base) none w = .go { frame := { fr with todo := m }, callers := cs ++ base, status := .running, dying := none } w →
      some { s with fr := { s.fr with todo := l } } = some s' → Goes P w0 base s' fr cs w := by
    intro l m hl hx he
    simp only [Option.some.injEq] at he
    subst he
    exact todo_sound h0 hrg hret (fun ρ' hh => hl ρ' (tl ρ' hh)) hx
  cases c with
  | ret =>
    refine leave_sound h0 hrg hret (show leaveA P s (some .ret) = some s' from hs) (fun hro _ => ?_) (fun l hro => ?_)
    · simp only [stepG.exec, ht, hro]; rfl
    · simp only [stepG.exec, ht, hro]; rfl
  | skip => exact tto (fun _ h => h) (by simp only [stepG.exec, ht]) hs
  | label l => exact tto (fun _ h => h) (by simp only [stepG.exec, ht]) hs
  | seq a b => exact tto (m := .code a :: .code b :: k') (fun _ h => .cons (.code _) (.cons (.code _) h)) (by simp only [stepG.exec, ht]) hs
  | block id b => exact tto (m := .code b :: .inBlock id :: k') (fun _ h => .cons (.code _) (.cons (.inBlock _) h)) (by simp only [stepG.exec, ht]) hs
  | loop b => exact tto (m := .code b :: .inLoop b :: k') (fun _ h => .cons (.code _) (.cons (.inLoop _) h)) (by simp only [stepG.exec, ht]) hs
  | scope b => exact tto (m := .code b :: .inScope b :: k') (fun _ h => .cons (.code _) (.cons (.inScope _) h)) (by simp only [stepG.exec, ht]) hs
  | cond x a b =>
    simp only [stepCode] at hs
    have hx := hT.ev x
    split at hs
    · rename_i t hxt
      rw [hxt] at hx
      generalize hv : fr.eval x = v at hx
      cases hx
      refine tto (m := .code (cond t a b) :: k') (fun _ h => .cons (.code _) h) ?_ hs
      simp only [stepG.exec, ht, hv]
      cases t <;> rfl
    · cases hs
  | exit id =>
    simp only [stepCode] at hs
    cases hx : aexit id k with
    | some l =>
      simp only [hx] at hs
      obtain ⟨m, hm', _⟩ := (aexit_sound hk').1 hx
      refine tto (m := m) (fun ρ' hh => ?_) ?_ hs
      · obtain ⟨m2, e, hi⟩ := (aexit_sound hh).1 hx
        rw [hm'] at e; cases e; exact hi
      · simp only [stepG.exec, ht, hm', Option.elim_some]
    | none =>
      simp only [hx] at hs
      have hn := (aexit_sound (id := id) (l' := []) hk').2 hx
      refine leave_sound h0 hrg hret hs (fun hro hj => by rcases hj with h | h <;> cases h) (fun l hro => ?_)
      simp only [stepG.exec, ht, hn, Option.elim_none, hro]
      rfl
  | goto l => cases hs
  | refuse l => cases hs
  | region id ops draw =>
    simp only [stepCode] at hs
    cases draw with
    | false =>
      simp only [cond_false, Option.some.injEq] at hs
      subst hs
      refine ⟨_, cs, w, .one (step_todo (fr' := { fr with todo := .inRegion ops (List.range ops.size) :: k' }) hm (by simp [stepG.exec, ht])), ρ, hr, ⟨hf.fn, hf.kind, hf.mode, hf.ds, hf.ro, [.inRegion ops (List.range ops.size)], k', rfl, hk', ⟨_, rfl, PlR.start ops⟩, hT⟩, hlo, hst⟩
    | true =>
      simp only [cond_true] at hs
      cases hsc : scOk ops.toList with
      | false => simp [hsc] at hs
      | true =>
        simp only [hsc, cond_true, Option.some.injEq] at hs
        subst hs
        obtain ⟨W, sc⟩ := scOk_spec hsc
        obtain ⟨t, ht'⟩ : ∃ t, (choose (.order fr.fn id)).run P w = .ok t w.drew := ⟨_, by simp [choose, Sem.run, Question.forced, Question.cut]; rfl⟩
        have hstep : step P (lone fr (cs ++ base) w) = .next (lone { fr with todo := .inRegion ops (Region.schedule true ops t) :: k' } (cs ++ base) w.drew) :=
          step_todo hm (by simp only [stepG.exec, ht, ht', hmix]; rfl)
        have hfr : Fr No w w.drew := (Fr.refl No w).drew
        refine ⟨_, cs, w.drew, .one hstep, ρ, hr.same rfl hfr, ⟨hf.fn, hf.kind, hf.mode, hf.ds, hf.ro, [.inRegion ops (Region.schedule true ops t)], k', rfl, hk', W, fun _ => False, fun _ => none, _, rfl, ?_, fun y hy => by cases hy⟩, hlo, hst⟩
        have hv : ∀ (C : Nat → Prop) [DecidablePred C] (q : Nat), (∀ i, ¬ C i) → valS W s.fr.nt .e s.fr.T C q = At s.fr.T q := fun C _ q hC => by
          unfold valS
          cases W.get q with
          | none => rfl
          | some i => simp only; rw [if_neg (fun h => hC i h.2)]
        exact { sc := sc, lin := lin_schedule sc.below t, closC := fun _ _ h _ => h.elim, closD := fun y p h _ => by simp at h, sub := fun _ h => h.elim, dlt := fun y h => by simp at h, size := hT.1,
                T := fun q => (hv _ q (fun i => by simp)).symm, ts := by
                  intro inst q
                  have h := @hv _ inst q (fun _ h => h)
                  have h' := hT.2 q
                  rw [← h] at h'
                  exact h',
                pend := (fun y h => by simp at h), ginj := (fun h => by cases h), gb := (fun h => by cases h) }
  | rangeFunc f ps asg bd =>
    simp only [stepCode] at hs
    -- what is entered, from behind the two blocks
    have go : ∀ {d db dc : Nat} {H : Tr AB} {n : Nat} {ds : List Nat} {mark : List Deferred} {w1 : World} {ρ1 : Env}, HR w0 ρ1 H n w1 → Ext ρ ρ1 s.H H s.n n → ρ1 d = some (db, dc) → DsR ρ1 ds (mark ++ fr.defers) →
        (Instr.enterLoop fr.fn fr.tmps ps asg bd fr.roundOf).run P w = .ok (w1.heap.size, mark) (w1.alloc (.loop { state := .ready, pending := none, fn := fr.fn, tmps := fr.tmps, params := ps, assign := asg, body := bd, defers := db })) →
        (match calleeOf P (aev s.fr.T f) [.yl n] with
          | some c => enterA FT { s.fr with todo := .inRF n :: k, ds := ds } { s with H := tput H n (.loop .ready none s.fr.fn s.fr.nt s.fr.T ps.toList asg bd d), n := n + 1 } c
          | none => none) = some s' → Goes P w0 base s' fr cs w := by
      intro d db dc H n ds mark w1 ρ1 hr1 hx1 hd hds hrun he
      obtain ⟨ρ2, hρ2⟩ : ∃ ρ2, ρ2 = ρ1.set n (w1.heap.size, 0) := ⟨_, rfl⟩
      have htop := hr1.top (Nat.le_refl n)
      have hle2 : ρ1.le ρ2 := by rw [hρ2]; exact Env.le_set htop.1 _
      have hle : ρ.le ρ2 := Env.le_trans hx1.le hle2
      have hfn : fr.fn = s.fr.fn := hf.fn
      have hr2 : HR w0 ρ2 (tput H n (.loop .ready none s.fr.fn s.fr.nt s.fr.T ps.toList asg bd d)) (n + 1) (w1.alloc (.loop { state := .ready, pending := none, fn := fr.fn, tmps := fr.tmps, params := ps, assign := asg, body := bd, defers := db })) := by
        rw [hρ2]
        refine hr1.alloc ⟨fr.tmps, db, dc, (hT.mono hx1.le).mono (Env.le_set htop.1 _), Env.le_set htop.1 _ _ _ hd, ?_⟩
        rw [hfn]
      have hx2 : Ext ρ ρ2 s.H (tput H n (.loop .ready none s.fr.fn s.fr.nt s.fr.T ps.toList asg bd d)) s.n (n + 1) := by
        rw [hρ2]; exact hx1.trans (Ext.alloc hr1 _ _)
      have hn2 : ρ2 n = some (w1.heap.size, 0) := by rw [hρ2]; exact Env.set_same _ _ _
      cases hco : calleeOf P (aev s.fr.T f) [.yl n] with
      | none => simp [hco] at he
      | some cc =>
        simp only [hco] at he
        have hS := calleeOf_sound (P := P) hco ((hT.ev f).mono hle) (VRs.cons (VR.yl hn2) .nil)
        obtain ⟨fr2, hfr2⟩ : ∃ fr2 : Frame, fr2 = { fr with todo := .inRangeFunc w1.heap.size :: k', defers := mark ++ fr.defers } := ⟨_, rfl⟩
        have hev : fr2.eval f = fr.eval f := by rw [hfr2]; cases f <;> rfl
        have hcaller : FRel P ρ2 (tput H n (.loop .ready none s.fr.fn s.fr.nt s.fr.T ps.toList asg bd d)) (n + 1) false { s.fr with todo := .inRF n :: k, ds := ds } fr2 := by
          rw [hfr2]
          refine ⟨hf.fn, hf.kind, hf.mode, hds.mono hle2, hf.ro.mono hle, [], _, rfl, .cons (.inRF hn2) (hk'.mono hle), ?_⟩
          simp only [hrg]
          exact ⟨rfl, hT.mono hle⟩
        have hg : (stepG P true { frame := fr, callers := cs ++ base, status := .running, dying := none } w).bare = (stepG.apply P true fr2 (cs ++ base) none (toCallee (fr.eval f) [Value.func (.yield w1.heap.size) #[] #[]].toArray) (w1.alloc (.loop { state := .ready, pending := none, fn := fr.fn, tmps := fr.tmps, params := ps, assign := asg, body := bd, defers := db }))).bare := by
          have hstep : stepG P true { frame := fr, callers := cs ++ base, status := .running, dying := none } w = stepG.exec P true true fr (cs ++ base) none w := by
            obtain ⟨fn, tmps, todo, defers, mode, kind, ro⟩ := fr
            simp only at hm; subst hm
            rfl
          rw [hstep]
          simp only [stepG.exec, ht, Sem.runT_eq, hrun, GStep.bare_after]
          rw [← hfr2]
          rw [← hev]
          have hq : (do let d ← resolve fr2.eval { callee := .value f, args := #[.const (Value.func (.yield w1.heap.size) #[] #[])], argTypes := #[] } 0; invoke d.target d.args : Sem Next) = toCallee (fr2.eval f) [Value.func (.yield w1.heap.size) #[] #[]].toArray := by
            have e1 : (#[Operand.const (Value.func (.yield w1.heap.size) #[] #[])] : Array Operand).map fr2.eval = [Value.func (.yield w1.heap.size) #[] #[]].toArray := by
              simp only [List.map_toArray, List.map_cons, List.map_nil]
              rfl
            unfold toCallee resolve
            simp only [e1]
          rw [hq]
        have hc : ∀ d x y z r, fr2.todo ≠ .call d x y z :: r := by rw [hfr2]; exact fun _ _ _ _ _ e => by cases e
        have hst2 := hst.mono hle (hx2.low hlo)
        obtain ⟨fr', q1, q2⟩ := enter_sound (base := base) hft he hr2 hcaller (Nat.le_trans hlo hx2.nn) hst2 hg hc (by
          rcases hS with ⟨g, xs, us, e1, e2, e3⟩ | ⟨j, b, c2, e1, e2, e3⟩
          · exact .inl ⟨g, xs, us, e1, e2, e3 _⟩
          · exact .inr ⟨j, _, _, b, c2, e1, .cons (VR.yl hn2) .nil, e2, e3 _⟩)
        exact ⟨fr', fr2 :: cs, _, .one q1, q2⟩
    cases hh : loopHome s with
    | none => rw [hh] at hs; cases hs
    | some q =>
      obtain ⟨d, H, n, ds⟩ := q
      rw [hh] at hs
      unfold loopHome at hh
      rcases hf.ro with ⟨hro, hro'⟩ | ⟨i, b, c, hro, hro', hi⟩
      · rw [hro] at hh
        simp only [Option.some.injEq, Prod.mk.injEq] at hh
        obtain ⟨rfl, rfl, rfl, rfl⟩ := hh
        have htop := hr.top (Nat.le_refl s.n)
        have hr1 : HR w0 (ρ.set s.n (w.heap.size, 0)) (tput s.H s.n (.dfd true)) (s.n + 1) (w.alloc (.deferred (some []))) := hr.alloc (c := 0) (B := .dfd true) rfl
        refine go hr1 (Ext.alloc hr _ _) (Env.set_same _ _ _) (mark := [{ target := .collected w.heap.size, args := #[] }]) (.cons (Env.set_same _ _ _) (hf.ds.mono (Env.le_set htop.1 _))) ?_ hs
        rw [hro', run_enterLoop_outer]
        simp
      · rw [hro] at hh
        simp only at hh
        cases hB : s.H.get i with
        | none => simp [hB] at hh
        | some B =>
          cases B <;> simp only [hB] at hh <;> try (cases hh; done)
          rename_i st pd fn nt T ps' asg' bd' d'
          simp only [Option.some.injEq, Prod.mk.injEq] at hh
          obtain ⟨rfl, rfl, rfl, rfl⟩ := hh
          obtain ⟨o, ho, ts, db, dc, hts, hd, rfl⟩ := hr.blk hi hB
          refine go hr (Ext.refl _ _ _) hd (mark := []) (by simpa using hf.ds) ?_ hs
          rw [hro']
          unfold Instr.enterLoop
          simp only [Sem.run_bind, run_getLoop ho, Result.andThen_ok, Sem.run_pure, run_newObj]
          rfl
theorem resA_sound {ρ : Env} {H : Tr AB} {n nt : Nat} {T : Tr AV} {ts : Array Value} {w : World} (hr : HR w0 ρ H n w) (hT : TR ρ nt T ts) : ∀ {l : List ResultVar} {xs : List AV}, resA P T H l = some xs →
    ∃ us, VRs ρ xs us ∧ (l.mapM (fun | ResultVar.tmp t => (pure (ts.getD t undef) : Sem Value) | .cell a t => do loadVar t (← asAddr (ts.getD a undef)))).run P w = .ok us w
  | [], xs, h => by simp [resA] at h; subst h; exact ⟨[], .nil, by simp⟩
  | .tmp t :: l, xs, h => by
    unfold resA at h
    cases hl : resA P T H l with
    | none => simp [hl] at h
    | some r =>
      simp only [hl, Option.some.injEq] at h
      subst h
      obtain ⟨us, h1, h2⟩ := resA_sound hr hT hl
      exact ⟨_, .cons (hT.2 t) h1, by simp only [List.mapM_cons, Sem.run_bind, Sem.run_pure, Result.andThen_ok, h2]⟩
  | .cell a t :: l, xs, h => by
    unfold resA at h
    split at h
    · rename_i i o ha
      cases hx : loadA P t (.ptr i o) H with
      | none => simp [hx] at h
      | some x =>
        cases hl : resA P T H l with
        | none => simp [hx, hl] at h
        | some r =>
          simp only [hx, hl, Option.some.injEq] at h
          subst h
          obtain ⟨us, h1, h2⟩ := resA_sound hr hT hl
          have hp := hT.2 a
          rw [ha] at hp
          generalize hv : ts.getD a undef = v at hp
          obtain ⟨u, hu, hrun⟩ := loadA_sound (P := P) hr hx hp
          cases hp with
          | @ptr _ b c _ e =>
            have : (loadVar t ⟨b, o, none⟩).run P w = .ok u w := by
              unfold Instr.loadAt at hrun
              simpa [Instr.sureAddr] using hrun
            refine ⟨_, .cons hu h1, ?_⟩
            have ha' : (asAddr (ts.getD a undef)).run P w = .ok ⟨b, o, none⟩ w := by rw [hv]; rfl
            simp only [List.mapM_cons, Sem.run_bind, ha', Sem.run_pure, Result.andThen_ok, this, h2]
    · cases h
theorem results_sound {ρ : Env} {H : Tr AB} {n nt : Nat} {T : Tr AV} {ts : Array Value} {w : World} (hr : HR w0 ρ H n w) (hT : TR ρ nt T ts) {fn : Func} {xs : List AV} (h : resA P T H fn.results.toList = some xs) :
    ∃ v, VR ρ (tupA xs) v ∧ (results fn ts).run P w = .ok v w := by
  obtain ⟨us, h1, h2⟩ := resA_sound (P := P) hr hT h
  have hmap : (fn.results.mapM (fun | ResultVar.tmp t => (pure (ts.getD t undef) : Sem Value) | .cell a t => do loadVar t (← asAddr (ts.getD a undef)))).run P w = .ok us.toArray w := by
    rw [Array.mapM_eq_mapM_toList, Sem.run_map, h2]
    rfl
  refine ⟨if h : us.toArray.size = 1 then us.toArray[0] else .tuple us.toArray, ?_, ?_⟩
  · cases h1 with
    | nil => exact .tup .nil
    | cons a t =>
      cases t with
      | nil => exact a
      | cons b t => exact .tup (.cons a (.cons b t))
  · unfold results
    rw [Sem.run_bind]
    have hm2 := hmap
    erw [hm2]
    rfl
theorem stepE_sound (hft : FTok P FT) (hk : HKok P HK) (hmix : P.follows .mixedOrders = true) {base : List Frame} {s s' : ASt} {fr : Frame} {cs : List Frame} {w : World} (h : SR P w0 s fr cs w) (hs : stepE HK P FT s = some s') : Goes P w0 base s' fr cs w := by
  unfold stepE at hs
  cases hret : s.fr.ret with
  | true =>
    simp only [hret, cond_true] at hs
    unfold stepRet at hs
    obtain ⟨ρ, hr, hf, hlo, hst⟩ := h
    have hm := hf.mode
    rw [hret] at hm
    have hstepG : stepG P true { frame := fr, callers := cs ++ base, status := .running, dying := none } w = unwind P true fr (cs ++ base) none w := by
      obtain ⟨fn, tmps, todo, defers, mode, kind, ro⟩ := fr
      simp only at hm; subst hm
      rfl
    split at hs
    · rename_i d ds hds
      cases hB : s.H.get d with
      | none => simp [hB] at hs
      | some B =>
        cases B <;> simp only [hB] at hs <;> try (cases hs; done)
        rename_i bb
        cases bb <;> simp only at hs <;> try (cases hs; done)
        simp only [Option.some.injEq] at hs
        subst hs
        have hdsr := hf.ds
        rw [hds] at hdsr
        generalize hdf : fr.defers = dfs at hdsr
        cases hdsr with
        | cons hd t =>
          rename_i b cc m
          obtain ⟨o, ho, hob⟩ := hr.blk hd hB
          have ho' : w.heap[b]? = some (.deferred (some [])) := by rw [ho]; rw [show o = .deferred (some []) from hob]
          have hstep : step P (lone fr (cs ++ base) w) = .next (lone { fr with defers := m } (cs ++ base) (w.putObj b (.deferred none))) := by
            refine step_lone_go ?_
            rw [hstepG]
            unfold unwind
            simp [hdf, run_takeDeferred ho']
          have hw' : HR w0 ρ (tput s.H d (.dfd false)) s.n (w.putObj b (.deferred none)) := hr.write hd hB rfl (World.putObj_heap_same (hr.base hd).2) rfl (Fr.put w b _)
          obtain ⟨front, rest, h1, h2, h3⟩ := hf.todo
          refine ⟨_, cs, _, .one hstep, ρ, hw', ⟨hf.fn, hf.kind, hf.mode, t, hf.ro, front, rest, h1, h2, ?_⟩, hlo, hst.mono ρ.le_refl (fun g _ hn => ⟨hn, by rw [get_tput, if_neg (fun e => by subst e; rw [hd] at hn; cases hn)]⟩)⟩
          -- what stands of the region is not asked any more
          have := h3
          cases hrg : s.fr.rg with
          | no => rw [hrg] at h3; exact ⟨h3.1, h3.2⟩
          | pl ops l => rw [hrg] at h3; exact ⟨h3.1, h3.2⟩
          | dr ops D X T0 lds cur =>
            rw [hrg] at h3
            obtain ⟨W, C, G, rest', q1, q2, q3⟩ := h3
            refine ⟨W, C, G, rest', q1, ?_, q3⟩
            exact { q2 with pend := fun y y1 y2 => (q2.pend y y1 y2).mono (Nat.le_refl _) (fun g _ _ _ hn => ⟨hn, by show (tput s.H d (.dfd false)).get g = _; rw [get_tput, if_neg (fun e => by subst e; rw [hd] at hn; cases hn)]⟩) (fun t p x hm' => ⟨hm', fun _ hl => by
              have keep : ∀ i B', s.H.get i = some B' → (∀ b, B' ≠ .dfd b) → (tput s.H d (.dfd false)).get i = some B' := fun i B' hB' hne => by
                rw [get_tput, if_neg (fun e => by subst e; rw [hB] at hB'; cases hB'; exact hne _ rfl)]; exact hB'
              exact readA_of (fun i T z l hB' => keep i _ hB' (fun b e => by cases e)) (fun i l c hB' => keep i _ hB' (fun b e => by cases e)) (hl rfl)⟩) }
    · rename_i hds
      split at hs
      · cases hs
      rename_i hrgs
      cases hfn : FT s.fr.fn with
      | none => simp [hfn] at hs
      | some fn =>
        simp only [hfn] at hs
        cases hres : resA P s.fr.T s.H fn.results.toList with
        | none => simp [hres] at hs
        | some l =>
          simp only [hres] at hs
          have hdsr := hf.ds
          rw [hds] at hdsr
          generalize hdf : fr.defers = dfs at hdsr
          cases hdsr
          obtain ⟨front, rest, h1, h2, h3⟩ := hf.todo
          have hTR : TR ρ s.fr.nt s.fr.T fr.tmps := by
            cases hrg : s.fr.rg with
            | no => rw [hrg] at h3; exact h3.2
            | pl ops l => rw [hrg] at h3; exact h3.2
            | dr ops D X T0 lds cur => exact absurd hrg (hrgs _ _ _ _ _ _)
          obtain ⟨v, hv, hrun⟩ := results_sound hr hTR hres
          have hP := hft.fn hfn
          refine back_sound hs hr hst hlo hv (fun c cs' hcs => ?_)
          refine step_lone_go ?_
          rw [hstepG]
          have hfnn : P.funcs[fr.fn]? = some fn := by rw [hf.fn]; exact hP
          unfold unwind
          rw [hcs]
          simp [hdf, hm, hfnn, hrun, doReturn, hf.kind]
  | false =>
    simp only [hret, cond_false] at hs
    cases hrg : s.fr.rg with
    | pl ops l =>
      cases l with
      | cons o r => simp only [hrg] at hs; exact stepPl_sound hft hk h hrg hret hs
      | nil =>
        simp only [hrg] at hs
        simp only [stepPlEnd, Option.some.injEq] at hs
        subst hs
        obtain ⟨ρ, hr, hf, hlo, hst⟩ := h
        have hm := hf.mode
        rw [hret] at hm
        obtain ⟨front, rest, h1, h2, h3⟩ := hf.todo
        rw [hrg] at h3
        obtain ⟨⟨rest', rfl, hp⟩, hT⟩ := h3
        have := hp.nil
        subst this
        have ht : fr.todo = .inRegion ops [] :: rest := h1
        exact ⟨_, cs, w, .one (step_todo (fr' := { fr with todo := rest }) hm (by simp only [stepG.exec, ht])), ρ, hr, ⟨hf.fn, hf.kind, hf.mode, hf.ds, hf.ro, [], rest, rfl, h2, rfl, hT⟩, hlo, hst⟩
    | dr ops D X T0 lds cur =>
      cases cur with
      | none => simp only [hrg] at hs; exact stepDr_sound hft hk h hrg hret hs
      | some y => simp only [hrg] at hs; cases hs
    | no =>
      simp only [hrg] at hs
      unfold stepItem at hs
      have h0 := h
      obtain ⟨ρ, hr, hf, hlo, hst⟩ := h
      have hm := hf.mode
      rw [hret] at hm
      obtain ⟨front, rest, h1, h2, h3⟩ := hf.todo
      rw [hrg] at h3
      obtain ⟨rfl, hT⟩ := h3
      have ht : fr.todo = rest := h1
      cases htd : s.fr.todo with
      | nil =>
        simp only [htd] at hs
        rw [htd] at h2
        cases h2
        refine leave_sound h0 hrg hret hs (fun hro _ => ?_) (fun l hro => ?_)
        · simp only [stepG.exec, ht, hro]; rfl
        · simp only [stepG.exec, ht, hro]; rfl
      | cons x k =>
        rw [htd] at h2
        cases x with
        | code c => simp only [htd] at hs; exact stepCode_sound hft hmix h0 hrg hret htd hs
        | inBlock id =>
          simp only [htd, Option.some.injEq] at hs; subst hs
          cases h2 with
          | cons a t =>
            cases a
            exact todo_sound h0 hrg hret (fun ρ' hh => by rw [htd, ht] at hh; exact hh.tail) (by simp only [stepG.exec, ht])
        | inScope b =>
          simp only [htd, Option.some.injEq] at hs; subst hs
          cases h2 with
          | cons a t =>
            cases a
            exact todo_sound h0 hrg hret (fun ρ' hh => by rw [htd, ht] at hh; exact hh.tail) (by simp only [stepG.exec, ht])
        | inLoop b =>
          simp only [htd, Option.some.injEq] at hs; subst hs
          cases h2 with
          | cons a t =>
            rename_i m
            cases a
            exact todo_sound h0 hrg hret (m := .code b :: .inLoop b :: m) (fun ρ' hh => by rw [htd, ht] at hh; exact .cons (.code _) (.cons (.inLoop _) hh.tail)) (by simp only [stepG.exec, ht])
        | inRF i => simp only [htd] at hs; cases hs
        | endRF i =>
          simp only [htd] at hs
          unfold endA at hs
          cases h2 with
          | cons a t =>
            cases a with
            | endRF hi =>
              rename_i m b cc
              cases hB : s.H.get i with
              | none => simp [hB] at hs
              | some B =>
                cases B <;> simp only [hB] at hs <;> try (cases hs; done)
                rename_i st pd fn nt T ps asg bd d
                obtain ⟨o, ho, ts, db, dc, hts, hd, rfl⟩ := hr.blk hi hB
                have fin : st ≠ .busy → some { s with fr := { s.fr with todo := pendItems pd ++ k }, H := tput s.H i (.loop .exhausted pd fn nt T ps asg bd d) } = some s' → Goes P w0 base s' fr cs w := by
                  intro hnb he
                  simp only [Option.some.injEq] at he
                  subst he
                  have hrun := run_endLoop (P := P) ho hnb
                  have hw' : HR w0 ρ (tput s.H i (.loop .exhausted pd fn nt T ps asg bd d)) s.n (w.putObj b (.loop { state := .exhausted, pending := pd, fn := fn, tmps := ts, params := ps.toArray, assign := asg, body := bd, defers := db })) :=
                    hr.write hi hB rfl (World.putObj_heap_same (hr.base hi).2) ⟨ts, db, dc, hts, hd, rfl⟩ (Fr.put w b _)
                  have hstep : step P (lone fr (cs ++ base) w) = .next (lone { fr with todo := (pd.map Item.code).toList ++ m } (cs ++ base) (w.putObj b (.loop { state := .exhausted, pending := pd, fn := fn, tmps := ts, params := ps.toArray, assign := asg, body := bd, defers := db }))) := by
                    refine step_lone_go ?_
                    have hstep : stepG P true { frame := fr, callers := cs ++ base, status := .running, dying := none } w = stepG.exec P true true fr (cs ++ base) none w := by
                      obtain ⟨fn, tmps, todo, defers, mode, kind, ro⟩ := fr
                      simp only at hm; subst hm
                      rfl
                    rw [hstep]
                    simp only [stepG.exec, ht, Sem.runT_eq, hrun, GStep.bare_after]
                    rfl
                  refine ⟨_, cs, _, .one hstep, ρ, hw', ⟨hf.fn, hf.kind, hf.mode, hf.ds, hf.ro, [], _, rfl, ?_, by simp only [hrg]; exact ⟨rfl, hT⟩⟩, hlo, hst.mono ρ.le_refl (fun g _ hn => ⟨hn, by rw [get_tput, if_neg (fun e => by subst e; rw [hi] at hn; cases hn)]⟩)⟩
                  cases pd with
                  | none => exact t
                  | some c => exact .cons (.code _) t
                cases st with
                | busy => simp only at hs; cases hs
                | ready => exact fin (fun e => by cases e) hs
                | done => exact fin (fun e => by cases e) hs
                | exhausted => exact fin (fun e => by cases e) hs
        | beginRound =>
          simp only [htd] at hs
          cases h2 with
          | cons a t =>
            rename_i m
            cases a
            rcases hf.ro with ⟨hro, hro'⟩ | ⟨i, b, c, hro, hro', hi⟩
            · simp only [hro] at hs; cases hs
            · simp only [hro] at hs
              unfold beginA at hs
              cases hB : s.H.get i with
              | none => simp [hB] at hs
              | some B =>
                cases B <;> simp only [hB] at hs <;> try (cases hs; done)
                rename_i st pd fn nt T ps asg bd d
                cases st <;> simp only at hs <;> try (cases hs; done)
                simp only [Option.some.injEq] at hs
                subst hs
                obtain ⟨o, ho, ts, db, dc, hts, hd, rfl⟩ := hr.blk hi hB
                have hrun := run_beginRound (P := P) ho rfl
                have hw' : HR w0 ρ (tput s.H i (.loop .busy pd fn nt T ps asg bd d)) s.n (w.putObj b (.loop { state := .busy, pending := pd, fn := fn, tmps := ts, params := ps.toArray, assign := asg, body := bd, defers := db })) :=
                  hr.write hi hB rfl (World.putObj_heap_same (hr.base hi).2) ⟨ts, db, dc, hts, hd, rfl⟩ (Fr.put w b _)
                have hstep : step P (lone fr (cs ++ base) w) = .next (lone { fr with todo := m } (cs ++ base) (w.putObj b (.loop { state := .busy, pending := pd, fn := fn, tmps := ts, params := ps.toArray, assign := asg, body := bd, defers := db }))) := by
                  refine step_lone_go ?_
                  have hstep : stepG P true { frame := fr, callers := cs ++ base, status := .running, dying := none } w = stepG.exec P true true fr (cs ++ base) none w := by
                    obtain ⟨fn, tmps, todo, defers, mode, kind, ro⟩ := fr
                    simp only at hm; subst hm
                    rfl
                  rw [hstep]
                  simp only [stepG.exec, ht, hro', Option.elim_some]
                  simp [stepG.apply, hrun, Frame.finish, ht, hro']
                exact ⟨_, cs, _, .one hstep, ρ, hw', ⟨hf.fn, hf.kind, hf.mode, hf.ds, hf.ro, [], m, rfl, t, by simp only [hrg]; exact ⟨rfl, hT⟩⟩, hlo, hst.mono ρ.le_refl (fun g _ hn => ⟨hn, by rw [get_tput, if_neg (fun e => by subst e; rw [hi] at hn; cases hn)]⟩)⟩
end
end Go.Proofs.Ytnkjhicokcmmpaa.Ev

/-
  A RUN OF THE SMALL MACHINE IS A CONTRACT OF THE MODEL's CALL.
-/
namespace Go.Proofs.Ytnkjhicokcmmpaa.Ev
open Go Go.RowKit
section
variable {P : Program} {FT : FuncId → Option Func} {HK : Hook} {w0 : Bs}
theorem runE_sound (hft : FTok P FT) (hk : HKok P HK) (hmix : P.follows .mixedOrders = true) {base : List Frame} : ∀ (k : Nat) {s : ASt} {fr : Frame} {cs : List Frame} {w : World}, SR P w0 s fr cs w → Goes P w0 base (runE HK P FT k s) fr cs w
  | 0, s, fr, cs, w, h => ⟨fr, cs, w, Steps.refl _ _, h⟩
  | k + 1, s, fr, cs, w, h => by
    unfold runE
    cases hs : stepE HK P FT s with
    | none => exact ⟨fr, cs, w, Steps.refl _ _, h⟩
    | some s' =>
      obtain ⟨fr1, cs1, w1, h1, h2⟩ := stepE_sound (base := base) hft hk hmix h hs
      exact Goes.head h1 (runE_sound hft hk hmix k h2)
theorem calls_of_run (hft : FTok P FT) (hk : HKok P HK) (hmix : P.follows .mixedOrders = true) {f : FuncId} {s0 : ASt} (h0 : startE FT f = some s0) (k : Nat) {x : Value} (hfin : finalE P FT f (runE HK P FT k s0) = some (.v x)) (w : World) :
    Calls P f #[] w (fun e w' => e = .returned x ∧ Fr No w w') := by
  intro cs
  unfold startE at h0
  cases hfn : FT f with
  | none => simp [hfn] at h0
  | some fn =>
    cases hb : fn.body with
    | none => simp [hfn, hb] at h0
    | some body =>
      simp only [hfn, hb, Option.some.injEq] at h0
      have hP := hft.fn hfn
      have hstart : SR P ⟨w, No, fun _ => none⟩ s0 (Frame.enter P f #[] .normal) [] w := by
        subst h0
        refine ⟨fun _ => none, ⟨fun h => (by cases h), fun h => (by cases h), fun _ => ⟨rfl, rfl⟩, fun h => (by cases h), Fr.refl _ _, Env.le_refl _⟩, ⟨rfl, rfl, rfl, .nil, .inl ⟨rfl, rfl⟩, [], _, rfl, ?_, rfl, ?_⟩, Nat.le_refl _, .nil _⟩
        · simp only [Frame.enter, hP, Option.bind_some, hb, Option.getD_some]
          exact .cons (.code _) .nil
        · have := argsT_TR (ρ := fun _ => none) VRs.nil fn.ntmps
          have hz : cond (Nat.ble fn.ntmps ([] : List AV).length) ([] : List AV).length fn.ntmps = fn.ntmps := by
            cases h : Nat.ble fn.ntmps ([] : List AV).length with
            | true => have := Nat.le_of_ble_eq_true h; simp at this ⊢; omega
            | false => rfl
          rw [hz] at this
          simpa [Frame.enter, hP, argsT] using this
      obtain ⟨fr', cs', w', h1, ρ, hr, hf, hlo, hst⟩ := runE_sound (base := cs) hft hk hmix k hstart
      generalize runE HK P FT k s0 = s at *
      unfold finalE at hfin
      split at hfin
      · rename_i g1 hcs hret hds hrg hfnE
        rw [hcs] at hst
        cases hst
        cases hq : Nat.beq s.fr.fn f with
        | false => simp [hq] at hfin
        | true =>
          simp only [hq, cond_true] at hfin
          have hq' : s.fr.fn = f := by simpa using hq
          cases hres : resA P s.fr.T s.H g1.results.toList with
          | none => simp [hres] at hfin
          | some l =>
            simp only [hres, Option.some.injEq] at hfin
            obtain ⟨front, rest, g2, g3, g4⟩ := hf.todo
            rw [hrg] at g4
            obtain ⟨v, hv, hrun⟩ := results_sound hr g4.2 hres
            rw [hfin] at hv
            cases hv
            have hdsr := hf.ds
            rw [hds] at hdsr
            generalize hdf : fr'.defers = dfs at hdsr
            cases hdsr
            refine ⟨.returned x, w', fr', ⟨rfl, hr.fr⟩, h1, hf.fn.trans hq', ?_, hdf, hf.kind, g1, ?_, hrun⟩
            · rw [hf.mode, hret]; rfl
            · rw [hf.fn]; exact hft.fn hfnE
      · cases hfin
end
def tabOf (P : Program) : FuncId → Option Func := fun f => P.funcs[f]?
theorem tab_ok {P : Program} (h : (P.funcs.toList.all fun fn => !(fn.name == "runtime.NumGoroutine")) = true) : FTok P (tabOf P) :=
  ⟨fun h => h, fun {f fn} hf hb args w => by
    have hf' : P.funcs[f]? = some fn := hf
    rw [List.all_eq_true] at h
    have hm : fn ∈ P.funcs.toList := by
      have : P.funcs.toList[f]? = some fn := by rw [Array.getElem?_toList]; exact hf'
      exact List.mem_of_getElem? this
    have hn := h fn hm
    have hn' : (fn.name == "runtime.NumGoroutine") = false := by simpa using hn
    have hbn : fn.body.isNone = false := by
      cases hbb : fn.body with
      | none => rw [hbb] at hb; cases hb
      | some b => rfl
    unfold callFunc
    simp only [Sem.run_bind, run_program, Result.andThen_ok, hf', hn', hbn, Bool.false_eq_true, if_false, Sem.run_pure]⟩
def isTrue : Option AV → Bool
  | some (.v (.bool b)) => b
  | _ => false
theorem isTrue_eq {x : Option AV} (h : isTrue x = true) : x = some (.v (.bool true)) := by
  unfold isTrue at h
  split at h
  · subst h; rfl
  · cases h
def truth (HK : Hook) (P : Program) (FT : FuncId → Option Func) (f : FuncId) (k : Nat) : Bool :=
  match startE FT f with
  | some s => isTrue (finalE P FT f (runE HK P FT k s))
  | none => false
theorem calls_of_truth {P : Program} {FT : FuncId → Option Func} {HK : Hook} (hft : FTok P FT) (hk : HKok P HK) (hmix : P.follows .mixedOrders = true) {f : FuncId} {k : Nat} (h : truth HK P FT f k = true) (w : World) :
    Calls P f #[] w (fun e w' => e = .returned (.bool true) ∧ Fr No w w') := by
  unfold truth at h
  split at h
  · rename_i s hs
    exact calls_of_run hft hk hmix hs k (isTrue_eq h) w
  · cases h
end Go.Proofs.Ytnkjhicokcmmpaa.Ev

/-
  Contracts as hooks of the small machine: windows of bytes that are read, rows that are new; hooks one beside the other.
-/
namespace Go.Proofs.Ytnkjhicokcmmpaa.Ev
open Go Go.RowKit
def hkOr (A B : Hook) : Hook := fun f args H n => match A f args H n with
  | some r => some r
  | none => B f args H n
theorem hkOr_ok {P : Program} {A B : Hook} (hA : HKok P A) (hB : HKok P B) : HKok P (hkOr A B) := by
  intro f args H n x H' n' h
  unfold hkOr at h
  split at h
  · rename_i r hr
    cases h
    exact hA hr
  · exact hB h
def u8A : List AV → Option (List UInt8)
  | [] => some []
  | .v (.int .u8 k) :: l => match u8A l with
    | some r => cond (decide (k = ((UInt8.ofNat k.toNat).toNat : Int))) (some (UInt8.ofNat k.toNat :: r)) none
    | none => none
  | _ => none
theorem u8A_sound {ρ : Env} : ∀ {l : List AV} {bs : List UInt8} {us : List Value}, u8A l = some bs → VRs ρ l us → us = bs.map byt
  | [], bs, us, h, hu => by simp [u8A] at h; subst h; cases hu; rfl
  | x :: l, bs, us, h, hu => by
    cases hu with
    | cons e t =>
      unfold u8A at h
      split at h
      · rename_i heq; cases heq
      · rename_i k l' heq
        cases heq
        cases e
        split at h
        · rename_i r hr
          cases hc : decide (k = ((UInt8.ofNat k.toNat).toNat : Int)) with
          | false => rw [hc] at h; cases h
          | true =>
            rw [hc] at h
            simp only [cond_true, Option.some.injEq] at h
            subst h
            have hk := of_decide_eq_true hc
            rw [u8A_sound hr t]
            simp only [List.map_cons, byt]
            rw [← hk]
        · cases h
      · cases h
def winA (x : AV) (H : Tr AB) : Option (List UInt8) :=
  match x with
  | .v (.slice none 0 0) => some []
  | .sl i o n c => match H.get i with
    | some (.mem _ _ l) => cond (Nat.ble (o + n) l.length && Nat.ble n c && Nat.ble c 1073741824) (u8A ((l.drop o).take n)) none
    | _ => none
  | .su i o n _ _ => match H.get i with
    | some (.mem _ (some _) l) => cond (Nat.ble (o + n) l.length) (u8A ((l.drop o).take n)) none
    | _ => none
  | _ => none
theorem winA_sound {w0 : Bs} {w : World} {ρ : Env} {H : Tr AB} {n : Nat} (hr : HR w0 ρ H n w) {x : AV} {bs : List UInt8} {u : Value} (h : winA x H = some bs) (hx : VR ρ x u) : ∃ a m c, u = .slice a m c ∧ m = bs.length ∧ Win w a m c (bs.map byt) := by
  have part : ∀ {i o m c b cc : Nat} {T : TypeId} {z : Option Nat} {l : List AV}, ρ i = some (b, cc) → H.get i = some (.mem T z l) → o + m ≤ l.length → m ≤ c → c ≤ maxLen → u8A ((l.drop o).take m) = some bs →
      m = bs.length ∧ Win w (some ⟨b, o, none⟩) m c (bs.map byt) := by
    intro i o m c b cc T z l hi hB hle hmc hcm hu
    obtain ⟨ob, ho, vs, sp, fz, hv, rfl, hz, _⟩ := hr.blk hi hB
    have hlen := hv.length
    have hus := u8A_sound hu ((hv.drop o).take m)
    have hml : m = bs.length := by
      have := congrArg List.length hus
      simp at this
      omega
    refine ⟨hml, by simp [hml], hmc, hcm, (fun e => by cases e), fun ad had j v hj => ?_⟩
    cases had
    rw [← hus] at hj
    rw [Addr.add_mid]
    have hcs : w.rangeAt b o ((vs.drop o).take m) := by
      have := cells_range ho (o := o) (k := m) (by simp; omega)
      rwa [List.drop_append_of_le_length (by omega), List.take_append_of_le_length (by simp; omega)] at this
    exact hcs j v hj
  unfold winA at h
  split at h
  · cases h; cases hx
    exact ⟨none, 0, 0, rfl, rfl, Win.nilw w⟩
  · rename_i i o m c
    cases hx with
    | sl _ _ _ hi =>
      split at h
      · rename_i T z l hB
        cases hc : (Nat.ble (o + m) l.length && Nat.ble m c && Nat.ble c 1073741824) with
        | false => simp [hc] at h
        | true =>
          simp only [hc, cond_true] at h
          simp only [Bool.and_eq_true, Nat.ble_eq] at hc
          obtain ⟨h1, h2⟩ := part hi hB hc.1.1 hc.1.2 (by have := hc.2; unfold maxLen; omega) h
          exact ⟨_, _, _, rfl, h1, h2⟩
      · cases h
  · rename_i i o m k q
    cases hx with
    | @su _ b d _ _ _ _ hi hn =>
      split at h
      · rename_i T z l hB
        cases hc : Nat.ble (o + m) l.length with
        | false => simp [hc] at h
        | true =>
          simp only [hc, cond_true] at h
          obtain ⟨ob, ho, vs, sp, fz, hv, _, hz, hq⟩ := hr.blk hi hB
          have hq2 : d ≤ maxLen := hq.2
          obtain ⟨h1, h2⟩ := part (c := d - k) hi hB (Nat.le_of_ble_eq_true hc) (by omega) (by omega) h
          exact ⟨_, _, _, rfl, h1, h2⟩
      · cases h
  · cases h
theorem HR.newAt {w0 : Bs} {w w' : World} {ρ : Env} {H : Tr AB} {n g c : Nat} {B : AB} {o : Obj} (hr : HR w0 ρ H n w) (hf : Fr No w w') (ho : w'.heap[g]? = some o) (hg : w.heap.size ≤ g) (hb : BR (ρ.set n (g, c)) c B o) :
    HR w0 (ρ.set n (g, c)) (tput H n B) (n + 1) w' ∧ Ext ρ (ρ.set n (g, c)) H (tput H n B) n (n + 1) := by
  have hle : ρ.le (ρ.set n (g, c)) := Env.le_set (hr.top (Nat.le_refl _)).1 _
  have hp := (hr.old hf).put B
  refine ⟨⟨fun {j b d C} q1 q2 => ?_, fun {j i b d e C D} q1 q2 q3 q4 q5 q6 => ?_, fun {j} hj => ?_, fun {j b d} q1 => ?_, hp.fr, Env.le_trans hp.le hle⟩, Ext.alloc hr _ _⟩
  · unfold Env.set at q1
    split at q1
    · rename_i e
      subst e
      cases q1
      rw [get_tput, if_pos rfl] at q2
      cases q2
      exact ⟨_, ho, hb⟩
    · obtain ⟨o', h3, h4⟩ := hp.blk q1 q2
      exact ⟨o', h3, h4.mono hle⟩
  · unfold Env.set at q1 q2
    split at q1 <;> split at q2
    · rename_i e e'; rw [e, e']
    · cases q1; exact absurd (Nat.lt_of_lt_of_le (hr.base q2).2 hg) (Nat.lt_irrefl _)
    · cases q2; exact absurd (Nat.lt_of_lt_of_le (hr.base q1).2 hg) (Nat.lt_irrefl _)
    · exact hp.inj q1 q2 q3 q4 q5 q6
  · have := hp.top hj
    refine ⟨?_, this.2⟩
    unfold Env.set
    rw [if_neg (by omega)]
    exact this.1
  · unfold Env.set at q1
    split at q1
    · cases q1; exact ⟨.inr (Nat.le_trans hr.fr.size hg), (Array.getElem?_eq_some_iff.1 ho).1⟩
    · exact hp.base q1
theorem HR.newOwn {w0 : Bs} {w w' : World} {ρ : Env} {H : Tr AB} {n g c m k : Nat} {T : TypeId} {l : List AV} {xs : List Value} (hr : HR w0 ρ H n w) (hf : Fr No w w') (ho : Own w' T k (.slice (some ⟨g, 0, none⟩) m c) m xs) (hg : w.heap.size ≤ g) (hx : VRs ρ l xs) :
    HR w0 (ρ.set n (g, c)) (tput H n (.mem T (some k) l)) (n + 1) w' ∧ Ext ρ (ρ.set n (g, c)) H (tput H n (.mem T (some k) l)) n (n + 1) ∧ VR (ρ.set n (g, c)) (.su n 0 m 0 m) (.slice (some ⟨g, 0, none⟩) m c) := by
  obtain ⟨sp, hB, h1, h2, h3, h4⟩ := ho.blk
  obtain ⟨q1, q2⟩ := hr.newAt (c := c) (B := .mem T (some k) l) hf hB hg ⟨xs, sp, (0, 0), hx.mono (Env.le_set (hr.top (Nat.le_refl _)).1 _), rfl, unfrozen_zero _, h2, h4⟩
  exact ⟨q1, q2, VR.su 0 m 0 m (Env.set_same _ _ _) ⟨Nat.le_refl _, by omega⟩⟩
theorem hook_call {P : Program} (ht : (P.funcs.toList.all fun fn => !(fn.name == "runtime.NumGoroutine")) = true) {f : FuncId} {fn : Func} (hf : P.funcs[f]? = some fn) (hb : fn.body.isSome = true) (xs : Array Value) (w : World) :
    (callFunc f xs).run P w = .ok (.enter f xs) w := (tab_ok ht).call (show tabOf P f = some fn from hf) hb xs w
def cellsB (bs : List UInt8) : List AV := (bs.map byt).map .v
def natA (k : IntKind) (lim : Nat) : AV → Option Nat
  | .v (.int j (.ofNat n)) => cond (decide (j = k) && Nat.blt n lim) (some n) none
  | _ => none
theorem natA_sound {ρ : Env} {k : IntKind} {lim m : Nat} {x : AV} {u : Value} (h : natA k lim x = some m) (hx : VR ρ x u) : u = .int k (m : Int) ∧ m < lim := by
  unfold natA at h
  split at h
  · rename_i j n
    cases hx
    cases hc : (decide (j = k) && Nat.blt n lim) with
    | false => simp [hc] at h
    | true =>
      simp only [hc, cond_true, Option.some.injEq] at h
      subst h
      simp only [Bool.and_eq_true, decide_eq_true_eq, Nat.blt_eq] at hc
      rw [hc.1]
      exact ⟨rfl, hc.2⟩
  · cases h
theorem HR.start (w : World) : HR ⟨w, No, fun _ => none⟩ (fun _ => none) .e 0 w :=
  ⟨fun h => (by cases h), fun h => (by cases h), fun _ => ⟨rfl, rfl⟩, fun h => (by cases h), Fr.refl _ _, Env.le_refl _⟩
end Go.Proofs.Ytnkjhicokcmmpaa.Ev

/-
  What waits, and a sector of one byte, as hooks of the small machine.
-/
namespace Go.Proofs.Ytnkjhicokcmmpaa
open Go Go.RowKit
namespace Ev
def insZ (x : Int) : List Int → List Int
  | [] => [x]
  | y :: l => cond (decide (x ≤ y)) (x :: y :: l) (y :: insZ x l)
def isortZ : List Int → List Int
  | [] => []
  | x :: l => insZ x (isortZ l)
theorem insZ_perm (x : Int) : ∀ l, (insZ x l).Perm (x :: l)
  | [] => .refl _
  | y :: l => by
    unfold insZ
    cases decide (x ≤ y) with
    | true => exact .refl _
    | false => exact ((insZ_perm x l).cons y).trans (.swap x y l)
theorem isortZ_perm : ∀ l, (isortZ l).Perm l
  | [] => .refl _
  | x :: l => (insZ_perm x _).trans ((isortZ_perm l).cons x)
theorem insZ_sorted (x : Int) : ∀ l, l.Pairwise (· ≤ ·) → (insZ x l).Pairwise (· ≤ ·)
  | [], _ => by simp [insZ]
  | y :: l, h => by
    unfold insZ
    rw [List.pairwise_cons] at h
    cases hd : decide (x ≤ y) with
    | true =>
      have hxy := of_decide_eq_true hd
      rw [cond_true, List.pairwise_cons, List.pairwise_cons]
      refine ⟨fun z hz => ?_, h⟩
      rcases List.mem_cons.1 hz with rfl | hz
      · exact hxy
      · exact Int.le_trans hxy (h.1 z hz)
    | false =>
      have hxy := of_decide_eq_false hd
      rw [cond_false, List.pairwise_cons]
      refine ⟨fun z hz => ?_, insZ_sorted x l h.2⟩
      rcases List.mem_cons.1 ((insZ_perm x l).mem_iff.1 hz) with rfl | hz
      · omega
      · exact h.1 z hz
theorem isortZ_sorted : ∀ l, (isortZ l).Pairwise (· ≤ ·)
  | [] => .nil
  | x :: l => insZ_sorted x _ (isortZ_sorted l)
theorem sortZ_eq (l : List Int) : sortZ l = isortZ l := by
  have tr : ∀ a b c : Int, leI a b = true → leI b c = true → leI a c = true := fun a b c h1 h2 => by simp only [leI, decide_eq_true_eq] at *; exact Int.le_trans h1 h2
  have tot : ∀ a b : Int, (leI a b || leI b a) = true := fun a b => by simp only [leI, Bool.or_eq_true, decide_eq_true_eq]; exact Int.le_total a b
  refine List.Perm.eq_of_pairwise (le := fun a b => a ≤ b) (fun a b _ _ h1 h2 => Int.le_antisymm h1 h2) ((List.pairwise_mergeSort tr tot l).imp (fun h => by simpa [leI] using h)) (isortZ_sorted l) ((List.mergeSort_perm l leI).trans (isortZ_perm l).symm)
def keysZ : List (Value × AV × Nat) → Option (List Int)
  | [] => some []
  | (.int .i64 k, _, _) :: l => match keysZ l with
    | some r => some (k :: r)
    | none => none
  | _ => none
def wfZ (k : Int) : Bool := (Lit.int .i64 k).wf
def memN (b : Nat) : List Nat → Bool
  | [] => false
  | x :: l => cond (Nat.beq b x) true (memN b l)
def nodupN : List Nat → Bool
  | [] => true
  | x :: l => !memN x l && nodupN l
def memZ (b : Int) : List Int → Bool
  | [] => false
  | x :: l => cond (decide (b = x)) true (memZ b l)
def nodupZ : List Int → Bool
  | [] => true
  | x :: l => !memZ x l && nodupZ l
theorem memN_iff (b : Nat) : ∀ l, memN b l = true ↔ b ∈ l
  | [] => by simp [memN]
  | x :: l => by
    unfold memN
    rw [beq_dec]
    by_cases h : b = x
    · simp [h]
    · simp [h, memN_iff b l]
theorem nodupN_spec : ∀ l, nodupN l = true → l.Nodup
  | [], _ => .nil
  | x :: l, h => by
    simp only [nodupN, Bool.and_eq_true, Bool.not_eq_true'] at h
    exact List.nodup_cons.2 ⟨fun hx => by rw [(memN_iff x l).2 hx] at h; exact absurd h.1 (by simp), nodupN_spec l h.2⟩
theorem memZ_iff (b : Int) : ∀ l, memZ b l = true ↔ b ∈ l
  | [] => by simp [memZ]
  | x :: l => by
    unfold memZ
    by_cases h : b = x
    · simp [h]
    · simp [h, memZ_iff b l]
theorem nodupZ_spec : ∀ l, nodupZ l = true → l.Nodup
  | [], _ => .nil
  | x :: l, h => by
    simp only [nodupZ, Bool.and_eq_true, Bool.not_eq_true'] at h
    exact List.nodup_cons.2 ⟨fun hx => by rw [(memZ_iff x l).2 hx] at h; exact absurd h.1 (by simp), nodupZ_spec l h.2⟩
theorem keysZ_sound {ρ : Env} {l : List (Value × AV × Nat)} {m : List MapEntry} (h : ERs ρ l m) : ∀ {ks : List Int}, keysZ l = some ks → m.map (·.key) = ks.map encZ ∧ m.map (·.born) = l.map (·.2.2) ∧ m.length = ks.length := by
  induction h with
  | nil => intro ks h; simp [keysZ] at h; subst h; exact ⟨rfl, rfl, rfl⟩
  | cons hx t ih =>
    intro ks h
    unfold keysZ at h
    split at h
    · rename_i heq; cases heq
    · rename_i k x' b' l' heq
      cases heq
      split at h
      · rename_i r hr
        cases h
        obtain ⟨h1, h2, h3⟩ := ih hr
        exact ⟨by simp [h1, encZ], by simp [h2], by simp [h3]⟩
      · cases h
    · cases h
def someLen : AV → Bool
  | .sl _ _ n _ => Nat.ble 1 n && Nat.ble n 100000
  | .su _ _ n _ _ => Nat.ble 1 n && Nat.ble n 100000
  | _ => false
theorem someLen_sound {ρ : Env} {x : AV} {u : Value} (h : someLen x = true) (hx : VR ρ x u) : ∃ a n c, u = .slice a n c ∧ 0 < n ∧ n ≤ 100000 := by
  unfold someLen at h
  split at h
  · simp only [Bool.and_eq_true, Nat.ble_eq] at h
    cases hx; exact ⟨_, _, _, rfl, h.1, h.2⟩
  · simp only [Bool.and_eq_true, Nat.ble_eq] at h
    cases hx; exact ⟨_, _, _, rfl, h.1, h.2⟩
  · cases h
def waitsHook : Hook := fun f args H n =>
  cond (Nat.beq f 50) (match args with
    | [.ptr i 0] => match H.get i with
      | some (.mem _ _ (x0 :: .mp j :: _)) => match H.get j with
        | some (.map l c) => match keysZ l with
          | some ks => cond (someLen x0 && ks.all wfZ && nodupZ ks && nodupN (l.map (·.2.2)) && (l.all fun e => Nat.blt e.2.2 c) && Nat.ble ks.length 100000)
            (match ks with
             | [] => some (.v (.slice none 0 0), H, n)
             | _ => some (.su n 0 ks.length 0 ks.length, tput H n (.mem 3 (some 1) (((isortZ ks).map encZ).map .v)), n + 1)) none
          | none => none
        | _ => none
      | _ => none
    | _ => none) none
theorem tab : (Try.prog.funcs.toList.all fun fn => !(fn.name == "runtime.NumGoroutine")) = true := by kernel_rfl
theorem waitsHook_ok : HKok Try.prog waitsHook := by
  intro f args H n x H' n' h
  unfold waitsHook at h
  cases hf : Nat.beq f 50 with
  | false => simp [hf] at h
  | true =>
    simp only [hf, cond_true] at h
    have hf' : f = 50 := by simpa using hf
    subst hf'
    refine ⟨fun xs w => hook_call tab Try.func50 (by kernel_rfl) xs w, ?_⟩
    intro w0 ρ w vs hr hvs
    split at h
    · rename_i i
      split at h
      · rename_i T z x0 j rest hB
        split at h
        · rename_i l c hM
          split at h
          · rename_i ks hks
            cases hc : (someLen x0 && ks.all wfZ && nodupZ ks && nodupN (l.map (·.2.2)) && (l.all fun e => Nat.blt e.2.2 c) && Nat.ble ks.length 100000) with
            | false => rw [hc] at h; cases h
            | true =>
              rw [hc, cond_true] at h
              simp only [Bool.and_eq_true, Nat.ble_eq, List.all_eq_true, Nat.blt_eq] at hc
              obtain ⟨⟨⟨⟨⟨c1, c2⟩, c3⟩, c4⟩, c5⟩, c6⟩ := hc
              cases hvs with
              | cons e1 t1 =>
              cases t1
              cases e1 with
              | @ptr _ b d _ hi =>
              obtain ⟨o, hob, us, sp, fz, hv, rfl, _, _⟩ := hr.blk hi hB
              cases hv with
              | @cons _ u0 _ _ y0 s1 =>
              cases s1 with
              | @cons _ u1 _ us' y1 s2 =>
              cases y1 with
              | @mp _ mb md hj =>
              obtain ⟨om, hom, es, hes, rfl⟩ := hr.blk hj hM
              obtain ⟨a, nn, cc, rfl, hn0, hn⟩ := someLen_sound c1 y0
              obtain ⟨hk1, hk2, hk3⟩ := keysZ_sound hes hks
              have hm : MapZ w mb ks := by
                refine ⟨es.toArray, c, hom, ⟨fun q hq => ?_, ?_, ?_⟩, ?_, ?_, fun k hk => c2 k hk⟩
                · have : q.born ∈ es.map (·.born) := List.mem_map.2 ⟨q, by simpa using hq, rfl⟩
                  rw [hk2] at this
                  obtain ⟨e, he, hq⟩ := List.mem_map.1 this
                  rw [← hq]; exact c5 e he
                · simp only [hk2]; exact nodupN_spec _ c4
                · simp only [hk1]
                  exact List.Pairwise.map _ (fun x y hxy e => hxy (encZ_inj e)) (nodupZ_spec _ c3)
                · simpa using hk1
                · simp [hk3]; omega
              have h0 : w.cell? ⟨b, 0, none⟩ = some (.slice a nn cc) := by rw [cells_cell hob]; rfl
              have h1 : w.cell? ⟨b, 1, none⟩ = some (.map (some mb)) := by rw [cells_cell hob]; rfl
              refine (waits_ok b mb nn cc a ks w h0 hn0 hn h1 hm).mono ?_
              rintro e w' ⟨v, rfl, hown, hnil, hnew, hfr⟩
              rw [sortZ_eq] at hown
              cases ks with
              | nil =>
                simp only [Option.some.injEq, Prod.mk.injEq] at h
                obtain ⟨rfl, rfl, rfl⟩ := h
                obtain rfl := hnil.2 rfl
                exact ⟨ρ, _, rfl, .v _, hr.old hfr, Ext.refl _ _ _⟩
              | cons k0 kr =>
                simp only [Option.some.injEq, Prod.mk.injEq] at h
                obtain ⟨rfl, rfl, rfl⟩ := h
                rcases hown.cases with ⟨_, e0, _⟩ | ⟨g, cg, rfl⟩
                · cases e0
                · obtain ⟨q1, q2, q3⟩ := hr.newOwn hfr hown (hnew g rfl) (VRs.of_vals _)
                  exact ⟨_, _, rfl, q3, q1, q2⟩
          · cases h
        · cases h
      · cases h
    · cases h
end Ev
end Go.Proofs.Ytnkjhicokcmmpaa

/-
  Records and roots, their sectors, and the sum of bytes, as hooks of the small machine.
-/
namespace Go.Proofs.Ytnkjhicokcmmpaa
open Go Go.RowKit
namespace Ev
theorem hook_if {P : Program} {F : FuncId} {fn : Func} (ht : (P.funcs.toList.all fun fn => !(fn.name == "runtime.NumGoroutine")) = true) (hF : P.funcs[F]? = some fn) (hb : fn.body.isSome = true) {K : List AV → Tr AB → Nat → Option (AV × Tr AB × Nat)}
    (h : ∀ {args H n x H' n'}, K args H n = some (x, H', n') → ∀ {w0 ρ w vs}, HR w0 ρ H n w → VRs ρ args vs → Calls P F vs.toArray w (fun e w' => ∃ ρ' v, e = .returned v ∧ VR ρ' x v ∧ HR w0 ρ' H' n' w' ∧ Ext ρ ρ' H H' n n')) :
    HKok P (fun f args H n => cond (Nat.beq f F) (K args H n) none) := by
  intro f args H n x H' n' hk
  simp only at hk
  cases hf : Nat.beq f F with
  | false => rw [hf] at hk; cases hk
  | true =>
    rw [hf, cond_true] at hk
    have hf' : f = F := by simpa using hf
    subst hf'
    exact ⟨fun xs w => hook_call ht hF hb xs w, fun hr hvs => h hk hr hvs⟩
def jencK (args : List AV) (H : Tr AB) (n : Nat) : Option (AV × Tr AB × Nat) :=
  match args with
  | [x, y, p] => match natA .u64 18446744073709551616 x, natA .u64 18446744073709551616 y, winA p H with
    | some e, some k, some bs => cond (recOk k bs.length)
        (some (.tup [.su n 0 128 0 128, .v (.int .i64 0)], tput H n (.mem 5 (some 1) (cellsB (recBytes e k bs))), n + 1))
        (some (.tup [.v (.slice none 0 0), .v (.int .i64 80)], H, n))
    | _, _, _ => none
  | _ => none
def jencHook : Hook := fun f args H n => cond (Nat.beq f 33) (jencK args H n) none
theorem jencHook_ok : HKok Try.prog jencHook := by
  refine hook_if (K := jencK) tab Try.func33 (by kernel_rfl) ?_
  intro args H n x H' n' h w0 ρ w vs hr hvs
  unfold jencK at h
  split at h
  · rename_i ax ay ap
    split at h
    · rename_i e k bs he hk hp
      cases hvs with
      | cons e1 t1 =>
      cases t1 with
      | cons e2 t2 =>
      cases t2 with
      | cons e3 t3 =>
      cases t3
      obtain ⟨rfl, he'⟩ := natA_sound he e1
      obtain ⟨rfl, hk'⟩ := natA_sound hk e2
      obtain ⟨a, m, c, rfl, rfl, hw⟩ := winA_sound hr hp e3
      cases hc : recOk k bs.length with
      | true =>
        rw [hc, cond_true] at h
        simp only [Option.some.injEq, Prod.mk.injEq] at h
        obtain ⟨rfl, rfl, rfl⟩ := h
        obtain ⟨h1, h2⟩ := recOk_of hc
        refine (jencode_ok e k he' hk' h1 a c bs h2 w hw).mono ?_
        rintro o w' ⟨g, cg, rfl, hown, hg, hfr⟩
        obtain ⟨q1, q2, q3⟩ := hr.newOwn hfr hown hg (VRs.of_vals _)
        exact ⟨_, _, rfl, .tup (.cons q3 (.cons (.v _) .nil)), q1, q2⟩
      | false =>
        rw [hc, cond_false] at h
        simp only [Option.some.injEq, Prod.mk.injEq] at h
        obtain ⟨rfl, rfl, rfl⟩ := h
        refine (jencode_bad e k a bs.length c hc w).mono ?_
        rintro o w' ⟨rfl, hfr⟩
        exact ⟨ρ, _, rfl, .tup (.cons (.v _) (.cons (.v _) .nil)), hr.old hfr, Ext.refl _ _ _⟩
    · cases h
  · cases h
def jdecK (args : List AV) (H : Tr AB) (n : Nat) : Option (AV × Tr AB × Nat) :=
  match args with
  | [p] => match winA p H with
    | some bs => cond (Nat.ble bs.length 1000)
        (match (decRecOf bs).p with
          | [] => some (.tup [.v (.int .u64 (decRecOf bs).e), .v (.int .u64 (decRecOf bs).n), .s0, .v (.int .i64 (decRecE bs))], H, n)
          | b :: r => some (.tup [.v (.int .u64 (decRecOf bs).e), .v (.int .u64 (decRecOf bs).n), .su n 0 (b :: r).length 0 (b :: r).length, .v (.int .i64 (decRecE bs))], tput H n (.mem 5 (some 1) (cellsB (b :: r))), n + 1)) none
    | none => none
  | _ => none
def jdecHook : Hook := fun f args H n => cond (Nat.beq f 35) (jdecK args H n) none
theorem jdecHook_ok : HKok Try.prog jdecHook := by
  refine hook_if (K := jdecK) tab Try.func35 (by kernel_rfl) ?_
  intro args H n x H' n' h w0 ρ w vs hr hvs
  unfold jdecK at h
  split at h
  · rename_i ap
    split at h
    · rename_i bs hp
      cases hvs with
      | cons e1 t1 =>
      cases t1
      obtain ⟨a, m, c, rfl, rfl, hw⟩ := winA_sound hr hp e1
      cases hc : Nat.ble bs.length 1000 with
      | false => rw [hc] at h; cases h
      | true =>
        rw [hc, cond_true] at h
        refine (jdecode_any a bs.length c bs w hw (Nat.le_of_ble_eq_true hc)).mono ?_
        rintro o w' ⟨v, rfl, hin, hfr⟩
        have hown := hin.own
        have hnew := hin.new
        split at h
        · rename_i hr0
          simp only [Option.some.injEq, Prod.mk.injEq] at h
          obtain ⟨rfl, rfl, rfl⟩ := h
          rw [hr0] at hown
          have hv : ∃ a' c', v = .slice a' 0 c' := by
            rcases hown.cases with ⟨e, _⟩ | ⟨g, cg, e⟩
            · exact ⟨_, _, e⟩
            · exact ⟨_, _, e⟩
          obtain ⟨a', c', rfl⟩ := hv
          exact ⟨ρ, _, rfl, .tup (.cons (.v _) (.cons (.v _) (.cons (.s0 _ _) (.cons (.v _) .nil)))), hr.old hfr, Ext.refl _ _ _⟩
        · rename_i b r hr0
          simp only [Option.some.injEq, Prod.mk.injEq] at h
          obtain ⟨rfl, rfl, rfl⟩ := h
          rw [hr0] at hown
          rcases hown.cases with ⟨_, e, _⟩ | ⟨g, cg, rfl⟩
          · cases e
          · obtain ⟨q1, q2, q3⟩ := hr.newOwn hfr hown (hnew g rfl) (VRs.of_vals _)
            exact ⟨_, _, rfl, .tup (.cons (.v _) (.cons (.v _) (.cons q3 (.cons (.v _) .nil)))), q1, q2⟩
    · cases h
  · cases h
end Ev
end Go.Proofs.Ytnkjhicokcmmpaa

/-
  The chapter's first examples (journal), by the small machine.
-/
namespace Go.Proofs.Ytnkjhicokcmmpaa.Sm
open Go Go.RowKit
def hk8 : Ev.Hook := Ev.hkOr Ev.waitsHook (Ev.hkOr Ev.jencHook Ev.jdecHook)
theorem hk8_ok : Ev.HKok Try.prog hk8 := Ev.hkOr_ok Ev.waitsHook_ok (Ev.hkOr_ok Ev.jencHook_ok Ev.jdecHook_ok)
theorem alive8_run : @Ev.truth hk8 Try.prog (Ev.tabOf Try.prog) 37 12000 = true := by kernel_rfl
theorem alive8 (w : World) : Calls Try.prog 37 #[] w (fun e w' => e = .returned (.bool true) ∧ Fr No w w') := Ev.calls_of_truth (Ev.tab_ok tab) hk8_ok mix alive8_run w
theorem alive8_ok : FOk Try.prog (trueF 37) := trueF_ok tab Try.func37 (by kernel_rfl) alive8
end Go.Proofs.Ytnkjhicokcmmpaa.Sm

/-
  A record's sector of which a byte was turned, plainly.
-/
namespace Go.Proofs.Ytnkjhicokcmmpaa.Sm
open Go Go.RowKit
def xorB (c y : Nat) : UInt8 := UInt8.ofNat (IntKind.u8.wrap (((BitVec.ofInt IntKind.u8.bits (c : Int) ^^^ BitVec.ofInt IntKind.u8.bits (y : Int)).toNat : Nat) : Int)).toNat
theorem ofInt_8 (a : Nat) (ha : a < 256) : (BitVec.ofInt 8 (a : Int)).toNat = a := by
  rw [BitVec.toNat_ofInt]; omega
theorem xorB_eq {c y : Nat} (hc : c < 256) (hy : y < 256) : (xorB c y).toNat = c ^^^ y := by
  have h1 : c ^^^ y < 2 ^ 8 := Nat.xor_lt_two_pow hc hy
  have h2 : (BitVec.ofInt IntKind.u8.bits (c : Int) ^^^ BitVec.ofInt IntKind.u8.bits (y : Int)).toNat = c ^^^ y := by
    show (BitVec.ofInt 8 (c : Int) ^^^ BitVec.ofInt 8 (y : Int)).toNat = _
    rw [BitVec.toNat_xor, ofInt_8 c hc, ofInt_8 y hy]
  unfold xorB
  rw [h2, UInt8.toNat_ofNat']
  simp [IntKind.wrap, IntKind.signed, IntKind.bits]
  omega
theorem xorB_zero (c : UInt8) : xorB c.toNat 0 = c := by
  apply UInt8.toNat_inj.1
  rw [xorB_eq c.toNat_lt (by decide), Nat.xor_zero]
theorem xorB_ne {c : UInt8} {y : Nat} (hy : y < 256) (h0 : y ≠ 0) : c ≠ xorB c.toNat y := fun e => h0 (by
  have := congrArg UInt8.toNat e
  rw [xorB_eq c.toNat_lt hy] at this
  have := congrArg (c.toNat ^^^ ·) this
  simp [← Nat.xor_assoc] at this
  exact this.symm)
theorem spoilt_run {d e : DiskD} {n m : Nat} (h : Flat d n) (he : Flat e m) {l : List (List UInt8)} (hr : Recs d 5 l) (hl : ∀ p ∈ l, p.length ≤ 64) (hlen : l.length ≤ 20) (hz : ∀ k, l.length ≤ k → k < 37 → sec d (3 + k) = List.replicate 128 0) {k j y : Nat} (hk : k < l.length) (hj : j < 128) (hy : y < 256)
    (hs : e.stays = d.stays.set (3 + k) ((recBytes 5 (k + 1) (l.getD k [])).set j (xorB ((recBytes 5 (k + 1) (l.getD k [])).getD j 0).toNat y))) : (jrun e 3 5 30).1 = if y = 0 then l else l.take k := by
  have hk3 : 3 + k < d.stays.length := by rw [h.len]; omega
  have hp64 : (l.getD k []).length ≤ 64 := hl _ (by rw [List.getD_eq_getElem?_getD, List.getElem?_eq_getElem hk]; simp)
  by_cases h0 : y = 0
  · rw [if_pos h0]
    subst h0
    have e1 : (recBytes 5 (k + 1) (l.getD k [])).set j (xorB ((recBytes 5 (k + 1) (l.getD k [])).getD j 0).toNat 0) = recBytes 5 (k + 1) (l.getD k []) := by
      rw [xorB_zero]
      have hj' : j < (recBytes 5 (k + 1) (l.getD k [])).length := by rw [recBytes_len _ _ _ hp64]; exact hj
      generalize recBytes 5 (k + 1) (l.getD k []) = R at hj'
      rw [List.getD_eq_getElem?_getD, List.getElem?_eq_getElem hj', Option.getD_some, List.set_getElem_self]
    rw [e1] at hs
    have hsec : ∀ q, sec e q = sec d q := fun q => by
      rw [sec_set hs hk3]
      by_cases hq : q = 3 + k
      · rw [if_pos hq, hq]; exact (hr k hk).symm
      · rw [if_neg hq]
    exact run_all he (by decide) (fun q hq => by rw [hsec]; exact hr q hq) hl (by omega) (ends_zero (by rw [hsec]; exact hz _ (Nat.le_refl _) (by omega)))
  · rw [if_neg h0]
    have hlt : (l.take k).length = k := by rw [List.length_take]; omega
    refine run_all he (by decide) (fun q hq => ?_) (fun p hp => hl p (List.mem_of_mem_take hp)) (by omega) (ends_none ?_)
    · rw [hlt] at hq
      rw [sec_set hs hk3, if_neg (by omega), hr q (by omega)]
      congr 1
      simp [List.getD_eq_getElem?_getD, List.getElem?_take, hq]
    · rw [hlt, sec_set hs hk3, if_pos rfl]
      exact dec_turned hp64 hj (xorB_ne hy h0)
end Go.Proofs.Ytnkjhicokcmmpaa.Sm

/-
  Two lists of bytes, compared.
-/
namespace Go.Proofs.Ytnkjhicokcmmpaa.Sm
open Go Go.RowKit
def byF : List AV → List UInt8
  | [.by8 b] => b
  | _ => []
def recsF (n : Nat) (f : Nat → List AV) : List (List UInt8) := (List.range n).map fun r => byF (f r)
theorem recsF_len (n : Nat) (f : Nat → List AV) : (recsF n f).length = n := by simp [recsF]
theorem recs_bys (l : List (List UInt8)) : recsF l.length (bysF l) = l := by
  unfold recsF
  apply List.ext_getElem?
  intro j
  by_cases h : j < l.length
  · rw [List.getElem?_map, List.getElem?_range h]
    simp [bysF, rowsOf, byF, h]
  · rw [List.getElem?_eq_none (by simp; omega), List.getElem?_eq_none (by omega)]
def bsrcL (x : AV) (H : Tr AB) : Option (List (List UInt8) × Prop) :=
  match x with
  | .v (.slice none 0 0) => some ([], True)
  | .im 1 n f => some (recsF n f, ∀ r, r < n → f r = bysF (recsF n f) r)
  | .ow i n => match H.get i with
    | some (.rw _ 1 m f) => some (recsF n f, m = n ∧ ∀ r, r < n → f r = bysF (recsF n f) r)
    | _ => none
  | _ => none
theorem bsrcL_sound {w0 : Bs} {ρ : Env} {H : Tr AB} {n : Nat} {w : World} (hr : HR w0 ρ H n w) {x : AV} {u : Value} {r : List (List UInt8) × Prop} (h : bsrcL x H = some r) (hC : r.2) (hx : VR ρ x u) : VR (envOf w) (.im 1 r.1.length (bysF r.1)) u := by
  have him := im_all hr
  unfold bsrcL at h
  split at h
  · cases h; cases hx; exact .im (winE_nil _ _) (fun r hr => absurd hr (Nat.not_lt_zero _))
  · rename_i m f
    cases h
    cases hx with
    | im hw hf =>
      rw [recsF_len]
      exact .im (hw.mono him) (fun r hr' => by rw [← hC r hr']; exact (hf r hr').mono him)
  · rename_i i m
    split at h
    · rename_i T m' f hB
      cases h
      obtain ⟨rfl, hC'⟩ : m' = m ∧ ∀ r, r < m → f r = bysF (recsF m f) r := hC
      rw [recsF_len]
      cases hx with
      | @ow _ b c _ hi hn hc =>
        obtain ⟨ob, ho, vs, sp, rfl, g1, g2, g3, g4, g5⟩ := hr.blk hi hB
        refine .im (vs := vs) ⟨by rw [g1], hn, hc, (fun e => by cases e), fun ad had j u hu => ?_⟩ (fun r hr' => by rw [← hC' r hr']; exact (g5 r hr').mono him)
        cases had
        rw [Addr.add_lit]
        refine imOf_cell ?_
        rw [cells_cell ho, Nat.zero_add, List.getElem?_append_left (List.getElem?_eq_some_iff.1 hu).1]; exact hu
      | ow0 => exact .im (winE_nil _ _) (fun r hr => absurd hr (Nat.not_lt_zero _))
    · cases h
  · cases h
set_option maxRecDepth 100000 in
theorem lists_to (hok : S0.Ok Try.prog) (l m : List (List UInt8)) (hl : l.length ≤ 1000000) : To S0 Try.prog 45 (startOf Try.prog 45 [.im 1 l.length (bysF l), .im 1 m.length (bysF m)] .e 0) (fun x _ _ => x = .v (.bool (decide (l = m)))) := by
  refine To.run hok 5000 (C := True ∧ True) (by kernel_rfl) (by (and_intros <;> try first | exact True.intro | with_reducible rfl | omega | with_reducible assumption)) ?_
  refine To.brn hok ((↑(List.length l) : Int) = (↑(List.length m) : Int)) (C := True) (by kernel_rfl) (by kernel_rfl) (by (and_intros <;> try first | exact True.intro | with_reducible rfl | omega | with_reducible assumption)) ?_ ?_
  · intro h
    refine To.run hok 5000 (C := True) (by kernel_rfl) trivial ?_
    refine To.end (AV.v (Value.bool false)) (by kernel_rfl) ?_
    have : l ≠ m := fun e => h (by rw [e])
    simp [this]
  · intro h
    have hlen : l.length = m.length := by omega
    refine To.run hok 10 (C := True) (by kernel_rfl) trivial ?_
    refine To.loopX (L := []) (kp := [(5 : Nat), (1 : Nat), (0 : Nat)]) (ks := []) (C := IntKind.i64 = IntKind.i64 ∧ (0 : Int) = (↑(0 : Nat) : Int)) (st := fun (a : Nat) => (⟨(⟨45, 28, (slotT 28 [(0, AV.im (nat_lit 1) (List.length l) (bysF l)), (1, AV.im (nat_lit 1) (List.length m) (bysF m)), (5, AV.sy (Value.int IntKind.i64 (↑a : Int)))]), ARg.no, [(Go.Proofs.Ytnkjhicokcmmpaa.Sm.AItem.code (subC (bodyC Try.prog 45) [1, 1, 0, 1, 0, 0])), (Go.Proofs.Ytnkjhicokcmmpaa.Sm.AItem.inLoop (subC (bodyC Try.prog 45) [1, 1, 0, 1, 0, 0])), (AItem.inBlock 0), (Go.Proofs.Ytnkjhicokcmmpaa.Sm.AItem.code (subC (bodyC Try.prog 45) [1, 1, 1]))], [], false, none, (0 : Nat)⟩ : AFr), [], memF [] 0 Tr.e, 0⟩ : ASt)) (hB := by kernel_rfl) (hC := by kernel_rfl) (he := by kernel_rfl) (hI := ?_) (hc := by (and_intros <;> try first | exact True.intro | with_reducible rfl | omega | with_reducible assumption)) (step := ?_) (fun (a : Nat) => [(5, ivA (a : Int))]) (fun _ => []) (fun a => a ≤ l.length ∧ l.take a = m.take a) (fun a => l.length - a) (0)
    · simp
    intro a ⟨ha, hn⟩ ih
    refine To.run hok 5000 (C := True) (by kernel_rfl) trivial ?_
    refine To.brd hok ((↑a : Int) < (↑(List.length l) : Int)) (C := True) (by kernel_rfl) (by kernel_rfl) (by (and_intros <;> try first | exact True.intro | with_reducible rfl | omega | with_reducible assumption)) ?_ ?_
    · intro h1
      have hlt : a < l.length := by omega
      have hlm : a < m.length := by omega
      have hm1 : (a : Int) < m.length := by omega
      refine To.run hok 5000 (C := ((0 : Int) ≤ (↑a : Int) ∧ (↑a : Int) < (↑(List.length l) : Int)) ∧ True ∧ True ∧ ((0 : Int) ≤ (↑a : Int) ∧ (↑a : Int) < (↑(List.length m) : Int)) ∧ True ∧ True) (by kernel_rfl) (by (and_intros <;> try first | exact True.intro | with_reducible rfl | omega | with_reducible assumption)) ?_
      refine To.brn hok (Array.toList (ByteArray.data (str (List.getD l a default))) = Array.toList (ByteArray.data (str (List.getD m a default)))) (C := True) (by kernel_rfl) (by kernel_rfl) (by (and_intros <;> try first | exact True.intro | with_reducible rfl | omega | with_reducible assumption)) ?_ ?_
      · intro h2
        refine To.run hok 5000 (C := True) (by kernel_rfl) trivial ?_
        refine To.end (AV.v (Value.bool false)) (by kernel_rfl) ?_
        have : l ≠ m := fun e => by subst e; simp at h2
        simp [this]
      · intro h2
        have h3 : l.getD a default = m.getD a default := by simpa [str] using h2
        have hi1 : a + 1 ≤ l.length := hlt
        have hi2 : l.take (a + 1) = m.take (a + 1) := by
          rw [List.getD_eq_getElem?_getD, List.getElem?_eq_getElem hlt, List.getD_eq_getElem?_getD, List.getElem?_eq_getElem hlm] at h3
          have h4 : l[a] = m[a] := by simpa using h3
          rw [List.take_succ_eq_append_getElem hlt, List.take_succ_eq_append_getElem hlm, hn, h4]
        have hi3 : l.length - (a + 1) < l.length - a := by omega
        refine To.run hok 10 (C := fits IntKind.i64 ((↑a : Int) + (1 : Int))) (by kernel_rfl) (by (and_intros <;> try first | exact True.intro | with_reducible rfl | omega | with_reducible assumption | (refine fits_i64 ?_ ?_ <;> omega))) ?_
        refine To.backX (L := []) (kp := [(5 : Nat), (1 : Nat), (0 : Nat)]) (ks := []) (ov := [((5 : Nat), AV.sy (Value.int IntKind.i64 (↑(a + (1 : Nat)) : Int)))]) (ob := []) (C := IntKind.i64 = IntKind.i64 ∧ (↑a : Int) + (1 : Int) = (↑(a + (1 : Nat)) : Int)) (hB := by kernel_rfl) (hC := by kernel_rfl) (hc := by (and_intros <;> try first | exact True.intro | with_reducible rfl | omega | with_reducible assumption)) (he := by kernel_rfl) (ih (a + 1) ⟨hi1, hi2⟩ hi3)
    · intro h1
      refine To.run hok 5000 (C := True) (by kernel_rfl) trivial ?_
      refine To.end (AV.v (Value.bool true)) (by kernel_rfl) ?_
      have : l = m := by
        rwa [List.take_of_length_le (by omega), List.take_of_length_le (by omega)] at hn
      simp [this]
def listsG : CG := oneG 45 (testG fun args H => match args with
  | [x, y] => match bsrcL x H, bsrcL y H with
    | some r, some q => some (decide (r.1 = q.1), r.2 ∧ q.2 ∧ r.1.length ≤ 1000000)
    | _, _ => none
  | _ => none)
theorem listsG_ok : GOk Try.prog listsG := testG_ok tab Try.func45 (by kernel_rfl) fun {args H r} h hC {w0 ρ w vs n} hr hv => by
  split at h
  · rename_i x y
    split at h
    · rename_i r q hx hy
      cases h
      obtain ⟨h1, h2, h3⟩ : r.2 ∧ q.2 ∧ r.1.length ≤ 1000000 := hC
      cases hv with
      | cons e1 t =>
      cases t with
      | cons e2 t =>
      cases t
      refine (pure_calls s0_ok (by kernel_rfl) (lists_to s0_ok r.1 q.1 h3) (w := w) (.cons (bsrcL_sound hr hx h1 e1) (.cons (bsrcL_sound hr hy h2 e2) .nil))).mono ?_
      rintro e w' ⟨x, H', n', ρ', v, rfl, rfl, hv, hf, _⟩
      cases hv
      exact ⟨rfl, hf⟩
    · cases h
  · cases h
end Go.Proofs.Ytnkjhicokcmmpaa.Sm

/-
  JournalSpoilt: the walk.
-/
namespace Go.Proofs.Ytnkjhicokcmmpaa.Sm
open Go Go.RowKit
noncomputable abbrev S13 : Sy := sym Try.prog (orF (trueF 37) (orF jrnF0 (orF jencF clone8F))) (orG jrnG0 (orG openG listsG))
theorem s13_ok : S13.Ok Try.prog := sym_ok (orF_ok alive8_ok (orF_ok jrnF0_ok (orF_ok jencF_ok clone8F_ok))) (orG_ok jrnG0_ok (orG_ok openG_ok listsG_ok)) tab mix
theorem recs_take {l : List (List UInt8)} {k : Nat} (h : k ≤ l.length) : recsF k (fun r => bysF l (r + 0)) = l.take k := by
  unfold recsF
  apply List.ext_getElem?
  intro j
  by_cases hj : j < k
  · have hjl : j < l.length := by omega
    rw [List.getElem?_map, List.getElem?_range hj, List.getElem?_take, if_pos hj, List.getElem?_eq_getElem hjl]
    simp [bysF, rowsOf, byF, hjl]
  · rw [List.getElem?_eq_none (by simp; omega), List.getElem?_eq_none (by rw [List.length_take]; omega)]
theorem bys_take {l : List (List UInt8)} {k r : Nat} (h : r < k) : bysF l (r + 0) = bysF (l.take k) r := by
  simp [bysF, rowsOf, List.getD_eq_getElem?_getD, List.getElem?_take, h]
structure SpP where
  i : Nat
  d : DiskD
set_option maxHeartbeats 4000000 in
set_option maxRecDepth 100000 in
theorem spoilt_to (hS : S13.Ok Try.prog) (l : List (List UInt8)) (wh at_ byv : Nat) (hw : wh < 256) (ha : at_ < 256) (hb : byv < 256) : To S13 Try.prog 10 (startOf Try.prog 10 [.im 1 l.length (bysF l), .sy (.int .u8 (wh : Int)), .sy (.int .u8 (at_ : Int)), .sy (.int .u8 (byv : Int))] .e 0) (fun x _ _ => x = .v (.bool true)) := by
  have hN := flat_new
  have hNf := hN.in_.fine
  refine To.run hS 5000 (C := True ∧ True) (by kernel_rfl) (by (and_intros <;> try first | exact True.intro | with_reducible rfl | omega | with_reducible assumption)) ?_
  refine To.brd hS ((↑(List.length l) : Int) = (0 : Int)) (C := True) (by kernel_rfl) (by kernel_rfl) (by (and_intros <;> try first | exact True.intro | with_reducible rfl | omega | with_reducible assumption)) ?_ ?_
  · intro h1
    refine To.run hS 5000 (C := True) (by kernel_rfl) trivial ?_
    refine To.end (AV.v (Value.bool true)) (by kernel_rfl) ?_
    rfl
  intro h1
  refine To.run hS 5000 (C := True) (by kernel_rfl) trivial ?_
  refine To.brd hS ((20 : Int) < (↑(List.length l) : Int)) (C := True) (by kernel_rfl) (by kernel_rfl) (by (and_intros <;> try first | exact True.intro | with_reducible rfl | omega | with_reducible assumption)) ?_ ?_
  · intro h2
    refine To.run hS 5000 (C := True) (by kernel_rfl) trivial ?_
    refine To.end (AV.v (Value.bool true)) (by kernel_rfl) ?_
    rfl
  intro h2
  refine To.run hS 5000 (C := True) (by kernel_rfl) trivial ?_
  refine To.yesd hS ((1 : Int) ≤ (40 : Int) ∧ (40 : Int) ≤ (4096 : Int)) (by (and_intros <;> try first | exact True.intro | with_reducible rfl | omega | with_reducible assumption)) (C := True) (by kernel_rfl) trivial ?_
  refine To.run hS 5000 (C := True) (by kernel_rfl) trivial ?_
  refine To.yesd hS (openE (newD (40 : Nat)) (3 : Int) (30 : Int) = (0 : Int)) (of_decide_eq_true (by kernel_rfl)) (C := DiskD.Fine (newD (40 : Nat)) ∧ fits IntKind.i64 (3 : Int) ∧ (0 : Int) ≤ (5 : Int)) (by kernel_rfl) (by (and_intros <;> try first | exact True.intro | with_reducible rfl | omega | with_reducible assumption | (refine fits_i64 ?_ ?_ <;> omega))) ?_
  refine To.run hS 27 (C := True) (by kernel_rfl) trivial ?_
  have j0 : (jrun (newD 40) 3 5 30).1 = [] := run_all hN (by decide) (l := []) (fun k hk => absurd hk (Nat.not_lt_zero _)) (fun p hp => by cases hp) (by decide) (ends_zero (by kernel_rfl))
  refine To.loopX (L := [LN.old (0 : Nat), LN.old (1 : Nat), LN.old (2 : Nat)]) (kp := [(53 : Nat), (52 : Nat), (12 : Nat), (10 : Nat), (9 : Nat), (3 : Nat), (2 : Nat), (1 : Nat), (0 : Nat)]) (ks := []) (C := (IntKind.i64 = IntKind.i64 ∧ (0 : Int) = (↑(0 : Nat) : Int)) ∧ Ob.disk (newD (40 : Nat)) = Ob.disk (SpP.d { i := (0 : Nat), d := newD (40 : Nat) }) ∧ ((73 : TypeId) = (73 : TypeId) ∧ (none : Option Nat) = none ∧ AV.ptr (nat_lit 0) (nat_lit 0) = AV.ptr (nat_lit 0) (nat_lit 0) ∧ (IntKind.i64 = IntKind.i64 ∧ (3 : Int) = (3 : Int)) ∧ (IntKind.i64 = IntKind.i64 ∧ (30 : Int) = (30 : Int)) ∧ (IntKind.u64 = IntKind.u64 ∧ (↑(5 : Nat) : Int) = (↑(5 : Nat) : Int)) ∧ (nat_lit 2 = nat_lit 2 ∧ nat_lit 0 = nat_lit 0) ∧ True) ∧ (26 : TypeId) = (26 : TypeId) ∧ nat_lit 1 = nat_lit 1 ∧ nat_lit 0 = nat_lit 0 ∧ ∀ (r : Nat), r < (0 : Nat) → bysF (Prod.fst (jrun (newD (40 : Nat)) (3 : Int) (5 : Nat) (30 : Nat))) r = bysF (List.take (0 : Nat) l) r) (st := fun (a : SpP) => (⟨(⟨10, 144, (slotT 144 [(0, AV.im (nat_lit 1) (List.length l) (bysF l)), (1, AV.sy (Value.int IntKind.u8 (↑wh : Int))), (2, AV.sy (Value.int IntKind.u8 (↑at_ : Int))), (3, AV.sy (Value.int IntKind.u8 (↑byv : Int))), (9, AV.v (Value.bool true)), (10, AV.ptr (nat_lit 0) (nat_lit 0)), (12, AV.ptr (nat_lit 1) (nat_lit 0)), (52, AV.sy (Value.int IntKind.i64 (↑(List.length l) : Int))), (53, AV.sy (Value.int IntKind.i64 (↑(SpP.i a) : Int)))]), ARg.no, [(Go.Proofs.Ytnkjhicokcmmpaa.Sm.AItem.code (subC (bodyC Try.prog 10) [1, 1, 1, 1, 1, 1, 0, 1, 0, 0])), (Go.Proofs.Ytnkjhicokcmmpaa.Sm.AItem.inLoop (subC (bodyC Try.prog 10) [1, 1, 1, 1, 1, 1, 0, 1, 0, 0])), (AItem.inBlock 0), (Go.Proofs.Ytnkjhicokcmmpaa.Sm.AItem.code (subC (bodyC Try.prog 10) [1, 1, 1, 1, 1, 1, 1]))], [], false, none, (0 : Nat)⟩ : AFr), [], memF [AB.obj (Ob.disk (SpP.d a)), AB.mem (nat_lit 73) none [AV.ptr (nat_lit 0) (nat_lit 0), AV.sy (Value.int IntKind.i64 (3 : Int)), AV.sy (Value.int IntKind.i64 (30 : Int)), AV.sy (Value.int IntKind.u64 (↑(5 : Nat) : Int)), AV.ow (nat_lit 2) (List.length (List.take (SpP.i a) l))], AB.rw (nat_lit 26) (nat_lit 1) (List.length (List.take (SpP.i a) l)) (bysF (List.take (SpP.i a) l))] 0 Tr.e, 3⟩ : ASt)) (hB := by kernel_rfl) (hC := by kernel_rfl) (he := by kernel_rfl) (hI := ?_) (hc := by (and_intros <;> try first | exact True.intro | with_reducible rfl | omega | with_reducible assumption | (refine fits_u64 ?_ ?_ <;> omega))) (step := ?_) (fun (p : SpP) => [(53, ivA (p.i : Int))]) (fun p => [(0, .obj (.disk p.d)), (1, .mem 73 none [.ptr 0 0, ivA 3, ivA 30, .sy (.int .u64 ((5 : Nat) : Int)), .ow 2 (l.take p.i).length]), (2, .rw 26 1 (l.take p.i).length (bysF (l.take p.i)))]) (fun p => p.i ≤ l.length ∧ Flat p.d p.i ∧ Recs p.d 5 (l.take p.i) ∧ (∀ b ∈ l.take p.i, b.length ≤ 64) ∧ ∀ k, p.i ≤ k → k < 37 → sec p.d (3 + k) = List.replicate 128 0) (fun p => l.length - p.i) (SpP.mk 0 (newD 40))
  · refine ⟨Nat.zero_le _, hN, fun k hk => absurd hk (Nat.not_lt_zero _), fun b hb => (by cases hb), fun k _ hk => ?_⟩
    show (List.replicate 40 (List.replicate 128 (0 : UInt8))).getD (3 + k) [] = _
    rw [List.getD_eq_getElem?_getD, List.getElem?_replicate, if_pos (by omega)]; rfl
  intro p ⟨hi, hf, hr, h64, hz⟩ ih
  have hfF := hf.in_.fine
  have hll : (l.take p.i).length = p.i := by rw [List.length_take]; omega
  refine To.run hS 5000 (C := True) (by kernel_rfl) trivial ?_
  refine To.brd hS ((↑(SpP.i p) : Int) < (↑(List.length l) : Int)) (C := True) (by kernel_rfl) (by kernel_rfl) (by (and_intros <;> try first | exact True.intro | with_reducible rfl | omega | with_reducible assumption)) ?_ ?_
  · intro h3
    have hlt : p.i < l.length := by omega
    refine To.run hS 5000 (C := ((0 : Int) ≤ (↑(SpP.i p) : Int) ∧ (↑(SpP.i p) : Int) < (↑(List.length l) : Int)) ∧ True ∧ True) (by kernel_rfl) (by (and_intros <;> try first | exact True.intro | with_reducible rfl | omega | with_reducible assumption)) ?_
    refine To.brd hS ((64 : Int) < (↑(List.length (List.getD l (SpP.i p) default)) : Int)) (C := True) (by kernel_rfl) (by kernel_rfl) (by (and_intros <;> try first | exact True.intro | with_reducible rfl | omega | with_reducible assumption)) ?_ ?_
    · intro h4
      refine To.run hS 5000 (C := ((0 : Int) ≤ (↑(SpP.i p) : Int) ∧ (↑(SpP.i p) : Int) < (↑(List.length l) : Int)) ∧ True ∧ True) (by kernel_rfl) (by (and_intros <;> try first | exact True.intro | with_reducible rfl | omega | with_reducible assumption)) ?_
      refine To.yesd hS ((64 : Int) < (↑(List.length (List.getD l (SpP.i p) default)) : Int)) (by (and_intros <;> try first | exact True.intro | with_reducible rfl | omega | with_reducible assumption)) (C := True) (by kernel_rfl) trivial ?_
      refine To.run hS 5000 (C := True) (by kernel_rfl) trivial ?_
      refine To.end (AV.v (Value.bool true)) (by kernel_rfl) ?_
      rfl
    · intro h4
      have hrk : recOk ((l.take p.i).length + 1) (l.getD p.i default).length = true := by
        have : (l.getD p.i default).length ≤ 64 := by omega
        unfold recOk
        rw [decide_eq_true this]
        simp
      have hjb : jencB 5 ((l.take p.i).length + 1) (l.getD p.i default) = recBytes 5 (p.i + 1) (l.getD p.i default) := by
        unfold jencB; rw [if_pos hrk, hll]
      have hje : jencE ((l.take p.i).length + 1) (l.getD p.i default).length = 0 := if_pos hrk
      obtain ⟨w1, w2, w3, w4⟩ := hf.push (z := 3 + (p.i : Int)) (b := recBytes 5 (p.i + 1) (l.getD p.i default)) (by omega) (by omega) (by omega) (recBytes_len _ _ _ (by omega))
      have hwj : (writeD p.d (3 + ((l.take p.i).length : Int)) (jencB 5 ((l.take p.i).length + 1) (l.getD p.i default))).1.Fine := by rw [hjb, hll]; exact (hf.in_.write (by omega) _ _).fine
      refine To.run hS 5000 (C := ((0 : Int) ≤ (↑(SpP.i p) : Int) ∧ (↑(SpP.i p) : Int) < (↑(List.length l) : Int)) ∧ True) (by kernel_rfl) (by (and_intros <;> try first | exact True.intro | with_reducible rfl | omega | with_reducible assumption)) ?_
      refine To.nod hS ((30 : Int) = (0 : Int)) (by (and_intros <;> try first | exact True.intro | with_reducible rfl | omega | with_reducible assumption)) (C := True) (by kernel_rfl) trivial ?_
      refine To.run hS 5000 (C := True) (by kernel_rfl) trivial ?_
      refine To.nod hS ((64 : Int) < (↑(List.length (List.getD l (SpP.i p) default)) : Int)) (by (and_intros <;> try first | exact True.intro | with_reducible rfl | omega | with_reducible assumption)) (C := True) (by kernel_rfl) trivial ?_
      refine To.run hS 5000 (C := True) (by kernel_rfl) trivial ?_
      refine To.nod hS ((30 : Int) = (0 : Int)) (by (and_intros <;> try first | exact True.intro | with_reducible rfl | omega | with_reducible assumption)) (C := True) (by kernel_rfl) trivial ?_
      refine To.run hS 5000 (C := True ∧ fits IntKind.i64 ((30 : Int) - (↑(List.length (List.take (SpP.i p) l)) : Int))) (by kernel_rfl) (by (and_intros <;> try first | exact True.intro | with_reducible rfl | omega | with_reducible assumption | (refine fits_i64 ?_ ?_ <;> omega))) ?_
      refine To.nod hS ((30 : Int) - (↑(List.length (List.take (SpP.i p) l)) : Int) = (0 : Int)) (by (and_intros <;> try first | exact True.intro | with_reducible rfl | omega | with_reducible assumption)) (C := True) (by kernel_rfl) trivial ?_
      refine To.run hS 5000 (C := True ∧ fits IntKind.i64 ((↑(List.length (List.take (SpP.i p) l)) : Int) + (1 : Int)) ∧ fits IntKind.u64 ((↑(List.length (List.take (SpP.i p) l)) : Int) + (1 : Int)) ∧ (0 : Int) ≤ (↑(5 : Nat) : Int) ∧ (↑(5 : Nat) : Int) < (18446744073709551616 : Int) ∧ (0 : Int) ≤ (↑(List.length (List.take (SpP.i p) l)) : Int) + (1 : Int) ∧ (↑(List.length (List.take (SpP.i p) l)) : Int) + (1 : Int) < (18446744073709551616 : Int) ∧ True) (by kernel_rfl) (by (and_intros <;> try first | exact True.intro | with_reducible rfl | omega | with_reducible assumption | (refine fits_i64 ?_ ?_ <;> omega) | (refine fits_u64 ?_ ?_ <;> omega))) ?_
      refine To.yesd hS (jencE (List.length (List.take (SpP.i p) l) + (1 : Nat)) (List.length (List.getD l (SpP.i p) default)) = (0 : Int)) (by (and_intros <;> try first | exact True.intro | with_reducible rfl | omega | with_reducible assumption)) (C := True) (by kernel_rfl) trivial ?_
      refine To.run hS 5000 (C := True ∧ fits IntKind.i64 ((3 : Int) + (↑(List.length (List.take (SpP.i p) l)) : Int)) ∧ True ∧ DiskD.Fine (SpP.d p)) (by kernel_rfl) (by (and_intros <;> try first | exact True.intro | with_reducible rfl | omega | with_reducible assumption | (refine fits_i64 ?_ ?_ <;> omega))) ?_
      refine To.yesd hS (Prod.snd (writeD (SpP.d p) ((3 : Int) + (↑(List.length (List.take (SpP.i p) l)) : Int)) (jencB (5 : Nat) (List.length (List.take (SpP.i p) l) + (1 : Nat)) (List.getD l (SpP.i p) default))) = (0 : Int)) ?_ (C := True) (by kernel_rfl) trivial ?_
      · rw [hjb, hll]; exact w1
      refine To.run hS 5000 (C := DiskD.Fine (Prod.fst (writeD (SpP.d p) ((3 : Int) + (↑(List.length (List.take (SpP.i p) l)) : Int)) (jencB (5 : Nat) (List.length (List.take (SpP.i p) l) + (1 : Nat)) (List.getD l (SpP.i p) default))))) (by kernel_rfl) (by (and_intros <;> try first | exact True.intro | with_reducible rfl | omega | with_reducible assumption)) ?_
      refine To.yesd hS ((fun d ↦ Prod.snd (flushD d)) (Prod.fst (writeD (SpP.d p) ((3 : Int) + (↑(List.length (List.take (SpP.i p) l)) : Int)) (jencB (5 : Nat) (List.length (List.take (SpP.i p) l) + (1 : Nat)) (List.getD l (SpP.i p) default)))) = (0 : Int)) ?_ (C := True) (by kernel_rfl) trivial ?_
      · show (flushD (writeD p.d (3 + ((l.take p.i).length : Int)) (jencB 5 ((l.take p.i).length + 1) (l.getD p.i default))).1).2 = 0
        rw [hjb, hll]; exact w2
      refine To.run hS 5000 (C := (True ∧ List.length (List.getD l (SpP.i p) default) ≤ (1000000 : Nat)) ∧ AV.ow (nat_lit 2) (List.length (List.take (SpP.i p) l)) = AV.ow (nat_lit 2) (List.length (List.take (SpP.i p) l)) ∧ List.length (List.take (SpP.i p) l) = List.length (List.take (SpP.i p) l) ∧ List.length (List.take (SpP.i p) l) ≤ (1073741824 : Nat)) (by kernel_rfl) (by (and_intros <;> try first | exact True.intro | with_reducible rfl | omega | with_reducible assumption)) ?_
      refine To.non hS ((fun d ↦ Prod.snd (flushD d)) (Prod.fst (writeD (SpP.d p) ((3 : Int) + (↑(List.length (List.take (SpP.i p) l)) : Int)) (jencB (5 : Nat) (List.length (List.take (SpP.i p) l) + (1 : Nat)) (List.getD l (SpP.i p) default)))) = (0 : Int)) ?_ (C := True) (by kernel_rfl) trivial ?_
      · show (flushD (writeD p.d (3 + ((l.take p.i).length : Int)) (jencB 5 ((l.take p.i).length + 1) (l.getD p.i default))).1).2 = 0
        rw [hjb, hll]; exact w2
      have hz3 : (3 + (p.i : Int)).toNat = 3 + p.i := by omega
      rw [hz3] at w4
      have hlt3 : 3 + p.i < p.d.stays.length := by rw [hf.len]; omega
      have hr' := hr.push hlt hlt3 w4
      have h64' := take_all h64 hlt (show (l.getD p.i []).length ≤ 64 from by show (l.getD p.i default).length ≤ 64; omega)
      have hz' : ∀ k, p.i + 1 ≤ k → k < 37 → sec (flushD (writeD p.d (3 + (p.i : Int)) (recBytes 5 (p.i + 1) (l.getD p.i default))).1).1 (3 + k) = List.replicate 128 0 := fun k hk hk2 => by
        rw [sec_set w4 hlt3, if_neg (by omega)]; exact hz k (by omega) hk2
      have hi1 : p.i + 1 ≤ l.length := hlt
      have hi2 : l.length - (p.i + 1) < l.length - p.i := by omega
      have hl1 : (l.take (p.i + 1)).length = p.i + 1 := by rw [List.length_take]; omega
      refine To.run hS 10 (C := fits IntKind.i64 ((↑(SpP.i p) : Int) + (1 : Int))) (by kernel_rfl) (by (and_intros <;> try first | exact True.intro | with_reducible rfl | omega | with_reducible assumption | (refine fits_i64 ?_ ?_ <;> omega))) ?_
      refine To.backX (L := [LN.old (0 : Nat), LN.old (1 : Nat), LN.old (4 : Nat)]) (kp := [(53 : Nat), (52 : Nat), (12 : Nat), (10 : Nat), (9 : Nat), (3 : Nat), (2 : Nat), (1 : Nat), (0 : Nat)]) (ks := []) (ov := [((53 : Nat), AV.sy (Value.int IntKind.i64 (↑(SpP.i { i := SpP.i p + (1 : Nat), d := Prod.fst (flushD (Prod.fst (writeD (SpP.d p) ((3 : Int) + (↑(SpP.i p) : Int)) (recBytes (5 : Nat) (SpP.i p + (1 : Nat)) (List.getD l (SpP.i p) default))))) }) : Int)))]) (ob := [((0 : Nat), AB.obj (Ob.disk (SpP.d { i := SpP.i p + (1 : Nat), d := Prod.fst (flushD (Prod.fst (writeD (SpP.d p) ((3 : Int) + (↑(SpP.i p) : Int)) (recBytes (5 : Nat) (SpP.i p + (1 : Nat)) (List.getD l (SpP.i p) default))))) }))), ((1 : Nat), AB.mem (nat_lit 73) none [AV.ptr (nat_lit 0) (nat_lit 0), AV.sy (Value.int IntKind.i64 (3 : Int)), AV.sy (Value.int IntKind.i64 (30 : Int)), AV.sy (Value.int IntKind.u64 (↑(5 : Nat) : Int)), AV.ow (nat_lit 2) (List.length (List.take (SpP.i { i := SpP.i p + (1 : Nat), d := Prod.fst (flushD (Prod.fst (writeD (SpP.d p) ((3 : Int) + (↑(SpP.i p) : Int)) (recBytes (5 : Nat) (SpP.i p + (1 : Nat)) (List.getD l (SpP.i p) default))))) }) l))]), ((2 : Nat), AB.rw (nat_lit 26) (nat_lit 1) (List.length (List.take (SpP.i { i := SpP.i p + (1 : Nat), d := Prod.fst (flushD (Prod.fst (writeD (SpP.d p) ((3 : Int) + (↑(SpP.i p) : Int)) (recBytes (5 : Nat) (SpP.i p + (1 : Nat)) (List.getD l (SpP.i p) default))))) }) l)) (bysF (List.take (SpP.i { i := SpP.i p + (1 : Nat), d := Prod.fst (flushD (Prod.fst (writeD (SpP.d p) ((3 : Int) + (↑(SpP.i p) : Int)) (recBytes (5 : Nat) (SpP.i p + (1 : Nat)) (List.getD l (SpP.i p) default))))) }) l)))]) (C := (IntKind.i64 = IntKind.i64 ∧ (↑(SpP.i p) : Int) + (1 : Int) = (↑(SpP.i { i := SpP.i p + (1 : Nat), d := Prod.fst (flushD (Prod.fst (writeD (SpP.d p) ((3 : Int) + (↑(SpP.i p) : Int)) (recBytes (5 : Nat) (SpP.i p + (1 : Nat)) (List.getD l (SpP.i p) default))))) }) : Int)) ∧ Ob.disk ((fun d ↦ Prod.fst (flushD d)) (Prod.fst (writeD (SpP.d p) ((3 : Int) + (↑(List.length (List.take (SpP.i p) l)) : Int)) (jencB (5 : Nat) (List.length (List.take (SpP.i p) l) + (1 : Nat)) (List.getD l (SpP.i p) default))))) = Ob.disk (SpP.d { i := SpP.i p + (1 : Nat), d := Prod.fst (flushD (Prod.fst (writeD (SpP.d p) ((3 : Int) + (↑(SpP.i p) : Int)) (recBytes (5 : Nat) (SpP.i p + (1 : Nat)) (List.getD l (SpP.i p) default))))) }) ∧ ((73 : TypeId) = nat_lit 73 ∧ (none : Option Nat) = none ∧ AV.ptr (nat_lit 0) (nat_lit 0) = AV.ptr (nat_lit 0) (nat_lit 0) ∧ (IntKind.i64 = IntKind.i64 ∧ (3 : Int) = (3 : Int)) ∧ (IntKind.i64 = IntKind.i64 ∧ (30 : Int) = (30 : Int)) ∧ (IntKind.u64 = IntKind.u64 ∧ (↑(5 : Nat) : Int) = (↑(5 : Nat) : Int)) ∧ (nat_lit 2 = nat_lit 2 ∧ List.length (List.take (SpP.i p) l) + (1 : Nat) = List.length (List.take (SpP.i { i := SpP.i p + (1 : Nat), d := Prod.fst (flushD (Prod.fst (writeD (SpP.d p) ((3 : Int) + (↑(SpP.i p) : Int)) (recBytes (5 : Nat) (SpP.i p + (1 : Nat)) (List.getD l (SpP.i p) default))))) }) l)) ∧ True) ∧ (26 : Nat) = nat_lit 26 ∧ nat_lit 1 = nat_lit 1 ∧ List.length (List.take (SpP.i p) l) + (1 : Nat) = List.length (List.take (SpP.i { i := SpP.i p + (1 : Nat), d := Prod.fst (flushD (Prod.fst (writeD (SpP.d p) ((3 : Int) + (↑(SpP.i p) : Int)) (recBytes (5 : Nat) (SpP.i p + (1 : Nat)) (List.getD l (SpP.i p) default))))) }) l) ∧ ∀ (r : Nat), r < List.length (List.take (SpP.i p) l) + (1 : Nat) → rwPush (bysF (List.take (SpP.i p) l)) (List.length (List.take (SpP.i p) l)) [AV.by8 (List.getD l (SpP.i p) default)] r = bysF (List.take (SpP.i { i := SpP.i p + (1 : Nat), d := Prod.fst (flushD (Prod.fst (writeD (SpP.d p) ((3 : Int) + (↑(SpP.i p) : Int)) (recBytes (5 : Nat) (SpP.i p + (1 : Nat)) (List.getD l (SpP.i p) default))))) }) l) r) (hB := by kernel_rfl) (hC := by kernel_rfl) (hc := ?_) (he := by kernel_rfl) (ih (SpP.mk (p.i + 1) (flushD (writeD p.d (3 + (p.i : Int)) (recBytes 5 (p.i + 1) (l.getD p.i default))).1).1) ⟨hi1, w3, hr', h64', hz'⟩ hi2)
      have htk : l.take (p.i + 1) = l.take p.i ++ [l.getD p.i default] := by rw [List.take_succ_eq_append_getElem hlt, List.getD_eq_getElem?_getD, List.getElem?_eq_getElem hlt]; rfl
      refine ⟨⟨rfl, Int.natCast_succ _⟩, congrArg Ob.disk ?_, ⟨rfl, rfl, rfl, ⟨rfl, rfl⟩, ⟨rfl, rfl⟩, ⟨rfl, rfl⟩, ⟨rfl, by show _ = (l.take (p.i + 1)).length; omega⟩, trivial⟩, rfl, rfl, by show _ = (l.take (p.i + 1)).length; omega, fun r hr => ?_⟩
      · show (flushD (writeD p.d (3 + ((l.take p.i).length : Int)) (jencB 5 ((l.take p.i).length + 1) (l.getD p.i default))).1).1 = _
        rw [hjb, hll]
      · show _ = bysF (l.take (p.i + 1)) r
        rw [htk]
        exact bysF_push _ _ r hr
  · intro h3
    have hpi : p.i = l.length := by omega
    have hlt : l.take p.i = l := List.take_of_length_le (by omega)
    rw [hlt] at hr h64
    obtain ⟨k, hk⟩ : ∃ k : Nat, k = wh % l.length := ⟨_, rfl⟩
    have hkl : k < l.length := by rw [hk]; exact Nat.mod_lt _ (by omega)
    have hkI : (wh : Int) % (l.length : Int) = (k : Int) := by rw [hk]; simp
    have hfit : fits .i64 (3 + (wh : Int) % (l.length : Int)) := by rw [hkI]; exact fits_i64 (by omega) (by omega)
    have hrd := hf.read (z := 3 + (wh : Int) % (l.length : Int)) (by rw [hkI]; omega) (by rw [hkI]; omega)
    have hsk : sec p.d (3 + (wh : Int) % (l.length : Int)).toNat = recBytes 5 (k + 1) (l.getD k []) := by
      rw [hkI, show ((3 : Int) + (k : Int)).toNat = 3 + k by omega]; exact hr k hkl
    rw [hsk] at hrd
    have hp64 : (l.getD k []).length ≤ 64 := h64 _ (by rw [List.getD_eq_getElem?_getD, List.getElem?_eq_getElem hkl]; simp)
    have hrl := recBytes_len 5 (k + 1) (l.getD k []) hp64
    have hsm : (readD p.d (3 + (wh : Int) % (l.length : Int))).1.isSome = true := by rw [hrd]; rfl
    have hgl : ((readD p.d (3 + (wh : Int) % (l.length : Int))).1.getD []).length = 128 := by rw [hrd]; exact hrl
    refine To.run hS 5000 (C := fits IntKind.i64 (↑wh : Int) ∧ True ∧ ((0 : Int) ≤ (↑wh : Int) ∧ (0 : Int) < (↑(List.length l) : Int)) ∧ fits IntKind.i64 ((3 : Int) + (↑wh : Int) % (↑(List.length l) : Int))) (by kernel_rfl) (by (and_intros <;> try first | exact True.intro | with_reducible rfl | omega | with_reducible assumption | (refine fits_i64 ?_ ?_ <;> omega))) ?_
    refine To.yes hS (Option.isSome (Prod.fst (readD (SpP.d p) ((3 : Int) + (↑wh : Int) % (↑(List.length l) : Int))))) (by (and_intros <;> try first | exact True.intro | with_reducible rfl | omega | with_reducible assumption)) (C := DiskD.Fine (SpP.d p)) (by kernel_rfl) (by (and_intros <;> try first | exact True.intro | with_reducible rfl | omega | with_reducible assumption)) ?_
    refine To.run hS 5000 (C := True) (by kernel_rfl) trivial ?_
    obtain ⟨R, hR⟩ : ∃ R, R = recBytes 5 (k + 1) (l.getD k []) := ⟨_, rfl⟩
    have hX : List.take ((readD p.d (3 + (wh : Int) % (l.length : Int))).1.getD []).length (((readD p.d (3 + (wh : Int) % (l.length : Int))).1.getD []).set ((at_ : Int) % 128).toNat (xorB (((readD p.d (3 + (wh : Int) % (l.length : Int))).1.getD []).getD ((at_ : Int) % 128).toNat 0).toNat byv)) = R.set (at_ % 128) (xorB (R.getD (at_ % 128) 0).toNat byv) := by
      rw [hrd, Option.getD_some, ← hR, show ((at_ : Int) % 128).toNat = at_ % 128 by omega, List.take_of_length_le (by rw [List.length_set]; exact Nat.le_refl _)]
    have hRl : R.length = 128 := by rw [hR]; exact hrl
    obtain ⟨s1, s2, s3⟩ := hf.spoil (z := 3 + (wh : Int) % (l.length : Int)) (b := R.set (at_ % 128) (xorB (R.getD (at_ % 128) 0).toNat byv)) (by rw [hkI]; omega) (by rw [hkI]; omega) (by rw [List.length_set]; exact hRl)
    rw [show (3 + (wh : Int) % (l.length : Int)).toNat = 3 + k by rw [hkI]; omega] at s3
    rw [hR] at s1 s2 s3 hX
    have hrun := spoilt_run hf s2 hr h64 (by omega) (by rw [← hpi]; exact hz) hkl (Nat.mod_lt _ (by decide)) hb s3
    rw [← hX] at hrun
    rw [← hX] at s1 s2
    have s2F := s2.in_.fine
    have s2O := flat_open s2
    have hwr : ∀ z : Int, IntKind.u8.wrap z < 256 := fun z => by
      have : IntKind.u8.wrap z = z % 256 := by simp [IntKind.wrap, IntKind.signed, IntKind.bits]
      omega
    refine To.non hS ((↑(List.length (Option.getD (Prod.fst (readD (SpP.d p) ((3 : Int) + (↑wh : Int) % (↑(List.length l) : Int)))) [])) : Int) = (128 : Int)) (by (and_intros <;> try first | exact True.intro | with_reducible rfl | omega | with_reducible assumption)) (C := True) (by kernel_rfl) trivial ?_
    refine To.run hS 5000 (C := fits IntKind.i64 (↑at_ : Int) ∧ ((0 : Int) ≤ (↑at_ : Int) ∧ (0 : Int) < (128 : Int)) ∧ fits IntKind.i64 (↑at_ : Int) ∧ ((0 : Int) ≤ (↑at_ : Int) ∧ (0 : Int) < (128 : Int)) ∧ ((0 : Int) ≤ (↑at_ : Int) % (128 : Int) ∧ (↑at_ : Int) % (128 : Int) < (↑(List.length (Option.getD (Prod.fst (readD (SpP.d p) ((3 : Int) + (↑wh : Int) % (↑(List.length l) : Int)))) [])) : Int)) ∧ Int.toNat ((↑at_ : Int) % (128 : Int)) < List.length (Option.getD (Prod.fst (readD (SpP.d p) ((3 : Int) + (↑wh : Int) % (↑(List.length l) : Int)))) []) ∧ True ∧ ((0 : Int) ≤ (↑at_ : Int) % (128 : Int) ∧ (↑at_ : Int) % (128 : Int) < (↑(List.length (Option.getD (Prod.fst (readD (SpP.d p) ((3 : Int) + (↑wh : Int) % (↑(List.length l) : Int)))) [])) : Int)) ∧ (Int.toNat ((↑at_ : Int) % (128 : Int)) < List.length (Option.getD (Prod.fst (readD (SpP.d p) ((3 : Int) + (↑wh : Int) % (↑(List.length l) : Int)))) []) ∧ (0 : Int) ≤ IntKind.wrap IntKind.u8 (↑(BitVec.toNat (BitVec.ofInt (8 : Nat) (↑(UInt8.toNat (List.getD (Option.getD (Prod.fst (readD (SpP.d p) ((3 : Int) + (↑wh : Int) % (↑(List.length l) : Int)))) []) (Int.toNat ((↑at_ : Int) % (128 : Int))) (0 : UInt8))) : Int) ^^^ BitVec.ofInt (8 : Nat) (↑byv : Int))) : Int) ∧ IntKind.wrap IntKind.u8 (↑(BitVec.toNat (BitVec.ofInt (8 : Nat) (↑(UInt8.toNat (List.getD (Option.getD (Prod.fst (readD (SpP.d p) ((3 : Int) + (↑wh : Int) % (↑(List.length l) : Int)))) []) (Int.toNat ((↑at_ : Int) % (128 : Int))) (0 : UInt8))) : Int) ^^^ BitVec.ofInt (8 : Nat) (↑byv : Int))) : Int) < (256 : Int)) ∧ fits IntKind.i64 ((3 : Int) + (↑wh : Int) % (↑(List.length l) : Int)) ∧ List.length (Option.getD (Prod.fst (readD (SpP.d p) ((3 : Int) + (↑wh : Int) % (↑(List.length l) : Int)))) []) ≤ List.length (List.set (Option.getD (Prod.fst (readD (SpP.d p) ((3 : Int) + (↑wh : Int) % (↑(List.length l) : Int)))) []) (Int.toNat ((↑at_ : Int) % (128 : Int))) (UInt8.ofNat (Int.toNat (IntKind.wrap IntKind.u8 (↑(BitVec.toNat (BitVec.ofInt (8 : Nat) (↑(UInt8.toNat (List.getD (Option.getD (Prod.fst (readD (SpP.d p) ((3 : Int) + (↑wh : Int) % (↑(List.length l) : Int)))) []) (Int.toNat ((↑at_ : Int) % (128 : Int))) (0 : UInt8))) : Int) ^^^ BitVec.ofInt (8 : Nat) (↑byv : Int))) : Int))))) ∧ DiskD.Fine (SpP.d p)) (by kernel_rfl) ?_ ?_; (and_intros <;> try first | exact True.intro | with_reducible rfl | omega | with_reducible assumption | (refine fits_i64 ?_ ?_ <;> omega)); exact of_decide_eq_true (by kernel_rfl)
    · exact hwr _
    · rw [List.length_set]; exact Nat.le_refl _
    refine To.yesd hS (openE (Prod.fst (spoilD (SpP.d p) ((3 : Int) + (↑wh : Int) % (↑(List.length l) : Int)) (List.take (List.length (Option.getD (Prod.fst (readD (SpP.d p) ((3 : Int) + (↑wh : Int) % (↑(List.length l) : Int)))) [])) (List.set (Option.getD (Prod.fst (readD (SpP.d p) ((3 : Int) + (↑wh : Int) % (↑(List.length l) : Int)))) []) (Int.toNat ((↑at_ : Int) % (128 : Int))) (UInt8.ofNat (Int.toNat (IntKind.wrap IntKind.u8 (↑(BitVec.toNat (BitVec.ofInt (8 : Nat) (↑(UInt8.toNat (List.getD (Option.getD (Prod.fst (readD (SpP.d p) ((3 : Int) + (↑wh : Int) % (↑(List.length l) : Int)))) []) (Int.toNat ((↑at_ : Int) % (128 : Int))) (0 : UInt8))) : Int) ^^^ BitVec.ofInt (8 : Nat) (↑byv : Int))) : Int)))))))) (3 : Int) (30 : Int) = (0 : Int)) ?_ (C := DiskD.Fine (Prod.fst (spoilD (SpP.d p) ((3 : Int) + (↑wh : Int) % (↑(List.length l) : Int)) (List.take (List.length (Option.getD (Prod.fst (readD (SpP.d p) ((3 : Int) + (↑wh : Int) % (↑(List.length l) : Int)))) [])) (List.set (Option.getD (Prod.fst (readD (SpP.d p) ((3 : Int) + (↑wh : Int) % (↑(List.length l) : Int)))) []) (Int.toNat ((↑at_ : Int) % (128 : Int))) (UInt8.ofNat (Int.toNat (IntKind.wrap IntKind.u8 (↑(BitVec.toNat (BitVec.ofInt (8 : Nat) (↑(UInt8.toNat (List.getD (Option.getD (Prod.fst (readD (SpP.d p) ((3 : Int) + (↑wh : Int) % (↑(List.length l) : Int)))) []) (Int.toNat ((↑at_ : Int) % (128 : Int))) (0 : UInt8))) : Int) ^^^ BitVec.ofInt (8 : Nat) (↑byv : Int))) : Int)))))))) ∧ fits IntKind.i64 (3 : Int) ∧ (0 : Int) ≤ (5 : Int)) (by kernel_rfl) ?_ ?_; rotate_left; (and_intros <;> try first | exact True.intro | with_reducible rfl | omega | with_reducible assumption | (refine fits_i64 ?_ ?_ <;> omega)); rotate_right
    · exact s2O
    · exact s2F
    refine To.run hS 5000 (C := (0 : Int) ≤ (↑(0 : Nat) : Int) ∧ (↑(0 : Nat) : Int) ≤ (↑wh : Int) % (↑(List.length l) : Int) ∧ (↑wh : Int) % (↑(List.length l) : Int) ≤ (↑(List.length l) : Int)) (by kernel_rfl) (by (and_intros <;> try first | exact True.intro | with_reducible rfl | omega | with_reducible assumption)) ?_
    refine To.brd hS ((↑byv : Int) = (0 : Int)) (C := True) (by kernel_rfl) (by kernel_rfl) (by (and_intros <;> try first | exact True.intro | with_reducible rfl | omega | with_reducible assumption)) ?_ ?_
    · intro h4
      have hb0 : byv = 0 := by omega
      rw [if_pos hb0] at hrun
      refine To.run hS 5000 (C := True) (by kernel_rfl) trivial ?_
      refine To.yesd hS (Prod.snd (spoilD (SpP.d p) ((3 : Int) + (↑wh : Int) % (↑(List.length l) : Int)) (List.take (List.length (Option.getD (Prod.fst (readD (SpP.d p) ((3 : Int) + (↑wh : Int) % (↑(List.length l) : Int)))) [])) (List.set (Option.getD (Prod.fst (readD (SpP.d p) ((3 : Int) + (↑wh : Int) % (↑(List.length l) : Int)))) []) (Int.toNat ((↑at_ : Int) % (128 : Int))) (UInt8.ofNat (Int.toNat (IntKind.wrap IntKind.u8 (↑(BitVec.toNat (BitVec.ofInt (8 : Nat) (↑(UInt8.toNat (List.getD (Option.getD (Prod.fst (readD (SpP.d p) ((3 : Int) + (↑wh : Int) % (↑(List.length l) : Int)))) []) (Int.toNat ((↑at_ : Int) % (128 : Int))) (0 : UInt8))) : Int) ^^^ BitVec.ofInt (8 : Nat) (↑byv : Int))) : Int))))))) = (0 : Int)) ?_ (C := True) (by kernel_rfl) trivial ?_
      · exact s1
      have hL64 : ∀ b ∈ l, b.length ≤ 64 := h64
      have hLl : (l).length ≤ 20 := by omega
      refine To.loop (L := [LN.old (0 : Nat), LN.old (4 : Nat), LN.old (5 : Nat)]) (kp := [(132 : Nat), (130 : Nat), (21 : Nat), (20 : Nat), (19 : Nat)]) (ks := []) (C := ((73 : TypeId) = (73 : TypeId) ∧ (none : Option Nat) = none ∧ AV.ptr (nat_lit 0) (nat_lit 0) = AV.ptr (nat_lit 0) (nat_lit 0) ∧ (IntKind.i64 = IntKind.i64 ∧ (3 : Int) = (3 : Int)) ∧ (IntKind.i64 = IntKind.i64 ∧ (30 : Int) = (30 : Int)) ∧ (IntKind.u64 = IntKind.u64 ∧ (↑(5 : Nat) : Int) = (↑(5 : Nat) : Int)) ∧ (nat_lit 2 = nat_lit 2 ∧ List.length (Prod.fst (jrun (Prod.fst (spoilD (SpP.d p) ((3 : Int) + (↑wh : Int) % (↑(List.length l) : Int)) (List.take (List.length (Option.getD (Prod.fst (readD (SpP.d p) ((3 : Int) + (↑wh : Int) % (↑(List.length l) : Int)))) [])) (List.set (Option.getD (Prod.fst (readD (SpP.d p) ((3 : Int) + (↑wh : Int) % (↑(List.length l) : Int)))) []) (Int.toNat ((↑at_ : Int) % (128 : Int))) (UInt8.ofNat (Int.toNat (IntKind.wrap IntKind.u8 (↑(BitVec.toNat (BitVec.ofInt (8 : Nat) (↑(UInt8.toNat (List.getD (Option.getD (Prod.fst (readD (SpP.d p) ((3 : Int) + (↑wh : Int) % (↑(List.length l) : Int)))) []) (Int.toNat ((↑at_ : Int) % (128 : Int))) (0 : UInt8))) : Int) ^^^ BitVec.ofInt (8 : Nat) (↑byv : Int))) : Int)))))))) (3 : Int) (5 : Nat) (30 : Nat))) = List.length l) ∧ True) ∧ (26 : TypeId) = (26 : TypeId) ∧ nat_lit 1 = nat_lit 1 ∧ List.length (Prod.fst (jrun (Prod.fst (spoilD (SpP.d p) ((3 : Int) + (↑wh : Int) % (↑(List.length l) : Int)) (List.take (List.length (Option.getD (Prod.fst (readD (SpP.d p) ((3 : Int) + (↑wh : Int) % (↑(List.length l) : Int)))) [])) (List.set (Option.getD (Prod.fst (readD (SpP.d p) ((3 : Int) + (↑wh : Int) % (↑(List.length l) : Int)))) []) (Int.toNat ((↑at_ : Int) % (128 : Int))) (UInt8.ofNat (Int.toNat (IntKind.wrap IntKind.u8 (↑(BitVec.toNat (BitVec.ofInt (8 : Nat) (↑(UInt8.toNat (List.getD (Option.getD (Prod.fst (readD (SpP.d p) ((3 : Int) + (↑wh : Int) % (↑(List.length l) : Int)))) []) (Int.toNat ((↑at_ : Int) % (128 : Int))) (0 : UInt8))) : Int) ^^^ BitVec.ofInt (8 : Nat) (↑byv : Int))) : Int)))))))) (3 : Int) (5 : Nat) (30 : Nat))) = List.length l ∧ ∀ (r : Nat), r < List.length (Prod.fst (jrun (Prod.fst (spoilD (SpP.d p) ((3 : Int) + (↑wh : Int) % (↑(List.length l) : Int)) (List.take (List.length (Option.getD (Prod.fst (readD (SpP.d p) ((3 : Int) + (↑wh : Int) % (↑(List.length l) : Int)))) [])) (List.set (Option.getD (Prod.fst (readD (SpP.d p) ((3 : Int) + (↑wh : Int) % (↑(List.length l) : Int)))) []) (Int.toNat ((↑at_ : Int) % (128 : Int))) (UInt8.ofNat (Int.toNat (IntKind.wrap IntKind.u8 (↑(BitVec.toNat (BitVec.ofInt (8 : Nat) (↑(UInt8.toNat (List.getD (Option.getD (Prod.fst (readD (SpP.d p) ((3 : Int) + (↑wh : Int) % (↑(List.length l) : Int)))) []) (Int.toNat ((↑at_ : Int) % (128 : Int))) (0 : UInt8))) : Int) ^^^ BitVec.ofInt (8 : Nat) (↑byv : Int))) : Int)))))))) (3 : Int) (5 : Nat) (30 : Nat))) → bysF (Prod.fst (jrun (Prod.fst (spoilD (SpP.d p) ((3 : Int) + (↑wh : Int) % (↑(List.length l) : Int)) (List.take (List.length (Option.getD (Prod.fst (readD (SpP.d p) ((3 : Int) + (↑wh : Int) % (↑(List.length l) : Int)))) [])) (List.set (Option.getD (Prod.fst (readD (SpP.d p) ((3 : Int) + (↑wh : Int) % (↑(List.length l) : Int)))) []) (Int.toNat ((↑at_ : Int) % (128 : Int))) (UInt8.ofNat (Int.toNat (IntKind.wrap IntKind.u8 (↑(BitVec.toNat (BitVec.ofInt (8 : Nat) (↑(UInt8.toNat (List.getD (Option.getD (Prod.fst (readD (SpP.d p) ((3 : Int) + (↑wh : Int) % (↑(List.length l) : Int)))) []) (Int.toNat ((↑at_ : Int) % (128 : Int))) (0 : UInt8))) : Int) ^^^ BitVec.ofInt (8 : Nat) (↑byv : Int))) : Int)))))))) (3 : Int) (5 : Nat) (30 : Nat))) r = bysF l r) (hB := by kernel_rfl) (hC := by kernel_rfl) (hI := by (and_intros <;> try first | exact True.intro | with_reducible rfl | omega | with_reducible assumption | (refine fits_u64 ?_ ?_ <;> omega))) (hc := ?_) (step := ?_) (fun (_ : Unit) => []) (fun _ => [(1, .mem 73 none [.ptr 0 0, ivA 3, ivA 30, .sy (.int .u64 ((5 : Nat) : Int)), .ow 2 (l).length]), (2, .rw 26 1 (l).length (bysF (l)))]) (fun _ => True) (fun _ => 0) (())
      · have hq := congrArg List.length hrun
        exact ⟨⟨rfl, rfl, rfl, ⟨rfl, rfl⟩, ⟨rfl, rfl⟩, ⟨rfl, rfl⟩, ⟨rfl, hq⟩, trivial⟩, rfl, rfl, hq, fun r _ => congrFun (congrArg bysF hrun) r⟩
      intro _ _ _
      refine To.run hS 5000 (C := True) (by kernel_rfl) trivial ?_
      refine To.nod hS ((30 : Int) = (0 : Int)) (by (and_intros <;> try first | exact True.intro | with_reducible rfl | omega | with_reducible assumption)) (C := True) (by kernel_rfl) trivial ?_
      refine To.run hS 24 (C := True) (by kernel_rfl) trivial ?_
      refine To.loop (L := [LN.new (AB.rw (nat_lit 26) (nat_lit 1) (nat_lit 0) (bysF (List.take (0 : Nat) l)))]) (kp := [(13 : Nat), (12 : Nat), (11 : Nat), (3 : Nat)]) (ks := []) (C := (IntKind.i64 = IntKind.i64 ∧ (0 : Int) = (↑(0 : Nat) : Int)) ∧ nat_lit 0 = nat_lit 0 ∧ nat_lit 26 = (26 : TypeId) ∧ nat_lit 1 = nat_lit 1 ∧ nat_lit 0 = nat_lit 0 ∧ ∀ (r : Nat), r < nat_lit 0 → bysF (List.take (0 : Nat) l) r = bysF (List.take (0 : Nat) l) r) (hB := by kernel_rfl) (hC := by kernel_rfl) (hI := by (and_intros <;> try first | exact True.intro | with_reducible rfl | omega | with_reducible assumption)) (hc := ?_) (step := ?_) (fun (a : Nat) => [(13, ivA (a : Int)), (3, .ow 3 a)]) (fun a => [(3, .rw 26 1 a (bysF (l.take a)))]) (fun a => a ≤ l.length) (fun a => l.length - a) (0)
      · exact ⟨⟨rfl, rfl⟩, rfl, rfl, rfl, rfl, fun _ _ => rfl⟩
      intro a ha2 iha
      refine To.run hS 5000 (C := True) (by kernel_rfl) trivial ?_
      refine To.brd hS ((↑a : Int) < (↑(List.length l) : Int)) (C := True) (by kernel_rfl) (by kernel_rfl) (by (and_intros <;> try first | exact True.intro | with_reducible rfl | omega | with_reducible assumption)) ?_ ?_
      · intro g1
        have gl : a < l.length := by omega
        have g64 : (l.getD a default).length ≤ 1000000 := by
          have := hL64 (l.getD a default) (by rw [List.getD_eq_getElem?_getD, List.getElem?_eq_getElem gl]; simp)
          omega
        have gi1 : a + 1 ≤ l.length := gl
        have gi2 : l.length - (a + 1) < l.length - a := by omega
        have gtk : l.take (a + 1) = l.take a ++ [l.getD a default] := by rw [List.take_succ_eq_append_getElem gl, List.getD_eq_getElem?_getD, List.getElem?_eq_getElem gl]; rfl
        refine To.run hS 26 (C := ((0 : Int) ≤ (↑a : Int) ∧ (↑a : Int) < (↑(List.length l) : Int)) ∧ a < List.length l ∧ (True ∧ List.length (List.getD l a default) ≤ (1000000 : Nat)) ∧ (a = a ∧ a ≤ (1073741824 : Nat)) ∧ fits IntKind.i64 ((↑a : Int) + (1 : Int))) (by kernel_rfl) (by (and_intros <;> try first | exact True.intro | with_reducible rfl | omega | with_reducible assumption | (refine fits_i64 ?_ ?_ <;> omega))) ?_
        refine To.back (L' := [LN.old (5 : Nat)]) (C := (IntKind.i64 = IntKind.i64 ∧ (↑a : Int) + (1 : Int) = (↑(a + (1 : Nat)) : Int)) ∧ (nat_lit 3 = nat_lit 3 ∧ a + (1 : Nat) = a + (1 : Nat)) ∧ (26 : Nat) = (26 : TypeId) ∧ nat_lit 1 = nat_lit 1 ∧ a + (1 : Nat) = a + (1 : Nat) ∧ ∀ (r : Nat), r < a + (1 : Nat) → rwPush (bysF (List.take a l)) a [AV.by8 (List.getD l a default)] r = bysF (List.take (a + (1 : Nat)) l) r) (hB := by kernel_rfl) (hC := by kernel_rfl) (hc := ?_) (he := by kernel_rfl) (iha (a + 1) gi1 gi2)
        refine ⟨⟨rfl, Int.natCast_succ _⟩, ⟨rfl, rfl⟩, rfl, rfl, rfl, fun r hr => ?_⟩
        have gla : (l.take a).length = a := by rw [List.length_take]; omega
        have gp := bysF_push (l.take a) (l.getD a default) r
        rw [gla, ← gtk] at gp
        exact gp hr
      · intro g1
        have hal : a = l.length := by omega
        have hat : l.take a = l := List.take_of_length_le (by omega)
        refine To.run hS 5000 (C := True) (by kernel_rfl) trivial ?_
        refine To.yesd hS (recsF a (bysF (List.take a l)) = recsF (List.length l) (bysF l)) ?_ (C := (a = a ∧ ∀ (r : Nat), r < a → bysF (List.take a l) r = bysF (recsF a (bysF (List.take a l))) r) ∧ (∀ (r : Nat), r < List.length l → bysF l r = bysF (recsF (List.length l) (bysF l)) r) ∧ List.length (recsF a (bysF (List.take a l))) ≤ (1000000 : Nat)) (by kernel_rfl) ?_ ?_; rotate_left; (and_intros <;> try first | exact True.intro | with_reducible rfl | omega | with_reducible assumption); rotate_right
        · rw [hat, hal]
        · intro r _
          rw [hat, hal, recs_bys]
        · intro r _
          rw [recs_bys]
        · rw [recsF_len]; omega
        refine To.run hS 5000 (C := True) (by kernel_rfl) trivial ?_
        refine To.end (AV.v (Value.bool true)) (by kernel_rfl) ?_
        rfl
    · intro h4
      have hb0 : ¬ byv = 0 := by omega
      rw [if_neg hb0] at hrun
      have hw3 : ((wh : Int) % (l.length : Int)).toNat = k := by rw [hkI]; omega
      have hwb1 : 0 ≤ (wh : Int) % (l.length : Int) := by rw [hkI]; omega
      have hwb2 : (wh : Int) % (l.length : Int) ≤ (l.length : Int) := by rw [hkI]; omega
      obtain ⟨L, hL⟩ : ∃ L, L = l.take k := ⟨_, rfl⟩
      have hLk : L.length = k := by rw [hL, List.length_take]; omega
      rw [← hL] at hrun
      refine To.run hS 5000 (C := True) (by kernel_rfl) trivial ?_
      refine To.yesd hS (Prod.snd (spoilD (SpP.d p) ((3 : Int) + (↑wh : Int) % (↑(List.length l) : Int)) (List.take (List.length (Option.getD (Prod.fst (readD (SpP.d p) ((3 : Int) + (↑wh : Int) % (↑(List.length l) : Int)))) [])) (List.set (Option.getD (Prod.fst (readD (SpP.d p) ((3 : Int) + (↑wh : Int) % (↑(List.length l) : Int)))) []) (Int.toNat ((↑at_ : Int) % (128 : Int))) (UInt8.ofNat (Int.toNat (IntKind.wrap IntKind.u8 (↑(BitVec.toNat (BitVec.ofInt (8 : Nat) (↑(UInt8.toNat (List.getD (Option.getD (Prod.fst (readD (SpP.d p) ((3 : Int) + (↑wh : Int) % (↑(List.length l) : Int)))) []) (Int.toNat ((↑at_ : Int) % (128 : Int))) (0 : UInt8))) : Int) ^^^ BitVec.ofInt (8 : Nat) (↑byv : Int))) : Int))))))) = (0 : Int)) ?_ (C := True) (by kernel_rfl) trivial ?_
      · exact s1
      have hL64 : ∀ b ∈ L, b.length ≤ 64 := fun b hb' => h64 b (List.mem_of_mem_take (by rw [hL] at hb'; exact hb'))
      have hLl : L.length ≤ 20 := by omega
      refine To.loop (L := [LN.old (0 : Nat), LN.old (4 : Nat), LN.old (5 : Nat)]) (kp := [(132 : Nat), (130 : Nat), (21 : Nat), (20 : Nat), (19 : Nat)]) (ks := []) (C := ((73 : TypeId) = (73 : TypeId) ∧ (none : Option Nat) = none ∧ AV.ptr (nat_lit 0) (nat_lit 0) = AV.ptr (nat_lit 0) (nat_lit 0) ∧ (IntKind.i64 = IntKind.i64 ∧ (3 : Int) = (3 : Int)) ∧ (IntKind.i64 = IntKind.i64 ∧ (30 : Int) = (30 : Int)) ∧ (IntKind.u64 = IntKind.u64 ∧ (↑(5 : Nat) : Int) = (↑(5 : Nat) : Int)) ∧ (nat_lit 2 = nat_lit 2 ∧ List.length (Prod.fst (jrun (Prod.fst (spoilD (SpP.d p) ((3 : Int) + (↑wh : Int) % (↑(List.length l) : Int)) (List.take (List.length (Option.getD (Prod.fst (readD (SpP.d p) ((3 : Int) + (↑wh : Int) % (↑(List.length l) : Int)))) [])) (List.set (Option.getD (Prod.fst (readD (SpP.d p) ((3 : Int) + (↑wh : Int) % (↑(List.length l) : Int)))) []) (Int.toNat ((↑at_ : Int) % (128 : Int))) (UInt8.ofNat (Int.toNat (IntKind.wrap IntKind.u8 (↑(BitVec.toNat (BitVec.ofInt (8 : Nat) (↑(UInt8.toNat (List.getD (Option.getD (Prod.fst (readD (SpP.d p) ((3 : Int) + (↑wh : Int) % (↑(List.length l) : Int)))) []) (Int.toNat ((↑at_ : Int) % (128 : Int))) (0 : UInt8))) : Int) ^^^ BitVec.ofInt (8 : Nat) (↑byv : Int))) : Int)))))))) (3 : Int) (5 : Nat) (30 : Nat))) = List.length L) ∧ True) ∧ (26 : TypeId) = (26 : TypeId) ∧ nat_lit 1 = nat_lit 1 ∧ List.length (Prod.fst (jrun (Prod.fst (spoilD (SpP.d p) ((3 : Int) + (↑wh : Int) % (↑(List.length l) : Int)) (List.take (List.length (Option.getD (Prod.fst (readD (SpP.d p) ((3 : Int) + (↑wh : Int) % (↑(List.length l) : Int)))) [])) (List.set (Option.getD (Prod.fst (readD (SpP.d p) ((3 : Int) + (↑wh : Int) % (↑(List.length l) : Int)))) []) (Int.toNat ((↑at_ : Int) % (128 : Int))) (UInt8.ofNat (Int.toNat (IntKind.wrap IntKind.u8 (↑(BitVec.toNat (BitVec.ofInt (8 : Nat) (↑(UInt8.toNat (List.getD (Option.getD (Prod.fst (readD (SpP.d p) ((3 : Int) + (↑wh : Int) % (↑(List.length l) : Int)))) []) (Int.toNat ((↑at_ : Int) % (128 : Int))) (0 : UInt8))) : Int) ^^^ BitVec.ofInt (8 : Nat) (↑byv : Int))) : Int)))))))) (3 : Int) (5 : Nat) (30 : Nat))) = List.length L ∧ ∀ (r : Nat), r < List.length (Prod.fst (jrun (Prod.fst (spoilD (SpP.d p) ((3 : Int) + (↑wh : Int) % (↑(List.length l) : Int)) (List.take (List.length (Option.getD (Prod.fst (readD (SpP.d p) ((3 : Int) + (↑wh : Int) % (↑(List.length l) : Int)))) [])) (List.set (Option.getD (Prod.fst (readD (SpP.d p) ((3 : Int) + (↑wh : Int) % (↑(List.length l) : Int)))) []) (Int.toNat ((↑at_ : Int) % (128 : Int))) (UInt8.ofNat (Int.toNat (IntKind.wrap IntKind.u8 (↑(BitVec.toNat (BitVec.ofInt (8 : Nat) (↑(UInt8.toNat (List.getD (Option.getD (Prod.fst (readD (SpP.d p) ((3 : Int) + (↑wh : Int) % (↑(List.length l) : Int)))) []) (Int.toNat ((↑at_ : Int) % (128 : Int))) (0 : UInt8))) : Int) ^^^ BitVec.ofInt (8 : Nat) (↑byv : Int))) : Int)))))))) (3 : Int) (5 : Nat) (30 : Nat))) → bysF (Prod.fst (jrun (Prod.fst (spoilD (SpP.d p) ((3 : Int) + (↑wh : Int) % (↑(List.length l) : Int)) (List.take (List.length (Option.getD (Prod.fst (readD (SpP.d p) ((3 : Int) + (↑wh : Int) % (↑(List.length l) : Int)))) [])) (List.set (Option.getD (Prod.fst (readD (SpP.d p) ((3 : Int) + (↑wh : Int) % (↑(List.length l) : Int)))) []) (Int.toNat ((↑at_ : Int) % (128 : Int))) (UInt8.ofNat (Int.toNat (IntKind.wrap IntKind.u8 (↑(BitVec.toNat (BitVec.ofInt (8 : Nat) (↑(UInt8.toNat (List.getD (Option.getD (Prod.fst (readD (SpP.d p) ((3 : Int) + (↑wh : Int) % (↑(List.length l) : Int)))) []) (Int.toNat ((↑at_ : Int) % (128 : Int))) (0 : UInt8))) : Int) ^^^ BitVec.ofInt (8 : Nat) (↑byv : Int))) : Int)))))))) (3 : Int) (5 : Nat) (30 : Nat))) r = bysF L r) (hB := by kernel_rfl) (hC := by kernel_rfl) (hI := by (and_intros <;> try first | exact True.intro | with_reducible rfl | omega | with_reducible assumption | (refine fits_u64 ?_ ?_ <;> omega))) (hc := ?_) (step := ?_) (fun (_ : Unit) => []) (fun _ => [(1, .mem 73 none [.ptr 0 0, ivA 3, ivA 30, .sy (.int .u64 ((5 : Nat) : Int)), .ow 2 (L).length]), (2, .rw 26 1 (L).length (bysF (L)))]) (fun _ => True) (fun _ => 0) (())
      · have hq := congrArg List.length hrun
        exact ⟨⟨rfl, rfl, rfl, ⟨rfl, rfl⟩, ⟨rfl, rfl⟩, ⟨rfl, rfl⟩, ⟨rfl, hq⟩, trivial⟩, rfl, rfl, hq, fun r _ => congrFun (congrArg bysF hrun) r⟩
      intro _ _ _
      refine To.run hS 5000 (C := True) (by kernel_rfl) trivial ?_
      refine To.nod hS ((30 : Int) = (0 : Int)) (by (and_intros <;> try first | exact True.intro | with_reducible rfl | omega | with_reducible assumption)) (C := True) (by kernel_rfl) trivial ?_
      refine To.run hS 24 (C := True) (by kernel_rfl) trivial ?_
      refine To.loop (L := [LN.new (AB.rw (nat_lit 26) (nat_lit 1) (nat_lit 0) (bysF (List.take (0 : Nat) L)))]) (kp := [(13 : Nat), (12 : Nat), (11 : Nat), (3 : Nat)]) (ks := []) (C := (IntKind.i64 = IntKind.i64 ∧ (0 : Int) = (↑(0 : Nat) : Int)) ∧ nat_lit 0 = nat_lit 0 ∧ nat_lit 26 = (26 : TypeId) ∧ nat_lit 1 = nat_lit 1 ∧ nat_lit 0 = nat_lit 0 ∧ ∀ (r : Nat), r < nat_lit 0 → bysF (List.take (0 : Nat) L) r = bysF (List.take (0 : Nat) L) r) (hB := by kernel_rfl) (hC := by kernel_rfl) (hI := by (and_intros <;> try first | exact True.intro | with_reducible rfl | omega | with_reducible assumption)) (hc := ?_) (step := ?_) (fun (a : Nat) => [(13, ivA (a : Int)), (3, .ow 3 a)]) (fun a => [(3, .rw 26 1 a (bysF (L.take a)))]) (fun a => a ≤ L.length) (fun a => L.length - a) (0)
      · exact ⟨⟨rfl, rfl⟩, rfl, rfl, rfl, rfl, fun _ _ => rfl⟩
      intro a ha2 iha
      refine To.run hS 5000 (C := True) (by kernel_rfl) trivial ?_
      refine To.brd hS ((↑a : Int) < (↑(List.length L) : Int)) (C := True) (by kernel_rfl) (by kernel_rfl) (by (and_intros <;> try first | exact True.intro | with_reducible rfl | omega | with_reducible assumption)) ?_ ?_
      · intro g1
        have gl : a < L.length := by omega
        have g64 : (L.getD a default).length ≤ 1000000 := by
          have := hL64 (L.getD a default) (by rw [List.getD_eq_getElem?_getD, List.getElem?_eq_getElem gl]; simp)
          omega
        have gi1 : a + 1 ≤ L.length := gl
        have gi2 : L.length - (a + 1) < L.length - a := by omega
        have gtk : L.take (a + 1) = L.take a ++ [L.getD a default] := by rw [List.take_succ_eq_append_getElem gl, List.getD_eq_getElem?_getD, List.getElem?_eq_getElem gl]; rfl
        refine To.run hS 26 (C := ((0 : Int) ≤ (↑a : Int) ∧ (↑a : Int) < (↑(List.length L) : Int)) ∧ a < List.length L ∧ (True ∧ List.length (List.getD L a default) ≤ (1000000 : Nat)) ∧ (a = a ∧ a ≤ (1073741824 : Nat)) ∧ fits IntKind.i64 ((↑a : Int) + (1 : Int))) (by kernel_rfl) (by (and_intros <;> try first | exact True.intro | with_reducible rfl | omega | with_reducible assumption | (refine fits_i64 ?_ ?_ <;> omega))) ?_
        refine To.back (L' := [LN.old (5 : Nat)]) (C := (IntKind.i64 = IntKind.i64 ∧ (↑a : Int) + (1 : Int) = (↑(a + (1 : Nat)) : Int)) ∧ (nat_lit 3 = nat_lit 3 ∧ a + (1 : Nat) = a + (1 : Nat)) ∧ (26 : Nat) = (26 : TypeId) ∧ nat_lit 1 = nat_lit 1 ∧ a + (1 : Nat) = a + (1 : Nat) ∧ ∀ (r : Nat), r < a + (1 : Nat) → rwPush (bysF (List.take a L)) a [AV.by8 (List.getD L a default)] r = bysF (List.take (a + (1 : Nat)) L) r) (hB := by kernel_rfl) (hC := by kernel_rfl) (hc := ?_) (he := by kernel_rfl) (iha (a + 1) gi1 gi2)
        refine ⟨⟨rfl, Int.natCast_succ _⟩, ⟨rfl, rfl⟩, rfl, rfl, rfl, fun r hr => ?_⟩
        have gla : (L.take a).length = a := by rw [List.length_take]; omega
        have gp := bysF_push (L.take a) (L.getD a default) r
        rw [gla, ← gtk] at gp
        exact gp hr
      · intro g1
        have hal : a = L.length := by omega
        have hat : L.take a = L := List.take_of_length_le (by omega)
        refine To.run hS 5000 (C := True) (by kernel_rfl) trivial ?_
        refine To.yesd hS (recsF a (bysF (List.take a L)) = recsF (Int.toNat ((↑wh : Int) % (↑(List.length l) : Int)) - (0 : Nat)) fun r ↦ bysF l (r + (0 : Nat))) ?_ (C := (a = a ∧ ∀ (r : Nat), r < a → bysF (List.take a L) r = bysF (recsF a (bysF (List.take a L))) r) ∧ (∀ (r : Nat), r < Int.toNat ((↑wh : Int) % (↑(List.length l) : Int)) - (0 : Nat) → (fun r ↦ bysF l (r + (0 : Nat))) r = bysF (recsF (Int.toNat ((↑wh : Int) % (↑(List.length l) : Int)) - (0 : Nat)) fun r ↦ bysF l (r + (0 : Nat))) r) ∧ List.length (recsF a (bysF (List.take a L))) ≤ (1000000 : Nat)) (by kernel_rfl) ?_ ?_; rotate_left; (and_intros <;> try first | exact True.intro | with_reducible rfl | omega | with_reducible assumption); rotate_right
        · rw [hat, hal, recs_bys, hw3]
          exact hL.trans (recs_take (Nat.le_of_lt hkl)).symm
        · intro r _
          rw [hat, hal, recs_bys]
        · intro r hr
          rw [hw3] at hr ⊢
          show bysF l (r + 0) = bysF (recsF k fun r => bysF l (r + 0)) r
          rw [recs_take (Nat.le_of_lt hkl)]
          exact bys_take hr
        · rw [recsF_len]; omega
        refine To.run hS 5000 (C := True) (by kernel_rfl) trivial ?_
        refine To.end (AV.v (Value.bool true)) (by kernel_rfl) ?_
        rfl
theorem spoilt_walk (l : List (List UInt8)) (wh at_ byv : Nat) (hw : wh < 256) (ha : at_ < 256) (hb : byv < 256) {w : World} {u : Value} (hu : VR0 (imOf w) (.im 1 l.length (bysF l)) u) :
    Calls Try.prog 10 #[u, .int .u8 (wh : Int), .int .u8 (at_ : Int), .int .u8 (byv : Int)] w (fun e w' => e = .returned (.bool true) ∧ Fr No w w') :=
  law_calls (args := [.im 1 l.length (bysF l), .sy (.int .u8 (wh : Int)), .sy (.int .u8 (at_ : Int)), .sy (.int .u8 (byv : Int))]) s13_ok (by kernel_rfl) (spoilt_to s13_ok l wh at_ byv hw ha hb) (.cons (bare_VR (ρ := envOf w) hu) (.cons (.sy _) (.cons (.sy _) (.cons (.sy _) .nil))))
end Go.Proofs.Ytnkjhicokcmmpaa.Sm

/-
  JournalSpoilt returns true, whatever is handed to it, and what it read reads as it did.
-/
namespace Go.Proofs.Ytnkjhicokcmmpaa.RJournalSpoilt
open Go.ChangeShapes Go.WideShapes Go.ChangeAt Go.RowKit
theorem b8_open {w : World} {cs : List Value} (h : Rd Try.prog w 26 cs) : ∃ o : List UInt8, Sm.VRs0 (Sm.imOf w) [Sm.AV.by8 o] cs ∧ True := by
  obtain ⟨bs, a, n, c, rfl, hv⟩ := Sm.by8_open h
  exact ⟨bs, .cons hv .nil, trivial⟩
theorem own : ownKnob Try.prog.godebug = none := by kernel_rfl
theorem laidOut : laidOutB Try.prog = true := by kernel_rfl
theorem readable : (Try.f10.params.toList.all fun t => Try.prog.readableRec t && decide (t < Try.prog.types.size)) = true := by kernel_rfl
set_option maxHeartbeats 800000 in
set_option maxRecDepth 100000 in
theorem lifted (os : Os) (started : os.Started) (H : Type) (enc : TypeId × Value → H) :
    ReturnsInHanded {} Try.checked os 10 .any (Rows.journalSpoiltSpec.pre6 enc Try.prog Try.f10 Rows.journalSpoiltRow.domain false) (Rows.journalSpoiltSpec.post enc Try.prog Try.f10 false true false false) := by
  refine returnsInHanded_of_change (C := Try.checked) own started (by kernel_rfl) Try.func10
    (ChangeSpec.witness6 (enc := enc) (C := Try.checked) false ⟨#[], #[.slice none 0 0, .int .u8 0, .int .u8 0, .int .u8 0], []⟩ 8 (by kernel_rfl) (by kernel_rfl) (by kernel_rfl) (by kernel_rfl)) ?_
  intro W base args ds gs before hval0 hW _ _
  have hval : ∀ (j : Nat) t v, Try.f10.params[j]? = some t → args[j]? = some v → Value.okWide Try.prog W .any base t v := hval0
  have hW' := hW
  obtain ⟨p, q, hA0, hV, rfl, _, _⟩ := hW
  have hA : DataW.TrodAll enc Try.prog W 0 (fun _ => true) true Try.f10.params.toList args.toList ds p := hA0
  have hlt : ∀ x ∈ p, x.block < W.heap.size := fun x hx => by simpa using hW'.lt x (by simpa using List.mem_append.2 (.inl hx))
  have hall := fun W' (hb : Below W.heap.size W W') => again_all laidOut hb readable hA hlt
  obtain ⟨rfl, rfl⟩ := trodVars_none hV
  rw [Try.params10] at hval
  have hA' := hA
  rw [Try.params10] at hA'
  obtain ⟨v0, vs0, d0, ds0, p0, q0, e0, rfl, rfl, h0, r0⟩ := trodAll_cons hA'
  obtain ⟨v1, vs1, d1, ds1, p1, q1, e1, rfl, rfl, h1, r1⟩ := trodAll_cons r0
  obtain ⟨v2, vs2, d2, ds2, p2, q2, e2, rfl, rfl, h2, r2⟩ := trodAll_cons r1
  obtain ⟨v3, vs3, d3, ds3, p3, q3, e3, rfl, rfl, h3, r3⟩ := trodAll_cons r2
  obtain ⟨en, rfl, rfl⟩ := trodAll_nil r3
  obtain rfl : args = #[v0, v1, v2, v3] := by
    apply Array.ext'
    rw [e0]
    try rw [e1]
    try rw [e2]
    try rw [e3]
    rw [en]
  clear hA' e0 e1 e2 e3 en
  obtain ⟨a0, n0, c0, rfl⟩ := arg_slice Try.underlying71 (hval 0 71 v0 rfl rfl)
  obtain ⟨a1, rfl, w1⟩ := arg_int Try.underlying5 (hval 1 5 v1 rfl rfl) h1
  obtain ⟨a2, rfl, w2⟩ := arg_int Try.underlying5 (hval 2 5 v2 rfl rfl) h2
  obtain ⟨a3, rfl, w3⟩ := arg_int Try.underlying5 (hval 3 5 v3 rfl rfl) h3
  simp only [List.append_nil] at hW'
  obtain ⟨l, hn, hl1, hl2⟩ := Sm.rows_open (k := 1) (by decide) (fun b : List UInt8 => [Sm.AV.by8 b]) (fun _ => True) Try.underlying71 (by kernel_rfl) (fun {cs} h => b8_open h) (Rd.of h0)
  have hb1 := u8_bd w1
  have hb2 := u8_bd w2
  have hb3 := u8_bd w3
  obtain ⟨x1, rfl⟩ : ∃ x : Nat, a1 = (x : Int) := ⟨a1.toNat, by omega⟩
  obtain ⟨x2, rfl⟩ : ∃ x : Nat, a2 = (x : Int) := ⟨a2.toNat, by omega⟩
  obtain ⟨x3, rfl⟩ : ∃ x : Nat, a3 = (x : Int) := ⟨a3.toNat, by omega⟩
  have hwalk := Sm.spoilt_walk l x1 x2 x3 (by omega) (by omega) (by omega) hl1
  refine hwalk.mono fun e W' ⟨he, hf⟩ => ?_
  subst he
  have hbel : Below W.heap.size W W' := hf.below
  refine ⟨_, rfl, _, _, _, [], _, [], hW', ?_, hall W' hbel, rfl, hbel.frame _, fun h => by cases h⟩
  exact trodAll_mk1 (shut_bool Try.underlying4 _)
theorem said : Rows.JournalSpoiltSaid :=
  OpenClaim.holds_of_wide 10 Try.f10 rfl rfl rfl rfl rfl rfl rfl ⟨rfl, rfl, rfl, rfl, rfl⟩ rfl rfl rfl rfl rfl (by kernel_rfl) Try.func10 (by kernel_rfl)
    (of_decide_eq_true (by kernel_rfl)) (by unfold Func.isWrapper; first | (rw [if_pos (by decide +kernel)]; kernel_rfl) | (rw [if_neg (by decide +kernel)]; exact ⟨rfl, rfl⟩))
    (fun os started H enc _ => lifted os started H enc)
#print axioms said
end Go.Proofs.Ytnkjhicokcmmpaa.RJournalSpoilt
