/-
  The small machine: its frames, its regions (those that draw their order, too), its steps.
-/
import Derived.Test.YtnkjhicokcmmpaaEh
namespace Go.Proofs.Ytnkjhicokcmmpaa.Ev
open Go Go.RowKit

def vsame : Value → Value → Bool
  | .bool a, .bool b => cond a b (!b)
  | .int k n, .int j m => decide (k = j) && decide (n = m)
  | .string a, .string b => decide (a.data.toList = b.data.toList)
  | .pointer none, .pointer none => true
  | .slice none a b, .slice none c d => Nat.beq a c && Nat.beq b d
  | .map none, .map none => true
  | .nilFunc, .nilFunc => true
  | .nilIface, .nilIface => true
  | _, _ => false
mutual
def sameA : AV → AV → Bool
  | .v x, .v y => vsame x y
  | .ptr i o, .ptr j q => Nat.beq i j && Nat.beq o q
  | .sl i o n c, .sl j q m d => Nat.beq i j && Nat.beq o q && Nat.beq n m && Nat.beq c d
  | .su i o n c e, .su j q m d f => Nat.beq i j && Nat.beq o q && Nat.beq n m && Nat.beq c d && Nat.beq e f
  | .se, .se => true
  | .s0, .s0 => true
  | .mp i, .mp j => Nat.beq i j
  | .agg l, .agg m => sameAs l m
  | .tup l, .tup m => sameAs l m
  | .fn f l m, .fn g l' m' => decide (f = g) && sameAs l l' && sameAs m m'
  | .yl i, .yl j => Nat.beq i j
  | .ifc t x, .ifc u y => Nat.beq t u && sameA x y
  | _, _ => false
def sameAs : List AV → List AV → Bool
  | [], [] => true
  | x :: l, y :: m => sameA x y && sameAs l m
  | _, _ => false
end

inductive AItem where
  | code (c : Code)
  | inBlock (id : Nat)
  | inLoop (body : Code)
  | inScope (body : Code)
  | inRF (i : Nat)
  | endRF (i : Nat)
  | beginRound

/-- The region that a frame stands in. In one that draws its order: which operations are done (a mask), what they answered, the temporaries ahead of it, the loads that must still read the same, and the operation that has called. -/
inductive ARg where
  | no
  | pl (ops : Array Oper) (l : List Oper)
  | dr (ops : Array Oper) (D : Nat) (X : Tr AV) (T0 : Tr AV) (lds : List (Nat × TypeId × AV × AV)) (cur : Option Nat)

structure AFr where
  fn : FuncId
  nt : Nat
  T : Tr AV
  rg : ARg
  todo : List AItem
  ds : List Nat
  ret : Bool
  round : Option Nat
  lo : Nat

structure ASt where
  fr : AFr
  cs : List AFr
  H : Tr AB
  n : Nat

def putT (nt : Nat) (T : Tr AV) (d : Option Tmp) (x : AV) : Tr AV :=
  match d with
  | some d => cond (Nat.blt d nt) (tput T d x) T
  | none => T

def wantedA (T : Tr AV) (dstOf : Nat → Option Tmp) (o : Oper) : Bool :=
  match o.guard with
  | none => true
  | some (j, want) => match dstOf j with
    | some d => match At T d with
      | .v (.bool b) => cond b want (!want)
      | _ => false
    | none => false
def dstIn (l : List Oper) (j : Nat) : Option Tmp := match l[j]? with | some o => o.dst | none => none

/-! Regions that draw their order. -/
def predMask (o : Oper) : Nat := o.after.toList.foldl (fun m e => cond (Region.binds .any e) (m ||| 2 ^ e.on) m) 0
def ancOf (an : Tr Nat) (o : Oper) : Nat := o.after.toList.foldl (fun m e => cond (Region.binds .any e) (m ||| (2 ^ e.on ||| (match an.get e.on with | some k => k | none => 0))) m) 0
def ancL : List Oper → Nat → Tr Nat → Tr Nat
  | [], _, an => an
  | o :: l, y, an => ancL l (y + 1) (tput an y (ancOf an o))
def writersL : List Oper → Nat → Tr Nat → Option (Tr Nat)
  | [], _, W => some W
  | o :: l, y, W => match o.dst with
    | none => writersL l (y + 1) W
    | some d => match W.get d with
      | some _ => none
      | none => writersL l (y + 1) (tput W d y)
def edgesBelow (o : Oper) (y : Nat) : Bool := o.after.toList.all fun e => cond (Region.binds .any e) (Nat.blt e.on y) true
def slotsOf (o : Oper) : List Tmp := o.op.operands.toList.filterMap fun | .tmp t => some t | _ => none
def guardSlot (dstOf : Nat → Option Tmp) (o : Oper) : List Tmp := match o.guard with | some (g, _) => (match dstOf g with | some d => [d] | none => []) | none => []
def anBit (an : Tr Nat) (y i : Nat) : Bool := Nat.testBit (match an.get y with | some k => k | none => 0) i
def slotOk (an W : Tr Nat) (y : Nat) (s : Tmp) : Bool :=
  match W.get s with
  | none => true
  | some i => Nat.beq i y || anBit an y i || anBit an i y
def plainOp (o : Oper) : Bool := match o.op with | .defer _ => false | .select .. => false | .go _ => false | _ => true
def scL (all : List Oper) (an W : Tr Nat) : List Oper → Nat → Bool
  | [], _ => true
  | o :: l, y => edgesBelow o y && plainOp o && ((slotsOf o).all (slotOk an W y)) && ((guardSlot (dstIn all) o).all (slotOk an W y)) && scL all an W l (y + 1)
/-- What holds of a region's text. -/
def scOk (l : List Oper) : Bool :=
  match writersL l 0 .e with
  | some W => scL l (ancL l 0 .e) W l 0
  | none => false
def readyL (D : Nat) : List Oper → Nat → List (Nat × Oper)
  | [], _ => []
  | o :: l, y => cond (Nat.testBit D y) (readyL D l (y + 1)) (let m := predMask o; cond (Nat.beq (m &&& D) m) ((y, o) :: readyL D l (y + 1)) (readyL D l (y + 1)))

/-- What reads memory and turns nothing: a load, a slice of bytes as a string, a map's entry. -/
def rdOf (T : Tr AV) (o : Oper) : Option (TypeId × AV) :=
  match o.op with
  | .load t a => match aev T a with
    | .ptr i k => some (t, .ptr i k)
    | _ => none
  | .convert s d x => cond (Nat.blt d 65536) (some (s * 65536 + d, .tup [aev T x])) none
  | .lookup t m k ok => some (t * 2 + cond ok 1 0, .agg [aev T m, aev T k])
  | _ => none
def readA (P : Program) (t : TypeId) (p : AV) (H : Tr AB) : Option AV :=
  match p with
  | .ptr i k => loadA P t (.ptr i k) H
  | .tup [x] => strA P (t / 65536) (t % 65536) x H
  | .agg [m, k] => lookupA P (t / 2) m k (Nat.beq (t % 2) 1) H
  | _ => none
theorem rd_div (s d : Nat) (h : d < 65536) : (s * 65536 + d) / 65536 = s := by omega
theorem rd_mod (s d : Nat) (h : d < 65536) : (s * 65536 + d) % 65536 = d := by omega
theorem rd_two (s : Nat) (b : Bool) : (s * 2 + cond b 1 0) / 2 = s := by cases b <;> simp only [cond_true, cond_false] <;> omega
theorem rd_ok (s : Nat) (b : Bool) : Nat.beq ((s * 2 + cond b 1 0) % 2) 1 = b := by
  cases b
  · have : (s * 2 + 0) % 2 = 0 := by omega
    simp only [cond_false, this]; rfl
  · have : (s * 2 + 1) % 2 = 1 := by omega
    simp only [cond_true, this]; rfl
theorem readA_sound {P : Program} {w0 : Bs} {w : World} {ρ : Env} {H : Tr AB} {n : Nat} {T : Tr AV} {o : Oper} {t : TypeId} {p x : AV} {ev : Operand → Value} (hr : HR w0 ρ H n w) (h : rdOf T o = some (t, p)) (hx : readA P t p H = some x) (hev : ∀ y ∈ o.op.operands, VR ρ (aev T y) (ev y)) :
    ∃ v, VR ρ x v ∧ (execOp ev o).run P w = .ok (.value v) w := by
  obtain ⟨dst, op, type, pos, after, guard⟩ := o
  unfold rdOf at h
  split at h
  · rename_i t' a hop
    simp only at hop
    subst hop
    split at h
    · rename_i i k ha
      cases h
      obtain ⟨v, hv, hrun⟩ := loadA_sound hr (show loadA P t (.ptr i k) H = some x from hx) (by rw [← ha]; exact hev a (by simp [Op.operands]))
      exact ⟨v, hv, by unfold execOp; simp only [Sem.run_bind, hrun, Result.andThen_ok, Sem.run_pure]⟩
    · cases h
  · rename_i s d y hop
    simp only at hop
    subst hop
    cases hd : Nat.blt d 65536 with
    | false => rw [hd] at h; cases h
    | true =>
      rw [hd] at h
      cases h
      have hd' : d < 65536 := by simpa [Nat.blt_eq] using hd
      have e1 : (s * 65536 + d) / 65536 = s := rd_div s d hd'
      have e2 : (s * 65536 + d) % 65536 = d := rd_mod s d hd'
      have hx' : strA P ((s * 65536 + d) / 65536) ((s * 65536 + d) % 65536) (aev T y) H = some x := hx
      rw [e1, e2] at hx'
      obtain ⟨v, hv, hrun⟩ := strA_sound hr hx' (hev y (by simp [Op.operands]))
      exact ⟨v, hv, by unfold execOp; simp [hrun]⟩
  · rename_i t' m k ok hop
    simp only at hop
    subst hop
    cases h
    have hx' : lookupA P ((t' * 2 + cond ok 1 0) / 2) (aev T m) (aev T k) (Nat.beq ((t' * 2 + cond ok 1 0) % 2) 1) H = some x := hx
    have e1 : (t' * 2 + cond ok 1 0) / 2 = t' := rd_two t' ok
    have e2 : Nat.beq ((t' * 2 + cond ok 1 0) % 2) 1 = ok := rd_ok t' ok
    rw [e1, e2] at hx'
    obtain ⟨v, hv, hrun⟩ := lookupA_sound hr hx' (hev m (by simp [Op.operands])) (hev k (by simp [Op.operands]))
    exact ⟨v, hv, by unfold execOp; simp [hrun]⟩
  · cases h
theorem readA_of {P : Program} {H H' : Tr AB} {t : TypeId} {p x : AV} (h : ∀ i T z l, H.get i = some (.mem T z l) → H'.get i = some (.mem T z l)) (hm : ∀ i l c, H.get i = some (.map l c) → H'.get i = some (.map l c)) (hl : readA P t p H = some x) : readA P t p H' = some x := by
  have ld : ∀ i k, loadA P t (.ptr i k) H = some x → loadA P t (.ptr i k) H' = some x := by
    intro i k hq
    simp only [loadA] at hq ⊢
    cases hB : H.get i with
    | none => rw [hB] at hq; cases hq
    | some B =>
      rw [hB] at hq
      cases B with
      | mem T z l => rw [h _ _ _ _ hB]; exact hq
      | _ => cases hq
  have st : ∀ s d y, strA P s d y H = some x → strA P s d y H' = some x := by
    intro s d y hq
    have tk : ∀ n l, takeU n y H = some l → takeU n y H' = some l := by
      intro n l ht
      unfold takeU at ht ⊢
      split at ht
      · split at ht
        · rename_i hB; rw [h _ _ _ _ hB]; exact ht
        · cases ht
      · split at ht
        · rename_i hB; rw [h _ _ _ _ hB]; exact ht
        · cases ht
      · exact ht
    unfold strA at hq ⊢
    split at hq
    · split at hq
      · rename_i he ht
        simp only [he, tk _ _ ht]
        exact hq
      · cases hq
    · cases hq
  have lk : ∀ t m k ok, lookupA P t m k ok H = some x → lookupA P t m k ok H' = some x := by
    intro t m k ok hq
    have en : ∀ l, entsA m H = some l → entsA m H' = some l := by
      intro l ht
      unfold entsA at ht ⊢
      split at ht
      · exact ht
      · split at ht
        · rename_i hB; rw [hm _ _ _ hB]; exact ht
        · cases ht
      · cases ht
    unfold lookupA at hq ⊢
    split at hq
    · rename_i h1 h2 h3
      simp only [h1, h2, en _ h3]
      exact hq
    · cases hq
  unfold readA at hl ⊢
  split at hl
  · exact ld _ _ hl
  · exact st _ _ _ hl
  · exact lk _ _ _ _ hl
  · cases hl

/-- An operation that may be done ahead of the others: its answer, what becomes of memory, and the load to be held. -/
def eagerA (P : Program) (T : Tr AV) (all : List Oper) (o : Oper) (H : Tr AB) (n : Nat) : Option (AV × Tr AB × Nat × Option (TypeId × AV × AV)) :=
  cond (wantedA T (dstIn all) o)
    (match aopP P T o with
     | some x => some (x, H, n, none)
     | none => match rdOf T o with
       | some (t, p) => match readA P t p H with
         | some x => some (x, H, n, some (t, p, x))
         | none => none
       | none => match aopN P T o with
         | some (e, l, k) => some (k.av n, tput H n (.mem e none l), n + 1, none)
         | none => none)
    (some (.v undef, H, n, none))
def firstEager (P : Program) (T : Tr AV) (all : List Oper) (H : Tr AB) (n : Nat) : List (Nat × Oper) → Option (Nat × Oper × AV × Tr AB × Nat × Option (TypeId × AV × AV))
  | [] => none
  | (y, o) :: r => match eagerA P T all o H n with
    | some (x, H', n', l) => some (y, o, x, H', n', l)
    | none => firstEager P T all H n r
def ldsOk (P : Program) (H : Tr AB) (l : List (Nat × TypeId × AV × AV)) : Bool :=
  l.all fun p => match readA P p.2.1 p.2.2.1 H with | some x => sameA x p.2.2.2 | none => false
/-- The loads that need not lie ahead of operation y. -/
def ldsFor (all : List Oper) (y : Nat) (l : List (Nat × TypeId × AV × AV)) : List (Nat × TypeId × AV × AV) :=
  l.filter fun p => !(anBit (ancL all 0 .e) y p.1)
def addLd (y : Nat) (q : Option (TypeId × AV × AV)) (l : List (Nat × TypeId × AV × AV)) : List (Nat × TypeId × AV × AV) :=
  match q with
  | some p => (y, p) :: l
  | none => l

/-- A value comes back to a frame. -/
def finishA (P : Program) (H : Tr AB) (c : AFr) (x : AV) : Option AFr :=
  match c.rg with
  | .pl ops (o :: r) => some { c with T := putT c.nt c.T o.dst x, rg := .pl ops r }
  | .dr ops D X T0 lds (some y) =>
    match ops.toList[y]? with
    | some o => cond (ldsOk P H lds) (some { c with T := putT c.nt c.T o.dst x, rg := .dr ops (D ||| 2 ^ y) (tput X y x) T0 lds none }) none
    | none => none
  | .no => match c.todo with
    | .inRF i :: k => some { c with todo := .endRF i :: k }
    | _ => none
  | _ => none

def aexit (id : Nat) : List AItem → Option (List AItem)
  | .inBlock j :: k => cond (Nat.beq j id) (some k) (aexit id k)
  | _ :: k => aexit id k
  | [] => none

/-- The methods of types: which function, for a receiver as it is. -/
def methodA (P : Program) (t : TypeId) (name : String) : Option FuncId :=
  match P.info? t with
  | some inf => match inf.methods.find? (·.name == name) with
    | some m => match m.path.toList, m.func, P.underlying t with
      | [], some (f, true), some (.pointer _) => some f
      | [], some (_, false), some (.pointer _) => none
      | [], some (f, false), some _ => some f
      | _, _, _ => none
    | none => none
  | none => none

/-- Whom an operation calls, with what. -/
inductive Callee' where
  | fn (f : FuncId) (args : List AV)
  | yl (i : Nat) (args : List AV)
def calleeOf (P : Program) (f : AV) (args : List AV) : Option Callee' :=
  match f with
  | .fn (.func g) first cap => some (.fn g (first ++ args ++ cap))
  | .yl i => some (.yl i args)
  | _ => none
def callOf (P : Program) (T : Tr AV) (o : Oper) : Option Callee' :=
  match o.op with
  | .call ⟨.value f, args, _⟩ => calleeOf P (aev T f) (args.toList.map (aev T))
  | .call ⟨.invoke r name, args, _⟩ => match aev T r with
    | .ifc t x => match methodA P t name with
      | some g => some (.fn g (x :: args.toList.map (aev T)))
      | none => none
    | _ => none
  | _ => none

def argsT : List AV → Nat → Tr AV → Tr AV
  | [], _, T => T
  | x :: l, s, T => argsT l (s + 1) (tput T s x)
def putParams (nt : Nat) : List Tmp → List AV → Tr AV → Tr AV
  | p :: ps, x :: xs, T => putParams nt ps xs (putT nt T (some p) x)
  | _, _, T => T

/-- Into a function, or a round. -/
def enterA (FT : FuncId → Option Func) (fr : AFr) (s : ASt) (c : Callee') : Option ASt :=
  match c with
  | .fn f args => match FT f with
    | some fn => match fn.body with
      | some b => some { s with fr := { fn := f, nt := cond (Nat.ble fn.ntmps args.length) args.length fn.ntmps, T := argsT args 0 .e, rg := .no, todo := [.code b], ds := [], ret := false, round := none, lo := s.n }, cs := fr :: s.cs }
      | none => none
    | none => none
  | .yl i args => match s.H.get i with
    | some (.loop _ _ fn nt T ps asg bd _) =>
      cond (Nat.beq args.length ps.length)
        (some { s with fr := { fn := fn, nt := nt, T := putParams nt ps args T, rg := .no, todo := [.code asg, .beginRound, .code bd], ds := [], ret := false, round := some i, lo := s.n }, cs := fr :: s.cs }) none
    | _ => none

/-- Back to the caller. -/
def backA (P : Program) (s : ASt) (x : AV) : Option ASt :=
  match s.cs with
  | c :: cs => match finishA P s.H c x with
    | some c' => some { s with fr := c', cs := cs }
    | none => none
  | [] => none

def stOf : Option Code → LoopState
  | none => .ready
  | some _ => .done
def goesOn : Option Code → Bool
  | none => true
  | some _ => false
def leaveA (P : Program) (s : ASt) (jump : Option Code) : Option ASt :=
  match s.fr.round with
  | none => match jump with
    | none => some { s with fr := { s.fr with ret := true } }
    | some .ret => some { s with fr := { s.fr with ret := true } }
    | _ => none
  | some l => match s.H.get l with
    | some (.loop _ _ fn nt T ps asg bd d) =>
      backA P { s with H := tput s.H l (.loop (stOf jump) jump fn nt T ps asg bd d) } (.v (.bool (goesOn jump)))
    | _ => none

def resA (P : Program) (T : Tr AV) (H : Tr AB) : List ResultVar → Option (List AV)
  | [] => some []
  | .tmp t :: l => match resA P T H l with | some r => some (At T t :: r) | none => none
  | .cell a t :: l => match At T a with
    | .ptr i o => match loadA P t (.ptr i o) H, resA P T H l with
      | some x, some r => some (x :: r)
      | _, _ => none
    | _ => none
def tupA : List AV → AV
  | [x] => x
  | l => .tup l

/-- Contracts: what a call of a function makes of what it is given. -/
abbrev Hook := FuncId → List AV → Tr AB → Nat → Option (AV × Tr AB × Nat)
def hooked (HK : Hook) (P : Program) (T : Tr AV) (o : Oper) (H : Tr AB) (n : Nat) : Option (AV × Tr AB × Nat) :=
  match callOf P T o with
  | some (.fn f args) => HK f args H n
  | _ => none
/-- What turns memory at once. -/
def nowA (HK : Hook) (P : Program) (T : Tr AV) (o : Oper) (H : Tr AB) (n : Nat) : Option (AV × Tr AB × Nat) :=
  match aopW P T o H n with
  | some r => some r
  | none => hooked HK P T o H n

/-- One operation of a region whose order is the text's. -/
def stepPl (HK : Hook) (P : Program) (FT : FuncId → Option Func) (s : ASt) (ops : Array Oper) (o : Oper) (r : List Oper) : Option ASt :=
  let fr := s.fr
  let done (x : AV) (H : Tr AB) (n : Nat) : Option ASt := some { s with fr := { fr with T := putT fr.nt fr.T o.dst x, rg := .pl ops r }, H := H, n := n }
  cond (plainOp o) (cond (wantedA fr.T (dstIn ops.toList) o)
    (match aopP P fr.T o with
     | some x => done x s.H s.n
     | none => match o.op with
       | .load t a => match loadA P t (aev fr.T a) s.H with
         | some x => done x s.H s.n
         | none => none
       | _ => match aopN P fr.T o with
         | some (e, l, k) => done (k.av s.n) (tput s.H s.n (.mem e none l)) (s.n + 1)
         | none => match nowA HK P fr.T o s.H s.n with
           | some (x, H, n) => done x H n
           | none => match callOf P fr.T o with
             | some c => enterA FT fr s c
             | none => none)
    (done (.v undef) s.H s.n)) none

/-- A step in a region that draws its order. -/
def stepDr (HK : Hook) (P : Program) (FT : FuncId → Option Func) (s : ASt) (ops : Array Oper) (D : Nat) (X T0 : Tr AV) (lds : List (Nat × TypeId × AV × AV)) : Option ASt :=
  let fr := s.fr
  let all := ops.toList
  match readyL D all 0 with
  | [] => some { s with fr := { fr with rg := .no } }
  | rs => match firstEager P fr.T all s.H s.n rs with
    | some (y, o, x, H, n, l) => some { s with fr := { fr with T := putT fr.nt fr.T o.dst x, rg := .dr ops (D ||| 2 ^ y) (tput X y x) T0 (addLd y l lds) none }, H := H, n := n }
    | none => match rs with
      | [(y, o)] => match nowA HK P fr.T o s.H s.n with
        | some (x, H, n) => cond (ldsOk P H (ldsFor all y lds)) (some { s with fr := { fr with T := putT fr.nt fr.T o.dst x, rg := .dr ops (D ||| 2 ^ y) (tput X y x) T0 (ldsFor all y lds) none }, H := H, n := n }) none
        | none => match callOf P fr.T o with
          | some c => enterA FT { fr with rg := .dr ops D X T0 (ldsFor all y lds) (some y) } s c
          | none => none
      | _ => none

/-- Where a loop's rounds lay what they defer. -/
def loopHome (s : ASt) : Option (Nat × Tr AB × Nat × List Nat) :=
  match s.fr.round with
  | none => some (s.n, tput s.H s.n (.dfd true), s.n + 1, s.n :: s.fr.ds)
  | some l => match s.H.get l with
    | some (.loop _ _ _ _ _ _ _ _ d) => some (d, s.H, s.n, s.fr.ds)
    | _ => none
def stepCode (P : Program) (FT : FuncId → Option Func) (s : ASt) (c : Code) (k : List AItem) : Option ASt :=
  let fr := s.fr
  let to (l : List AItem) : Option ASt := some { s with fr := { fr with todo := l } }
  match c with
  | .ret => leaveA P s (some .ret)
  | .skip => to k
  | .label _ => to k
  | .seq a b => to (.code a :: .code b :: k)
  | .cond x a b => match aev fr.T x with
    | .v (.bool t) => to (.code (cond t a b) :: k)
    | _ => none
  | .block id body => to (.code body :: .inBlock id :: k)
  | .loop body => to (.code body :: .inLoop body :: k)
  | .scope body => to (.code body :: .inScope body :: k)
  | .exit id => match aexit id k with
    | some l => to l
    | none => leaveA P s (some (.exit id))
  | .goto _ => none
  | .refuse _ => none
  | .region _ ops draw => cond draw
      (cond (scOk ops.toList) (some { s with fr := { fr with todo := k, rg := .dr ops 0 .e fr.T [] none } }) none)
      (some { s with fr := { fr with todo := k, rg := .pl ops ops.toList } })
  | .rangeFunc f ps asg bd =>
    match loopHome s with
    | some (d, H, n, ds) =>
      match calleeOf P (aev fr.T f) [.yl n] with
      | some c => enterA FT { fr with todo := .inRF n :: k, ds := ds } { s with H := tput H n (.loop .ready none fr.fn fr.nt fr.T ps.toList asg bd d), n := n + 1 } c
      | none => none
    | none => none

/-- A step of a frame that returns. -/
def stepRet (P : Program) (FT : FuncId → Option Func) (s : ASt) : Option ASt :=
  match s.fr.ds with
  | d :: ds => match s.H.get d with
    | some (.dfd true) => some { s with fr := { s.fr with ds := ds }, H := tput s.H d (.dfd false) }
    | _ => none
  | [] => match s.fr.rg with
    | .dr .. => none
    | _ => match FT s.fr.fn with
      | some fn => match resA P s.fr.T s.H fn.results.toList with
        | some l => backA P s (tupA l)
        | none => none
      | none => none
def pendItems : Option Code → List AItem
  | some c => [.code c]
  | none => []
def endA (s : ASt) (i : Nat) (k : List AItem) : Option ASt :=
  match s.H.get i with
  | some (.loop st pd fn nt T ps asg bd d) => match st with
    | .busy => none
    | _ => some { s with fr := { s.fr with todo := pendItems pd ++ k }, H := tput s.H i (.loop .exhausted pd fn nt T ps asg bd d) }
  | _ => none
def beginA (s : ASt) (i : Nat) (k : List AItem) : Option ASt :=
  match s.H.get i with
  | some (.loop .ready pd fn nt T ps asg bd d) => some { s with fr := { s.fr with todo := k }, H := tput s.H i (.loop .busy pd fn nt T ps asg bd d) }
  | _ => none
def stepPlEnd (s : ASt) : Option ASt := some { s with fr := { s.fr with rg := .no } }
/-- A step between regions. -/
def stepItem (P : Program) (FT : FuncId → Option Func) (s : ASt) : Option ASt :=
  match s.fr.todo with
  | [] => leaveA P s none
  | .code c :: k => stepCode P FT s c k
  | .inBlock _ :: k => some { s with fr := { s.fr with todo := k } }
  | .inScope _ :: k => some { s with fr := { s.fr with todo := k } }
  | .inLoop body :: k => some { s with fr := { s.fr with todo := .code body :: .inLoop body :: k } }
  | .inRF _ :: _ => none
  | .endRF i :: k => endA s i k
  | .beginRound :: k => match s.fr.round with
    | some i => beginA s i k
    | none => none
/-- One step. -/
def stepE (HK : Hook) (P : Program) (FT : FuncId → Option Func) (s : ASt) : Option ASt :=
  cond s.fr.ret (stepRet P FT s)
    (match s.fr.rg with
     | .pl ops (o :: r) => stepPl HK P FT s ops o r
     | .pl _ [] => stepPlEnd s
     | .dr ops D X T0 lds none => stepDr HK P FT s ops D X T0 lds
     | .dr _ _ _ _ _ (some _) => none
     | .no => stepItem P FT s)

def runE (HK : Hook) (P : Program) (FT : FuncId → Option Func) : Nat → ASt → ASt
  | 0, s => s
  | k + 1, s => match stepE HK P FT s with
    | some s' => runE HK P FT k s'
    | none => s
def startE (FT : FuncId → Option Func) (f : FuncId) : Option ASt :=
  match FT f with
  | some fn => match fn.body with
    | some b => some { fr := { fn := f, nt := fn.ntmps, T := .e, rg := .no, todo := [.code b], ds := [], ret := false, round := none, lo := 0 }, cs := [], H := .e, n := 0 }
    | none => none
  | none => none
/-- What the whole answers, where it is at its end. -/
def finalE (P : Program) (FT : FuncId → Option Func) (f : FuncId) (s : ASt) : Option AV :=
  match s.cs, s.fr.ret, s.fr.ds, s.fr.rg, FT s.fr.fn with
  | [], true, [], .no, some fn => cond (Nat.beq s.fr.fn f) (match resA P s.fr.T s.H fn.results.toList with
    | some l => some (tupA l)
    | none => none) none
  | _, _, _, _, _ => none
end Go.Proofs.Ytnkjhicokcmmpaa.Ev
