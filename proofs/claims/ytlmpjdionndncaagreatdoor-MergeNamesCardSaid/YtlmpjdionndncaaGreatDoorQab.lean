/-
  Texts of this claim, laid together: Ei, Ej, Ek, El, Em, En, Eo, Ep, Eq, Er, Es, Bytes, Ev, Ld, Da, Db, Oa, Ob, Range, Oc, Od, Oe.
-/
import Derived.Test.YtlmpjdionndncaaGreatDoorQaa
import Derived.RangeFuncRecord
import Derived.Laws.BytesArg
import Derived.Laws.BytesString
import Derived.Laws.OwnMore
import Derived.Lib.Hide
import Derived.Shelf.SlIterI.Nil
import Derived.Shelf.SortM.Plain
import Derived.Shelf.SortM.SortNone
import Derived.Ground.GgzProg
import Derived.Ground.SlgmProg
import Derived.Test.YtlmpjdionndncaaGreatDoorProg
import Derived.Deep.QuietTactic
import Derived.BigQuiet
import Derived.RegionTactic
import Derived.BigRegion
import Derived.Deep.RegionLaw
import Derived.Deep.RegionWith
import Derived.Outline
import Derived.IntWalk
import Derived.RangeFuncNested
import Derived.RangeFuncBound
import Derived.RangeFuncCalls
import Derived.RangeFuncLeaves
import Derived.Shelf.Abstract
import Derived.OwnWalkIn
import Derived.TacticsInMore
import Derived.LoopNIn
import Derived.LoopIn
import Derived.WalkMore
import Derived.Sort.QuietTacIn
import Derived.Sort.BigQuietIn
import Derived.Laws.Bits64b

namespace Go.Proofs.YtlmpjdionndncaaGreatDoor.Ev
open Go Go.RowKit
noncomputable section
def vsame : Value → Value → Bool
 | .bool a, .bool b => cond a b (!b)
 | .int k n, .int j m => decide (k = j) && decide (n = m)
 | .string a, .string b => decide (a.data.toList = b.data.toList)
 | .pointer none, .pointer none => true
 | .slice none a b, .slice none c d => Nat.beq a c && Nat.beq b d
 | .map none, .map none => true
 | .nilFunc, .nilFunc => true
 | .nilIface, .nilIface => true
 | _, _ => false
mutual
def sameA : AV → AV → Bool
 | .v x, .v y => vsame x y
 | .ptr i o, .ptr j q => Nat.beq i j && Nat.beq o q
 | .sl i o n c, .sl j q m d => Nat.beq i j && Nat.beq o q && Nat.beq n m && Nat.beq c d
 | .su i o n c e, .su j q m d f => Nat.beq i j && Nat.beq o q && Nat.beq n m && Nat.beq c d && Nat.beq e f
 | .se, .se => true
 | .s0, .s0 => true
 | .mp i, .mp j => Nat.beq i j
 | .agg l, .agg m => sameAs l m
 | .tup l, .tup m => sameAs l m
 | .fn f l m, .fn g l' m' => decide (f = g) && sameAs l l' && sameAs m m'
 | .yl i, .yl j => Nat.beq i j
 | .ifc t x, .ifc u y => Nat.beq t u && sameA x y
 | _, _ => false
def sameAs : List AV → List AV → Bool
 | [], [] => true
 | x :: l, y :: m => sameA x y && sameAs l m
 | _, _ => false
end
inductive AItem where
 | code (c : Code)
 | inBlock (id : Nat)
 | inLoop (body : Code)
 | inScope (body : Code)
 | inRF (i : Nat)
 | endRF (i : Nat)
 | beginRound
inductive ARg where
 | no
 | pl (ops : Array Oper) (l : List Oper)
 | dr (ops : Array Oper) (D : Nat) (X : Tr AV) (T0 : Tr AV) (lds : List (Nat × TypeId × AV × AV)) (cur : Option Nat)
structure AFr where
 fn : FuncId
 nt : Nat
 T : Tr AV
 rg : ARg
 todo : List AItem
 ds : List Nat
 ret : Bool
 round : Option Nat
 lo : Nat
structure ASt where
 fr : AFr
 cs : List AFr
 H : Tr AB
 n : Nat
def putT (nt : Nat) (T : Tr AV) (d : Option Tmp) (x : AV) : Tr AV :=
 match d with
 | some d => cond (Nat.blt d nt) (tput T d x) T
 | none => T
def wantedA (T : Tr AV) (dstOf : Nat → Option Tmp) (o : Oper) : Bool :=
 match o.guard with
 | none => true
 | some (j, want) => match dstOf j with
   | some d => match At T d with
     | .v (.bool b) => cond b want (!want)
     | _ => false
   | none => false
def dstIn (l : List Oper) (j : Nat) : Option Tmp := match l[j]? with | some o => o.dst | none => none
/-! Regions that draw their order. -/
def predMask (o : Oper) : Nat := o.after.toList.foldl (fun m e => cond (Region.binds .any e) (m ||| 2 ^ e.on) m) 0
def ancOf (an : Tr Nat) (o : Oper) : Nat := o.after.toList.foldl (fun m e => cond (Region.binds .any e) (m ||| (2 ^ e.on ||| (match an.get e.on with | some k => k | none => 0))) m) 0
def ancL : List Oper → Nat → Tr Nat → Tr Nat
 | [], _, an => an
 | o :: l, y, an => ancL l (y + 1) (tput an y (ancOf an o))
def writersL : List Oper → Nat → Tr Nat → Option (Tr Nat)
 | [], _, W => some W
 | o :: l, y, W => match o.dst with
   | none => writersL l (y + 1) W
   | some d => match W.get d with
     | some _ => none
     | none => writersL l (y + 1) (tput W d y)
def edgesBelow (o : Oper) (y : Nat) : Bool := o.after.toList.all fun e => cond (Region.binds .any e) (Nat.blt e.on y) true
def slotsOf (o : Oper) : List Tmp := o.op.operands.toList.filterMap fun | .tmp t => some t | _ => none
def guardSlot (dstOf : Nat → Option Tmp) (o : Oper) : List Tmp := match o.guard with | some (g, _) => (match dstOf g with | some d => [d] | none => []) | none => []
def anBit (an : Tr Nat) (y i : Nat) : Bool := Nat.testBit (match an.get y with | some k => k | none => 0) i
def slotOk (an W : Tr Nat) (y : Nat) (s : Tmp) : Bool :=
 match W.get s with
 | none => true
 | some i => Nat.beq i y || anBit an y i || anBit an i y
def plainOp (o : Oper) : Bool := match o.op with | .defer _ => false | .select .. => false | .go _ => false | _ => true
def scL (all : List Oper) (an W : Tr Nat) : List Oper → Nat → Bool
 | [], _ => true
 | o :: l, y => edgesBelow o y && plainOp o && ((slotsOf o).all (slotOk an W y)) && ((guardSlot (dstIn all) o).all (slotOk an W y)) && scL all an W l (y + 1)
def scOk (l : List Oper) : Bool :=
 match writersL l 0 .e with
 | some W => scL l (ancL l 0 .e) W l 0
 | none => false
def readyL (D : Nat) : List Oper → Nat → List (Nat × Oper)
 | [], _ => []
 | o :: l, y => cond (Nat.testBit D y) (readyL D l (y + 1)) (let m := predMask o; cond (Nat.beq (m &&& D) m) ((y, o) :: readyL D l (y + 1)) (readyL D l (y + 1)))
def rdOf (T : Tr AV) (o : Oper) : Option (TypeId × AV) :=
 match o.op with
 | .load t a => match aev T a with
   | .ptr i k => some (t, .ptr i k)
   | _ => none
 | .convert s d x => cond (Nat.blt d 65536) (some (s * 65536 + d, .tup [aev T x])) none
 | .lookup t m k ok => some (t * 2 + cond ok 1 0, .agg [aev T m, aev T k])
 | _ => none
def readA (P : Program) (t : TypeId) (p : AV) (H : Tr AB) : Option AV :=
 match p with
 | .ptr i k => loadA P t (.ptr i k) H
 | .tup [x] => strA P (t / 65536) (t % 65536) x H
 | .agg [m, k] => lookupA P (t / 2) m k (Nat.beq (t % 2) 1) H
 | _ => none
theorem rd_div (s d : Nat) (h : d < 65536) : (s * 65536 + d) / 65536 = s := by omega
theorem rd_mod (s d : Nat) (h : d < 65536) : (s * 65536 + d) % 65536 = d := by omega
theorem rd_two (s : Nat) (b : Bool) : (s * 2 + cond b 1 0) / 2 = s := by cases b <;> simp only [cond_true, cond_false] <;> omega
theorem rd_ok (s : Nat) (b : Bool) : Nat.beq ((s * 2 + cond b 1 0) % 2) 1 = b := by
 cases b
 · have : (s * 2 + 0) % 2 = 0 := by omega
   simp only [cond_false, this]; rfl
 · have : (s * 2 + 1) % 2 = 1 := by omega
   simp only [cond_true, this]; rfl
theorem readA_sound {P : Program} {w0 : Bs} {w : World} {ρ : Env} {H : Tr AB} {n : Nat} {T : Tr AV} {o : Oper} {t : TypeId} {p x : AV} {ev : Operand → Value} (hr : HR w0 ρ H n w) (h : rdOf T o = some (t, p)) (hx : readA P t p H = some x) (hev : ∀ y ∈ o.op.operands, VR ρ (aev T y) (ev y)) :
   ∃ v, VR ρ x v ∧ (execOp ev o).run P w = .ok (.value v) w := by
 obtain ⟨dst, op, type, pos, after, guard⟩ := o
 unfold rdOf at h
 split at h
 · rename_i t' a hop
   simp only at hop
   subst hop
   split at h
   · rename_i i k ha
     cases h
     obtain ⟨v, hv, hrun⟩ := loadA_sound hr (show loadA P t (.ptr i k) H = some x from hx) (by rw [← ha]; exact hev a (by simp [Op.operands]))
     exact ⟨v, hv, by unfold execOp; simp only [Sem.run_bind, hrun, Result.andThen_ok, Sem.run_pure]⟩
   · cases h
 · rename_i s d y hop
   simp only at hop
   subst hop
   cases hd : Nat.blt d 65536 with
   | false => rw [hd] at h; cases h
   | true =>
     rw [hd] at h
     cases h
     have hd' : d < 65536 := by simpa [Nat.blt_eq] using hd
     have e1 : (s * 65536 + d) / 65536 = s := rd_div s d hd'
     have e2 : (s * 65536 + d) % 65536 = d := rd_mod s d hd'
     have hx' : strA P ((s * 65536 + d) / 65536) ((s * 65536 + d) % 65536) (aev T y) H = some x := hx
     rw [e1, e2] at hx'
     obtain ⟨v, hv, hrun⟩ := strA_sound hr hx' (hev y (by simp [Op.operands]))
     exact ⟨v, hv, by unfold execOp; simp [hrun]⟩
 · rename_i t' m k ok hop
   simp only at hop
   subst hop
   cases h
   have hx' : lookupA P ((t' * 2 + cond ok 1 0) / 2) (aev T m) (aev T k) (Nat.beq ((t' * 2 + cond ok 1 0) % 2) 1) H = some x := hx
   have e1 : (t' * 2 + cond ok 1 0) / 2 = t' := rd_two t' ok
   have e2 : Nat.beq ((t' * 2 + cond ok 1 0) % 2) 1 = ok := rd_ok t' ok
   rw [e1, e2] at hx'
   obtain ⟨v, hv, hrun⟩ := lookupA_sound hr hx' (hev m (by simp [Op.operands])) (hev k (by simp [Op.operands]))
   exact ⟨v, hv, by unfold execOp; simp [hrun]⟩
 · cases h
theorem readA_of {P : Program} {H H' : Tr AB} {t : TypeId} {p x : AV} (h : ∀ i T z l, H.get i = some (.mem T z l) → H'.get i = some (.mem T z l)) (hm : ∀ i l c, H.get i = some (.map l c) → H'.get i = some (.map l c)) (hl : readA P t p H = some x) : readA P t p H' = some x := by
 have ld : ∀ i k, loadA P t (.ptr i k) H = some x → loadA P t (.ptr i k) H' = some x := by
   intro i k hq
   simp only [loadA] at hq ⊢
   cases hB : H.get i with
   | none => rw [hB] at hq; cases hq
   | some B =>
     rw [hB] at hq
     cases B with
     | mem T z l => rw [h _ _ _ _ hB]; exact hq
     | _ => cases hq
 have st : ∀ s d y, strA P s d y H = some x → strA P s d y H' = some x := by
   intro s d y hq
   have tk : ∀ n l, takeU n y H = some l → takeU n y H' = some l := by
     intro n l ht
     unfold takeU at ht ⊢
     split at ht
     · split at ht
       · rename_i hB; rw [h _ _ _ _ hB]; exact ht
       · cases ht
     · split at ht
       · rename_i hB; rw [h _ _ _ _ hB]; exact ht
       · cases ht
     · exact ht
   unfold strA at hq ⊢
   split at hq
   · split at hq
     · rename_i he ht
       simp only [he, tk _ _ ht]
       exact hq
     · cases hq
   · cases hq
 have lk : ∀ t m k ok, lookupA P t m k ok H = some x → lookupA P t m k ok H' = some x := by
   intro t m k ok hq
   have en : ∀ l, entsA m H = some l → entsA m H' = some l := by
     intro l ht
     unfold entsA at ht ⊢
     split at ht
     · exact ht
     · split at ht
       · rename_i hB; rw [hm _ _ _ hB]; exact ht
       · cases ht
     · cases ht
   unfold lookupA at hq ⊢
   split at hq
   · rename_i h1 h2 h3
     simp only [h1, h2, en _ h3]
     exact hq
   · cases hq
 unfold readA at hl ⊢
 split at hl
 · exact ld _ _ hl
 · exact st _ _ _ hl
 · exact lk _ _ _ _ hl
 · cases hl
def eagerA (P : Program) (T : Tr AV) (all : List Oper) (o : Oper) (H : Tr AB) (n : Nat) : Option (AV × Tr AB × Nat × Option (TypeId × AV × AV)) :=
 cond (wantedA T (dstIn all) o)
   (match aopP P T o with
    | some x => some (x, H, n, none)
    | none => match rdOf T o with
      | some (t, p) => match readA P t p H with
        | some x => some (x, H, n, some (t, p, x))
        | none => none
      | none => match aopN P T o with
        | some (e, l, k) => some (k.av n, tput H n (.mem e none l), n + 1, none)
        | none => none)
   (some (.v undef, H, n, none))
def firstEager (P : Program) (T : Tr AV) (all : List Oper) (H : Tr AB) (n : Nat) : List (Nat × Oper) → Option (Nat × Oper × AV × Tr AB × Nat × Option (TypeId × AV × AV))
 | [] => none
 | (y, o) :: r => match eagerA P T all o H n with
   | some (x, H', n', l) => some (y, o, x, H', n', l)
   | none => firstEager P T all H n r
def ldsOk (P : Program) (H : Tr AB) (l : List (Nat × TypeId × AV × AV)) : Bool :=
 l.all fun p => match readA P p.2.1 p.2.2.1 H with | some x => sameA x p.2.2.2 | none => false
def ldsFor (all : List Oper) (y : Nat) (l : List (Nat × TypeId × AV × AV)) : List (Nat × TypeId × AV × AV) :=
 l.filter fun p => !(anBit (ancL all 0 .e) y p.1)
def addLd (y : Nat) (q : Option (TypeId × AV × AV)) (l : List (Nat × TypeId × AV × AV)) : List (Nat × TypeId × AV × AV) :=
 match q with
 | some p => (y, p) :: l
 | none => l
def finishA (P : Program) (H : Tr AB) (c : AFr) (x : AV) : Option AFr :=
 match c.rg with
 | .pl ops (o :: r) => some { c with T := putT c.nt c.T o.dst x, rg := .pl ops r }
 | .dr ops D X T0 lds (some y) =>
   match ops.toList[y]? with
   | some o => cond (ldsOk P H lds) (some { c with T := putT c.nt c.T o.dst x, rg := .dr ops (D ||| 2 ^ y) (tput X y x) T0 lds none }) none
   | none => none
 | .no => match c.todo with
   | .inRF i :: k => some { c with todo := .endRF i :: k }
   | _ => none
 | _ => none
def aexit (id : Nat) : List AItem → Option (List AItem)
 | .inBlock j :: k => cond (Nat.beq j id) (some k) (aexit id k)
 | _ :: k => aexit id k
 | [] => none
def methodA (P : Program) (t : TypeId) (name : String) : Option FuncId :=
 match P.info? t with
 | some inf => match inf.methods.find? (·.name == name) with
   | some m => match m.path.toList, m.func, P.underlying t with
     | [], some (f, true), some (.pointer _) => some f
     | [], some (_, false), some (.pointer _) => none
     | [], some (f, false), some _ => some f
     | _, _, _ => none
   | none => none
 | none => none
inductive Callee' where
 | fn (f : FuncId) (args : List AV)
 | yl (i : Nat) (args : List AV)
def calleeOf (_P : Program) (f : AV) (args : List AV) : Option Callee' :=
 match f with
 | .fn (.func g) first cap => some (.fn g (first ++ args ++ cap))
 | .yl i => some (.yl i args)
 | _ => none
def callOf (P : Program) (T : Tr AV) (o : Oper) : Option Callee' :=
 match o.op with
 | .call ⟨.value f, args, _⟩ => calleeOf P (aev T f) (args.toList.map (aev T))
 | .call ⟨.invoke r name, args, _⟩ => match aev T r with
   | .ifc t x => match methodA P t name with
     | some g => some (.fn g (x :: args.toList.map (aev T)))
     | none => none
   | _ => none
 | _ => none
def argsT : List AV → Nat → Tr AV → Tr AV
 | [], _, T => T
 | x :: l, s, T => argsT l (s + 1) (tput T s x)
def putParams (nt : Nat) : List Tmp → List AV → Tr AV → Tr AV
 | p :: ps, x :: xs, T => putParams nt ps xs (putT nt T (some p) x)
 | _, _, T => T
def enterA (FT : FuncId → Option Func) (fr : AFr) (s : ASt) (c : Callee') : Option ASt :=
 match c with
 | .fn f args => match FT f with
   | some fn => match fn.body with
     | some b => some { s with fr := { fn := f, nt := cond (Nat.ble fn.ntmps args.length) args.length fn.ntmps, T := argsT args 0 .e, rg := .no, todo := [.code b], ds := [], ret := false, round := none, lo := s.n }, cs := fr :: s.cs }
     | none => none
   | none => none
 | .yl i args => match s.H.get i with
   | some (.loop _ _ fn nt T ps asg bd _) =>
     cond (Nat.beq args.length ps.length)
       (some { s with fr := { fn := fn, nt := nt, T := putParams nt ps args T, rg := .no, todo := [.code asg, .beginRound, .code bd], ds := [], ret := false, round := some i, lo := s.n }, cs := fr :: s.cs }) none
   | _ => none
def backA (P : Program) (s : ASt) (x : AV) : Option ASt :=
 match s.cs with
 | c :: cs => match finishA P s.H c x with
   | some c' => some { s with fr := c', cs := cs }
   | none => none
 | [] => none
def stOf : Option Code → LoopState
 | none => .ready
 | some _ => .done
def goesOn : Option Code → Bool
 | none => true
 | some _ => false
def leaveA (P : Program) (s : ASt) (jump : Option Code) : Option ASt :=
 match s.fr.round with
 | none => match jump with
   | none => some { s with fr := { s.fr with ret := true } }
   | some .ret => some { s with fr := { s.fr with ret := true } }
   | _ => none
 | some l => match s.H.get l with
   | some (.loop _ _ fn nt T ps asg bd d) =>
     backA P { s with H := tput s.H l (.loop (stOf jump) jump fn nt T ps asg bd d) } (.v (.bool (goesOn jump)))
   | _ => none
def resA (P : Program) (T : Tr AV) (H : Tr AB) : List ResultVar → Option (List AV)
 | [] => some []
 | .tmp t :: l => match resA P T H l with | some r => some (At T t :: r) | none => none
 | .cell a t :: l => match At T a with
   | .ptr i o => match loadA P t (.ptr i o) H, resA P T H l with
     | some x, some r => some (x :: r)
     | _, _ => none
   | _ => none
def tupA : List AV → AV
 | [x] => x
 | l => .tup l
abbrev Hook := FuncId → List AV → Tr AB → Nat → Option (AV × Tr AB × Nat)
def hooked (HK : Hook) (P : Program) (T : Tr AV) (o : Oper) (H : Tr AB) (n : Nat) : Option (AV × Tr AB × Nat) :=
 match callOf P T o with
 | some (.fn f args) => HK f args H n
 | _ => none
def nowA (HK : Hook) (P : Program) (T : Tr AV) (o : Oper) (H : Tr AB) (n : Nat) : Option (AV × Tr AB × Nat) :=
 match aopW P T o H n with
 | some r => some r
 | none => hooked HK P T o H n
def stepPl (HK : Hook) (P : Program) (FT : FuncId → Option Func) (s : ASt) (ops : Array Oper) (o : Oper) (r : List Oper) : Option ASt :=
 let fr := s.fr
 let done (x : AV) (H : Tr AB) (n : Nat) : Option ASt := some { s with fr := { fr with T := putT fr.nt fr.T o.dst x, rg := .pl ops r }, H := H, n := n }
 cond (plainOp o) (cond (wantedA fr.T (dstIn ops.toList) o)
   (match aopP P fr.T o with
    | some x => done x s.H s.n
    | none => match o.op with
      | .load t a => match loadA P t (aev fr.T a) s.H with
        | some x => done x s.H s.n
        | none => none
      | _ => match aopN P fr.T o with
        | some (e, l, k) => done (k.av s.n) (tput s.H s.n (.mem e none l)) (s.n + 1)
        | none => match nowA HK P fr.T o s.H s.n with
          | some (x, H, n) => done x H n
          | none => match callOf P fr.T o with
            | some c => enterA FT fr s c
            | none => none)
   (done (.v undef) s.H s.n)) none
def stepDr (HK : Hook) (P : Program) (FT : FuncId → Option Func) (s : ASt) (ops : Array Oper) (D : Nat) (X T0 : Tr AV) (lds : List (Nat × TypeId × AV × AV)) : Option ASt :=
 let fr := s.fr
 let all := ops.toList
 match readyL D all 0 with
 | [] => some { s with fr := { fr with rg := .no } }
 | rs => match firstEager P fr.T all s.H s.n rs with
   | some (y, o, x, H, n, l) => some { s with fr := { fr with T := putT fr.nt fr.T o.dst x, rg := .dr ops (D ||| 2 ^ y) (tput X y x) T0 (addLd y l lds) none }, H := H, n := n }
   | none => match rs with
     | [(y, o)] => match nowA HK P fr.T o s.H s.n with
       | some (x, H, n) => cond (ldsOk P H (ldsFor all y lds)) (some { s with fr := { fr with T := putT fr.nt fr.T o.dst x, rg := .dr ops (D ||| 2 ^ y) (tput X y x) T0 (ldsFor all y lds) none }, H := H, n := n }) none
       | none => match callOf P fr.T o with
         | some c => enterA FT { fr with rg := .dr ops D X T0 (ldsFor all y lds) (some y) } s c
         | none => none
     | _ => none
def loopHome (s : ASt) : Option (Nat × Tr AB × Nat × List Nat) :=
 match s.fr.round with
 | none => some (s.n, tput s.H s.n (.dfd true), s.n + 1, s.n :: s.fr.ds)
 | some l => match s.H.get l with
   | some (.loop _ _ _ _ _ _ _ _ d) => some (d, s.H, s.n, s.fr.ds)
   | _ => none
def stepCode (P : Program) (FT : FuncId → Option Func) (s : ASt) (c : Code) (k : List AItem) : Option ASt :=
 let fr := s.fr
 let tto (l : List AItem) : Option ASt := some { s with fr := { fr with todo := l } }
 match c with
 | .ret => leaveA P s (some .ret)
 | .skip => tto k
 | .label _ => tto k
 | .seq a b => tto (.code a :: .code b :: k)
 | .cond x a b => match aev fr.T x with
   | .v (.bool t) => tto (.code (cond t a b) :: k)
   | _ => none
 | .block id body => tto (.code body :: .inBlock id :: k)
 | .loop body => tto (.code body :: .inLoop body :: k)
 | .scope body => tto (.code body :: .inScope body :: k)
 | .exit id => match aexit id k with
   | some l => tto l
   | none => leaveA P s (some (.exit id))
 | .goto _ => none
 | .refuse _ => none
 | .region _ ops draw => cond draw
     (cond (scOk ops.toList) (some { s with fr := { fr with todo := k, rg := .dr ops 0 .e fr.T [] none } }) none)
     (some { s with fr := { fr with todo := k, rg := .pl ops ops.toList } })
 | .rangeFunc f ps asg bd =>
   match loopHome s with
   | some (d, H, n, ds) =>
     match calleeOf P (aev fr.T f) [.yl n] with
     | some c => enterA FT { fr with todo := .inRF n :: k, ds := ds } { s with H := tput H n (.loop .ready none fr.fn fr.nt fr.T ps.toList asg bd d), n := n + 1 } c
     | none => none
   | none => none
def stepRet (P : Program) (FT : FuncId → Option Func) (s : ASt) : Option ASt :=
 match s.fr.ds with
 | d :: ds => match s.H.get d with
   | some (.dfd true) => some { s with fr := { s.fr with ds := ds }, H := tput s.H d (.dfd false) }
   | _ => none
 | [] => match s.fr.rg with
   | .dr .. => none
   | _ => match FT s.fr.fn with
     | some fn => match resA P s.fr.T s.H fn.results.toList with
       | some l => backA P s (tupA l)
       | none => none
     | none => none
def pendItems : Option Code → List AItem
 | some c => [.code c]
 | none => []
def endA (s : ASt) (i : Nat) (k : List AItem) : Option ASt :=
 match s.H.get i with
 | some (.loop st pd fn nt T ps asg bd d) => match st with
   | .busy => none
   | _ => some { s with fr := { s.fr with todo := pendItems pd ++ k }, H := tput s.H i (.loop .exhausted pd fn nt T ps asg bd d) }
 | _ => none
def beginA (s : ASt) (i : Nat) (k : List AItem) : Option ASt :=
 match s.H.get i with
 | some (.loop .ready pd fn nt T ps asg bd d) => some { s with fr := { s.fr with todo := k }, H := tput s.H i (.loop .busy pd fn nt T ps asg bd d) }
 | _ => none
def stepPlEnd (s : ASt) : Option ASt := some { s with fr := { s.fr with rg := .no } }
def stepItem (P : Program) (FT : FuncId → Option Func) (s : ASt) : Option ASt :=
 match s.fr.todo with
 | [] => leaveA P s none
 | .code c :: k => stepCode P FT s c k
 | .inBlock _ :: k => some { s with fr := { s.fr with todo := k } }
 | .inScope _ :: k => some { s with fr := { s.fr with todo := k } }
 | .inLoop body :: k => some { s with fr := { s.fr with todo := .code body :: .inLoop body :: k } }
 | .inRF _ :: _ => none
 | .endRF i :: k => endA s i k
 | .beginRound :: k => match s.fr.round with
   | some i => beginA s i k
   | none => none
def stepE (HK : Hook) (P : Program) (FT : FuncId → Option Func) (s : ASt) : Option ASt :=
 cond s.fr.ret (stepRet P FT s)
   (match s.fr.rg with
    | .pl ops (o :: r) => stepPl HK P FT s ops o r
    | .pl _ [] => stepPlEnd s
    | .dr ops D X T0 lds none => stepDr HK P FT s ops D X T0 lds
    | .dr _ _ _ _ _ (some _) => none
    | .no => stepItem P FT s)
def runE (HK : Hook) (P : Program) (FT : FuncId → Option Func) : Nat → ASt → ASt
 | 0, s => s
 | k + 1, s => match stepE HK P FT s with
   | some s' => runE HK P FT k s'
   | none => s
def startE (FT : FuncId → Option Func) (f : FuncId) : Option ASt :=
 match FT f with
 | some fn => match fn.body with
   | some b => some { fr := { fn := f, nt := fn.ntmps, T := .e, rg := .no, todo := [.code b], ds := [], ret := false, round := none, lo := 0 }, cs := [], H := .e, n := 0 }
   | none => none
 | none => none
def finalE (P : Program) (FT : FuncId → Option Func) (f : FuncId) (s : ASt) : Option AV :=
 match s.cs, s.fr.ret, s.fr.ds, s.fr.rg, FT s.fr.fn with
 | [], true, [], .no, some fn => cond (Nat.beq s.fr.fn f) (match resA P s.fr.T s.H fn.results.toList with
   | some l => some (tupA l)
   | none => none) none
 | _, _, _, _, _ => none
end
noncomputable section
/-! The model's steps. -/
section steps
variable {P : Program} {fr : Frame} {cs : List Frame} {w w' : World} {ops : Array Oper} {i : Nat} {rest : List Nat} {k : List Item} {o : Oper}
theorem plainOp_spec (h : plainOp o = true) : (∀ c, o.op ≠ .defer c) ∧ (∀ a b, o.op ≠ .select a b) := by
 unfold plainOp at h
 constructor
 · intro c e; rw [e] at h; cases h
 · intro a b e; rw [e] at h; cases h
theorem stepG_oper (ht : fr.todo = .inRegion ops (i :: rest) :: k) (hm : fr.mode = .run) (ho : ops[i]? = some o) (hw : Region.wanted o (yielded ops fr.tmps) = true) (hp : plainOp o = true) :
   stepG P true { frame := fr, callers := cs, status := .running, dying := none } w = stepG.apply P true fr cs none (execOp fr.eval o) w := by
 have hd := (plainOp_spec hp).1
 obtain ⟨fn, tmps, todo, defers, mode, kind, ro⟩ := fr
 simp only at ht hm hw
 subst ht hm
 cases ro with
 | none => simp [stepG, stepG.exec, stepG.oper, Frame.oper?, ho, hw]
 | some l =>
   have : ∀ {α : Type} (f : Call → α) (g : α), (match o.op with | .defer c => f c | _ => g) = g := by
     intro α f g
     split
     · rename_i c e; exact absurd e (hd c)
     · rfl
   simp only [stepG, stepG.exec, ho, Option.map_some, Option.getD_some, hw, if_true, stepG.oper, Frame.oper?]
   split
   · rename_i _ c _ e; exact absurd e (hd c)
   · rfl
theorem step_value {s : Sem Next} {v : Value} (hg : stepG P true { frame := fr, callers := cs, status := .running, dying := none } w = stepG.apply P true fr cs none s w) (hr : s.run P w = .ok (.value v) w') :
   step P (lone fr cs w) = .next (lone (fr.finish v) cs w') := step_lone_go (by rw [hg]; simp [stepG.apply, hr])
theorem step_skip' {s : Sem Next} (hg : stepG P true { frame := fr, callers := cs, status := .running, dying := none } w = stepG.apply P true fr cs none s w) (hr : s.run P w = .ok .skip w') :
   step P (lone fr cs w) = .next (lone (fr.finish undef) cs w') := step_lone_go (by rw [hg]; simp [stepG.apply, hr])
theorem step_enter {s : Sem Next} {f : FuncId} {args : Array Value} (hc : ∀ d x y z r, fr.todo ≠ .call d x y z :: r) (hg : stepG P true { frame := fr, callers := cs, status := .running, dying := none } w = stepG.apply P true fr cs none s w) (hr : s.run P w = .ok (.enter f args) w') :
   step P (lone fr cs w) = .next (lone (Frame.enter P f args .normal) (fr :: cs) w') := step_lone_go (by
     rw [hg]
     have : (match fr.todo with | .call _ true _ _ :: _ => CallKind.wrapped | _ => .normal) = .normal := by
       split
       · rename_i e; exact absurd e (hc _ _ _ _ _)
       · rfl
     simp [stepG.apply, hr]
     exact congrArg (Frame.enter P f args) this)
theorem step_unwanted (ht : fr.todo = .inRegion ops (i :: rest) :: k) (hm : fr.mode = .run) (hw : ((ops[i]?).map (Region.wanted · (yielded ops fr.tmps))).getD false = false) :
   step P (lone fr cs w) = .next (lone (fr.finish undef) cs w) := by
 obtain ⟨fn, tmps, todo, defers, mode, kind, ro⟩ := fr
 simp only at ht hm hw
 subst ht hm
 exact step_lone_go (by simp [stepG, stepG.exec, hw])
theorem step_todo {fr' : Frame} (hm : fr.mode = .run) (h : stepG.exec P true true fr cs none w = .go { frame := fr', callers := cs, status := .running, dying := none } w') : step P (lone fr cs w) = .next (lone fr' cs w') := by
 obtain ⟨fn, tmps, todo, defers, mode, kind, ro⟩ := fr
 simp only at hm
 subst hm
 exact step_lone_go (by simp [stepG, h])
end steps
/-! Frames. -/
inductive IR (ρ : Env) : AItem → Item → Prop
 | code (c : Code) : IR ρ (.code c) (.code c)
 | inBlock (id : Nat) : IR ρ (.inBlock id) (.inBlock id)
 | inLoop (c : Code) : IR ρ (.inLoop c) (.inLoop c)
 | inScope (c : Code) : IR ρ (.inScope c) (.inScope c)
 | inRF {i b c : Nat} (h : ρ i = some (b, c)) : IR ρ (.inRF i) (.inRangeFunc b)
 | endRF {i b c : Nat} (h : ρ i = some (b, c)) : IR ρ (.endRF i) (.endRangeFunc b)
 | beginRound : IR ρ .beginRound .beginRound
inductive IRs (ρ : Env) : List AItem → List Item → Prop
 | nil : IRs ρ [] []
 | cons {x : AItem} {y : Item} {l : List AItem} {m : List Item} (h : IR ρ x y) (t : IRs ρ l m) : IRs ρ (x :: l) (y :: m)
theorem IR.mono {ρ ρ' : Env} (h : ρ.le ρ') {x : AItem} {y : Item} (k : IR ρ x y) : IR ρ' x y := by
 cases k with
 | inRF e => exact .inRF (h _ _ e)
 | endRF e => exact .endRF (h _ _ e)
 | code => exact .code _
 | inBlock => exact .inBlock _
 | inLoop => exact .inLoop _
 | inScope => exact .inScope _
 | beginRound => exact .beginRound
theorem IRs.mono {ρ ρ' : Env} (h : ρ.le ρ') {l : List AItem} {m : List Item} (k : IRs ρ l m) : IRs ρ' l m := by
 induction k with
 | nil => exact .nil
 | cons a _ ih => exact .cons (a.mono h) ih
theorem aexit_sound {ρ : Env} {id : Nat} {l l' : List AItem} {m : List Item} (h : IRs ρ l m) : (aexit id l = some l' → ∃ m', exitTo id m = some m' ∧ IRs ρ l' m') ∧ (aexit id l = none → exitTo id m = none) := by
 induction h with
 | nil => exact ⟨fun h => by simp [aexit] at h, fun _ => rfl⟩
 | @cons x y l m a t ih =>
   cases a with
   | inBlock j =>
     simp only [aexit, exitTo, beq_dec]
     by_cases e : j = id
     · subst e; simp; intro e; subst e; exact t
     · have : (j == id) = false := by simpa using e
       simp only [e, decide_false, cond_false, this, Bool.false_eq_true, if_false]; exact ih
   | code => simpa [aexit, exitTo] using ih
   | inLoop => simpa [aexit, exitTo] using ih
   | inScope => simpa [aexit, exitTo] using ih
   | inRF => simpa [aexit, exitTo] using ih
   | endRF => simpa [aexit, exitTo] using ih
   | beginRound => simpa [aexit, exitTo] using ih
inductive DsR (ρ : Env) : List Nat → List Deferred → Prop
 | nil : DsR ρ [] []
 | cons {i b c : Nat} {l : List Nat} {m : List Deferred} (h : ρ i = some (b, c)) (t : DsR ρ l m) : DsR ρ (i :: l) ({ target := .collected b, args := #[] } :: m)
theorem DsR.mono {ρ ρ' : Env} (h : ρ.le ρ') {l : List Nat} {m : List Deferred} (k : DsR ρ l m) : DsR ρ' l m := by
 induction k with
 | nil => exact .nil
 | cons a _ ih => exact .cons (h _ _ a) ih
def RoR (ρ : Env) (x y : Option Nat) : Prop := (x = none ∧ y = none) ∨ ∃ i b c, x = some i ∧ y = some b ∧ ρ i = some (b, c)
theorem RoR.mono {ρ ρ' : Env} (h : ρ.le ρ') {x y : Option Nat} (k : RoR ρ x y) : RoR ρ' x y := by
 rcases k with k | ⟨i, b, c, h1, h2, h3⟩
 · exact .inl k
 · exact .inr ⟨i, b, c, h1, h2, h _ _ h3⟩
def PlR (ops : Array Oper) (l : List Oper) (rest : List Nat) : Prop := ∃ k, rest = List.range' k l.length ∧ ∀ j, l[j]? = ops[k + j]?
theorem PlR.start (ops : Array Oper) : PlR ops ops.toList (List.range ops.size) := ⟨0, by rw [List.range_eq_range']; simp, fun j => by simp⟩
theorem PlR.head {ops : Array Oper} {o : Oper} {l : List Oper} {rest : List Nat} (h : PlR ops (o :: l) rest) : ∃ i r, rest = i :: r ∧ ops[i]? = some o ∧ PlR ops l r := by
 obtain ⟨k, h1, h2⟩ := h
 refine ⟨k, _, by rw [h1]; simp [List.range'_succ], by simpa using (h2 0).symm, k + 1, rfl, fun j => by have := h2 (j + 1); simpa [Nat.add_assoc, Nat.add_comm 1 j] using this⟩
theorem PlR.nil {ops : Array Oper} {rest : List Nat} (h : PlR ops [] rest) : rest = [] := by
 obtain ⟨k, h1, _⟩ := h
 simpa using h1
theorem TR.ev {ρ : Env} {n : Nat} {T : Tr AV} {fr : Frame} (h : TR ρ n T fr.tmps) (y : Operand) : VR ρ (aev T y) (fr.eval y) := by
 cases y with
 | tmp t => exact h.2 t
 | const x => exact ofV_VR x
 | global g => exact .v _
 | func f => simpa [aev, Frame.eval] using VR.fn (.func f) (VRs.nil (ρ := ρ)) VRs.nil
theorem At_tput (T : Tr AV) (d : Nat) (x : AV) (s : Nat) : At (tput T d x) s = if s = d then x else At T s := by
 unfold At
 rw [get_tput]
 by_cases h : s = d <;> simp [h]
theorem getD_set (ts : Array Value) (d : Nat) (v : Value) (s : Nat) (hd : d < ts.size) : (ts.setIfInBounds d v).getD s undef = if s = d then v else ts.getD s undef := by
 by_cases h : s = d
 · subst h; simp [hd]
 · have : d ≠ s := fun e => h e.symm
   simp only [if_neg h, Array.getD_eq_getD_getElem?, Array.getElem?_setIfInBounds_ne this]
theorem TR.put {ρ : Env} {n : Nat} {T : Tr AV} {ts : Array Value} (h : TR ρ n T ts) {d : Option Tmp} {x : AV} {v : Value} (hx : VR ρ x v) :
   TR ρ n (putT n T d x) (match d with | some d => ts.setIfInBounds d v | none => ts) := by
 cases d with
 | none => exact h
 | some d =>
   simp only [putT]
   cases hb : Nat.blt d n with
   | true =>
     have hd : d < ts.size := by rw [h.1]; simpa [Nat.blt_eq] using hb
     refine ⟨by simp [h.1], fun s => ?_⟩
     simp only [cond_true]
     rw [At_tput, getD_set _ _ _ _ hd]
     by_cases e : s = d
     · rw [if_pos e, if_pos e]; exact hx
     · rw [if_neg e, if_neg e]; exact h.2 s
   | false =>
     have hd : ¬ d < ts.size := by
       rw [h.1]; intro hlt
       have : Nat.blt d n = true := by rw [Nat.blt_eq]; exact hlt
       rw [hb] at this; cases this
     have : ts.setIfInBounds d v = ts := by simp [Array.setIfInBounds, hd]
     simp only [cond_false, this]
     exact h
theorem wantedA_sound {ρ : Env} {T : Tr AV} {ts : Array Value} {ops : Array Oper} {o : Oper} (hg : ∀ d ∈ guardSlot (dstIn ops.toList) o, VR ρ (At T d) (ts.getD d undef)) : Region.wanted o (yielded ops ts) = wantedA T (dstIn ops.toList) o := by
 unfold Region.wanted wantedA
 cases hgd : o.guard with
 | none => rfl
 | some jw =>
   obtain ⟨j, want⟩ := jw
   simp only
   have hdst : (ops[j]?).bind (·.dst) = dstIn ops.toList j := by
     unfold dstIn
     simp only [Array.getElem?_toList]
     cases ops[j]? <;> rfl
   unfold yielded
   rw [hdst]
   cases hd : dstIn ops.toList j with
   | none => simp
   | some d =>
     have hv := hg d (by simp [guardSlot, hgd, hd])
     simp only [Option.bind_some]
     by_cases hlt : d < ts.size
     · have he : ts[d]? = some (ts.getD d undef) := by simp [hlt]
       rw [he]
       generalize ts.getD d undef = u at hv
       generalize At T d = x at hv
       cases hv with
       | v =>
         cases u with
         | bool b => cases b <;> cases want <;> rfl
         | _ => rfl
       | _ => rfl
     · rw [Array.getElem?_eq_none (Nat.le_of_not_lt hlt)]
       have hu : ts.getD d undef = undef := by simp [Array.getD, hlt]
       rw [hu] at hv
       generalize At T d = x at hv
       cases hv with
       | v => simp [undef]
       | tup => simp
end
noncomputable section
theorem fold_or {α : Type} (b : α → Bool) (f : α → Nat) : ∀ (l : List α) (m i : Nat), Nat.testBit (l.foldl (fun m e => cond (b e) (m ||| f e) m) m) i = (Nat.testBit m i || l.any fun e => b e && Nat.testBit (f e) i)
 | [], m, i => by simp
 | e :: l, m, i => by
   rw [List.foldl_cons, fold_or b f l]
   cases hb : b e <;> simp [hb, Nat.testBit_or, Bool.or_assoc]
def Pred (l : List Oper) (y p : Nat) : Prop := ∃ o e, l[y]? = some o ∧ e ∈ o.after.toList ∧ Region.binds .any e = true ∧ e.on = p
def Below' (l : List Oper) : Prop := ∀ y o, l[y]? = some o → edgesBelow o y = true
theorem pred_lt {l : List Oper} (hE : Below' l) {y p : Nat} (h : Pred l y p) : p < y := by
 obtain ⟨o, e, ho, he, hb, rfl⟩ := h
 have := hE y o ho
 unfold edgesBelow at this
 rw [List.all_eq_true] at this
 have := this e he
 rw [hb] at this
 simpa [Nat.blt_eq] using this
theorem predMask_bit {l : List Oper} {y i : Nat} {o : Oper} (ho : l[y]? = some o) : Nat.testBit (predMask o) i = true ↔ Pred l y i := by
 unfold predMask
 rw [fold_or]
 simp only [Nat.zero_testBit, Bool.false_or, List.any_eq_true, Bool.and_eq_true, Nat.testBit_two_pow, decide_eq_true_eq]
 constructor
 · rintro ⟨e, he, hb, hi⟩; exact ⟨o, e, ho, he, hb, hi⟩
 · rintro ⟨o', e, ho', he, hb, hi⟩
   rw [ho] at ho'; cases ho'
   exact ⟨e, he, hb, hi⟩
theorem ancL_old : ∀ (l : List Oper) (k : Nat) (an : Tr Nat) (j : Nat), j < k ∨ k + l.length ≤ j → (ancL l k an).get j = an.get j
 | [], _, _, _, _ => rfl
 | o :: l, k, an, j, h => by
   unfold ancL
   rw [ancL_old l (k + 1) _ j (by simp at h; omega), get_tput, if_neg (by simp at h; omega)]
theorem ancOf_congr {an an' : Tr Nat} {o : Oper} (h : ∀ e ∈ o.after.toList, Region.binds .any e = true → an.get e.on = an'.get e.on) : ancOf an o = ancOf an' o := by
 have key : ∀ (L : List Edge) (m : Nat), (∀ e ∈ L, Region.binds .any e = true → an.get e.on = an'.get e.on) →
     L.foldl (fun m e => cond (Region.binds .any e) (m ||| (2 ^ e.on ||| (match an.get e.on with | some k => k | none => 0))) m) m = L.foldl (fun m e => cond (Region.binds .any e) (m ||| (2 ^ e.on ||| (match an'.get e.on with | some k => k | none => 0))) m) m := by
   intro L
   induction L with
   | nil => intro m _; rfl
   | cons e L ih =>
     intro m h
     simp only [List.foldl_cons]
     cases hb : Region.binds .any e with
     | false => simp only [cond_false]; exact ih _ (fun e' he' => h e' (by simp [he']))
     | true =>
       simp only [cond_true]
       rw [h e (by simp) hb]
       exact ih _ (fun e' he' => h e' (by simp [he']))
 exact key _ 0 h
theorem ancL_new : ∀ (l : List Oper) (k : Nat) (an : Tr Nat) (y : Nat) (o : Oper), l[y]? = some o → (∀ j o', l[j]? = some o' → edgesBelow o' (k + j) = true) → (ancL l k an).get (k + y) = some (ancOf (ancL l k an) o)
 | [], _, _, y, o, h, _ => by simp at h
 | o :: l, k, an, y, o', h, hE => by
   cases y with
   | zero =>
     simp at h; subst h
     unfold ancL
     show (ancL l (k + 1) (tput an k (ancOf an o))).get k = _
     rw [ancL_old l (k + 1) _ k (by omega), get_tput, if_pos rfl]
     congr 1
     refine ancOf_congr fun e he hb => ?_
     have := hE 0 o rfl
     unfold edgesBelow at this
     rw [List.all_eq_true] at this
     have := this e he
     rw [hb] at this
     have hlt : e.on < k := by simpa [Nat.blt_eq] using this
     rw [ancL_old l (k + 1) _ _ (by omega), get_tput, if_neg (by omega)]
   | succ y =>
     unfold ancL
     have := ancL_new l (k + 1) (tput an k (ancOf an o)) y o' (by simpa using h) (fun j o'' hj => by
       have := hE (j + 1) o'' (by simpa using hj)
       rwa [show k + (j + 1) = k + 1 + j by omega] at this)
     rwa [show k + (y + 1) = k + 1 + y by omega]
def ancB (l : List Oper) (y i : Nat) : Bool := anBit (ancL l 0 .e) y i
theorem ancB_spec {l : List Oper} (hE : Below' l) {y i : Nat} (h : ancB l y i = true) : ∃ p, Pred l y p ∧ (i = p ∨ ancB l p i = true) := by
 unfold ancB anBit at h
 cases ho : l[y]? with
 | none =>
   have hy : l.length ≤ y := by simpa using ho
   rw [ancL_old l 0 .e y (by omega)] at h
   simp [Tr.get_e] at h
 | some o =>
   have := ancL_new l 0 .e y o ho (fun j o' hj => by simpa using hE j o' hj)
   rw [Nat.zero_add] at this
   rw [this] at h
   simp only at h
   unfold ancOf at h
   rw [fold_or] at h
   simp only [Nat.zero_testBit, Bool.false_or, List.any_eq_true, Bool.and_eq_true, Nat.testBit_or, Nat.testBit_two_pow, Bool.or_eq_true, decide_eq_true_eq] at h
   obtain ⟨e, he, hb, hi⟩ := h
   refine ⟨e.on, ⟨o, e, ho, he, hb, rfl⟩, ?_⟩
   rcases hi with hi | hi
   · exact .inl hi.symm
   · exact .inr hi
theorem anc_closed {l : List Oper} (hE : Below' l) {C : Nat → Prop} (hC : ∀ y p, C y → Pred l y p → C p) : ∀ (y i : Nat), (∀ p, Pred l y p → C p) → ancB l y i = true → C i := by
 intro y
 induction y using Nat.strongRecOn with
 | ind y ih =>
   intro i hp h
   obtain ⟨p, h1, h2⟩ := ancB_spec hE h
   rcases h2 with rfl | h2
   · exact hp _ h1
   · exact ih p (pred_lt hE h1) i (fun q hq => hC p q (hp _ h1) hq) h2
theorem ancB_lt {l : List Oper} (hE : Below' l) : ∀ (y i : Nat), ancB l y i = true → i < y := by
 intro y i h
 exact anc_closed hE (C := fun z => z < y) (fun a p ha hp => Nat.lt_trans (pred_lt hE hp) ha) y i (fun p hp => pred_lt hE hp) h
theorem writersL_spec : ∀ (l : List Oper) (k : Nat) (W0 W : Tr Nat), writersL l k W0 = some W → ∀ d y, W.get d = some y ↔ W0.get d = some y ∨ ∃ j o, l[j]? = some o ∧ y = k + j ∧ o.dst = some d
 | [], k, W0, W, h, d, y => by simp [writersL] at h; subst h; simp
 | o :: l, k, W0, W, h, d, y => by
   unfold writersL at h
   cases hd : o.dst with
   | none =>
     rw [hd] at h
     rw [writersL_spec l (k + 1) W0 W h d y]
     constructor
     · rintro (h1 | ⟨j, o', h1, h2, h3⟩)
       · exact .inl h1
       · exact .inr ⟨j + 1, o', by simpa using h1, by omega, h3⟩
     · rintro (h1 | ⟨j, o', h1, h2, h3⟩)
       · exact .inl h1
       · cases j with
         | zero => simp at h1; subst h1; rw [hd] at h3; cases h3
         | succ j => exact .inr ⟨j, o', by simpa using h1, by omega, h3⟩
   | some d' =>
     rw [hd] at h
     simp only at h
     cases hw : W0.get d' with
     | some x => simp [hw] at h
     | none =>
       simp only [hw] at h
       rw [writersL_spec l (k + 1) _ W h d y, get_tput]
       constructor
       · rintro (h1 | ⟨j, o', h1, h2, h3⟩)
         · split at h1
           · rename_i e; cases h1; exact .inr ⟨0, o, rfl, rfl, by rw [hd, e]⟩
           · exact .inl h1
         · exact .inr ⟨j + 1, o', by simpa using h1, by omega, h3⟩
       · rintro (h1 | ⟨j, o', h1, h2, h3⟩)
         · left
           rw [if_neg (fun e => by subst e; rw [hw] at h1; cases h1)]
           exact h1
         · cases j with
           | zero =>
             simp at h1; subst h1
             rw [hd] at h3; cases h3
             left; rw [if_pos rfl]; simp [h2]
           | succ j => exact .inr ⟨j, o', by simpa using h1, by omega, h3⟩
structure Sc (l : List Oper) (W : Tr Nat) : Prop where
 below : Below' l
 plain : ∀ {y : Nat} {o : Oper}, l[y]? = some o → plainOp o = true
 wr : ∀ d y, W.get d = some y ↔ ∃ o, l[y]? = some o ∧ o.dst = some d
 slot : ∀ {y s i : Nat} {o : Oper}, l[y]? = some o → (s ∈ slotsOf o ∨ s ∈ guardSlot (dstIn l) o) → W.get s = some i → i = y ∨ ancB l y i = true ∨ ancB l i y = true
theorem scL_spec (all : List Oper) (an W : Tr Nat) : ∀ (l : List Oper) (k : Nat), scL all an W l k = true → ∀ y o, l[y]? = some o → edgesBelow o (k + y) = true ∧ plainOp o = true ∧ (∀ s, (s ∈ slotsOf o ∨ s ∈ guardSlot (dstIn all) o) → slotOk an W (k + y) s = true)
 | [], _, _, y, o, h => by simp at h
 | o :: l, k, h, y, o', ho => by
   simp only [scL, Bool.and_eq_true, List.all_eq_true] at h
   obtain ⟨⟨⟨⟨h1, h2⟩, h3⟩, h4⟩, h5⟩ := h
   cases y with
   | zero =>
     simp at ho; subst ho
     exact ⟨h1, h2, fun s hs => hs.elim (h3 s) (h4 s)⟩
   | succ y =>
     have := scL_spec all an W l (k + 1) h5 y o' (by simpa using ho)
     rwa [show k + (y + 1) = k + 1 + y by omega]
theorem scOk_spec {l : List Oper} (h : scOk l = true) : ∃ W, Sc l W := by
 unfold scOk at h
 cases hw : writersL l 0 .e with
 | none => simp [hw] at h
 | some W =>
   simp only [hw] at h
   have hs := scL_spec l _ W l 0 h
   refine ⟨W, fun y o ho => by simpa using (hs y o ho).1, fun ho => (hs _ _ ho).2.1, fun d y => ?_, fun {y s i o} ho hs' hi => ?_⟩
   · rw [writersL_spec l 0 .e W hw d y]
     constructor
     · rintro (h1 | ⟨j, o, h1, h2, h3⟩)
       · simp [Tr.get_e] at h1
       · rw [Nat.zero_add] at h2; subst h2; exact ⟨o, h1, h3⟩
     · rintro ⟨o, h1, h2⟩; exact .inr ⟨y, o, h1, by simp, h2⟩
   · have := (hs y o ho).2.2 s hs'
     rw [Nat.zero_add] at this
     unfold slotOk at this
     rw [hi] at this
     simp only [Bool.or_eq_true, Nat.beq_eq] at this
     rcases this with (h1 | h1) | h1
     · exact .inl h1
     · exact .inr (.inl h1)
     · exact .inr (.inr h1)
theorem readyL_spec (all : List Oper) (D : Nat) : ∀ (l : List Oper) (k : Nat), (∀ j, l[j]? = all[k + j]?) → ∀ y o, (y, o) ∈ readyL D l k ↔ k ≤ y ∧ all[y]? = some o ∧ y < k + l.length ∧ Nat.testBit D y = false ∧ ∀ p, Pred all y p → Nat.testBit D p = true
 | [], k, _, y, o => by simp [readyL]; omega
 | o :: l, k, h, y, o' => by
   have h0 : all[k]? = some o := by simpa using (h 0).symm
   have ih := readyL_spec all D l (k + 1) (fun j => by have := h (j + 1); simpa [Nat.add_assoc, Nat.add_comm 1 j] using this) y o'
   have hm : (Nat.beq (predMask o &&& D) (predMask o) = true) ↔ ∀ p, Pred all k p → Nat.testBit D p = true := by
     rw [Nat.beq_eq]
     constructor
     · intro he p hp
       have := (predMask_bit h0).2 hp
       rw [← he, Nat.testBit_and, Bool.and_eq_true] at this
       exact this.2
     · intro hp
       refine Nat.eq_of_testBit_eq fun i => ?_
       rw [Nat.testBit_and]
       cases hb : Nat.testBit (predMask o) i with
       | false => rfl
       | true => rw [hp i ((predMask_bit h0).1 hb)]; rfl
   have key : ∀ (b : Prop), ((y, o') ∈ readyL D l (k + 1) ∨ (b ∧ y = k ∧ o' = o)) ↔ ((k + 1 ≤ y ∧ all[y]? = some o' ∧ y < k + 1 + l.length ∧ Nat.testBit D y = false ∧ ∀ p, Pred all y p → Nat.testBit D p = true) ∨ (b ∧ y = k ∧ o' = o)) := fun b => by rw [ih]
   have hlen : k + (o :: l).length = k + 1 + l.length := by simp; omega
   unfold readyL
   cases hd : Nat.testBit D k with
   | true =>
     simp only [cond_true]
     rw [ih, hlen]
     constructor
     · rintro ⟨h1, h2⟩; exact ⟨by omega, h2⟩
     · rintro ⟨h1, h2, h3, h4, h5⟩
       have : y ≠ k := fun e => by subst e; rw [hd] at h4; cases h4
       exact ⟨by omega, h2, h3, h4, h5⟩
   | false =>
     simp only [cond_false]
     cases hb : Nat.beq (predMask o &&& D) (predMask o) with
     | true =>
       simp only [cond_true, List.mem_cons, Prod.mk.injEq]
       rw [ih, hlen]
       constructor
       · rintro (⟨rfl, rfl⟩ | ⟨h1, h2⟩)
         · exact ⟨Nat.le_refl _, h0, by omega, hd, hm.1 hb⟩
         · exact ⟨by omega, h2⟩
       · rintro ⟨h1, h2, h3, h4, h5⟩
         by_cases e : y = k
         · subst e; rw [h0] at h2; cases h2; exact .inl ⟨rfl, rfl⟩
         · exact .inr ⟨by omega, h2, h3, h4, h5⟩
     | false =>
       simp only [cond_false]
       rw [ih, hlen]
       constructor
       · rintro ⟨h1, h2⟩; exact ⟨by omega, h2⟩
       · rintro ⟨h1, h2, h3, h4, h5⟩
         have : y ≠ k := fun e => by
           subst e
           have := hm.2 h5
           rw [hb] at this; cases this
         exact ⟨by omega, h2, h3, h4, h5⟩
theorem mem_ready' {all : List Oper} {D y : Nat} {o : Oper} : (y, o) ∈ readyL D all 0 ↔ all[y]? = some o ∧ Nat.testBit D y = false ∧ ∀ p, Pred all y p → Nat.testBit D p = true := by
 rw [readyL_spec all D all 0 (fun j => by simp) y o]
 constructor
 · rintro ⟨_, h1, _, h2⟩; exact ⟨h1, h2⟩
 · rintro ⟨h1, h2⟩
   have := (List.getElem?_eq_some_iff.1 h1).1
   exact ⟨Nat.zero_le _, h1, by omega, h2⟩
inductive Lin (l : List Oper) : (Nat → Prop) → List Nat → Prop
 | nil {C : Nat → Prop} (h : ∀ y, y < l.length → C y) : Lin l C []
 | cons {C : Nat → Prop} {y : Nat} {r : List Nat} (hy : y < l.length) (hn : ¬ C y) (hp : ∀ p, Pred l y p → C p) (t : Lin l (fun z => C z ∨ z = y) r) : Lin l C (y :: r)
theorem Lin.congr {l : List Oper} {C C' : Nat → Prop} {r : List Nat} (h : Lin l C r) (hc : ∀ z, C z ↔ C' z) : Lin l C' r := by
 have : C = C' := funext fun z => propext (hc z)
 exact this ▸ h
theorem lin_go {ops : Array Oper} (hE : Below' ops.toList) : ∀ (fuel t : Nat) (listed : Array Bool), listed.size = ops.size → listed.toList.count false ≤ fuel →
   Lin ops.toList (fun z => listed.getD z false = true) (Region.linearise.go .any ops fuel t listed []) := by
 have hready : ∀ (listed : Array Bool), listed.size = ops.size → ∀ i, i ∈ ((List.range ops.size).filter fun i => !listed.getD i true && ((ops[i]?).map (·.after.all fun e => !Region.binds .any e || listed.getD e.on false)).getD false) ↔ (i < ops.size ∧ listed.getD i false = false ∧ ∀ p, Pred ops.toList i p → listed.getD p false = true) := by
   intro listed hsz i
   rw [List.mem_filter, List.mem_range, Bool.and_eq_true]
   constructor
   · rintro ⟨h1, h2, h3⟩
     refine ⟨h1, ?_, ?_⟩
     · have : i < listed.size := by omega
       simp [Array.getD, this] at h2 ⊢; exact h2
     · rintro p ⟨o, e, ho, he, hb, rfl⟩
       rw [Array.getElem?_toList] at ho
       rw [ho] at h3
       simp only [Option.map_some, Option.getD_some] at h3
       rw [Array.all_eq_true_iff_forall_mem] at h3
       have := h3 e (by simpa using he)
       rw [hb] at this
       simpa using this
   · rintro ⟨h1, h2, h3⟩
     refine ⟨h1, ?_, ?_⟩
     · have : i < listed.size := by omega
       simp [Array.getD, this] at h2 ⊢; exact h2
     · have ho : ops[i]? = some ops[i] := Array.getElem?_eq_getElem h1
       rw [ho]
       simp only [Option.map_some, Option.getD_some]
       rw [Array.all_eq_true_iff_forall_mem]
       intro e he
       cases hb : Region.binds .any e with
       | false => rfl
       | true =>
         have := h3 e.on ⟨ops[i], e, by rw [Array.getElem?_toList]; exact ho, by simpa using he, hb, rfl⟩
         simp [this]
 have hall : ∀ (listed : Array Bool), listed.size = ops.size → (∀ i, ¬ (i < ops.size ∧ listed.getD i false = false ∧ ∀ p, Pred ops.toList i p → listed.getD p false = true)) → ∀ y, y < ops.toList.length → listed.getD y false = true := by
   intro listed hsz h y
   induction y using Nat.strongRecOn with
   | ind y ih =>
     intro hy
     cases hb : listed.getD y false with
     | true => rfl
     | false =>
       exfalso
       refine h y ⟨by simpa using hy, hb, fun p hp => ih p (pred_lt hE hp) (Nat.lt_trans (pred_lt hE hp) hy)⟩
 intro fuel
 induction fuel with
 | zero =>
   intro t listed hsz hc
   simp only [Region.linearise.go, List.reverse_nil]
   refine .nil fun y hy => ?_
   have hc0 : listed.toList.count false = 0 := by omega
   rw [List.count_eq_zero] at hc0
   have hlt : y < listed.size := by rw [hsz]; simpa using hy
   have : listed[y] ∈ listed.toList := by simp
   cases hb : listed[y] with
   | true => simp [Array.getD, hlt, hb]
   | false => rw [hb] at this; exact absurd this hc0
 | succ fuel ih =>
   intro t listed hsz hc
   simp only [Region.linearise.go]
   split
   · rename_i i hi
     have hmem := (hready listed hsz i).1 (List.mem_of_getElem? hi)
     obtain ⟨h1, h2, h3⟩ := hmem
     have hlt : i < listed.size := by omega
     have hfalse : listed[i] = false := by simpa [Array.getD, hlt] using h2
     rw [linearise_go_acc, List.reverse_singleton, List.singleton_append]
     refine .cons (by simpa using h1) (by rw [h2]; simp) h3 ?_
     refine (ih _ (listed.setIfInBounds i true) (by simpa using hsz) ?_).congr ?_
     · rw [Array.toList_setIfInBounds, List.count_set (by simpa using hlt)]
       have : listed.toList[i]'(by simpa using hlt) = false := by simpa using hfalse
       have e1 : (if (false == false) = true then (1 : Nat) else 0) = 1 := rfl
       have e2 : (if (true == false) = true then (1 : Nat) else 0) = 0 := rfl
       rw [this, e1, e2]
       omega
     · intro z
       by_cases e : z = i
       · subst e; simp [Array.getD, hlt]
       · have he : ¬ i = z := fun h => e h.symm
         have : (listed.setIfInBounds i true).getD z false = listed.getD z false := by
           rw [Array.getD_eq_getD_getElem?, Array.getD_eq_getD_getElem?, Array.getElem?_setIfInBounds_ne he]
         rw [this]
         simp [e]
   · rename_i hnone
     rw [List.reverse_nil]
     refine .nil (hall listed hsz ?_)
     intro i hi
     have hmem := (hready listed hsz i).2 hi
     have hpos : 0 < ((List.range ops.size).filter fun i => !listed.getD i true && ((ops[i]?).map (·.after.all fun e => !Region.binds .any e || listed.getD e.on false)).getD false).length := List.length_pos_of_mem hmem
     have := List.getElem?_eq_none_iff.1 hnone
     exact absurd (Nat.mod_lt t hpos) (by omega)
theorem lin_schedule {ops : Array Oper} (hE : Below' ops.toList) (t : Nat) : Lin ops.toList (fun _ => False) (Region.schedule true ops t) := by
 unfold Region.schedule Region.linearise
 simp only [Bool.true_or, if_true]
 refine (lin_go hE ops.size t (Array.replicate ops.size false) (by simp) ?_).congr ?_
 · simp
 · intro z
   simp [Array.getD]
end
noncomputable section
theorem vsame_eq : ∀ {x y : Value}, vsame x y = true → x = y := by
 intro x y h
 unfold vsame at h
 split at h
 · rename_i a b; cases a <;> cases b <;> simp at h <;> rfl
 · simp only [Bool.and_eq_true, decide_eq_true_eq] at h; rw [h.1, h.2]
 · rename_i a b
   simp only [decide_eq_true_eq] at h
   congr 1
   obtain ⟨a⟩ := a; obtain ⟨b⟩ := b
   congr 1
   exact Array.toList_inj.1 h
 · rfl
 · simp only [Bool.and_eq_true, Nat.beq_eq] at h; rw [h.1, h.2]
 · rfl
 · rfl
 · rfl
 · cases h
mutual
theorem sameA_eq : ∀ {x y : AV}, sameA x y = true → x = y
 | .v x, y, h => by cases y <;> simp [sameA] at h; rw [vsame_eq h]
 | .ptr i o, y, h => by cases y <;> simp [sameA] at h; simp [h]
 | .sl i o n c, y, h => by cases y <;> simp [sameA] at h; simp [h]
 | .su i o n c q, y, h => by cases y <;> simp [sameA] at h; simp [h]
 | .se, y, h => by cases y <;> simp [sameA] at h; rfl
 | .s0, y, h => by cases y <;> simp [sameA] at h; rfl
 | .mp i, y, h => by cases y <;> simp [sameA] at h; simp [h]
 | .agg l, y, h => by cases y <;> simp [sameA] at h; rw [sameAs_eq h]
 | .tup l, y, h => by cases y <;> simp [sameA] at h; rw [sameAs_eq h]
 | .fn f l m, y, h => by
   cases y <;> simp [sameA] at h
   obtain ⟨⟨h1, h2⟩, h3⟩ := h
   rw [h1, sameAs_eq h2, sameAs_eq h3]
 | .yl i, y, h => by cases y <;> simp [sameA] at h; simp [h]
 | .ifc t x, y, h => by
   cases y <;> simp [sameA] at h
   rw [h.1, sameA_eq h.2]
theorem sameAs_eq : ∀ {l m : List AV}, sameAs l m = true → l = m
 | [], m, h => by cases m <;> simp [sameAs] at h; rfl
 | x :: l, m, h => by
   cases m <;> simp [sameAs] at h
   rw [sameA_eq h.1, sameAs_eq h.2]
end
def envS (l : List Oper) (W : Tr Nat) (nt : Nat) (X T0 : Tr AV) (y s : Nat) : AV :=
 match W.get s with
 | some i => cond (Nat.blt s nt && ancB l y i) (At X i) (At T0 s)
 | none => At T0 s
def valS (W : Tr Nat) (nt : Nat) (X T0 : Tr AV) (C : Nat → Prop) [DecidablePred C] (s : Nat) : AV :=
 match W.get s with
 | some i => if s < nt ∧ C i then At X i else At T0 s
 | none => At T0 s
def Sees (l : List Oper) (o : Oper) (s : Nat) : Prop := s ∈ slotsOf o ∨ s ∈ guardSlot (dstIn l) o
section
variable {l : List Oper} {W : Tr Nat} (sc : Sc l W) {nt : Nat} {X T0 : Tr AV}
include sc
theorem envS_val {C : Nat → Prop} [DecidablePred C] (hC : ∀ y p, C y → Pred l y p → C p) {y s : Nat} {o : Oper} (ho : l[y]? = some o) (hs : Sees l o s) (hy : ¬ C y) (hp : ∀ p, Pred l y p → C p) :
   envS l W nt X T0 y s = valS W nt X T0 C s := by
 unfold envS valS
 cases hw : W.get s with
 | none => rfl
 | some i =>
   simp only
   have hlt : ∀ a b, ancB l a b = true → b < a := fun a b h => ancB_lt sc.below a b h
   by_cases hn : s < nt
   · have hb : Nat.blt s nt = true := by rw [Nat.blt_eq]; exact hn
     simp only [hb, Bool.true_and, hn, true_and]
     rcases sc.slot ho hs hw with rfl | h | h
     · have : ancB l i i = false := by
         cases h : ancB l i i with
         | false => rfl
         | true => exact absurd (hlt _ _ h) (Nat.lt_irrefl _)
       rw [this, if_neg hy]; rfl
     · have := anc_closed sc.below hC y i hp h
       rw [h, if_pos this]; rfl
     · have hni : ¬ C i := fun hi => hy (anc_closed sc.below hC i y (fun p hpp => hC i p hi hpp) h)
       have : ancB l y i = false := by
         cases h' : ancB l y i with
         | false => rfl
         | true => exact absurd (hlt _ _ h') (Nat.lt_asymm (hlt _ _ h))
       rw [this, if_neg hni]; rfl
   · have hb : Nat.blt s nt = false := by
       cases h : Nat.blt s nt with
       | false => rfl
       | true => rw [Nat.blt_eq] at h; exact absurd h hn
     simp [hb, hn]
end
def Pend (P : Program) (ρ : Env) (H : Tr AB) (lo hi : Nat) (live : Bool) (l : List Oper) (W : Tr Nat) (nt : Nat) (X T0 : Tr AV) (lds : List (Nat × TypeId × AV × AV)) (G : Nat → Option Nat) (y : Nat) : Prop :=
 ∃ o Ty, l[y]? = some o ∧ (∀ s, Sees l o s → At Ty s = envS l W nt X T0 y s) ∧
   ((wantedA Ty (dstIn l) o = false ∧ At X y = .v undef) ∨
    (wantedA Ty (dstIn l) o = true ∧ aopP P Ty o = some (At X y)) ∨
    (wantedA Ty (dstIn l) o = true ∧ ∃ t p, rdOf Ty o = some (t, p) ∧ (live = true → readA P t p H = some (At X y)) ∧ (y, t, p, At X y) ∈ lds) ∨
    (wantedA Ty (dstIn l) o = true ∧ ∃ e c k g, aopN P Ty o = some (e, c, k) ∧ At X y = k.av g ∧ G y = some g ∧ H.get g = some (.mem e none c) ∧ ρ g = none ∧ lo ≤ g ∧ g < hi))
structure DrR (P : Program) (ρ : Env) (H : Tr AB) (lo hi : Nat) (live : Bool) (nt : Nat) (T : Tr AV) (l : List Oper) (D : Nat) (X T0 : Tr AV) (lds : List (Nat × TypeId × AV × AV)) (W : Tr Nat) (C : Nat → Prop) (G : Nat → Option Nat) (rest : List Nat) (ts : Array Value) : Prop where
 sc : Sc l W
 lin : Lin l C rest
 closC : ∀ y p, C y → Pred l y p → C p
 closD : ∀ y p, Nat.testBit D y = true → Pred l y p → Nat.testBit D p = true
 sub : ∀ y, C y → Nat.testBit D y = true
 dlt : ∀ y, Nat.testBit D y = true → y < l.length
 size : ts.size = nt
 T : ∀ s, At T s = valS W nt X T0 (fun i => Nat.testBit D i = true) s
 ts : ∀ [DecidablePred C] s, VR ρ (valS W nt X T0 C s) (ts.getD s undef)
 pend : ∀ y, Nat.testBit D y = true → ¬ C y → Pend P ρ H lo hi live l W nt X T0 lds G y
 ginj : ∀ {y z g}, G y = some g → G z = some g → y = z
 gb : ∀ {y g}, G y = some g → g < hi ∧ Nat.testBit D y = true
theorem Pend.mono {P : Program} {ρ ρ' : Env} {H H' : Tr AB} {lo hi : Nat} {live : Bool} {l : List Oper} {W : Tr Nat} {nt : Nat} {X T0 : Tr AV} {lds lds' : List (Nat × TypeId × AV × AV)} {G : Nat → Option Nat} {y : Nat}
   (h : Pend P ρ H lo hi live l W nt X T0 lds G y) {hi' : Nat} {live' : Bool} (hhi : hi ≤ hi') (hg : ∀ g, G y = some g → lo ≤ g → g < hi → ρ g = none → ρ' g = none ∧ H'.get g = H.get g)
   (hl : ∀ t p x, (y, t, p, x) ∈ lds → (y, t, p, x) ∈ lds' ∧ (live' = true → (live = true → readA P t p H = some x) → readA P t p H' = some x)) : Pend P ρ' H' lo hi' live' l W nt X T0 lds' G y := by
 obtain ⟨o, Ty, ho, hs, h⟩ := h
 refine ⟨o, Ty, ho, hs, ?_⟩
 rcases h with h | h | ⟨h1, t, a, h2, h3, h4⟩ | ⟨h1, e, c, k, g, h2, h3, h4, h5, h6, h7, h8⟩
 · exact .inl h
 · exact .inr (.inl h)
 · exact .inr (.inr (.inl ⟨h1, t, a, h2, fun hlv => (hl _ _ _ h4).2 hlv h3, (hl _ _ _ h4).1⟩))
 · have := hg g h4 h7 h8 h6
   exact .inr (.inr (.inr ⟨h1, e, c, k, g, h2, h3, h4, by rw [this.2]; exact h5, this.1, h7, by omega⟩))
theorem DrR.mono {P : Program} {ρ ρ' : Env} {H H' : Tr AB} {lo hi hi' nt D : Nat} {live : Bool} {T X T0 : Tr AV} {l : List Oper} {lds : List (Nat × TypeId × AV × AV)} {W : Tr Nat} {C : Nat → Prop} {G : Nat → Option Nat} {rest : List Nat} {ts : Array Value}
   (h : DrR P ρ H lo hi live nt T l D X T0 lds W C G rest ts) (hle : ρ.le ρ') (hhi : hi ≤ hi') (hg : ∀ g, g < hi → ρ g = none → ρ' g = none ∧ H'.get g = H.get g) : DrR P ρ' H' lo hi' false nt T l D X T0 lds W C G rest ts :=
 { h with
   ts := fun s => (h.ts s).mono hle
   pend := fun y h1 h2 => (h.pend y h1 h2).mono hhi (fun g _ _ hb hn => hg g hb hn) (fun t p x hm => ⟨hm, fun h => by cases h⟩)
   gb := fun hgy => ⟨Nat.lt_of_lt_of_le (h.gb hgy).1 hhi, (h.gb hgy).2⟩ }
theorem DrR.live {P : Program} {ρ : Env} {H : Tr AB} {lo hi nt D : Nat} {T X T0 : Tr AV} {l : List Oper} {lds : List (Nat × TypeId × AV × AV)} {W : Tr Nat} {C : Nat → Prop} {G : Nat → Option Nat} {rest : List Nat} {ts : Array Value}
   (h : DrR P ρ H lo hi false nt T l D X T0 lds W C G rest ts) (hl : ldsOk P H lds = true) : DrR P ρ H lo hi true nt T l D X T0 lds W C G rest ts :=
 { h with
   pend := fun y h1 h2 => (h.pend y h1 h2).mono (Nat.le_refl _) (fun g _ _ _ hn => ⟨hn, rfl⟩) (fun t p x hm => ⟨hm, fun _ _ => by
     unfold ldsOk at hl
     rw [List.all_eq_true] at hl
     have := hl _ hm
     simp only at this
     split at this
     · rename_i x' hx; rw [hx, sameA_eq this]
     · cases this⟩) }
theorem DrR.forOp {P : Program} {ρ : Env} {H : Tr AB} {lo hi nt D : Nat} {live : Bool} {T X T0 : Tr AV} {l : List Oper} {lds : List (Nat × TypeId × AV × AV)} {W : Tr Nat} {C : Nat → Prop} {G : Nat → Option Nat} {rest : List Nat} {ts : Array Value}
   (h : DrR P ρ H lo hi live nt T l D X T0 lds W C G rest ts) {x : Nat} (hp : ∀ p, Pred l x p → C p) : DrR P ρ H lo hi live nt T l D X T0 (ldsFor l x lds) W C G rest ts :=
 { h with
   pend := fun y h1 h2 => (h.pend y h1 h2).mono (Nat.le_refl _) (fun g _ _ _ hn => ⟨hn, rfl⟩) (fun t p v hm => ⟨by
     unfold ldsFor
     rw [List.mem_filter]
     refine ⟨hm, ?_⟩
     have : ancB l x y = false := by
       cases hb : ancB l x y with
       | false => rfl
       | true => exact absurd (anc_closed h.sc.below h.closC x y hp hb) h2
     unfold ancB at this
     simp only [this, Bool.not_false], fun hlv hv => hv hlv⟩) }
theorem testBit_put (D y z : Nat) : Nat.testBit (D ||| 2 ^ y) z = (Nat.testBit D z || decide (y = z)) := by
 rw [Nat.testBit_or, Nat.testBit_two_pow]
theorem valS_congr {W : Tr Nat} {nt : Nat} {X X' T0 : Tr AV} {C C' : Nat → Prop} [DecidablePred C] [DecidablePred C'] {s : Nat} (h : ∀ i, W.get s = some i → (C i ↔ C' i) ∧ (C i → At X i = At X' i)) : valS W nt X T0 C s = valS W nt X' T0 C' s := by
 unfold valS
 cases hw : W.get s with
 | none => rfl
 | some i =>
   obtain ⟨h1, h2⟩ := h i hw
   simp only
   by_cases hc : s < nt ∧ C i
   · rw [if_pos hc, if_pos ⟨hc.1, h1.1 hc.2⟩, h2 hc.2]
   · rw [if_neg hc, if_neg (fun h => hc ⟨h.1, h1.2 h.2⟩)]
theorem envS_congr {l : List Oper} {W : Tr Nat} {nt : Nat} {X X' T0 : Tr AV} {y s : Nat} (h : ∀ i, ancB l y i = true → At X i = At X' i) : envS l W nt X T0 y s = envS l W nt X' T0 y s := by
 unfold envS
 cases hw : W.get s with
 | none => rfl
 | some i =>
   simp only
   cases hb : (Nat.blt s nt && ancB l y i) with
   | false => rfl
   | true =>
     simp only [Bool.and_eq_true] at hb
     simp only [cond_true]; exact h i hb.2
section
variable {P : Program} {ρ : Env} {H : Tr AB} {lo hi nt D : Nat} {live : Bool} {T X T0 : Tr AV} {l : List Oper} {lds : List (Nat × TypeId × AV × AV)} {W : Tr Nat} {C : Nat → Prop} {G : Nat → Option Nat} {rest : List Nat} {ts : Array Value}
theorem DrR.sees (h : DrR P ρ H lo hi live nt T l D X T0 lds W C G rest ts) {y s : Nat} {o : Oper} (ho : l[y]? = some o) (hs : Sees l o s) (hy : Nat.testBit D y = false) (hp : ∀ p, Pred l y p → Nat.testBit D p = true) : At T s = envS l W nt X T0 y s := by
 rw [h.T s]
 exact (envS_val h.sc (C := fun i => Nat.testBit D i = true) h.closD ho hs (by rw [hy]; simp) hp).symm
theorem DrR.seesC (h : DrR P ρ H lo hi live nt T l D X T0 lds W C G rest ts) {y s : Nat} {o : Oper} (ho : l[y]? = some o) (hs : Sees l o s) (hy : ¬ C y) (hp : ∀ p, Pred l y p → C p) : VR ρ (envS l W nt X T0 y s) (ts.getD s undef) := by
 classical
 rw [envS_val h.sc (C := C) h.closC ho hs hy hp]
 exact h.ts s
theorem DrR.putT (h : DrR P ρ H lo hi live nt T l D X T0 lds W C G rest ts) {y : Nat} {o : Oper} (ho : l[y]? = some o) (hy : Nat.testBit D y = false) (x : AV) (s : Nat) :
   At (putT nt T o.dst x) s = valS W nt (tput X y x) T0 (fun i => Nat.testBit (D ||| 2 ^ y) i = true) s := by
 have hX : ∀ i, i ≠ y → At (tput X y x) i = At X i := fun i hi => by rw [At_tput, if_neg hi]
 have hXy : At (tput X y x) y = x := by rw [At_tput, if_pos rfl]
 have hrest : ∀ s, (∀ i, W.get s = some i → i ≠ y) → At T s = valS W nt (tput X y x) T0 (fun i => Nat.testBit (D ||| 2 ^ y) i = true) s := fun s hs => by
   rw [h.T s]
   refine valS_congr fun i hi => ⟨?_, fun _ => (hX i (hs i hi)).symm⟩
   rw [testBit_put]
   have : y ≠ i := fun e => hs i hi e.symm
   simp [this]
 have hno : ∀ s, o.dst ≠ some s → ∀ i, W.get s = some i → i ≠ y := fun s hd i hi e => by
   subst e
   obtain ⟨o', h1, h2⟩ := (h.sc.wr s i).1 hi
   rw [ho] at h1; cases h1
   exact hd h2
 cases hd : o.dst with
 | none => exact hrest s (hno s (by rw [hd]; simp))
 | some d =>
   simp only [Ev.putT]
   cases hb : Nat.blt d nt with
   | true =>
     have hlt : d < nt := by simpa [Nat.blt_eq] using hb
     simp only [cond_true]
     rw [At_tput]
     by_cases e : s = d
     · subst e
       rw [if_pos rfl]
       unfold valS
       rw [(h.sc.wr s y).2 ⟨o, ho, hd⟩]
       simp only
       rw [if_pos ⟨hlt, by rw [testBit_put]; simp⟩, hXy]
     · rw [if_neg e]
       exact hrest s (hno s (by rw [hd]; simpa using fun h => e h.symm))
   | false =>
     have hlt : ¬ d < nt := fun hlt => by
       have : Nat.blt d nt = true := by rw [Nat.blt_eq]; exact hlt
       rw [hb] at this; cases this
     simp only [cond_false]
     by_cases e : s = d
     · subst e
       rw [h.T s]
       unfold valS
       rw [(h.sc.wr s y).2 ⟨o, ho, hd⟩]
       simp only
       rw [if_neg (fun h => hlt h.1), if_neg (fun h => hlt h.1)]
     · exact hrest s (hno s (by rw [hd]; simpa using fun h => e h.symm))
theorem DrR.putTs (h : DrR P ρ H lo hi live nt T l D X T0 lds W C G rest ts) {ρ' : Env} (hle : ρ.le ρ') {y : Nat} {o : Oper} (ho : l[y]? = some o) (hy : ¬ C y) {X' : Tr AV} {v : Value} (hX : ∀ i, C i → At X' i = At X i) (hv : VR ρ' (At X' y) v) [DecidablePred (fun z => C z ∨ z = y)] (s : Nat) :
   VR ρ' (valS W nt X' T0 (fun z => C z ∨ z = y) s) ((match o.dst with | some d => ts.setIfInBounds d v | none => ts).getD s undef) := by
 classical
 have hrest : ∀ s, (∀ i, W.get s = some i → i ≠ y) → VR ρ' (valS W nt X' T0 (fun z => C z ∨ z = y) s) (ts.getD s undef) := fun s hs => by
   have := (h.ts s).mono hle
   rwa [valS_congr (C := C) (C' := fun z => C z ∨ z = y) (X' := X') (fun i hi => ⟨by simp [hs i hi], fun hc => (hX i hc).symm⟩)] at this
 have hno : ∀ s, o.dst ≠ some s → ∀ i, W.get s = some i → i ≠ y := fun s hd i hi e => by
   subst e
   obtain ⟨o', h1, h2⟩ := (h.sc.wr s i).1 hi
   rw [ho] at h1; cases h1
   exact hd h2
 cases hd : o.dst with
 | none => exact hrest s (hno s (by rw [hd]; simp))
 | some d =>
   simp only
   by_cases hlt : d < nt
   · rw [getD_set _ _ _ _ (by rw [h.size]; exact hlt)]
     by_cases e : s = d
     · subst e
       rw [if_pos rfl]
       unfold valS
       rw [(h.sc.wr s y).2 ⟨o, ho, hd⟩]
       simp only
       rw [if_pos ⟨hlt, by simp⟩]
       exact hv
     · rw [if_neg e]
       exact hrest s (hno s (by rw [hd]; simpa using fun h => e h.symm))
   · have hs : ts.setIfInBounds d v = ts := by simp [Array.setIfInBounds, h.size, hlt]
     rw [hs]
     by_cases e : s = d
     · subst e
       have := (h.ts s).mono hle
       unfold valS at this ⊢
       rw [(h.sc.wr s y).2 ⟨o, ho, hd⟩] at this ⊢
       simp only at this ⊢
       rw [if_neg (fun h => hlt h.1)] at this ⊢
       exact this
     · exact hrest s (hno s (by rw [hd]; simpa using fun h => e h.symm))
end
end
noncomputable section
theorem mem_slots {o : Oper} {s : Tmp} (h : Operand.tmp s ∈ o.op.operands) : s ∈ slotsOf o := by
 unfold slotsOf
 rw [List.mem_filterMap]
 exact ⟨.tmp s, by simpa using h, rfl⟩
theorem ev_of_slots {ρ : Env} {Ty : Tr AV} {fr : Frame} {o : Oper} (h : ∀ s, s ∈ slotsOf o → VR ρ (At Ty s) (fr.tmps.getD s undef)) : ∀ y ∈ o.op.operands, VR ρ (aev Ty y) (fr.eval y) := by
 intro y hy
 cases y with
 | tmp t => exact h t (mem_slots hy)
 | const x => exact ofV_VR x
 | global g => exact .v _
 | func f => simpa [aev, Frame.eval] using VR.fn (.func f) (VRs.nil (ρ := ρ)) VRs.nil
theorem finish_region {fr : Frame} {ops : Array Oper} {i : Nat} {r : List Nat} {k : List Item} {o : Oper} (ht : fr.todo = .inRegion ops (i :: r) :: k) (ho : ops[i]? = some o) (v : Value) :
   fr.finish v = { fr with tmps := (match o.dst with | some d => fr.tmps.setIfInBounds d v | none => fr.tmps), todo := .inRegion ops r :: k } := by
 unfold Frame.finish
 rw [ht]
 simp only [ho, Option.bind_some]
 cases o.dst <;> rfl
theorem DrR.caught {P : Program} {ρ ρ' : Env} {H : Tr AB} {lo hi nt D : Nat} {T X T0 : Tr AV} {l : List Oper} {lds : List (Nat × TypeId × AV × AV)} {W : Tr Nat} {C : Nat → Prop} {G : Nat → Option Nat} {y : Nat} {r : List Nat} {ts : Array Value}
   (h : DrR P ρ H lo hi true nt T l D X T0 lds W C G (y :: r) ts) (hD : Nat.testBit D y = true) {o : Oper} (ho : l[y]? = some o) {v : Value} (hle : ρ.le ρ') (hg : ∀ g z, G z = some g → z ≠ y → ρ g = none → ρ' g = none) (hv : VR ρ' (At X y) v) :
   DrR P ρ' H lo hi true nt T l D X T0 lds W (fun z => C z ∨ z = y) G r (match o.dst with | some d => ts.setIfInBounds d v | none => ts) := by
 cases h.lin with
 | cons hy hn hp t =>
   exact { h with
     lin := t
     closC := fun z p hz hzp => by
       rcases hz with hz | rfl
       · exact .inl (h.closC z p hz hzp)
       · exact .inl (hp p hzp)
     sub := fun z hz => by
       rcases hz with hz | rfl
       · exact h.sub z hz
       · exact hD
     size := by cases o.dst <;> simp [h.size]
     ts := fun s => h.putTs hle ho hn (fun _ _ => rfl) hv s
     pend := fun z h1 h2 => (h.pend z h1 (fun hc => h2 (.inl hc))).mono (Nat.le_refl _) (fun g hG _ _ hn => ⟨hg g z hG (fun e => h2 (.inr e)) hn, rfl⟩) (fun t p x hm => ⟨hm, fun _ hl => hl rfl⟩) }
theorem catchup {P : Program} {w0 : Bs} {H : Tr AB} {lo n nt D : Nat} {T X T0 : Tr AV} {ops : Array Oper} {lds : List (Nat × TypeId × AV × AV)} {W : Tr Nat} {G : Nat → Option Nat} {k : List Item} {cs : List Frame} :
   ∀ (rest : List Nat) (ρ : Env) (w : World) (fr : Frame) (C : Nat → Prop), HR w0 ρ H n w → fr.todo = .inRegion ops rest :: k → fr.mode = .run → DrR P ρ H lo n true nt T ops.toList D X T0 lds W C G rest fr.tmps →
   ∃ (rest' : List Nat) (ρ' : Env) (w' : World) (fr' : Frame) (C' : Nat → Prop), Steps P (lone fr cs w) (lone fr' cs w') ∧ HR w0 ρ' H n w' ∧ ρ.le ρ' ∧ (∀ g, g < lo → ρ' g = ρ g) ∧
     fr' = { fr with tmps := fr'.tmps, todo := .inRegion ops rest' :: k } ∧ DrR P ρ' H lo n true nt T ops.toList D X T0 lds W C' G rest' fr'.tmps ∧ (∀ y r, rest' = y :: r → Nat.testBit D y = false) := by
 intro rest
 induction rest with
 | nil =>
   intro ρ w fr C hr ht hm hd
   exact ⟨[], ρ, w, fr, C, Steps.refl _ _, hr, ρ.le_refl, fun _ _ => rfl, by rw [← ht], hd, fun y r e => by cases e⟩
 | cons y r ih =>
   intro ρ w fr C hr ht hm hd
   cases hD : Nat.testBit D y with
   | false => exact ⟨y :: r, ρ, w, fr, C, Steps.refl _ _, hr, ρ.le_refl, fun _ _ => rfl, by rw [← ht], hd, fun y' r' e => by cases e; exact hD⟩
   | true =>
     obtain ⟨hy, hn, hp⟩ : y < ops.toList.length ∧ ¬ C y ∧ ∀ p, Pred ops.toList y p → C p := by
       cases hd.lin with | cons hy hn hp t => exact ⟨hy, hn, hp⟩
     obtain ⟨o, Ty, ho, hs, hcase⟩ := hd.pend y hD hn
     have ho' : ops[y]? = some o := by simpa using ho
     have hsee : ∀ s, Sees ops.toList o s → VR ρ (At Ty s) (fr.tmps.getD s undef) := fun s h => by
       rw [hs s h]; exact hd.seesC ho h hn hp
     have hev := ev_of_slots (fr := fr) (fun s h => hsee s (.inl h))
     have hw := wantedA_sound (ops := ops) (fun d h => hsee d (.inr h))
     have hplain := hd.sc.plain ho
     -- what is left, behind one step
     have go : ∀ (ρ' : Env) (w' : World) (v : Value), step P (lone fr cs w) = .next (lone (fr.finish v) cs w') → HR w0 ρ' H n w' → ρ.le ρ' → (∀ g, g < lo → ρ' g = ρ g) → (∀ g z, G z = some g → z ≠ y → ρ g = none → ρ' g = none) → VR ρ' (At X y) v →
         ∃ (rest' : List Nat) (ρ' : Env) (w' : World) (fr' : Frame) (C' : Nat → Prop), Steps P (lone fr cs w) (lone fr' cs w') ∧ HR w0 ρ' H n w' ∧ ρ.le ρ' ∧ (∀ g, g < lo → ρ' g = ρ g) ∧
           fr' = { fr with tmps := fr'.tmps, todo := .inRegion ops rest' :: k } ∧ DrR P ρ' H lo n true nt T ops.toList D X T0 lds W C' G rest' fr'.tmps ∧ (∀ y r, rest' = y :: r → Nat.testBit D y = false) := by
       intro ρ' w' v hst hr' hle hlo hg hv
       have hf := finish_region ht ho' v
       have hd' := hd.caught hD ho hle hg hv
       obtain ⟨rest', ρ2, w2, fr2, C2, h1, h2, h3, h4, h5, h6, h7⟩ := ih ρ' w' (fr.finish v) _ hr' (by rw [hf]) (by rw [hf]; exact hm) (by rw [hf]; exact hd')
       refine ⟨rest', ρ2, w2, fr2, C2, .head hst h1, h2, Env.le_trans hle h3, fun g hgl => (h4 g hgl).trans (hlo g hgl), ?_, h6, h7⟩
       rw [h5, hf]
     rcases hcase with ⟨h1, h2⟩ | ⟨h1, h2⟩ | ⟨h1, t, a, h2, h3, _⟩ | ⟨h1, e, c, kk, g, h2, h3, h4, h5, h6, h7, h8⟩
     · refine go ρ w undef (step_unwanted ht hm ?_) hr ρ.le_refl (fun _ _ => rfl) (fun _ _ _ _ h => h) (by rw [h2]; exact .v _)
       rw [ho']; simp only [Option.map_some, Option.getD_some]; rw [hw]; exact h1
     · obtain ⟨v, hv, hrun⟩ := aopP_sound h2 hev
       exact go ρ w v (step_value (stepG_oper ht hm ho' (by rw [hw]; exact h1) hplain) (hrun w)) hr ρ.le_refl (fun _ _ => rfl) (fun _ _ _ _ h => h) hv
     · obtain ⟨v, hv, hrun⟩ := readA_sound hr h2 (h3 rfl) hev
       exact go ρ w v (step_value (stepG_oper ht hm ho' (by rw [hw]; exact h1) hplain) hrun) hr ρ.le_refl (fun _ _ => rfl) (fun _ _ _ _ h => h) hv
     · obtain ⟨vs, hvs, hrun⟩ := aopN_sound h2 hev
       have hbr : BR (ρ.set g (w.heap.size, 0)) 0 (.mem e none c) (.cells vs.toArray e) := ⟨vs, [], (0, 0), hvs.mono (Env.le_set h6 _), by simp, unfrozen_zero _, rfl⟩
       refine go (ρ.set g (w.heap.size, 0)) _ _ (step_value (stepG_oper ht hm ho' (by rw [hw]; exact h1) hplain) (hrun w)) (hr.name h8 h6 h5 hbr) (Env.le_set h6 _) (fun g' hl => ?_) (fun g' z hz hne hn' => ?_) ?_
       · unfold Env.set; rw [if_neg (by omega)]
       · unfold Env.set
         rw [if_neg (fun e => by subst e; exact hne (hd.ginj hz h4))]
         exact hn'
       · rw [h3]; exact NewV.VR (Env.set_same _ _ _) kk
theorem DrR.ahead {P : Program} {ρ : Env} {H H' : Tr AB} {lo n n' nt D : Nat} {T X T0 : Tr AV} {l : List Oper} {lds : List (Nat × TypeId × AV × AV)} {W : Tr Nat} {C : Nat → Prop} {G : Nat → Option Nat} {rest : List Nat} {ts : Array Value} {w0 : Bs} {w : World}
   (h : DrR P ρ H lo n true nt T l D X T0 lds W C G rest ts) (hr : HR w0 ρ H n w) (hlo : lo ≤ n) {y : Nat} {o : Oper} {x : AV} {q : Option (TypeId × AV × AV)} (hy : (y, o) ∈ readyL D l 0) (he : eagerA P T l o H n = some (x, H', n', q)) :
   ∃ G', HR w0 ρ H' n' w ∧ Ext ρ ρ H H' n n' ∧ DrR P ρ H' lo n' true nt (Ev.putT nt T o.dst x) l (D ||| 2 ^ y) (tput X y x) T0 (addLd y q lds) W C G' rest ts := by
 obtain ⟨ho, hyD, hp⟩ := mem_ready'.1 hy
 have hnC : ¬ C y := fun hc => by have := h.sub y hc; rw [hyD] at this; cases this
 have hX : ∀ i, i ≠ y → At (tput X y x) i = At X i := fun i hi => by rw [At_tput, if_neg hi]
 have hXy : At (tput X y x) y = x := by rw [At_tput, if_pos rfl]
 have hanc : ∀ z i, Nat.testBit D z = true → ancB l z i = true → i ≠ y := fun z i hz hi e => by
   have := anc_closed h.sc.below (C := fun i => Nat.testBit D i = true) h.closD z i (fun p hpp => h.closD z p hz hpp) hi
   rw [e, hyD] at this; cases this
 have hancy : ∀ i, ancB l y i = true → i ≠ y := fun i hi e => by subst e; exact absurd (ancB_lt h.sc.below _ _ hi) (Nat.lt_irrefl _)
 have hsee : ∀ s, Sees l o s → At T s = envS l W nt (tput X y x) T0 y s := fun s hs => by
   rw [h.sees ho hs hyD hp]
   exact envS_congr fun i hi => (hX i (hancy i hi)).symm
 have finish : ∀ (G' : Nat → Option Nat) (lds' : List (Nat × TypeId × AV × AV)), n ≤ n' → (∀ z, z ≠ y → G' z = G z) → (∀ g, G' y = some g → n ≤ g ∧ g < n') → (∀ g, g < n → ρ g = none → H'.get g = H.get g) → (∀ t p v, readA P t p H = some v → readA P t p H' = some v) → (∀ e, e ∈ lds → e ∈ lds') →
     Pend P ρ H' lo n' true l W nt (tput X y x) T0 lds' G' y → DrR P ρ H' lo n' true nt (Ev.putT nt T o.dst x) l (D ||| 2 ^ y) (tput X y x) T0 lds' W C G' rest ts := by
   intro G' lds' hnn hGo hGy hH hL hlds hpy
   refine { h with closD := fun z p hz hzp => ?_, sub := fun z hz => ?_, dlt := fun z hz => ?_, T := h.putT ho hyD x, ts := fun s => ?_, pend := fun z hz hzC => ?_, ginj := fun {a b g} ha hb => ?_, gb := fun {a g} ha => ?_ }
   · rw [testBit_put] at hz ⊢
     by_cases e : y = z
     · subst e; rw [hp p hzp]; rfl
     · simp [e] at hz; rw [h.closD z p hz hzp]; rfl
   · rw [testBit_put, h.sub z hz]; rfl
   · rw [testBit_put] at hz
     by_cases e : y = z
     · subst e; exact (List.getElem?_eq_some_iff.1 ho).1
     · simp [e] at hz; exact h.dlt z hz
   · have := h.ts s
     rwa [valS_congr (X' := tput X y x) (C' := C) (fun i hi => ⟨Iff.rfl, fun hc => (hX i (fun e => hnC (e ▸ hc))).symm⟩)] at this
   · by_cases e : z = y
     · subst e; exact hpy
     · have hzD : Nat.testBit D z = true := by
         rw [testBit_put] at hz
         have : y ≠ z := fun h => e h.symm
         simpa [this] using hz
       obtain ⟨o', Ty, h1, h2, h3⟩ := h.pend z hzD hzC
       refine ⟨o', Ty, h1, fun s hs => (h2 s hs).trans (envS_congr fun i hi => (hX i (hanc z i hzD hi)).symm), ?_⟩
       rw [hX z e]
       rcases h3 with h3 | h3 | ⟨h3, t, a, h4, h5, h6⟩ | ⟨h3, e', c, k, g, h4, h5, h6, h7, h8, h9, h10⟩
       · exact .inl h3
       · exact .inr (.inl h3)
       · exact .inr (.inr (.inl ⟨h3, t, a, h4, fun _ => hL _ _ _ (h5 rfl), hlds _ h6⟩))
       · exact .inr (.inr (.inr ⟨h3, e', c, k, g, h4, h5, (hGo z e).trans h6, (hH g h10 h8).trans h7, h8, h9, by omega⟩))
   · by_cases ea : a = y <;> by_cases eb : b = y
     · rw [ea, eb]
     · subst ea
       rw [hGo b eb] at hb
       have := hGy g ha; have := (h.gb hb).1; omega
     · subst eb
       rw [hGo a ea] at ha
       have := hGy g hb; have := (h.gb ha).1; omega
     · rw [hGo a ea] at ha; rw [hGo b eb] at hb; exact h.ginj ha hb
   · by_cases ea : a = y
     · subst ea; exact ⟨(hGy g ha).2, by rw [testBit_put]; simp⟩
     · rw [hGo a ea] at ha
       exact ⟨Nat.lt_of_lt_of_le (h.gb ha).1 hnn, by rw [testBit_put, (h.gb ha).2]; rfl⟩
 have hGn : G y = none := by
   cases hg : G y with
   | none => rfl
   | some g => have := (h.gb hg).2; rw [hyD] at this; cases this
 unfold eagerA at he
 cases hw : wantedA T (dstIn l) o with
 | false =>
   simp only [hw, cond_false, Option.some.injEq, Prod.mk.injEq] at he
   obtain ⟨rfl, rfl, rfl, rfl⟩ := he
   refine ⟨G, hr, Ext.refl _ _ _, finish G lds (Nat.le_refl _) (fun _ _ => rfl) (fun g hg => by rw [hGn] at hg; cases hg) (fun _ _ _ => rfl) (fun _ _ _ h => h) (fun _ h => h) ?_⟩
   exact ⟨o, T, ho, hsee, .inl ⟨hw, hXy⟩⟩
 | true =>
   simp only [hw, cond_true] at he
   cases hP : aopP P T o with
   | some x' =>
     simp only [hP, Option.some.injEq, Prod.mk.injEq] at he
     obtain ⟨rfl, rfl, rfl, rfl⟩ := he
     refine ⟨G, hr, Ext.refl _ _ _, finish G lds (Nat.le_refl _) (fun _ _ => rfl) (fun g hg => by rw [hGn] at hg; cases hg) (fun _ _ _ => rfl) (fun _ _ _ h => h) (fun _ h => h) ?_⟩
     exact ⟨o, T, ho, hsee, .inr (.inl ⟨hw, by rw [hXy]; exact hP⟩)⟩
   | none =>
     simp only [hP] at he
     have alloc : (match aopN P T o with | some (e, l, k) => some (k.av n, tput H n (.mem e none l), n + 1, none) | none => none) = some (x, H', n', q) →
         ∃ G', HR w0 ρ H' n' w ∧ Ext ρ ρ H H' n n' ∧ DrR P ρ H' lo n' true nt (Ev.putT nt T o.dst x) l (D ||| 2 ^ y) (tput X y x) T0 (addLd y q lds) W C G' rest ts := by
       intro he
       cases hN : aopN P T o with
       | none => simp [hN] at he
       | some r =>
         obtain ⟨e, c, k⟩ := r
         simp only [hN, Option.some.injEq, Prod.mk.injEq] at he
         obtain ⟨rfl, rfl, rfl, rfl⟩ := he
         have htop := hr.top (Nat.le_refl n)
         refine ⟨fun z => if z = y then some n else G z, hr.put _, Ext.put hr _, finish _ lds (Nat.le_succ _) (fun z hz => by simp [hz]) (fun g hg => by simp at hg; omega) (fun g hg _ => by rw [get_tput, if_neg (by omega)]) (fun t p v hl => ?_) (fun _ h => h) ?_⟩
         · have hne : ∀ {i B}, H.get i = some B → (tput H n (.mem e none c)).get i = some B := fun {i B} hB => by
             have : i ≠ n := fun e => by subst e; rw [htop.2] at hB; cases hB
             rw [get_tput, if_neg this]; exact hB
           exact readA_of (fun _ _ _ _ hB => hne hB) (fun _ _ _ hB => hne hB) hl
         · refine ⟨o, T, ho, hsee, .inr (.inr (.inr ⟨hw, e, c, k, n, hN, hXy, by simp, by rw [get_tput, if_pos rfl], htop.1, hlo, Nat.lt_succ_self _⟩))⟩
     split at he
     · rename_i t a hop
       cases hl : readA P t a H with
       | none => simp [hl] at he
       | some x' =>
         simp only [hl, Option.some.injEq, Prod.mk.injEq] at he
         obtain ⟨rfl, rfl, rfl, rfl⟩ := he
         refine ⟨G, hr, Ext.refl _ _ _, finish G _ (Nat.le_refl _) (fun _ _ => rfl) (fun g hg => by rw [hGn] at hg; cases hg) (fun _ _ _ => rfl) (fun _ _ _ h => h) (fun _ h => by simp [addLd, h]) ?_⟩
         exact ⟨o, T, ho, hsee, .inr (.inr (.inl ⟨hw, t, a, hop, fun _ => by rw [hXy]; exact hl, by rw [hXy]; simp [addLd]⟩))⟩
     · exact alloc he
end
noncomputable section
def RgR (P : Program) (ρ : Env) (H : Tr AB) (lo hi : Nat) (live : Bool) (nt : Nat) (T : Tr AV) : ARg → List Item → Array Value → Prop
 | .no, front, ts => front = [] ∧ TR ρ nt T ts
 | .pl ops l, front, ts => (∃ rest, front = [.inRegion ops rest] ∧ PlR ops l rest) ∧ TR ρ nt T ts
 | .dr ops D X T0 lds cur, front, ts => ∃ W C G rest, front = [.inRegion ops rest] ∧ DrR P ρ H lo hi live nt T ops.toList D X T0 lds W C G rest ts ∧ (∀ y, cur = some y → ∃ r, rest = y :: r ∧ Nat.testBit D y = false)
structure FRel (P : Program) (ρ : Env) (H : Tr AB) (hi : Nat) (live : Bool) (af : AFr) (fr : Frame) : Prop where
 fn : fr.fn = af.fn
 kind : fr.kind = .normal
 mode : fr.mode = cond af.ret .returning .run
 ds : DsR ρ af.ds fr.defers
 ro : RoR ρ af.round fr.roundOf
 todo : ∃ front rest, fr.todo = front ++ rest ∧ IRs ρ af.todo rest ∧ RgR P ρ H af.lo hi live af.nt af.T af.rg front fr.tmps
theorem RgR.mono {P : Program} {ρ ρ' : Env} {H H' : Tr AB} {lo hi hi' nt : Nat} {live : Bool} {T : Tr AV} {rg : ARg} {front : List Item} {ts : Array Value} (h : RgR P ρ H lo hi live nt T rg front ts) (hle : ρ.le ρ') (hhi : hi ≤ hi')
   (hg : ∀ g, g < hi → ρ g = none → ρ' g = none ∧ H'.get g = H.get g) : RgR P ρ' H' lo hi' false nt T rg front ts := by
 cases rg with
 | no => exact ⟨h.1, h.2.mono hle⟩
 | pl ops l => exact ⟨h.1, h.2.mono hle⟩
 | dr ops D X T0 lds cur =>
   obtain ⟨W, C, G, rest, h1, h2, h3⟩ := h
   exact ⟨W, C, G, rest, h1, h2.mono hle hhi hg, h3⟩
theorem FRel.mono {P : Program} {ρ ρ' : Env} {H H' : Tr AB} {hi hi' : Nat} {live : Bool} {af : AFr} {fr : Frame} (h : FRel P ρ H hi live af fr) (hle : ρ.le ρ') (hhi : hi ≤ hi')
   (hg : ∀ g, g < hi → ρ g = none → ρ' g = none ∧ H'.get g = H.get g) : FRel P ρ' H' hi' false af fr := by
 obtain ⟨front, rest, h1, h2, h3⟩ := h.todo
 exact ⟨h.fn, h.kind, h.mode, h.ds.mono hle, h.ro.mono hle, front, rest, h1, h2.mono hle, h3.mono hle hhi hg⟩
inductive StackR (P : Program) (ρ : Env) (H : Tr AB) : Nat → List AFr → List Frame → Prop
 | nil (hi : Nat) : StackR P ρ H hi [] []
 | cons {hi : Nat} {af : AFr} {fr : Frame} {l : List AFr} {m : List Frame} (h : FRel P ρ H hi false af fr) (hlo : af.lo ≤ hi) (t : StackR P ρ H af.lo l m) : StackR P ρ H hi (af :: l) (fr :: m)
theorem StackR.mono {P : Program} {ρ ρ' : Env} {H H' : Tr AB} {hi : Nat} {l : List AFr} {m : List Frame} (h : StackR P ρ H hi l m) (hle : ρ.le ρ') (hg : ∀ g, g < hi → ρ g = none → ρ' g = none ∧ H'.get g = H.get g) : StackR P ρ' H' hi l m := by
 induction h with
 | nil => exact .nil _
 | cons h hlo t ih => exact .cons (h.mono hle (Nat.le_refl _) hg) hlo (ih (fun g hl hn => hg g (Nat.lt_of_lt_of_le hl hlo) hn))
def SR (P : Program) (w0 : Bs) (s : ASt) (fr : Frame) (cs : List Frame) (w : World) : Prop :=
 ∃ ρ, HR w0 ρ s.H s.n w ∧ FRel P ρ s.H s.n true s.fr fr ∧ s.fr.lo ≤ s.n ∧ StackR P ρ s.H s.fr.lo s.cs cs
theorem Ext.low {ρ ρ' : Env} {H H' : Tr AB} {n n' m : Nat} (h : Ext ρ ρ' H H' n n') (hm : m ≤ n) : ∀ g, g < m → ρ g = none → ρ' g = none ∧ H'.get g = H.get g := fun _ hg hn =>
 ⟨(h.old (Nat.lt_of_lt_of_le hg hm)).trans hn, h.keep (Nat.lt_of_lt_of_le hg hm) hn⟩
structure FTok (P : Program) (FT : FuncId → Option Func) : Prop where
 fn : ∀ {f fn}, FT f = some fn → P.funcs[f]? = some fn
 call : ∀ {f fn}, FT f = some fn → fn.body.isSome = true → ∀ args w, (callFunc f args).run P w = .ok (.enter f args) w
def HKok (P : Program) (HK : Hook) : Prop := ∀ {f args H n x H' n'}, HK f args H n = some (x, H', n') → (∀ xs w, (callFunc f xs).run P w = .ok (.enter f xs) w) ∧
 ∀ {w0 ρ w vs}, HR w0 ρ H n w → VRs ρ args vs → Calls P f vs.toArray w (fun e w' => ∃ ρ' v, e = .returned v ∧ VR ρ' x v ∧ HR w0 ρ' H' n' w' ∧ Ext ρ ρ' H H' n n')
def toCallee (fv : Value) (args : Array Value) : Sem Next := do let d ← Deferred.ofValue fv args; invoke d.target d.args
theorem calleeOf_sound {P : Program} {ρ : Env} {f : AV} {args : List AV} {fv : Value} {vs : List Value} {c : Callee'} (h : calleeOf P f args = some c) (hf : VR ρ f fv) (ha : VRs ρ args vs) :
   (∃ g xs us, c = .fn g xs ∧ VRs ρ xs us ∧ ∀ w, (toCallee fv vs.toArray).run P w = (callFunc g us.toArray).run P w) ∨
   (∃ i b cc, c = .yl i args ∧ ρ i = some (b, cc) ∧ ∀ w, (toCallee fv vs.toArray).run P w = (Instr.yield b vs.toArray).run P w) := by
 unfold calleeOf at h
 split at h
 · rename_i g first cap
   simp only [Option.some.injEq] at h; subst h
   cases hf with
   | fn _ e e' =>
     refine .inl ⟨g, _, _, rfl, (e.append ha).append e', fun w => ?_⟩
     unfold toCallee
     simp [Deferred.ofValue, invoke]
 · rename_i i
   simp at h; subst h
   cases hf with
   | yl e =>
     refine .inr ⟨i, _, _, rfl, e, fun w => ?_⟩
     unfold toCallee
     simp [Deferred.ofValue, invoke]
 · cases h
theorem methodA_sound {P : Program} {t : TypeId} {name : String} {f : FuncId} (h : methodA P t name = some f) : ∀ v w, (method (P.types.size + Made.depth) t v name).run P w = .ok (f, v) w := by
 unfold methodA at h
 split at h
 · rename_i inf hinf
   split at h
   · rename_i m hm
     intro v w
     obtain ⟨d, hd⟩ : ∃ d, P.types.size + Made.depth = d + 1 := ⟨P.types.size + Made.depth - 1, by unfold Made.depth; omega⟩
     rw [hd]
     unfold method
     have hpath : ∀ {l : List FieldStep}, m.path.toList = l → l = [] → m.path.isEmpty = true := fun h1 h2 => by
       rw [h2] at h1
       simpa using h1
     split at h
     · rename_i g e hp hfn hu
       simp at h; subst h
       have hpe := hpath hp rfl
       simp [run_typeInfo hinf, hm, hp, follow, hfn, receiverAt, run_underlying hu, Place.get]
     · cases h
     · rename_i g d' hne hp hfn hu
       simp at h; subst h
       have hpe := hpath hp rfl
       simp only [Sem.run_bind, run_typeInfo hinf, Result.andThen_ok, hm, hp, follow, Sem.run_pure, hfn, receiverAt, run_underlying hu]
       cases d' <;> first | (exact absurd rfl (hne _)) | simp [Place.get]
     · cases h
   · cases h
 · cases h
theorem callOf_sound {P : Program} {ρ : Env} {T : Tr AV} {o : Oper} {c : Callee'} {ev : Operand → Value} (h : callOf P T o = some c) (hev : ∀ y ∈ o.op.operands, VR ρ (aev T y) (ev y)) :
   (∃ g xs us, c = .fn g xs ∧ VRs ρ xs us ∧ ∀ w, (execOp ev o).run P w = (callFunc g us.toArray).run P w) ∨
   (∃ i xs vs b cc, c = .yl i xs ∧ VRs ρ xs vs ∧ ρ i = some (b, cc) ∧ ∀ w, (execOp ev o).run P w = (Instr.yield b vs.toArray).run P w) := by
 obtain ⟨dst, op, type, pos, after, guard⟩ := o
 unfold callOf at h
 split at h
 · rename_i f args ats hop
   simp only at hop
   subst hop
   have hargs : VRs ρ (args.toList.map (aev T)) (args.toList.map ev) := VRs.map_ev fun y hy => hev y (by simp [Op.operands, Call.operands]; exact .inr (by simpa using hy))
   have hf := hev f (by simp [Op.operands, Call.operands])
   have hex : ∀ w, (execOp ev ⟨dst, .call ⟨.value f, args, ats⟩, type, pos, after, guard⟩).run P w = (toCallee (ev f) (args.toList.map ev).toArray).run P w := fun w => by
     unfold execOp toCallee resolve
     rw [arrmap]
   rcases calleeOf_sound h hf hargs with ⟨g, xs, us, h1, h2, h3⟩ | ⟨i, b, cc, h1, h2, h3⟩
   · exact .inl ⟨g, xs, us, h1, h2, fun w => (hex w).trans (h3 w)⟩
   · exact .inr ⟨i, _, _, b, cc, h1, hargs, h2, fun w => (hex w).trans (h3 w)⟩
 · rename_i r name args ats hop
   simp only at hop
   subst hop
   have hargs : VRs ρ (args.toList.map (aev T)) (args.toList.map ev) := VRs.map_ev fun y hy => hev y (by simp [Op.operands, Call.operands]; exact .inr (by simpa using hy))
   have hr := hev r (by simp [Op.operands, Call.operands])
   split at h
   · rename_i t x hrx
     rw [hrx] at hr
     generalize hrv : ev r = rv at hr
     cases hr with
     | ifc _ hx =>
       rename_i u
       cases hm : methodA P t name with
       | none => simp [hm] at h
       | some g =>
         simp [hm] at h; subst h
         refine .inl ⟨g, _, _, rfl, .cons hx hargs, fun w => ?_⟩
         have e0 : ∀ (a : Value) (ys : Array Value), (#[a] ++ ys)[0]? = some a := fun a ys => by rw [← Array.getElem?_toList]; simp
         have e1 : ∀ (a : Value) (ys : Array Value), (#[a] ++ ys).extract 1 (#[a] ++ ys).size = ys := fun a ys => Array.toList_inj.1 (by simp [List.extract_eq_take_drop])
         have e2 : (u :: args.toList.map ev).toArray = #[u] ++ args.map ev := Array.toList_inj.1 (by simp)
         unfold execOp resolve
         simp only [Sem.run_bind, Sem.run_pure, Result.andThen_ok, invoke, hrv, e0, e1, callMethod, run_program, methodA_sound hm, e2]
   · cases h
 · cases h
end
noncomputable section
section
variable {P : Program} {FT : FuncId → Option Func} {HK : Hook} {w0 : Bs} {w : World} {ρ : Env} {H H' : Tr AB} {n n' : Nat}
theorem At_argsT : ∀ (l : List AV) (k : Nat) (T : Tr AV) (s : Nat), At (argsT l k T) s = if k ≤ s ∧ s < k + l.length then (l[s - k]?).getD (.v undef) else At T s
 | [], k, T, s => by simp [argsT]; omega
 | x :: l, k, T, s => by
   unfold argsT
   rw [At_argsT l (k + 1), At_tput]
   by_cases h1 : s = k
   · subst h1; rw [if_neg (by omega), if_pos rfl, if_pos ⟨by omega, by simp⟩]; simp
   · by_cases h2 : k + 1 ≤ s ∧ s < k + 1 + l.length
     · rw [if_pos h2, if_pos ⟨by omega, by simp; omega⟩]
       rw [show s - k = (s - (k + 1)) + 1 by omega]
       simp
     · rw [if_neg h2, if_neg h1, if_neg (by simp; omega)]
theorem argsT_TR {l : List AV} {vs : List Value} (h : VRs ρ l vs) (m : Nat) : TR ρ (cond (Nat.ble m l.length) l.length m) (argsT l 0 .e) (vs.toArray ++ Array.replicate (m - vs.toArray.size) undef) := by
 have hl := h.length
 constructor
 · simp
   cases hb : Nat.ble m l.length with
   | true => have := Nat.le_of_ble_eq_true hb; simp; omega
   | false =>
     have : l.length < m := by
       rcases Nat.lt_or_ge l.length m with h' | h'
       · exact h'
       · rw [Nat.ble_eq_true_of_le h'] at hb; cases hb
     simp; omega
 · intro s
   rw [At_argsT]
   by_cases hs : s < l.length
   · rw [if_pos ⟨Nat.zero_le _, by omega⟩]
     obtain ⟨u, hu, hx⟩ := h.get (k := s) (x := l[s]) (List.getElem?_eq_getElem hs)
     have : (vs.toArray ++ Array.replicate (m - vs.toArray.size) undef).getD s undef = u := by
       rw [Array.getD_eq_getD_getElem?, ← Array.getElem?_toList]
       simp only [Array.toList_append]
       rw [List.getElem?_append_left (by rw [← hl]; exact hs), hu]
       rfl
     rw [this]
     simp [hs]
     exact hx
   · rw [if_neg (by omega)]
     have : (vs.toArray ++ Array.replicate (m - vs.toArray.size) undef).getD s undef = undef := by
       rw [Array.getD_eq_getD_getElem?, ← Array.getElem?_toList]
       simp only [Array.toList_append]
       rw [List.getElem?_append_right (by rw [← hl]; omega)]
       simp only [Array.toList_replicate, List.getElem?_replicate]
       split <;> rfl
     rw [this]
     exact .v _
theorem putParams_TR : ∀ {ps : List Tmp} {xs : List AV} {vs : List Value} {nt : Nat} {T : Tr AV} {ts : Array Value}, TR ρ nt T ts → VRs ρ xs vs → TR ρ nt (putParams nt ps xs T) ((ps.zip vs).foldl (fun t p => t.setIfInBounds p.1 p.2) ts)
 | [], xs, vs, nt, T, ts, h, _ => by cases xs <;> simpa [putParams] using h
 | p :: ps, [], vs, nt, T, ts, h, hx => by cases hx; simpa [putParams] using h
 | p :: ps, x :: xs, vs, nt, T, ts, h, hx => by
   cases hx with
   | cons e t =>
     simp only [putParams, List.zip_cons_cons, List.foldl_cons]
     exact putParams_TR (h.put (d := some p) e) t
theorem apply_enter {fr : Frame} {cs : List Frame} {w' : World} {S : Sem Next} {f : FuncId} {args : Array Value} (hc : ∀ d x y z r, fr.todo ≠ .call d x y z :: r) (hr : S.run P w = .ok (.enter f args) w') :
   (stepG.apply P true fr cs none S w).bare = .go { frame := Frame.enter P f args .normal, callers := fr :: cs, status := .running, dying := none } w' := by
 have : (match fr.todo with | .call _ true _ _ :: _ => CallKind.wrapped | _ => .normal) = .normal := by
   split
   · rename_i e; exact absurd e (hc _ _ _ _ _)
   · rfl
 simp [stepG.apply, hr]
 exact congrArg (Frame.enter P f args) this
theorem apply_round {fr : Frame} {cs : List Frame} {w' : World} {S : Sem Next} {l : Nat} {f : FuncId} {tmps : Array Value} {a b : Code} (hr : S.run P w = .ok (.round l f tmps a b) w') :
   (stepG.apply P true fr cs none S w).bare = .go { frame := Frame.round l f tmps a b .normal, callers := fr :: cs, status := .running, dying := none } w' := by
 simp [stepG.apply, hr]
theorem enter_sound (hft : FTok P FT) {s s' : ASt} {af : AFr} {fr : Frame} {cs base : List Frame} {c : Callee'} (h : enterA FT af s c = some s') (hr : HR w0 ρ s.H s.n w) (hfr : FRel P ρ s.H s.n false af fr) (hlo : af.lo ≤ s.n)
   (hst : StackR P ρ s.H af.lo s.cs cs) {S : Sem Next} {fr0 : Frame} {w1 : World} (hg : (stepG P true { frame := fr0, callers := cs ++ base, status := .running, dying := none } w1).bare = (stepG.apply P true fr (cs ++ base) none S w).bare) (hc : ∀ d x y z r, fr.todo ≠ .call d x y z :: r)
   (hS : (∃ g xs us, c = .fn g xs ∧ VRs ρ xs us ∧ S.run P w = (callFunc g us.toArray).run P w) ∨ (∃ i xs vs b cc, c = .yl i xs ∧ VRs ρ xs vs ∧ ρ i = some (b, cc) ∧ S.run P w = (Instr.yield b vs.toArray).run P w)) :
   ∃ fr', step P (lone fr0 (cs ++ base) w1) = .next (lone fr' (fr :: cs ++ base) w) ∧ SR P w0 s' fr' (fr :: cs) w := by
 rcases hS with ⟨g, xs, us, rfl, hx, hrun⟩ | ⟨i, xs, vs, b, cc, rfl, hx, hi, hrun⟩
 · simp only [enterA] at h
   cases hfn : FT g with
   | none => simp [hfn] at h
   | some fn =>
     cases hb : fn.body with
     | none => simp [hfn, hb] at h
     | some body =>
       simp only [hfn, hb, Option.some.injEq] at h
       subst h
       refine ⟨_, step_lone_go (hg.trans (apply_enter hc (hrun.trans (hft.call hfn (by rw [hb]; rfl) _ _)))), ρ, hr, ?_, Nat.le_refl _, .cons hfr hlo hst⟩
       have hP := hft.fn hfn
       refine ⟨rfl, rfl, rfl, .nil, .inl ⟨rfl, rfl⟩, [], _, rfl, ?_, rfl, ?_⟩
       · simp only [hP, Option.bind_some, hb, Option.getD_some]
         exact .cons (.code _) .nil
       · have := argsT_TR hx fn.ntmps
         simpa [Frame.enter, hP] using this
 · simp only [enterA] at h
   split at h
   · rename_i st pd fn nt T ps asg bd d hB
     rw [beq_dec] at h
     by_cases hl : xs.length = ps.length
     · simp only [hl, decide_true, cond_true, Option.some.injEq] at h
       subst h
       obtain ⟨o, ho, ts, db, dc, hts, hd, rfl⟩ := hr.blk hi hB
       have hvl := hx.length
       have hy : (Instr.yield b vs.toArray).run P w = .ok (.round b fn ((ps.toArray.zip vs.toArray).foldl (fun tmps (x : Tmp × Value) => tmps.setIfInBounds x.1 x.2) ts) asg bd) w := by
         unfold Instr.yield
         have hne : ¬ (vs.toArray.size ≠ ps.toArray.size) := by simp; omega
         simp only [Sem.run_bind, run_getLoop ho, Result.andThen_ok, if_neg hne, Sem.run_pure]
       refine ⟨_, step_lone_go (hg.trans (apply_round (hrun.trans hy))), ρ, hr, ?_, Nat.le_refl _, .cons hfr hlo hst⟩
       refine ⟨rfl, rfl, rfl, .nil, .inr ⟨i, b, cc, rfl, rfl, hi⟩, [], _, rfl, .cons (.code _) (.cons .beginRound (.cons (.code _) .nil)), rfl, ?_⟩
       have := putParams_TR (ps := ps) hts hx
       have he : (ps.toArray.zip vs.toArray).foldl (fun tmps (x : Tmp × Value) => tmps.setIfInBounds x.1 x.2) ts = (ps.zip vs).foldl (fun t p => t.setIfInBounds p.1 p.2) ts := by
         rw [← Array.foldl_toList]; simp
       simp only [Frame.round, he]
       exact this
     · simp [hl] at h
   · cases h
theorem now_sound (hk : HKok P HK) {T : Tr AV} {o : Oper} {x : AV} (hr : HR w0 ρ H n w) (h : nowA HK P T o H n = some (x, H', n')) {fr : Frame} {cs : List Frame} (hev : ∀ y ∈ o.op.operands, VR ρ (aev T y) (fr.eval y))
   (hg : stepG P true { frame := fr, callers := cs, status := .running, dying := none } w = stepG.apply P true fr cs none (execOp fr.eval o) w) (hc : ∀ d x y z r, fr.todo ≠ .call d x y z :: r) :
   ∃ ρ' v w', Steps P (lone fr cs w) (lone (fr.finish v) cs w') ∧ VR ρ' x v ∧ HR w0 ρ' H' n' w' ∧ Ext ρ ρ' H H' n n' := by
 unfold nowA at h
 cases hW : aopW P T o H n with
 | some r =>
   rw [hW] at h
   simp at h; subst h
   obtain ⟨ρ', v, w', h1, h2, h3, h4⟩ := aopW_sound hr hW hev
   refine ⟨ρ', v, w', ?_, h2, h3, h4⟩
   rcases h1 with h1 | ⟨rfl, h1⟩
   · exact .one (step_value hg h1)
   · exact .one (step_skip' hg h1)
 | none =>
   rw [hW] at h
   simp only [hooked] at h
   split at h
   · rename_i f args hco
     obtain ⟨hen, hcalls⟩ := hk h
     rcases callOf_sound hco hev with ⟨g, xs, us, h1, h2, h3⟩ | ⟨i, xs, vs, b, cc, h1, _⟩
     · cases h1
       have hst := step_enter hc hg ((h3 w).trans (hen _ _))
       obtain ⟨e, w', fr'', hR, hcomes, _, hleave⟩ := hcalls hr h2 (fr :: cs)
       obtain ⟨ρ', v, rfl, hv, hr', hx⟩ := hR
       exact ⟨ρ', v, w', .head hst (Steps.trans hcomes (.one (step_leave_returned hleave))), hv, hr', hx⟩
     · cases h1
   · cases h
theorem FRel.pl_done {af : AFr} {fr : Frame} {hi hi' : Nat} {live : Bool} {ρ' : Env} {ops : Array Oper} {o : Oper} {r : List Oper} (h : FRel P ρ H hi live af fr) (hrg : af.rg = .pl ops (o :: r)) (hle : ρ.le ρ') {x : AV} {v : Value} (hv : VR ρ' x v) (live' : Bool) :
   FRel P ρ' H' hi' live' { af with T := putT af.nt af.T o.dst x, rg := .pl ops r } (fr.finish v) := by
 obtain ⟨front, rest, h1, h2, h3⟩ := h.todo
 rw [hrg] at h3
 obtain ⟨⟨rest', rfl, hp⟩, hT⟩ := h3
 obtain ⟨i, r', rfl, hi, hp'⟩ := hp.head
 have ht : fr.todo = .inRegion ops (i :: r') :: rest := h1
 rw [finish_region ht hi v]
 exact ⟨h.fn, h.kind, h.mode, h.ds.mono hle, h.ro.mono hle, [.inRegion ops r'], rest, rfl, h2.mono hle, ⟨r', rfl, hp'⟩, (hT.mono hle).put hv⟩
theorem DrR.opdone {ρ' : Env} {lo nt D : Nat} {live : Bool} {T X T0 : Tr AV} {l : List Oper} {lds : List (Nat × TypeId × AV × AV)} {W : Tr Nat} {C : Nat → Prop} {G : Nat → Option Nat} {y : Nat} {r : List Nat} {ts : Array Value} {hi hi' : Nat}
   (h : DrR P ρ H lo hi live nt T l D X T0 lds W C G (y :: r) ts) (hy : Nat.testBit D y = false) {o : Oper} (ho : l[y]? = some o) {x : AV} {v : Value} (hle : ρ.le ρ') (hg : ∀ g, g < hi → ρ g = none → ρ' g = none ∧ H'.get g = H.get g) (hnn : hi ≤ hi')
   (hl : ldsOk P H' lds = true) (hv : VR ρ' x v) :
   DrR P ρ' H' lo hi' true nt (Ev.putT nt T o.dst x) l (D ||| 2 ^ y) (tput X y x) T0 lds W (fun z => C z ∨ z = y) G r (match o.dst with | some d => ts.setIfInBounds d v | none => ts) := by
 cases h.lin with
 | cons hylt hn hp t =>
   have hX : ∀ i, i ≠ y → At (tput X y x) i = At X i := fun i hi => by rw [At_tput, if_neg hi]
   have hXy : At (tput X y x) y = x := by rw [At_tput, if_pos rfl]
   have hpD : ∀ p, Pred l y p → Nat.testBit D p = true := fun p hpp => h.sub p (hp p hpp)
   have hanc : ∀ z i, Nat.testBit D z = true → ancB l z i = true → i ≠ y := fun z i hz hi e => by
     have := anc_closed h.sc.below (C := fun i => Nat.testBit D i = true) h.closD z i (fun p hpp => h.closD z p hz hpp) hi
     rw [e, hy] at this; cases this
   have h2 := (h.mono hle hnn hg).live hl
   refine { h with lin := t, closC := fun z p hz hzp => ?_, closD := fun z p hz hzp => ?_, sub := fun z hz => ?_, dlt := fun z hz => ?_, size := ?_, T := h.putT ho hy x, ts := fun s => ?_, pend := fun z hz hzC => ?_, gb := fun {a g} ha => ?_ }
   · rcases hz with hz | rfl
     · exact .inl (h.closC z p hz hzp)
     · exact .inl (hp p hzp)
   · rw [testBit_put] at hz ⊢
     by_cases e : y = z
     · subst e; rw [hpD p hzp]; rfl
     · simp [e] at hz; rw [h.closD z p hz hzp]; rfl
   · rw [testBit_put]
     rcases hz with hz | rfl
     · rw [h.sub z hz]; rfl
     · simp
   · rw [testBit_put] at hz
     by_cases e : y = z
     · subst e; exact hylt
     · simp [e] at hz; exact h.dlt z hz
   · cases o.dst <;> simp [h.size]
   · exact h.putTs hle ho hn (fun i hi => hX i (fun e => hn (e ▸ hi))) (by rw [hXy]; exact hv) s
   · have hne : z ≠ y := fun e => hzC (.inr e)
     have hzD : Nat.testBit D z = true := by
       rw [testBit_put] at hz
       have : y ≠ z := fun h => hne h.symm
       simpa [this] using hz
     obtain ⟨o', Ty, q1, q2, q3⟩ := h2.pend z hzD (fun hc => hzC (.inl hc))
     refine ⟨o', Ty, q1, fun s hs => (q2 s hs).trans (envS_congr fun i hi => (hX i (hanc z i hzD hi)).symm), ?_⟩
     rw [hX z hne]
     exact q3
   · have := h.gb ha
     exact ⟨Nat.lt_of_lt_of_le this.1 hnn, by rw [testBit_put, this.2]; rfl⟩
theorem finishA_sound {c c' : AFr} {cfr : Frame} {hi hi' : Nat} {x : AV} {v : Value} (h : finishA P H c x = some c') (hf : FRel P ρ H hi false c cfr) (hhi : hi ≤ hi') (hv : VR ρ x v) : FRel P ρ H hi' true c' (cfr.finish v) ∧ c'.lo = c.lo := by
 unfold finishA at h
 split at h
 · rename_i ops o r hrg
   simp only [Option.some.injEq] at h
   subst h
   exact ⟨hf.pl_done hrg ρ.le_refl hv true, rfl⟩
 · rename_i ops D X T0 lds y hrg
   split at h
   · rename_i o ho
     cases hl : ldsOk P H lds with
     | false => simp [hl] at h
     | true =>
       simp only [hl, cond_true, Option.some.injEq] at h
       subst h
       obtain ⟨front, rest, h1, h2, h3⟩ := hf.todo
       rw [hrg] at h3
       obtain ⟨W, C, G, rest', rfl, hd, hcur⟩ := h3
       obtain ⟨r, rfl, hyD⟩ := hcur y rfl
       have ht : cfr.todo = .inRegion ops (y :: r) :: rest := h1
       have ho' : ops[y]? = some o := by simpa using ho
       rw [finish_region ht ho' v]
       refine ⟨⟨hf.fn, hf.kind, hf.mode, hf.ds, hf.ro, [.inRegion ops r], rest, rfl, h2, W, _, G, r, rfl, hd.opdone hyD ho ρ.le_refl (fun g _ hn => ⟨hn, rfl⟩) hhi hl hv, fun y hy => by cases hy⟩, rfl⟩
   · cases h
 · rename_i hrg
   split at h
   · rename_i i k htd
     simp only [Option.some.injEq] at h
     subst h
     obtain ⟨front, rest, h1, h2, h3⟩ := hf.todo
     rw [hrg] at h3
     obtain ⟨rfl, hT⟩ := h3
     rw [htd] at h2
     cases h2 with
     | cons a t =>
       cases a with
       | inRF hb =>
         rename_i m b cc
         have ht : cfr.todo = .inRangeFunc b :: m := h1
         have hfin : cfr.finish v = { cfr with todo := .endRangeFunc b :: m } := by unfold Frame.finish; rw [ht]
         rw [hfin]
         refine ⟨⟨hf.fn, hf.kind, hf.mode, hf.ds, hf.ro, [], _, rfl, .cons (.endRF hb) t, ?_⟩, rfl⟩
         simp only [hrg]
         exact ⟨rfl, hT⟩
   · cases h
 · cases h
end
end
noncomputable section
section
variable {P : Program} {FT : FuncId → Option Func} {HK : Hook} {w0 : Bs}
def Goes (P : Program) (w0 : Bs) (base : List Frame) (s' : ASt) (fr : Frame) (cs : List Frame) (w : World) : Prop :=
 ∃ fr' cs' w', Steps P (lone fr (cs ++ base) w) (lone fr' (cs' ++ base) w') ∧ SR P w0 s' fr' cs' w'
theorem Goes.head {base : List Frame} {s' : ASt} {fr fr1 : Frame} {cs cs1 : List Frame} {w w1 : World} (h : Steps P (lone fr (cs ++ base) w) (lone fr1 (cs1 ++ base) w1)) (k : Goes P w0 base s' fr1 cs1 w1) : Goes P w0 base s' fr cs w := by
 obtain ⟨fr', cs', w', h1, h2⟩ := k
 exact ⟨fr', cs', w', h.trans h1, h2⟩
theorem back_sound {base : List Frame} {s s' : ASt} {fr : Frame} {cs : List Frame} {w w' : World} {ρ : Env} {x : AV} {v : Value} (h : backA P s x = some s') (hr : HR w0 ρ s.H s.n w') (hst : StackR P ρ s.H s.fr.lo s.cs cs) (hlo : s.fr.lo ≤ s.n) (hv : VR ρ x v)
   (hk : ∀ c cs', cs = c :: cs' → step P (lone fr (cs ++ base) w) = .next (lone (c.finish v) (cs' ++ base) w')) : Goes P w0 base s' fr cs w := by
 unfold backA at h
 generalize hscs : s.cs = scs at hst h
 cases hst with
 | nil => cases h
 | cons hf hl t =>
   rename_i c cfr l m
   simp only at h
   cases hc : finishA P s.H c x with
   | none => simp [hc] at h
   | some c' =>
     simp only [hc, Option.some.injEq] at h
     subst h
     obtain ⟨h1, h2⟩ := finishA_sound hc hf hlo hv
     refine ⟨_, m, w', .one (hk cfr m rfl), ρ, hr, h1, ?_, ?_⟩
     · show c'.lo ≤ s.n
       rw [h2]; omega
     · show StackR P ρ s.H c'.lo l m
       rw [h2]; exact t
theorem todo_sound {base : List Frame} {s : ASt} {fr : Frame} {cs : List Frame} {w : World} (h : SR P w0 s fr cs w) (hrg : s.fr.rg = .no) (hret : s.fr.ret = false) {l : List AItem} {m : List Item} (hl : ∀ ρ, IRs ρ s.fr.todo fr.todo → IRs ρ l m)
   (hs : stepG.exec P true true fr (cs ++ base) none w = .go { frame := { fr with todo := m }, callers := cs ++ base, status := .running, dying := none } w) : Goes P w0 base { s with fr := { s.fr with todo := l } } fr cs w := by
 obtain ⟨ρ, hr, hf, hlo, hst⟩ := h
 obtain ⟨front, rest, h1, h2, h3⟩ := hf.todo
 rw [hrg] at h3
 obtain ⟨rfl, hT⟩ := h3
 have ht : fr.todo = rest := h1
 have hm := hf.mode
 rw [hret] at hm
 refine ⟨_, cs, w, .one (step_todo hm hs), ρ, hr, ⟨hf.fn, hf.kind, hf.mode, hf.ds, hf.ro, [], m, rfl, hl ρ (ht ▸ h2), ?_⟩, hlo, hst⟩
 simp only [hrg]
 exact ⟨rfl, hT⟩
theorem Fr.put (w : World) (b : Nat) (o : Obj) : Fr (fun k => k = b) w (w.putObj b o) := ⟨rfl, rfl, rfl, by simp [World.putObj], fun k _ hn => World.putObj_heap_other hn⟩
theorem leave_sound {base : List Frame} {s s' : ASt} {fr : Frame} {cs : List Frame} {w : World} (h : SR P w0 s fr cs w) (_hrg : s.fr.rg = .no) (hret : s.fr.ret = false) {jump : Option Code} (hl : leaveA P s jump = some s')
   (hs0 : fr.roundOf = none → (jump = none ∨ jump = some .ret) → stepG.exec P true true fr (cs ++ base) none w = .go { frame := { fr with mode := .returning }, callers := cs ++ base, status := .running, dying := none } w)
   (hs1 : ∀ l, fr.roundOf = some l → stepG.exec P true true fr (cs ++ base) none w = GStep.after (seen P fr.fn ((Instr.endRound l jump).runT P w #[]).2) (match ((Instr.endRound l jump).runT P w #[]).1 with
       | .ok v w => doReturn P true fr (cs ++ base) none v w
       | .halt _ w => .ended (.stuck "range over a function: no such loop" (fr.pos P)) w)) : Goes P w0 base s' fr cs w := by
 obtain ⟨ρ, hr, hf, hlo, hst⟩ := h
 have hm := hf.mode
 rw [hret] at hm
 unfold leaveA at hl
 rcases hf.ro with ⟨hro, hro'⟩ | ⟨i, b, c, hro, hro', hi⟩
 · rw [hro] at hl
   simp only at hl
   have key : ∀ s'', some { s with fr := { s.fr with ret := true } } = some s'' → (jump = none ∨ jump = some .ret) → Goes P w0 base s'' fr cs w := by
     intro s'' he hj
     simp only [Option.some.injEq] at he
     subst he
     obtain ⟨front, rest, h1, h2, h3⟩ := hf.todo
     exact ⟨_, cs, w, .one (step_todo hm (hs0 hro' hj)), ρ, hr, ⟨hf.fn, hf.kind, rfl, hf.ds, hf.ro, front, rest, h1, h2, h3⟩, hlo, hst⟩
   split at hl
   · exact key _ hl (.inl rfl)
   · exact key _ hl (.inr rfl)
   · cases hl
 · rw [hro] at hl
   have hs := hs1 b hro'
   simp only at hl
   split at hl
   · rename_i st pd fn nt T ps asg bd d hB
     obtain ⟨o, ho, ts, db, dc, hts, hd, rfl⟩ := hr.blk hi hB
     have hrun : (Instr.endRound b jump).run P w = .ok (.bool (goesOn jump)) (w.putObj b (.loop { state := (stOf jump), pending := jump, fn := fn, tmps := ts, params := ps.toArray, assign := asg, body := bd, defers := db })) := by
       unfold Instr.endRound
       simp only [Sem.run_bind, run_getLoop ho, Result.andThen_ok, Sem.run_pure]
       simp only [setObj, Sem.run, ho, Result.andThen_ok, World.putObj]
       cases jump <;> rfl
     have hw' : HR w0 ρ (tput s.H i (.loop (stOf jump) jump fn nt T ps asg bd d)) s.n (w.putObj b (.loop { state := (stOf jump), pending := jump, fn := fn, tmps := ts, params := ps.toArray, assign := asg, body := bd, defers := db })) :=
       hr.write hi hB rfl (World.putObj_heap_same (hr.base hi).2) ⟨ts, db, dc, hts, hd, rfl⟩ (Fr.put w b _)
     refine back_sound hl hw' ?_ hlo (VR.v _) (fun c cs' hcs => ?_)
     · exact hst.mono ρ.le_refl (fun g _ hn => ⟨hn, by rw [get_tput, if_neg (fun e => by subst e; rw [hi] at hn; cases hn)]⟩)
     · refine step_lone_go ?_
       have hstep : stepG P true { frame := fr, callers := cs ++ base, status := .running, dying := none } w = stepG.exec P true true fr (cs ++ base) none w := by
         obtain ⟨fn, tmps, todo, defers, mode, kind, ro⟩ := fr
         simp only at hm; subst hm
         rfl
       rw [hstep, hs]
       simp only [Sem.runT_eq, hrun, GStep.bare_after]
       rw [hcs]
       simp only [List.cons_append, doReturn, hf.kind]
       rfl
   · cases hl
end
end
noncomputable section
section
variable {P : Program} {FT : FuncId → Option Func} {HK : Hook} {w0 : Bs}
theorem inRegion_not_call {ops : Array Oper} {l : List Nat} {k : List Item} : ∀ d x y z r, (Item.inRegion ops l :: k) ≠ .call d x y z :: r := fun _ _ _ _ _ e => by cases e
theorem stepPl_sound (hft : FTok P FT) (hk : HKok P HK) {base : List Frame} {s s' : ASt} {fr : Frame} {cs : List Frame} {w : World} {ops : Array Oper} {o : Oper} {r : List Oper} (h : SR P w0 s fr cs w) (hrg : s.fr.rg = .pl ops (o :: r)) (hret : s.fr.ret = false)
   (hs : stepPl HK P FT s ops o r = some s') : Goes P w0 base s' fr cs w := by
 obtain ⟨ρ, hr, hf, hlo, hst⟩ := h
 have hm := hf.mode
 rw [hret] at hm
 obtain ⟨front, rest, h1, h2, h3⟩ := hf.todo
 rw [hrg] at h3
 obtain ⟨⟨rest', rfl, hp⟩, hT⟩ := h3
 obtain ⟨i, r', rfl, hoi, hp'⟩ := hp.head
 have ht : fr.todo = .inRegion ops (i :: r') :: rest := h1
 have hev : ∀ y ∈ o.op.operands, VR ρ (aev s.fr.T y) (fr.eval y) := fun y _ => hT.ev y
 have hw := wantedA_sound (ops := ops) (o := o) (T := s.fr.T) (fun d _ => hT.2 d)
 have fin : ∀ {ρ' : Env} {x : AV} {v : Value} {H' : Tr AB} {n' : Nat} {w' : World}, Steps P (lone fr (cs ++ base) w) (lone (fr.finish v) (cs ++ base) w') → VR ρ' x v → HR w0 ρ' H' n' w' → Ext ρ ρ' s.H H' s.n n' →
     Goes P w0 base { s with fr := { s.fr with T := putT s.fr.nt s.fr.T o.dst x, rg := .pl ops r }, H := H', n := n' } fr cs w := by
   intro ρ' x v H' n' w' hsteps hv hr' hx
   exact ⟨_, cs, w', hsteps, ρ', hr', hf.pl_done hrg hx.le hv true, Nat.le_trans hlo hx.nn, hst.mono hx.le (hx.low hlo)⟩
 unfold stepPl at hs
 cases hpl : plainOp o with
 | false => simp [hpl] at hs
 | true =>
   simp only [hpl, cond_true] at hs
   cases hwa : wantedA s.fr.T (dstIn ops.toList) o with
   | false =>
     simp only [hwa, cond_false, Option.some.injEq] at hs
     subst hs
     refine fin (.one (step_unwanted ht hm ?_)) (.v undef) hr (Ext.refl _ _ _)
     rw [hoi]; simp only [Option.map_some, Option.getD_some]; rw [hw, hwa]
   | true =>
     simp only [hwa, cond_true] at hs
     have hg := stepG_oper (P := P) (cs := cs ++ base) (w := w) ht hm hoi (by rw [hw, hwa]) hpl
     have hc : ∀ d x y z r, fr.todo ≠ .call d x y z :: r := by rw [ht]; exact inRegion_not_call
     cases hP : aopP P s.fr.T o with
     | some x =>
       simp only [hP, Option.some.injEq] at hs
       subst hs
       obtain ⟨v, hv, hrun⟩ := aopP_sound hP hev
       exact fin (.one (step_value hg (hrun w))) hv hr (Ext.refl _ _ _)
     | none =>
       simp only [hP] at hs
       split at hs
       · rename_i t a hop
         cases hl : loadA P t (aev s.fr.T a) s.H with
         | none => simp [hl] at hs
         | some x =>
           simp only [hl, Option.some.injEq] at hs
           subst hs
           obtain ⟨v, hv, hrun⟩ := loadA_sound hr hl (hev a (by rw [hop]; simp [Op.operands]))
           refine fin (.one (step_value hg ?_)) hv hr (Ext.refl _ _ _)
           unfold execOp
           simp only [hop, Sem.run_bind, hrun, Result.andThen_ok, Sem.run_pure]
       · cases hN : aopN P s.fr.T o with
         | some q =>
           obtain ⟨e, l, k⟩ := q
           simp only [hN, Option.some.injEq] at hs
           subst hs
           obtain ⟨vs, hvs, hrun⟩ := aopN_sound hN hev
           have hbr : BR (ρ.set s.n (w.heap.size, 0)) 0 (.mem e none l) (.cells vs.toArray e) := ⟨vs, [], (0, 0), hvs.mono (Env.le_set (hr.top (Nat.le_refl _)).1 _), by simp, unfrozen_zero _, rfl⟩
           exact fin (.one (step_value hg (hrun w))) (NewV.VR (Env.set_same _ _ _) k) (hr.alloc hbr) (Ext.alloc hr _ _)
         | none =>
           simp only [hN] at hs
           cases hnow : nowA HK P s.fr.T o s.H s.n with
           | some q =>
             obtain ⟨x, H', n'⟩ := q
             simp only [hnow, Option.some.injEq] at hs
             subst hs
             obtain ⟨ρ', v, w', g1, g2, g3, g4⟩ := now_sound hk hr hnow hev hg hc
             exact fin g1 g2 g3 g4
           | none =>
             simp only [hnow] at hs
             cases hco : callOf P s.fr.T o with
             | none => simp [hco] at hs
             | some c =>
               simp only [hco] at hs
               have hS := callOf_sound (P := P) hco hev
               obtain ⟨fr', g1, g2⟩ := enter_sound (base := base) hft hs hr (hf.mono ρ.le_refl (Nat.le_refl _) (fun g _ hn => ⟨hn, rfl⟩)) hlo hst (congrArg GStep.bare hg) hc (by
                 rcases hS with ⟨g, xs, us, q1, q2, q3⟩ | ⟨j, xs, vs, b, cc, q1, q2, q3, q4⟩
                 · exact .inl ⟨g, xs, us, q1, q2, q3 w⟩
                 · exact .inr ⟨j, xs, vs, b, cc, q1, q2, q3, q4 w⟩)
               exact ⟨fr', fr :: cs, w, .one g1, g2⟩
theorem firstEager_spec {T : Tr AV} {all : List Oper} {H : Tr AB} {n : Nat} : ∀ {l : List (Nat × Oper)} {r}, firstEager P T all H n l = some r → (r.1, r.2.1) ∈ l ∧ eagerA P T all r.2.1 H n = some r.2.2
 | [], r, h => by simp [firstEager] at h
 | (y, o) :: l, r, h => by
   unfold firstEager at h
   cases he : eagerA P T all o H n with
   | some q =>
     obtain ⟨x, H', n', q⟩ := q
     simp only [he, Option.some.injEq] at h
     subst h
     exact ⟨by simp, he⟩
   | none =>
     simp only [he] at h
     obtain ⟨h1, h2⟩ := firstEager_spec h
     exact ⟨by simp [h1], h2⟩
theorem stepDr_sound (hft : FTok P FT) (hk : HKok P HK) {base : List Frame} {s s' : ASt} {fr : Frame} {cs : List Frame} {w : World} {ops : Array Oper} {D : Nat} {X T0 : Tr AV} {lds : List (Nat × TypeId × AV × AV)} (h : SR P w0 s fr cs w) (hrg : s.fr.rg = .dr ops D X T0 lds none) (hret : s.fr.ret = false)
   (hs : stepDr HK P FT s ops D X T0 lds = some s') : Goes P w0 base s' fr cs w := by
 obtain ⟨ρ, hr, hf, hlo, hst⟩ := h
 have hm := hf.mode
 rw [hret] at hm
 obtain ⟨front, rest, h1, h2, h3⟩ := hf.todo
 rw [hrg] at h3
 obtain ⟨W, C, G, rest', rfl, hd, _⟩ := h3
 have ht : fr.todo = .inRegion ops rest' :: rest := h1
 unfold stepDr at hs
 simp only at hs
 split at hs
 · -- all is done
   rename_i hnone
   simp only [Option.some.injEq] at hs
   subst hs
   obtain ⟨rest2, ρ2, w2, fr2, C2, g1, g2, g3, g4, g5, g6, g7⟩ := catchup (cs := cs ++ base) rest' ρ w fr C hr ht hm hd
   have hnil : rest2 = [] := by
     cases rest2 with
     | nil => rfl
     | cons y r =>
       have hy := g7 y r rfl
       cases g6.lin with
       | cons hylt hn hp t =>
         have ho : ops.toList[y]? = some (ops.toList[y]) := List.getElem?_eq_getElem hylt
         have : (y, ops.toList[y]) ∈ readyL D ops.toList 0 := mem_ready'.2 ⟨ho, hy, fun p hpp => g6.sub p (hp p hpp)⟩
         rw [hnone] at this; cases this
   subst hnil
   have ht2 : fr2.todo = .inRegion ops [] :: rest := by rw [g5]
   have hm2 : fr2.mode = .run := by rw [g5]; exact hm
   have hstep : step P (lone fr2 (cs ++ base) w2) = .next (lone { fr2 with todo := rest } (cs ++ base) w2) := step_todo hm2 (by simp only [stepG.exec, ht2])
   have hall : ∀ i, i < ops.toList.length → C2 i := by
     cases g6.lin with | nil h => exact h
   refine ⟨_, cs, w2, g1.trans (.one hstep), ρ2, g2, ⟨by rw [g5]; exact hf.fn, by rw [g5]; exact hf.kind, by rw [g5]; exact hf.mode, by rw [g5]; exact hf.ds.mono g3, by rw [g5]; exact hf.ro.mono g3, [], rest, rfl, h2.mono g3, rfl, g6.size, fun q => ?_⟩, hlo, hst.mono g3 (fun g hg hn => ⟨(g4 g hg).trans hn, rfl⟩)⟩
   classical
   have h4 := g6.ts q
   show VR ρ2 (At s.fr.T q) _
   rw [g6.T q]
   rwa [valS_congr (C' := fun i => Nat.testBit D i = true) (X' := X) (fun i hi => ⟨⟨g6.sub i, fun hb => hall i (g6.dlt i hb)⟩, fun _ => rfl⟩)] at h4
 · rename_i hne
   split at hs
   · -- ahead
     rename_i y o x H n l he
     simp only [Option.some.injEq] at hs
     subst hs
     obtain ⟨hmem, he'⟩ := firstEager_spec he
     obtain ⟨G', g1, g2, g3⟩ := hd.ahead hr hlo hmem he'
     exact ⟨fr, cs, w, Steps.refl _ _, ρ, g1, ⟨hf.fn, hf.kind, hf.mode, hf.ds, hf.ro, _, rest, h1, h2, W, C, G', rest', rfl, g3, fun y hy => by cases hy⟩, Nat.le_trans hlo g2.nn, hst.mono g2.le (g2.low hlo)⟩
   · split at hs
     · rename_i y o hrs
       obtain ⟨rest2, ρ2, w2, fr2, C2, g1, g2, g3, g4, g5, g6, g7⟩ := catchup (cs := cs ++ base) rest' ρ w fr C hr ht hm hd
       have hmem : (y, o) ∈ readyL D ops.toList 0 := by rw [hrs]; simp
       obtain ⟨ho, hyD, hpD⟩ := mem_ready'.1 hmem
       obtain ⟨r, rfl⟩ : ∃ r, rest2 = y :: r := by
         cases hrest : rest2 with
         | nil =>
           subst hrest
           cases g6.lin with
           | nil h =>
             have := g6.sub y (h y (List.getElem?_eq_some_iff.1 ho).1)
             rw [hyD] at this; cases this
         | cons z r =>
           subst hrest
           have hz := g7 z r rfl
           cases g6.lin with
           | cons hzlt hn hp t =>
             have hoz : ops.toList[z]? = some (ops.toList[z]) := List.getElem?_eq_getElem hzlt
             have : (z, ops.toList[z]) ∈ readyL D ops.toList 0 := mem_ready'.2 ⟨hoz, hz, fun p hpp => g6.sub p (hp p hpp)⟩
             rw [hrs] at this
             simp at this
             exact ⟨r, by rw [this.1]⟩
       have hlin : ¬ C2 y ∧ ∀ p, Pred ops.toList y p → C2 p := by
         cases g6.lin with | cons _ hn hp _ => exact ⟨hn, hp⟩
       have ht2 : fr2.todo = .inRegion ops (y :: r) :: rest := by rw [g5]
       have hm2 : fr2.mode = .run := by rw [g5]; exact hm
       have ho' : ops[y]? = some o := by simpa using ho
       have hsee : ∀ q, Sees ops.toList o q → VR ρ2 (At s.fr.T q) (fr2.tmps.getD q undef) := fun q hq => by
         rw [g6.sees ho hq hyD hpD]; exact g6.seesC ho hq hlin.1 hlin.2
       have hev := ev_of_slots (fr := fr2) (fun q hq => hsee q (.inl hq))
       have hw := wantedA_sound (ops := ops) (fun d hd => hsee d (.inr hd))
       have hst2 : StackR P ρ2 s.H s.fr.lo s.cs cs := hst.mono g3 (fun g hg hn => ⟨(g4 g hg).trans hn, rfl⟩)
       have hwa : wantedA s.fr.T (dstIn ops.toList) o = true := by
         cases hwa : wantedA s.fr.T (dstIn ops.toList) o with
         | true => rfl
         | false =>
           rename_i hnoE _
           have : firstEager P s.fr.T ops.toList s.H s.n (readyL D ops.toList 0) ≠ none := by
             rw [hrs]
             simp [firstEager, eagerA, hwa]
           exact absurd hnoE this
       have hpl := g6.sc.plain ho
       have hg := stepG_oper (P := P) (cs := cs ++ base) (w := w2) ht2 hm2 ho' (by rw [hw, hwa]) hpl
       have hc : ∀ d x y z r, fr2.todo ≠ .call d x y z :: r := by rw [ht2]; exact inRegion_not_call
       have g6' := g6.forOp hlin.2
       split at hs
       · -- at once
         rename_i x H' n' hnow
         cases hl : ldsOk P H' (ldsFor ops.toList y lds) with
         | false => simp [hl] at hs
         | true =>
           simp only [hl, cond_true, Option.some.injEq] at hs
           subst hs
           obtain ⟨ρ', v, w', q1, q2, q3, q4⟩ := now_sound hk g2 hnow hev hg hc
           rw [finish_region ht2 ho' v] at q1
           have hdone := g6'.opdone (hi' := n') hyD ho q4.le (fun g hgl hn => ⟨(q4.old hgl).trans hn, q4.keep hgl hn⟩) q4.nn hl q2
           refine ⟨_, cs, w', g1.trans q1, ρ', q3, ⟨by rw [g5]; exact hf.fn, by rw [g5]; exact hf.kind, by rw [g5]; exact hf.mode, by rw [g5]; exact (hf.ds.mono g3).mono q4.le, by rw [g5]; exact (hf.ro.mono g3).mono q4.le, [.inRegion ops r], rest, rfl, (h2.mono g3).mono q4.le, W, _, G, r, rfl, hdone, fun y hy => by cases hy⟩, Nat.le_trans hlo q4.nn, hst2.mono q4.le (q4.low hlo)⟩
       · split at hs
         · -- a call
           rename_i c hco
           have hS := callOf_sound (P := P) hco hev
           have hfr2 : FRel P ρ2 s.H s.n false { s.fr with rg := .dr ops D X T0 (ldsFor ops.toList y lds) (some y) } fr2 :=
             ⟨by rw [g5]; exact hf.fn, by rw [g5]; exact hf.kind, by rw [g5]; exact hf.mode, by rw [g5]; exact hf.ds.mono g3, by rw [g5]; exact hf.ro.mono g3, [.inRegion ops (y :: r)], rest, ht2, h2.mono g3, W, C2, G, y :: r, rfl,
               g6'.mono ρ2.le_refl (Nat.le_refl _) (fun g _ hn => ⟨hn, rfl⟩), fun y' hy' => by cases hy'; exact ⟨r, rfl, hyD⟩⟩
           obtain ⟨fr', q1, q2⟩ := enter_sound (base := base) hft hs g2 hfr2 hlo hst2 (congrArg GStep.bare hg) hc (by
             rcases hS with ⟨g, xs, us, e1, e2, e3⟩ | ⟨j, xs, vs, b, cc, e1, e2, e3, e4⟩
             · exact .inl ⟨g, xs, us, e1, e2, e3 w2⟩
             · exact .inr ⟨j, xs, vs, b, cc, e1, e2, e3, e4 w2⟩)
           exact ⟨fr', fr2 :: cs, w2, g1.trans (.one q1), q2⟩
         · cases hs
     · cases hs
end
end
noncomputable section
section
variable {P : Program} {FT : FuncId → Option Func} {HK : Hook} {w0 : Bs}
theorem IRs.tail {ρ : Env} {x : AItem} {y : Item} {l : List AItem} {m : List Item} (h : IRs ρ (x :: l) (y :: m)) : IRs ρ l m := by cases h with | cons _ t => exact t
theorem stepCode_sound (hft : FTok P FT) (hmix : P.follows .mixedOrders = true) {base : List Frame} {s s' : ASt} {fr : Frame} {cs : List Frame} {w : World} {c : Code} {k : List AItem} (h : SR P w0 s fr cs w) (hrg : s.fr.rg = .no) (hret : s.fr.ret = false) (htd : s.fr.todo = .code c :: k)
   (hs : stepCode P FT s c k = some s') : Goes P w0 base s' fr cs w := by
 have h0 := h
 obtain ⟨ρ, hr, hf, hlo, hst⟩ := h
 have hm := hf.mode
 rw [hret] at hm
 obtain ⟨front, rest, h1, h2, h3⟩ := hf.todo
 rw [hrg] at h3
 obtain ⟨rfl, hT⟩ := h3
 rw [htd] at h2
 obtain ⟨k', rfl, hk'⟩ : ∃ k', rest = .code c :: k' ∧ IRs ρ k k' := by
   cases h2 with | cons a t => cases a; exact ⟨_, rfl, t⟩
 have ht : fr.todo = .code c :: k' := h1
 have tl : ∀ ρ', IRs ρ' s.fr.todo fr.todo → IRs ρ' k k' := fun ρ' hh => by rw [htd, ht] at hh; exact hh.tail
 have tto : ∀ {l : List AItem} {m : List Item}, (∀ ρ', IRs ρ' k k' → IRs ρ' l m) → stepG.exec P true true fr (cs ++ base) none w = .go { frame := { fr with todo := m }, callers := cs ++ base, status := .running, dying := none } w →
     some { s with fr := { s.fr with todo := l } } = some s' → Goes P w0 base s' fr cs w := by
   intro l m hl hx he
   simp only [Option.some.injEq] at he
   subst he
   exact todo_sound h0 hrg hret (fun ρ' hh => hl ρ' (tl ρ' hh)) hx
 cases c with
 | ret =>
   refine leave_sound h0 hrg hret (show leaveA P s (some .ret) = some s' from hs) (fun hro _ => ?_) (fun l hro => ?_)
   · simp only [stepG.exec, ht, hro]; rfl
   · simp only [stepG.exec, ht, hro]; rfl
 | skip => exact tto (fun _ h => h) (by simp only [stepG.exec, ht]) hs
 | label l => exact tto (fun _ h => h) (by simp only [stepG.exec, ht]) hs
 | seq a b => exact tto (m := .code a :: .code b :: k') (fun _ h => .cons (.code _) (.cons (.code _) h)) (by simp only [stepG.exec, ht]) hs
 | block id b => exact tto (m := .code b :: .inBlock id :: k') (fun _ h => .cons (.code _) (.cons (.inBlock _) h)) (by simp only [stepG.exec, ht]) hs
 | loop b => exact tto (m := .code b :: .inLoop b :: k') (fun _ h => .cons (.code _) (.cons (.inLoop _) h)) (by simp only [stepG.exec, ht]) hs
 | scope b => exact tto (m := .code b :: .inScope b :: k') (fun _ h => .cons (.code _) (.cons (.inScope _) h)) (by simp only [stepG.exec, ht]) hs
 | cond x a b =>
   simp only [stepCode] at hs
   have hx := hT.ev x
   split at hs
   · rename_i t hxt
     rw [hxt] at hx
     generalize hv : fr.eval x = v at hx
     cases hx
     refine tto (m := .code (cond t a b) :: k') (fun _ h => .cons (.code _) h) ?_ hs
     simp only [stepG.exec, ht, hv]
     cases t <;> rfl
   · cases hs
 | exit id =>
   simp only [stepCode] at hs
   cases hx : aexit id k with
   | some l =>
     simp only [hx] at hs
     obtain ⟨m, hm', _⟩ := (aexit_sound hk').1 hx
     refine tto (m := m) (fun ρ' hh => ?_) ?_ hs
     · obtain ⟨m2, e, hi⟩ := (aexit_sound hh).1 hx
       rw [hm'] at e; cases e; exact hi
     · simp only [stepG.exec, ht, hm', Option.elim_some]
   | none =>
     simp only [hx] at hs
     have hn := (aexit_sound (id := id) (l' := []) hk').2 hx
     refine leave_sound h0 hrg hret hs (fun hro hj => by rcases hj with h | h <;> cases h) (fun l hro => ?_)
     simp only [stepG.exec, ht, hn, Option.elim_none, hro]
     rfl
 | goto l => cases hs
 | refuse l => cases hs
 | region id ops draw =>
   simp only [stepCode] at hs
   cases draw with
   | false =>
     simp only [cond_false, Option.some.injEq] at hs
     subst hs
     refine ⟨_, cs, w, .one (step_todo (fr' := { fr with todo := .inRegion ops (List.range ops.size) :: k' }) hm (by simp [stepG.exec, ht])), ρ, hr, ⟨hf.fn, hf.kind, hf.mode, hf.ds, hf.ro, [.inRegion ops (List.range ops.size)], k', rfl, hk', ⟨_, rfl, PlR.start ops⟩, hT⟩, hlo, hst⟩
   | true =>
     simp only [cond_true] at hs
     cases hsc : scOk ops.toList with
     | false => simp [hsc] at hs
     | true =>
       simp only [hsc, cond_true, Option.some.injEq] at hs
       subst hs
       obtain ⟨W, sc⟩ := scOk_spec hsc
       obtain ⟨t, ht'⟩ : ∃ t, (choose (.order fr.fn id)).run P w = .ok t w.drew := ⟨_, by simp [choose, Sem.run, Question.forced, Question.cut]; rfl⟩
       have hstep : step P (lone fr (cs ++ base) w) = .next (lone { fr with todo := .inRegion ops (Region.schedule true ops t) :: k' } (cs ++ base) w.drew) :=
         step_todo hm (by simp only [stepG.exec, ht, ht', hmix]; rfl)
       have hfr : Fr No w w.drew := (Fr.refl No w).drew
       refine ⟨_, cs, w.drew, .one hstep, ρ, hr.same rfl hfr, ⟨hf.fn, hf.kind, hf.mode, hf.ds, hf.ro, [.inRegion ops (Region.schedule true ops t)], k', rfl, hk', W, fun _ => False, fun _ => none, _, rfl, ?_, fun y hy => by cases hy⟩, hlo, hst⟩
       have hv : ∀ (C : Nat → Prop) [DecidablePred C] (q : Nat), (∀ i, ¬ C i) → valS W s.fr.nt .e s.fr.T C q = At s.fr.T q := fun C _ q hC => by
         unfold valS
         cases W.get q with
         | none => rfl
         | some i => simp only; rw [if_neg (fun h => hC i h.2)]
       exact { sc := sc, lin := lin_schedule sc.below t, closC := fun _ _ h _ => h.elim, closD := fun y p h _ => by simp at h, sub := fun _ h => h.elim, dlt := fun y h => by simp at h, size := hT.1,
               T := fun q => (hv _ q (fun i => by simp)).symm, ts := by
                 intro inst q
                 have h := @hv _ inst q (fun _ h => h)
                 have h' := hT.2 q
                 rw [← h] at h'
                 exact h',
               pend := (fun y h => by simp at h), ginj := (fun h => by cases h), gb := (fun h => by cases h) }
 | rangeFunc f ps asg bd =>
   simp only [stepCode] at hs
   -- what is entered, from behind the two blocks
   have go : ∀ {d db dc : Nat} {H : Tr AB} {n : Nat} {ds : List Nat} {mark : List Deferred} {w1 : World} {ρ1 : Env}, HR w0 ρ1 H n w1 → Ext ρ ρ1 s.H H s.n n → ρ1 d = some (db, dc) → DsR ρ1 ds (mark ++ fr.defers) →
       (Instr.enterLoop fr.fn fr.tmps ps asg bd fr.roundOf).run P w = .ok (w1.heap.size, mark) (w1.alloc (.loop { state := .ready, pending := none, fn := fr.fn, tmps := fr.tmps, params := ps, assign := asg, body := bd, defers := db })) →
       (match calleeOf P (aev s.fr.T f) [.yl n] with
         | some c => enterA FT { s.fr with todo := .inRF n :: k, ds := ds } { s with H := tput H n (.loop .ready none s.fr.fn s.fr.nt s.fr.T ps.toList asg bd d), n := n + 1 } c
         | none => none) = some s' → Goes P w0 base s' fr cs w := by
     intro d db dc H n ds mark w1 ρ1 hr1 hx1 hd hds hrun he
     obtain ⟨ρ2, hρ2⟩ : ∃ ρ2, ρ2 = ρ1.set n (w1.heap.size, 0) := ⟨_, rfl⟩
     have htop := hr1.top (Nat.le_refl n)
     have hle2 : ρ1.le ρ2 := by rw [hρ2]; exact Env.le_set htop.1 _
     have hle : ρ.le ρ2 := Env.le_trans hx1.le hle2
     have hfn : fr.fn = s.fr.fn := hf.fn
     have hr2 : HR w0 ρ2 (tput H n (.loop .ready none s.fr.fn s.fr.nt s.fr.T ps.toList asg bd d)) (n + 1) (w1.alloc (.loop { state := .ready, pending := none, fn := fr.fn, tmps := fr.tmps, params := ps, assign := asg, body := bd, defers := db })) := by
       rw [hρ2]
       refine hr1.alloc ⟨fr.tmps, db, dc, (hT.mono hx1.le).mono (Env.le_set htop.1 _), Env.le_set htop.1 _ _ _ hd, ?_⟩
       rw [hfn]
     have hx2 : Ext ρ ρ2 s.H (tput H n (.loop .ready none s.fr.fn s.fr.nt s.fr.T ps.toList asg bd d)) s.n (n + 1) := by
       rw [hρ2]; exact hx1.trans (Ext.alloc hr1 _ _)
     have hn2 : ρ2 n = some (w1.heap.size, 0) := by rw [hρ2]; exact Env.set_same _ _ _
     cases hco : calleeOf P (aev s.fr.T f) [.yl n] with
     | none => simp [hco] at he
     | some cc =>
       simp only [hco] at he
       have hS := calleeOf_sound (P := P) hco ((hT.ev f).mono hle) (VRs.cons (VR.yl hn2) .nil)
       obtain ⟨fr2, hfr2⟩ : ∃ fr2 : Frame, fr2 = { fr with todo := .inRangeFunc w1.heap.size :: k', defers := mark ++ fr.defers } := ⟨_, rfl⟩
       have hev : fr2.eval f = fr.eval f := by rw [hfr2]; cases f <;> rfl
       have hcaller : FRel P ρ2 (tput H n (.loop .ready none s.fr.fn s.fr.nt s.fr.T ps.toList asg bd d)) (n + 1) false { s.fr with todo := .inRF n :: k, ds := ds } fr2 := by
         rw [hfr2]
         refine ⟨hf.fn, hf.kind, hf.mode, hds.mono hle2, hf.ro.mono hle, [], _, rfl, .cons (.inRF hn2) (hk'.mono hle), ?_⟩
         simp only [hrg]
         exact ⟨rfl, hT.mono hle⟩
       have hg : (stepG P true { frame := fr, callers := cs ++ base, status := .running, dying := none } w).bare = (stepG.apply P true fr2 (cs ++ base) none (toCallee (fr.eval f) [Value.func (.yield w1.heap.size) #[] #[]].toArray) (w1.alloc (.loop { state := .ready, pending := none, fn := fr.fn, tmps := fr.tmps, params := ps, assign := asg, body := bd, defers := db }))).bare := by
         have hstep : stepG P true { frame := fr, callers := cs ++ base, status := .running, dying := none } w = stepG.exec P true true fr (cs ++ base) none w := by
           obtain ⟨fn, tmps, todo, defers, mode, kind, ro⟩ := fr
           simp only at hm; subst hm
           rfl
         rw [hstep]
         simp only [stepG.exec, ht, Sem.runT_eq, hrun, GStep.bare_after]
         rw [← hfr2]
         rw [← hev]
         have hq : (do let d ← resolve fr2.eval { callee := .value f, args := #[.const (Value.func (.yield w1.heap.size) #[] #[])], argTypes := #[] } 0; invoke d.target d.args : Sem Next) = toCallee (fr2.eval f) [Value.func (.yield w1.heap.size) #[] #[]].toArray := by
           have e1 : (#[Operand.const (Value.func (.yield w1.heap.size) #[] #[])] : Array Operand).map fr2.eval = [Value.func (.yield w1.heap.size) #[] #[]].toArray := by
             simp only [List.map_toArray, List.map_cons, List.map_nil]
             rfl
           unfold toCallee resolve
           simp only [e1]
         rw [hq]
       have hc : ∀ d x y z r, fr2.todo ≠ .call d x y z :: r := by rw [hfr2]; exact fun _ _ _ _ _ e => by cases e
       have hst2 := hst.mono hle (hx2.low hlo)
       obtain ⟨fr', q1, q2⟩ := enter_sound (base := base) hft he hr2 hcaller (Nat.le_trans hlo hx2.nn) hst2 hg hc (by
         rcases hS with ⟨g, xs, us, e1, e2, e3⟩ | ⟨j, b, c2, e1, e2, e3⟩
         · exact .inl ⟨g, xs, us, e1, e2, e3 _⟩
         · exact .inr ⟨j, _, _, b, c2, e1, .cons (VR.yl hn2) .nil, e2, e3 _⟩)
       exact ⟨fr', fr2 :: cs, _, .one q1, q2⟩
   cases hh : loopHome s with
   | none => rw [hh] at hs; cases hs
   | some q =>
     obtain ⟨d, H, n, ds⟩ := q
     rw [hh] at hs
     unfold loopHome at hh
     rcases hf.ro with ⟨hro, hro'⟩ | ⟨i, b, c, hro, hro', hi⟩
     · rw [hro] at hh
       simp only [Option.some.injEq, Prod.mk.injEq] at hh
       obtain ⟨rfl, rfl, rfl, rfl⟩ := hh
       have htop := hr.top (Nat.le_refl s.n)
       have hr1 : HR w0 (ρ.set s.n (w.heap.size, 0)) (tput s.H s.n (.dfd true)) (s.n + 1) (w.alloc (.deferred (some []))) := hr.alloc (c := 0) (B := .dfd true) rfl
       refine go hr1 (Ext.alloc hr _ _) (Env.set_same _ _ _) (mark := [{ target := .collected w.heap.size, args := #[] }]) (.cons (Env.set_same _ _ _) (hf.ds.mono (Env.le_set htop.1 _))) ?_ hs
       rw [hro', run_enterLoop_outer]
       simp
     · rw [hro] at hh
       simp only at hh
       cases hB : s.H.get i with
       | none => simp [hB] at hh
       | some B =>
         cases B <;> simp only [hB] at hh <;> try (cases hh; done)
         rename_i st pd fn nt T ps' asg' bd' d'
         simp only [Option.some.injEq, Prod.mk.injEq] at hh
         obtain ⟨rfl, rfl, rfl, rfl⟩ := hh
         obtain ⟨o, ho, ts, db, dc, hts, hd, rfl⟩ := hr.blk hi hB
         refine go hr (Ext.refl _ _ _) hd (mark := []) (by simpa using hf.ds) ?_ hs
         rw [hro']
         unfold Instr.enterLoop
         simp only [Sem.run_bind, run_getLoop ho, Result.andThen_ok, Sem.run_pure, run_newObj]
         rfl
theorem resA_sound {ρ : Env} {H : Tr AB} {n nt : Nat} {T : Tr AV} {ts : Array Value} {w : World} (hr : HR w0 ρ H n w) (hT : TR ρ nt T ts) : ∀ {l : List ResultVar} {xs : List AV}, resA P T H l = some xs →
   ∃ us, VRs ρ xs us ∧ (l.mapM (fun | ResultVar.tmp t => (pure (ts.getD t undef) : Sem Value) | .cell a t => do loadVar t (← asAddr (ts.getD a undef)))).run P w = .ok us w
 | [], xs, h => by simp [resA] at h; subst h; exact ⟨[], .nil, by simp⟩
 | .tmp t :: l, xs, h => by
   unfold resA at h
   cases hl : resA P T H l with
   | none => simp [hl] at h
   | some r =>
     simp only [hl, Option.some.injEq] at h
     subst h
     obtain ⟨us, h1, h2⟩ := resA_sound hr hT hl
     exact ⟨_, .cons (hT.2 t) h1, by simp only [List.mapM_cons, Sem.run_bind, Sem.run_pure, Result.andThen_ok, h2]⟩
 | .cell a t :: l, xs, h => by
   unfold resA at h
   split at h
   · rename_i i o ha
     cases hx : loadA P t (.ptr i o) H with
     | none => simp [hx] at h
     | some x =>
       cases hl : resA P T H l with
       | none => simp [hx, hl] at h
       | some r =>
         simp only [hx, hl, Option.some.injEq] at h
         subst h
         obtain ⟨us, h1, h2⟩ := resA_sound hr hT hl
         have hp := hT.2 a
         rw [ha] at hp
         generalize hv : ts.getD a undef = v at hp
         obtain ⟨u, hu, hrun⟩ := loadA_sound (P := P) hr hx hp
         cases hp with
         | @ptr _ b c _ e =>
           have : (loadVar t ⟨b, o, none⟩).run P w = .ok u w := by
             unfold Instr.loadAt at hrun
             simpa [Instr.sureAddr] using hrun
           refine ⟨_, .cons hu h1, ?_⟩
           have ha' : (asAddr (ts.getD a undef)).run P w = .ok ⟨b, o, none⟩ w := by rw [hv]; rfl
           simp only [List.mapM_cons, Sem.run_bind, ha', Sem.run_pure, Result.andThen_ok, this, h2]
   · cases h
theorem results_sound {ρ : Env} {H : Tr AB} {n nt : Nat} {T : Tr AV} {ts : Array Value} {w : World} (hr : HR w0 ρ H n w) (hT : TR ρ nt T ts) {fn : Func} {xs : List AV} (h : resA P T H fn.results.toList = some xs) :
   ∃ v, VR ρ (tupA xs) v ∧ (results fn ts).run P w = .ok v w := by
 obtain ⟨us, h1, h2⟩ := resA_sound (P := P) hr hT h
 have hmap : (fn.results.mapM (fun | ResultVar.tmp t => (pure (ts.getD t undef) : Sem Value) | .cell a t => do loadVar t (← asAddr (ts.getD a undef)))).run P w = .ok us.toArray w := by
   rw [Array.mapM_eq_mapM_toList, Sem.run_map, h2]
   rfl
 refine ⟨if h : us.toArray.size = 1 then us.toArray[0] else .tuple us.toArray, ?_, ?_⟩
 · cases h1 with
   | nil => exact .tup .nil
   | cons a t =>
     cases t with
     | nil => exact a
     | cons b t => exact .tup (.cons a (.cons b t))
 · unfold results
   rw [Sem.run_bind]
   have hm2 := hmap
   erw [hm2]
   rfl
theorem stepE_sound (hft : FTok P FT) (hk : HKok P HK) (hmix : P.follows .mixedOrders = true) {base : List Frame} {s s' : ASt} {fr : Frame} {cs : List Frame} {w : World} (h : SR P w0 s fr cs w) (hs : stepE HK P FT s = some s') : Goes P w0 base s' fr cs w := by
 unfold stepE at hs
 cases hret : s.fr.ret with
 | true =>
   simp only [hret, cond_true] at hs
   unfold stepRet at hs
   obtain ⟨ρ, hr, hf, hlo, hst⟩ := h
   have hm := hf.mode
   rw [hret] at hm
   have hstepG : stepG P true { frame := fr, callers := cs ++ base, status := .running, dying := none } w = unwind P true fr (cs ++ base) none w := by
     obtain ⟨fn, tmps, todo, defers, mode, kind, ro⟩ := fr
     simp only at hm; subst hm
     rfl
   split at hs
   · rename_i d ds hds
     cases hB : s.H.get d with
     | none => simp [hB] at hs
     | some B =>
       cases B <;> simp only [hB] at hs <;> try (cases hs; done)
       rename_i bb
       cases bb <;> simp only at hs <;> try (cases hs; done)
       simp only [Option.some.injEq] at hs
       subst hs
       have hdsr := hf.ds
       rw [hds] at hdsr
       generalize hdf : fr.defers = dfs at hdsr
       cases hdsr with
       | cons hd t =>
         rename_i b cc m
         obtain ⟨o, ho, hob⟩ := hr.blk hd hB
         have ho' : w.heap[b]? = some (.deferred (some [])) := by rw [ho]; rw [show o = .deferred (some []) from hob]
         have hstep : step P (lone fr (cs ++ base) w) = .next (lone { fr with defers := m } (cs ++ base) (w.putObj b (.deferred none))) := by
           refine step_lone_go ?_
           rw [hstepG]
           unfold unwind
           simp [hdf, run_takeDeferred ho']
         have hw' : HR w0 ρ (tput s.H d (.dfd false)) s.n (w.putObj b (.deferred none)) := hr.write hd hB rfl (World.putObj_heap_same (hr.base hd).2) rfl (Fr.put w b _)
         obtain ⟨front, rest, h1, h2, h3⟩ := hf.todo
         refine ⟨_, cs, _, .one hstep, ρ, hw', ⟨hf.fn, hf.kind, hf.mode, t, hf.ro, front, rest, h1, h2, ?_⟩, hlo, hst.mono ρ.le_refl (fun g _ hn => ⟨hn, by rw [get_tput, if_neg (fun e => by subst e; rw [hd] at hn; cases hn)]⟩)⟩
         -- what stands of the region is not asked any more
         have := h3
         cases hrg : s.fr.rg with
         | no => rw [hrg] at h3; exact ⟨h3.1, h3.2⟩
         | pl ops l => rw [hrg] at h3; exact ⟨h3.1, h3.2⟩
         | dr ops D X T0 lds cur =>
           rw [hrg] at h3
           obtain ⟨W, C, G, rest', q1, q2, q3⟩ := h3
           refine ⟨W, C, G, rest', q1, ?_, q3⟩
           exact { q2 with pend := fun y y1 y2 => (q2.pend y y1 y2).mono (Nat.le_refl _) (fun g _ _ _ hn => ⟨hn, by show (tput s.H d (.dfd false)).get g = _; rw [get_tput, if_neg (fun e => by subst e; rw [hd] at hn; cases hn)]⟩) (fun t p x hm' => ⟨hm', fun _ hl => by
             have keep : ∀ i B', s.H.get i = some B' → (∀ b, B' ≠ .dfd b) → (tput s.H d (.dfd false)).get i = some B' := fun i B' hB' hne => by
               rw [get_tput, if_neg (fun e => by subst e; rw [hB] at hB'; cases hB'; exact hne _ rfl)]; exact hB'
             exact readA_of (fun i T z l hB' => keep i _ hB' (fun b e => by cases e)) (fun i l c hB' => keep i _ hB' (fun b e => by cases e)) (hl rfl)⟩) }
   · rename_i hds
     split at hs
     · cases hs
     rename_i hrgs
     cases hfn : FT s.fr.fn with
     | none => simp [hfn] at hs
     | some fn =>
       simp only [hfn] at hs
       cases hres : resA P s.fr.T s.H fn.results.toList with
       | none => simp [hres] at hs
       | some l =>
         simp only [hres] at hs
         have hdsr := hf.ds
         rw [hds] at hdsr
         generalize hdf : fr.defers = dfs at hdsr
         cases hdsr
         obtain ⟨front, rest, h1, h2, h3⟩ := hf.todo
         have hTR : TR ρ s.fr.nt s.fr.T fr.tmps := by
           cases hrg : s.fr.rg with
           | no => rw [hrg] at h3; exact h3.2
           | pl ops l => rw [hrg] at h3; exact h3.2
           | dr ops D X T0 lds cur => exact absurd hrg (hrgs _ _ _ _ _ _)
         obtain ⟨v, hv, hrun⟩ := results_sound hr hTR hres
         have hP := hft.fn hfn
         refine back_sound hs hr hst hlo hv (fun c cs' hcs => ?_)
         refine step_lone_go ?_
         rw [hstepG]
         have hfnn : P.funcs[fr.fn]? = some fn := by rw [hf.fn]; exact hP
         unfold unwind
         rw [hcs]
         simp [hdf, hm, hfnn, hrun, doReturn, hf.kind]
 | false =>
   simp only [hret, cond_false] at hs
   cases hrg : s.fr.rg with
   | pl ops l =>
     cases l with
     | cons o r => simp only [hrg] at hs; exact stepPl_sound hft hk h hrg hret hs
     | nil =>
       simp only [hrg] at hs
       simp only [stepPlEnd, Option.some.injEq] at hs
       subst hs
       obtain ⟨ρ, hr, hf, hlo, hst⟩ := h
       have hm := hf.mode
       rw [hret] at hm
       obtain ⟨front, rest, h1, h2, h3⟩ := hf.todo
       rw [hrg] at h3
       obtain ⟨⟨rest', rfl, hp⟩, hT⟩ := h3
       have := hp.nil
       subst this
       have ht : fr.todo = .inRegion ops [] :: rest := h1
       exact ⟨_, cs, w, .one (step_todo (fr' := { fr with todo := rest }) hm (by simp only [stepG.exec, ht])), ρ, hr, ⟨hf.fn, hf.kind, hf.mode, hf.ds, hf.ro, [], rest, rfl, h2, rfl, hT⟩, hlo, hst⟩
   | dr ops D X T0 lds cur =>
     cases cur with
     | none => simp only [hrg] at hs; exact stepDr_sound hft hk h hrg hret hs
     | some y => simp only [hrg] at hs; cases hs
   | no =>
     simp only [hrg] at hs
     unfold stepItem at hs
     have h0 := h
     obtain ⟨ρ, hr, hf, hlo, hst⟩ := h
     have hm := hf.mode
     rw [hret] at hm
     obtain ⟨front, rest, h1, h2, h3⟩ := hf.todo
     rw [hrg] at h3
     obtain ⟨rfl, hT⟩ := h3
     have ht : fr.todo = rest := h1
     cases htd : s.fr.todo with
     | nil =>
       simp only [htd] at hs
       rw [htd] at h2
       cases h2
       refine leave_sound h0 hrg hret hs (fun hro _ => ?_) (fun l hro => ?_)
       · simp only [stepG.exec, ht, hro]; rfl
       · simp only [stepG.exec, ht, hro]; rfl
     | cons x k =>
       rw [htd] at h2
       cases x with
       | code c => simp only [htd] at hs; exact stepCode_sound hft hmix h0 hrg hret htd hs
       | inBlock id =>
         simp only [htd, Option.some.injEq] at hs; subst hs
         cases h2 with
         | cons a t =>
           cases a
           exact todo_sound h0 hrg hret (fun ρ' hh => by rw [htd, ht] at hh; exact hh.tail) (by simp only [stepG.exec, ht])
       | inScope b =>
         simp only [htd, Option.some.injEq] at hs; subst hs
         cases h2 with
         | cons a t =>
           cases a
           exact todo_sound h0 hrg hret (fun ρ' hh => by rw [htd, ht] at hh; exact hh.tail) (by simp only [stepG.exec, ht])
       | inLoop b =>
         simp only [htd, Option.some.injEq] at hs; subst hs
         cases h2 with
         | cons a t =>
           rename_i m
           cases a
           exact todo_sound h0 hrg hret (m := .code b :: .inLoop b :: m) (fun ρ' hh => by rw [htd, ht] at hh; exact .cons (.code _) (.cons (.inLoop _) hh.tail)) (by simp only [stepG.exec, ht])
       | inRF i => simp only [htd] at hs; cases hs
       | endRF i =>
         simp only [htd] at hs
         unfold endA at hs
         cases h2 with
         | cons a t =>
           cases a with
           | endRF hi =>
             rename_i m b cc
             cases hB : s.H.get i with
             | none => simp [hB] at hs
             | some B =>
               cases B <;> simp only [hB] at hs <;> try (cases hs; done)
               rename_i st pd fn nt T ps asg bd d
               obtain ⟨o, ho, ts, db, dc, hts, hd, rfl⟩ := hr.blk hi hB
               have fin : st ≠ .busy → some { s with fr := { s.fr with todo := pendItems pd ++ k }, H := tput s.H i (.loop .exhausted pd fn nt T ps asg bd d) } = some s' → Goes P w0 base s' fr cs w := by
                 intro hnb he
                 simp only [Option.some.injEq] at he
                 subst he
                 have hrun := run_endLoop (P := P) ho hnb
                 have hw' : HR w0 ρ (tput s.H i (.loop .exhausted pd fn nt T ps asg bd d)) s.n (w.putObj b (.loop { state := .exhausted, pending := pd, fn := fn, tmps := ts, params := ps.toArray, assign := asg, body := bd, defers := db })) :=
                   hr.write hi hB rfl (World.putObj_heap_same (hr.base hi).2) ⟨ts, db, dc, hts, hd, rfl⟩ (Fr.put w b _)
                 have hstep : step P (lone fr (cs ++ base) w) = .next (lone { fr with todo := (pd.map Item.code).toList ++ m } (cs ++ base) (w.putObj b (.loop { state := .exhausted, pending := pd, fn := fn, tmps := ts, params := ps.toArray, assign := asg, body := bd, defers := db }))) := by
                   refine step_lone_go ?_
                   have hstep : stepG P true { frame := fr, callers := cs ++ base, status := .running, dying := none } w = stepG.exec P true true fr (cs ++ base) none w := by
                     obtain ⟨fn, tmps, todo, defers, mode, kind, ro⟩ := fr
                     simp only at hm; subst hm
                     rfl
                   rw [hstep]
                   simp only [stepG.exec, ht, Sem.runT_eq, hrun, GStep.bare_after]
                   rfl
                 refine ⟨_, cs, _, .one hstep, ρ, hw', ⟨hf.fn, hf.kind, hf.mode, hf.ds, hf.ro, [], _, rfl, ?_, by simp only [hrg]; exact ⟨rfl, hT⟩⟩, hlo, hst.mono ρ.le_refl (fun g _ hn => ⟨hn, by rw [get_tput, if_neg (fun e => by subst e; rw [hi] at hn; cases hn)]⟩)⟩
                 cases pd with
                 | none => exact t
                 | some c => exact .cons (.code _) t
               cases st with
               | busy => simp only at hs; cases hs
               | ready => exact fin (fun e => by cases e) hs
               | done => exact fin (fun e => by cases e) hs
               | exhausted => exact fin (fun e => by cases e) hs
       | beginRound =>
         simp only [htd] at hs
         cases h2 with
         | cons a t =>
           rename_i m
           cases a
           rcases hf.ro with ⟨hro, hro'⟩ | ⟨i, b, c, hro, hro', hi⟩
           · simp only [hro] at hs; cases hs
           · simp only [hro] at hs
             unfold beginA at hs
             cases hB : s.H.get i with
             | none => simp [hB] at hs
             | some B =>
               cases B <;> simp only [hB] at hs <;> try (cases hs; done)
               rename_i st pd fn nt T ps asg bd d
               cases st <;> simp only at hs <;> try (cases hs; done)
               simp only [Option.some.injEq] at hs
               subst hs
               obtain ⟨o, ho, ts, db, dc, hts, hd, rfl⟩ := hr.blk hi hB
               have hrun := run_beginRound (P := P) ho rfl
               have hw' : HR w0 ρ (tput s.H i (.loop .busy pd fn nt T ps asg bd d)) s.n (w.putObj b (.loop { state := .busy, pending := pd, fn := fn, tmps := ts, params := ps.toArray, assign := asg, body := bd, defers := db })) :=
                 hr.write hi hB rfl (World.putObj_heap_same (hr.base hi).2) ⟨ts, db, dc, hts, hd, rfl⟩ (Fr.put w b _)
               have hstep : step P (lone fr (cs ++ base) w) = .next (lone { fr with todo := m } (cs ++ base) (w.putObj b (.loop { state := .busy, pending := pd, fn := fn, tmps := ts, params := ps.toArray, assign := asg, body := bd, defers := db }))) := by
                 refine step_lone_go ?_
                 have hstep : stepG P true { frame := fr, callers := cs ++ base, status := .running, dying := none } w = stepG.exec P true true fr (cs ++ base) none w := by
                   obtain ⟨fn, tmps, todo, defers, mode, kind, ro⟩ := fr
                   simp only at hm; subst hm
                   rfl
                 rw [hstep]
                 simp only [stepG.exec, ht, hro', Option.elim_some]
                 simp [stepG.apply, hrun, Frame.finish, ht, hro']
               exact ⟨_, cs, _, .one hstep, ρ, hw', ⟨hf.fn, hf.kind, hf.mode, hf.ds, hf.ro, [], m, rfl, t, by simp only [hrg]; exact ⟨rfl, hT⟩⟩, hlo, hst.mono ρ.le_refl (fun g _ hn => ⟨hn, by rw [get_tput, if_neg (fun e => by subst e; rw [hi] at hn; cases hn)]⟩)⟩
end
end
noncomputable section
section
variable {P : Program} {FT : FuncId → Option Func} {HK : Hook} {w0 : Bs}
theorem runE_sound (hft : FTok P FT) (hk : HKok P HK) (hmix : P.follows .mixedOrders = true) {base : List Frame} : ∀ (k : Nat) {s : ASt} {fr : Frame} {cs : List Frame} {w : World}, SR P w0 s fr cs w → Goes P w0 base (runE HK P FT k s) fr cs w
 | 0, s, fr, cs, w, h => ⟨fr, cs, w, Steps.refl _ _, h⟩
 | k + 1, s, fr, cs, w, h => by
   unfold runE
   cases hs : stepE HK P FT s with
   | none => exact ⟨fr, cs, w, Steps.refl _ _, h⟩
   | some s' =>
     obtain ⟨fr1, cs1, w1, h1, h2⟩ := stepE_sound (base := base) hft hk hmix h hs
     exact Goes.head h1 (runE_sound hft hk hmix k h2)
end
def tabOf (P : Program) : FuncId → Option Func := fun f => P.funcs[f]?
theorem tab_ok {P : Program} (h : (P.funcs.toList.all fun fn => !(fn.name == "runtime.NumGoroutine")) = true) : FTok P (tabOf P) :=
 ⟨fun h => h, fun {f fn} hf hb args w => by
   have hf' : P.funcs[f]? = some fn := hf
   rw [List.all_eq_true] at h
   have hm : fn ∈ P.funcs.toList := by
     have : P.funcs.toList[f]? = some fn := by rw [Array.getElem?_toList]; exact hf'
     exact List.mem_of_getElem? this
   have hn := h fn hm
   have hn' : (fn.name == "runtime.NumGoroutine") = false := by simpa using hn
   have hbn : fn.body.isNone = false := by
     cases hbb : fn.body with
     | none => rw [hbb] at hb; cases hb
     | some b => rfl
   unfold callFunc
   simp only [Sem.run_bind, run_program, Result.andThen_ok, hf', hn', hbn, Bool.false_eq_true, if_false, Sem.run_pure]⟩
def isTrue : Option AV → Bool
 | some (.v (.bool b)) => b
 | _ => false
theorem isTrue_eq {x : Option AV} (h : isTrue x = true) : x = some (.v (.bool true)) := by
 unfold isTrue at h
 split at h
 · subst h; rfl
 · cases h
end
end Go.Proofs.YtlmpjdionndncaaGreatDoor.Ev
namespace Go.Proofs.YtlmpjdionndncaaGreatDoor
open Go.RowKit
def byt (c : UInt8) : Value := .int .u8 (c.toNat : Int)
theorem byt_one (l : List UInt8) : ∀ u ∈ l.map byt, u.oneCell' = true := by
 intro u hu
 obtain ⟨x, _, rfl⟩ := List.mem_map.1 hu
 rfl
def str (l : List UInt8) : ByteArray := ⟨l.toArray⟩
theorem str_list (l : List UInt8) : (str l).toList = l := ByteArray.toList_mk l
theorem add_add (a : Addr) (i j : Nat) : (a.add i).add j = a.add (i + j) := by
 unfold Addr.add
 by_cases hi : i = 0 <;> by_cases hj : j = 0 <;> simp [hi, hj, Nat.add_assoc]
theorem add_block (a : Addr) (n : Nat) : (a.add n).block = a.block := by unfold Addr.add; split <;> rfl
structure Win (w : World) (a : Option Addr) (n c : Nat) (xs : List Value) : Prop where
 len : xs.length = n
 cap : n ≤ c
 max : c ≤ maxLen
 nil : a = none → c = 0
 cell : ∀ ad, a = some ad → ∀ (j : Nat) (u : Value), xs[j]? = some u → w.cell? (ad.add j) = some u
section
variable {w w' : World} {a : Option Addr} {n c : Nat} {xs : List Value}
theorem Win.nil_inv (h : Win w none n c xs) : n = 0 ∧ c = 0 ∧ xs = [] := by
 have h1 := h.nil rfl
 have h2 := h.cap
 have h3 : n = 0 := by omega
 exact ⟨h3, h1, List.eq_nil_of_length_eq_zero (by rw [h.len, h3])⟩
theorem Win.nilw (w : World) : Win w none 0 0 [] := ⟨rfl, Nat.le_refl _, Nat.zero_le _, fun _ => rfl, fun _ h => by cases h⟩
theorem Win.fr {S : Nat → Prop} (h : Win w a n c xs) (hf : Fr S w w') (hn : ∀ ad, a = some ad → ¬ S ad.block) : Win w' a n c xs :=
 ⟨h.len, h.cap, h.max, h.nil, fun ad hd j u hu => by
   have h1 := h.cell ad hd j u hu
   exact (hf.cell (World.block_lt_of_cell? w _ h1) (by rw [add_block]; exact hn ad hd)).trans h1⟩
theorem Win.old {S : Nat → Prop} (h : Win w a n c xs) (hf : Fr S w w') (hn : ∀ k, k < w.heap.size → ¬ S k) : Win w' a n c xs :=
 ⟨h.len, h.cap, h.max, h.nil, fun ad hd j u hu => by
   have h1 := h.cell ad hd j u hu
   have h2 := World.block_lt_of_cell? w _ h1
   exact (hf.cell h2 (hn _ h2)).trans h1⟩
theorem Win.no (h : Win w a n c xs) (hf : Fr No w w') : Win w' a n c xs := h.fr hf (fun _ _ => No.no _)
theorem Win.at {k : Nat} (h : Win w a n c xs) (hk : k < n) : ∃ ad u, a = some ad ∧ xs[k]? = some u ∧ w.cell? (ad.add k) = some u := by
 cases a with
 | none => have := h.nil_inv; omega
 | some ad =>
   have hl : k < xs.length := by rw [h.len]; exact hk
   exact ⟨ad, xs[k], rfl, List.getElem?_eq_getElem hl, h.cell ad rfl k _ (List.getElem?_eq_getElem hl)⟩
theorem Win.of_own {T : TypeId} {v : Value} (h : Own w T 1 v n xs) : ∃ a c, v = .slice a n c ∧ Win w a n c xs := by
 have hl : xs.length = n := by have := h.1; simpa using this
 rcases h.cases with ⟨rfl, rfl, rfl⟩ | ⟨g, cap, rfl⟩
 · exact ⟨none, 0, rfl, Win.nilw w⟩
 · obtain ⟨sp, _, _, _, h1, h2⟩ := h.blk
   refine ⟨_, _, rfl, hl, h1, h2, fun h => (nomatch h), fun ad hd j u hu => ?_⟩
   cases hd
   exact h.cells (g := g) rfl j u hu
theorem Win.of_own' {T : TypeId} {g : Nat} (h : Own w T 1 (.slice (some ⟨g, 0, none⟩) n c) n xs) : Win w (some ⟨g, 0, none⟩) n c xs := by
 obtain ⟨a, c', e, h1⟩ := Win.of_own h
 cases e
 exact h1
theorem Win.take {k : Nat} (h : Win w a n c xs) (hk : k ≤ n) : Win w a k c (xs.take k) :=
 ⟨by rw [List.length_take, h.len]; omega, by have := h.cap; omega, h.max, h.nil, fun ad hd j u hu => h.cell ad hd j u (by
   rw [List.getElem?_take] at hu
   split at hu
   · exact hu
   · cases hu)⟩
theorem Win.drop {k : Nat} (h : Win w a n c xs) (hk : k ≤ n) : Win w (if c = k then a else a.map (·.add k)) (n - k) (c - k) (xs.drop k) := by
 refine ⟨by rw [List.length_drop, h.len], by have := h.cap; omega, by have := h.max; omega, fun e => ?_, fun ad hd j u hu => ?_⟩
 · split at e
   · have := h.nil e; omega
   · cases a with
     | none => have := h.nil rfl; omega
     | some ad => cases e
 · split at hd
   · rename_i hck
     have h1 := h.cap
     have h2 := (List.getElem?_eq_some_iff.1 hu).1
     rw [List.length_drop, h.len] at h2
     omega
   · cases a with
     | none => cases hd
     | some ad' =>
       cases hd
       rw [add_add]
       refine h.cell ad' rfl _ u ?_
       rw [List.getElem?_drop] at hu
       exact hu
end
section
variable {P : Program} {w : World} {src dst e : TypeId}
theorem run_str (hs : P.underlying src = some (.slice e)) (he : P.underlying e = some (.int .u8)) (hd : P.underlying dst = some .string) {a : Option Addr} {n c : Nat} {bs : List UInt8} (h : Win w a n c (bs.map byt)) :
   (convert src dst (.slice a n c)).run P w = .ok (.string (str bs)) w := by
 cases a with
 | none =>
   obtain ⟨_, _, hx⟩ := h.nil_inv
   have : bs = [] := by simpa using hx
   subst this
   exact run_convert_bytes_nil w src e hs he n c dst hd
 | some ad =>
   have hl : bs.length = n := by have := h.len; simpa using this
   have hload : (loadCells ad n).run P w = .ok ((bs.map fun c => (c.toNat : Int)).map (Value.int .u8)).toArray w := by
     have := run_loadCells_list (P := P) w ad (bs.map byt) (fun j v hj => h.cell ad rfl j v hj)
     rw [List.length_map, hl] at this
     rw [this]
     simp [byt, Function.comp_def]
   rw [run_convert_bytes_string w src dst e _ n c hs he hd, run_bytesToString w ad n c _ hload, foldl_push_bytes]
   simp [str, ByteArray.empty, ByteArray.emptyWithCapacity, Function.comp_def]
   rfl
end
section
variable {P : Program} (w : World)
theorem wp_appW {o : Oper} {a : Act} {K : Act → World → Prop} {Q : Exit → Act → World → Prop} (s x : Operand) (t : TypeId)
   (ho : o.op = .call { callee := .builtin .append, args := #[s, x], argTypes := #[t, t] })
   (e : TypeId) (i : TypeInfo) (z : Value) (bytes : Nat) (ht : P.underlying t = some (.slice e)) (hi : P.info? e = some i) (hz : i.zero = some z)
   (hsize : i.size = 1) (hby : i.bytes = bytes) (hzs : z.cells.size = 1)
   (v : Value) (n : Nat) (xs : List Value) (hs : a.eval s = v) (hown : Own w e 1 v n xs)
   (ax : Option Addr) (m c : Nat) (news : List Value) (hx : a.eval x = .slice ax m c) (hw : Win w ax m c news) (h1 : ∀ u ∈ news, u.oneCell' = true)
   (hm : n + m ≤ maxLen) (hbytes : (n + m) * bytes ≤ 140737488355328)
   (h : ∀ v' w', Appended w e 1 v n m (xs ++ news) v' w' → K (a.put o.dst v') w') : o.wp P a w K Q := by
 cases ax with
 | some ad =>
   exact wp_app w s x t ho e i z 1 bytes ht hi hz hsize hby hzs v n xs hs hown ad m c news hx (by rw [hw.len, Nat.mul_one]) (fun j u hu => hw.cell ad rfl j u hu) h1 hm hbytes h
 | none =>
   obtain ⟨rfl, rfl, rfl⟩ := hw.nil_inv
   have hr := run_append_owned_none (P := P) (w := w) 0 t o.type e i 1 ht hi v n xs hown
   unfold Oper.wp execOp
   simp only [ho, resolve, invoke, builtin, Sem.run_bind, Sem.run_pure, Result.andThen_ok, List.map_toArray, List.map_cons, List.map_nil, hs, hx, hr]
   exact h v w ⟨by simpa using hown, Fr.refl _ _, .inl rfl, by simp⟩
theorem wpList_appW {ops : Array Oper} {rest : List Oper} {o : Oper} {a : Act} {Q : Exit → Act → World → Prop} (hgd : o.guard = none) (s x : Operand) (t : TypeId)
   (ho : o.op = .call { callee := .builtin .append, args := #[s, x], argTypes := #[t, t] })
   (e : TypeId) (i : TypeInfo) (z : Value) (bytes : Nat) (ht : P.underlying t = some (.slice e)) (hi : P.info? e = some i) (hz : i.zero = some z)
   (hsize : i.size = 1) (hby : i.bytes = bytes) (hzs : z.cells.size = 1)
   (v : Value) (n : Nat) (xs : List Value) (hs : a.eval s = v) (hown : Own w e 1 v n xs)
   (ax : Option Addr) (m c : Nat) (news : List Value) (hx : a.eval x = .slice ax m c) (hw : Win w ax m c news) (h1 : ∀ u ∈ news, u.oneCell' = true)
   (hm : n + m ≤ maxLen) (hbytes : (n + m) * bytes ≤ 140737488355328)
   (h : ∀ v' w', Appended w e 1 v n m (xs ++ news) v' w' → wpList P ops Q rest (a.put o.dst v') w') : wpList P ops Q (o :: rest) a w :=
 wpList_plain hgd fun _ hK => wp_appW w s x t ho e i z bytes ht hi hz hsize hby hzs v n xs hs hown ax m c news hx hw h1 hm hbytes fun v' w' h2 => hK _ _ (h v' w' h2)
end
theorem win_const (w : World) (T : TypeId) (l : List Value) (hm : l.length ≤ maxLen) : Win (w.alloc (.cells l.toArray T (l.length, l.length + 1))) (some ⟨w.heap.size, 0, none⟩) l.length l.length l := by
 refine ⟨rfl, Nat.le_refl _, hm, fun h => (nomatch h), fun ad hd j u hu => ?_⟩
 cases hd
 rw [Addr.add_lit, Nat.zero_add, cell_of_row _ w.heap.size j l.toArray T (l.length, l.length + 1) (heap_alloc_new w _)]
 simpa using hu
theorem own_slice {w : World} {T : TypeId} {size n : Nat} {v : Value} {xs : List Value} (h : Own w T size v n xs) : ∃ a c, v = .slice a n c := by
 rcases h.cases with ⟨e, h1, _⟩ | ⟨g, c, e⟩
 · exact ⟨none, 0, by rw [e, h1]⟩
 · exact ⟨_, _, e⟩
theorem app_slice {w w' : World} {T : TypeId} {size n m : Nat} {v v' : Value} {l : List Value} (h : Appended w T size v n m l v' w') : ∃ a c, v' = .slice a (n + m) c := own_slice h.own
structure IsClone (T : TypeId) (w : World) (a : Option Addr) (n : Nat) (xs : List Value) (v : Value) (w' : World) : Prop where
 own : Own w' T 1 v n xs
 new : ∀ k, v.ownBlock = some k → w.heap.size ≤ k
 nil : v = .slice none 0 0 ↔ a = none
 fr : Fr No w w'
end Go.Proofs.YtlmpjdionndncaaGreatDoor
namespace Go.Proofs.YtlmpjdionndncaaGreatDoor.Ev
open Go Go.RowKit
noncomputable section
def hkOr (A B : Hook) : Hook := fun f args H n => match A f args H n with
 | some r => some r
 | none => B f args H n
theorem hkOr_ok {P : Program} {A B : Hook} (hA : HKok P A) (hB : HKok P B) : HKok P (hkOr A B) := by
 intro f args H n x H' n' h
 unfold hkOr at h
 split at h
 · rename_i r hr
   cases h
   exact hA hr
 · exact hB h
def u8A : List AV → Option (List UInt8)
 | [] => some []
 | .v (.int .u8 k) :: l => match u8A l with
   | some r => cond (decide (k = ((UInt8.ofNat k.toNat).toNat : Int))) (some (UInt8.ofNat k.toNat :: r)) none
   | none => none
 | _ => none
theorem u8A_sound {ρ : Env} : ∀ {l : List AV} {bs : List UInt8} {us : List Value}, u8A l = some bs → VRs ρ l us → us = bs.map byt
 | [], bs, us, h, hu => by simp [u8A] at h; subst h; cases hu; rfl
 | x :: l, bs, us, h, hu => by
   cases hu with
   | cons e t =>
     unfold u8A at h
     split at h
     · rename_i heq; cases heq
     · rename_i k l' heq
       cases heq
       cases e
       split at h
       · rename_i r hr
         cases hc : decide (k = ((UInt8.ofNat k.toNat).toNat : Int)) with
         | false => rw [hc] at h; cases h
         | true =>
           rw [hc] at h
           simp only [cond_true, Option.some.injEq] at h
           subst h
           have hk := of_decide_eq_true hc
           rw [u8A_sound hr t]
           simp only [List.map_cons, byt]
           rw [← hk]
       · cases h
     · cases h
def winA (x : AV) (H : Tr AB) : Option (List UInt8) :=
 match x with
 | .v (.slice none 0 0) => some []
 | .sl i o n c => match H.get i with
   | some (.mem _ _ l) => cond (l.long (o + n) && Nat.ble n c && Nat.ble c 1073741824) (u8A (l.cut o n)) none
   | _ => none
 | .su i o n _ _ => match H.get i with
   | some (.mem _ (some _) l) => cond (l.long (o + n)) (u8A (l.cut o n)) none
   | _ => none
 | _ => none
theorem winA_sound {w0 : Bs} {w : World} {ρ : Env} {H : Tr AB} {n : Nat} (hr : HR w0 ρ H n w) {x : AV} {bs : List UInt8} {u : Value} (h : winA x H = some bs) (hx : VR ρ x u) : ∃ a m c, u = .slice a m c ∧ m = bs.length ∧ Win w a m c (bs.map byt) := by
 have part : ∀ {i o m c b cc : Nat} {T : TypeId} {z : Option Nat} {l : Rp}, ρ i = some (b, cc) → H.get i = some (.mem T z l) → o + m ≤ l.toList.length → m ≤ c → c ≤ maxLen → u8A (l.cut o m) = some bs →
     m = bs.length ∧ Win w (some ⟨b, o, none⟩) m c (bs.map byt) := by
   intro i o m c b cc T z l hi hB hle hmc hcm hu
   rw [Rp.cut_eq l o m hle] at hu
   obtain ⟨ob, ho, vs, sp, fz, hv, rfl, hz, _⟩ := hr.blk hi hB
   have hlen := hv.length
   have hus := u8A_sound hu ((hv.drop o).take m)
   have hml : m = bs.length := by
     have := congrArg List.length hus
     simp at this
     omega
   refine ⟨hml, by simp [hml], hmc, hcm, (fun e => by cases e), fun ad had j v hj => ?_⟩
   cases had
   rw [← hus] at hj
   rw [Addr.add_mid]
   have hcs : w.rangeAt b o ((vs.drop o).take m) := by
     have := cells_range ho (o := o) (k := m) (by simp; omega)
     rwa [List.drop_append_of_le_length (by omega), List.take_append_of_le_length (by simp; omega)] at this
   exact hcs j v hj
 unfold winA at h
 split at h
 · cases h; cases hx
   exact ⟨none, 0, 0, rfl, rfl, Win.nilw w⟩
 · rename_i i o m c
   cases hx with
   | sl _ _ _ hi =>
     split at h
     · rename_i T z l hB
       rw [Rp.long_eq] at h
       cases hc : (Nat.ble (o + m) l.toList.length && Nat.ble m c && Nat.ble c 1073741824) with
       | false => simp [hc] at h
       | true =>
         simp only [hc, cond_true] at h
         simp only [Bool.and_eq_true, Nat.ble_eq] at hc
         obtain ⟨h1, h2⟩ := part hi hB hc.1.1 hc.1.2 (by have := hc.2; unfold maxLen; omega) h
         exact ⟨_, _, _, rfl, h1, h2⟩
     · cases h
 · rename_i i o m k q
   cases hx with
   | @su _ b d _ _ _ _ hi hn =>
     split at h
     · rename_i T z l hB
       rw [Rp.long_eq] at h
       cases hc : Nat.ble (o + m) l.toList.length with
       | false => simp [hc] at h
       | true =>
         simp only [hc, cond_true] at h
         obtain ⟨ob, ho, vs, sp, fz, hv, _, hz, hq⟩ := hr.blk hi hB
         have hq2 : d ≤ maxLen := hq.2
         obtain ⟨h1, h2⟩ := part (c := d - k) hi hB (Nat.le_of_ble_eq_true hc) (by omega) (by omega) h
         exact ⟨_, _, _, rfl, h1, h2⟩
     · cases h
 · cases h
theorem HR.newAt {w0 : Bs} {w w' : World} {ρ : Env} {H : Tr AB} {n g c : Nat} {B : AB} {o : Obj} (hr : HR w0 ρ H n w) (hf : Fr No w w') (ho : w'.heap[g]? = some o) (hg : w.heap.size ≤ g) (hb : BR (ρ.set n (g, c)) c B o) :
   HR w0 (ρ.set n (g, c)) (tput H n B) (n + 1) w' ∧ Ext ρ (ρ.set n (g, c)) H (tput H n B) n (n + 1) := by
 have hle : ρ.le (ρ.set n (g, c)) := Env.le_set (hr.top (Nat.le_refl _)).1 _
 have hp := (hr.old hf).put B
 refine ⟨⟨fun {j b d C} q1 q2 => ?_, fun {j i b d e C D} q1 q2 q3 q4 q5 q6 => ?_, fun {j} hj => ?_, fun {j b d} q1 => ?_, hp.fr, Env.le_trans hp.le hle⟩, Ext.alloc hr _ _⟩
 · unfold Env.set at q1
   split at q1
   · rename_i e
     subst e
     cases q1
     rw [get_tput, if_pos rfl] at q2
     cases q2
     exact ⟨_, ho, hb⟩
   · obtain ⟨o', h3, h4⟩ := hp.blk q1 q2
     exact ⟨o', h3, h4.mono hle⟩
 · unfold Env.set at q1 q2
   split at q1 <;> split at q2
   · rename_i e e'; rw [e, e']
   · cases q1; exact absurd (Nat.lt_of_lt_of_le (hr.base q2).2 hg) (Nat.lt_irrefl _)
   · cases q2; exact absurd (Nat.lt_of_lt_of_le (hr.base q1).2 hg) (Nat.lt_irrefl _)
   · exact hp.inj q1 q2 q3 q4 q5 q6
 · have := hp.top hj
   refine ⟨?_, this.2⟩
   unfold Env.set
   rw [if_neg (by omega)]
   exact this.1
 · unfold Env.set at q1
   split at q1
   · cases q1; exact ⟨.inr (Nat.le_trans hr.fr.size hg), (Array.getElem?_eq_some_iff.1 ho).1⟩
   · exact hp.base q1
theorem HR.newOwn {w0 : Bs} {w w' : World} {ρ : Env} {H : Tr AB} {n g c m k : Nat} {T : TypeId} {l : List AV} {xs : List Value} (hr : HR w0 ρ H n w) (hf : Fr No w w') (ho : Own w' T k (.slice (some ⟨g, 0, none⟩) m c) m xs) (hg : w.heap.size ≤ g) (hx : VRs ρ l xs) :
   HR w0 (ρ.set n (g, c)) (tput H n (.mem T (some k) (.leaf l))) (n + 1) w' ∧ Ext ρ (ρ.set n (g, c)) H (tput H n (.mem T (some k) (.leaf l))) n (n + 1) ∧ VR (ρ.set n (g, c)) (.su n 0 m 0 m) (.slice (some ⟨g, 0, none⟩) m c) := by
 obtain ⟨sp, hB, h1, h2, h3, h4⟩ := ho.blk
 obtain ⟨q1, q2⟩ := hr.newAt (c := c) (B := .mem T (some k) (.leaf l)) hf hB hg ⟨xs, sp, (0, 0), leafVR (hx.mono (Env.le_set (hr.top (Nat.le_refl _)).1 _)), rfl, unfrozen_zero _, h2, h4⟩
 exact ⟨q1, q2, VR.su 0 m 0 m (Env.set_same _ _ _) ⟨Nat.le_refl _, by omega⟩⟩
theorem hook_call {P : Program} (ht : (P.funcs.toList.all fun fn => !(fn.name == "runtime.NumGoroutine")) = true) {f : FuncId} {fn : Func} (hf : P.funcs[f]? = some fn) (hb : fn.body.isSome = true) (xs : Array Value) (w : World) :
   (callFunc f xs).run P w = .ok (.enter f xs) w := (tab_ok ht).call (show tabOf P f = some fn from hf) hb xs w
def cellsB (bs : List UInt8) : List AV := (bs.map byt).map .v
def natA (k : IntKind) (lim : Nat) : AV → Option Nat
 | .v (.int j (.ofNat n)) => cond (decide (j = k) && Nat.blt n lim) (some n) none
 | _ => none
theorem natA_sound {ρ : Env} {k : IntKind} {lim m : Nat} {x : AV} {u : Value} (h : natA k lim x = some m) (hx : VR ρ x u) : u = .int k (m : Int) ∧ m < lim := by
 unfold natA at h
 split at h
 · rename_i j n
   cases hx
   cases hc : (decide (j = k) && Nat.blt n lim) with
   | false => simp [hc] at h
   | true =>
     simp only [hc, cond_true, Option.some.injEq] at h
     subst h
     simp only [Bool.and_eq_true, decide_eq_true_eq, Nat.blt_eq] at hc
     rw [hc.1]
     exact ⟨rfl, hc.2⟩
 · cases h
end
end Go.Proofs.YtlmpjdionndncaaGreatDoor.Ev
namespace Go.Proofs
open Go.Shelf
def YtlmpjdionndncaaGreatDoor.keysL_ren : Go.Shelf.Ren := ⟨fun | 7 => 285 | 10 => 304 | n => n, fun | 23 => 175 | 26 => 3 | 3 => 349 | 28 => 334 | 0 => 0 | 27 => 333 | 33 => 277 | 4 => 4 | n => n, fun | n => n⟩
theorem YtlmpjdionndncaaGreatDoor.keysL : Go.Proofs.SlLaysZI.n7 Tryz.prog YtlmpjdionndncaaGreatDoor.keysL_ren := {
 mixed := by kernel_rfl
 f7 := ⟨Tryz.f285.name, by decide, Tryz.func285.trans (congrArg some (by kernel_rfl))⟩
 f10 := ⟨Tryz.f304.name, by decide, Tryz.func304.trans (congrArg some (by kernel_rfl))⟩
 t0 := Tryz.underlying0
 a0 := Tryz.isAgg0
 z0 := Tryz.sizeOf0
 v0 := Tryz.zeroValue0
 t4 := Tryz.underlying4
 a4 := Tryz.isAgg4
 z4 := Tryz.sizeOf4
 v4 := Tryz.zeroValue4
 t23 := Tryz.underlying175
 a23 := Tryz.isAgg175
 z23 := Tryz.sizeOf175
 v23 := Tryz.zeroValue175
 t26 := Tryz.underlying3
 a26 := Tryz.isAgg3
 z26 := Tryz.sizeOf3
 v26 := Tryz.zeroValue3
 t27 := Tryz.underlying333
 a27 := Tryz.isAgg333
 z27 := Tryz.sizeOf333
 v27 := Tryz.zeroValue333
 t28 := Tryz.underlying334
 a28 := Tryz.isAgg334
 z28 := Tryz.sizeOf334
 v28 := Tryz.zeroValue334
 t33 := Tryz.underlying277
 a33 := Tryz.isAgg277
 z33 := Tryz.sizeOf277
 v33 := Tryz.zeroValue277 }
def YtlmpjdionndncaaGreatDoor.sortedL_ren : Go.Shelf.Ren := ⟨fun | 6 => 284 | 8 => 302 | 9 => 303 | 11 => 318 | 13 => 125 | 12 => 319 | 23 => 197 | 24 => 198 | 14 => 328 | 15 => 329 | 16 => 330 | 17 => 331 | 18 => 332 | 19 => 333 | 20 => 334 | 21 => 335 | 22 => 336 | 25 => 341 | 26 => 250 | 27 => 251 | 28 => 342 | 29 => 343 | 30 => 278 | 31 => 348 | n => n, fun | 26 => 3 | 28 => 334 | 24 => 33 | 0 => 0 | 3 => 3 | 37 => 228 | 48 => 119 | 50 => 113 | 4 => 4 | 40 => 315 | 39 => 314 | 45 => 319 | 5 => 5 | 9 => 9 | 51 => 375 | 55 => 170 | 57 => 411 | 58 => 412 | 33 => 277 | n => n, fun | n => n⟩
theorem YtlmpjdionndncaaGreatDoor.sortedL : Go.Proofs.SlLaysZI.n6 Tryz.prog YtlmpjdionndncaaGreatDoor.sortedL_ren := {
 mixed := by kernel_rfl
 f6 := ⟨Tryz.f284.name, by decide, Tryz.func284.trans (congrArg some (by kernel_rfl))⟩
 f8 := ⟨Tryz.f302.name, by decide, Tryz.func302.trans (congrArg some (by kernel_rfl))⟩
 f11 := ⟨Tryz.f318.name, by decide, Tryz.func318.trans (congrArg some (by kernel_rfl))⟩
 t0 := Tryz.underlying0
 a0 := Tryz.isAgg0
 z0 := Tryz.sizeOf0
 v0 := Tryz.zeroValue0
 t24 := Tryz.underlying33
 a24 := Tryz.isAgg33
 z24 := Tryz.sizeOf33
 v24 := Tryz.zeroValue33
 t26 := Tryz.underlying3
 a26 := Tryz.isAgg3
 z26 := Tryz.sizeOf3
 v26 := Tryz.zeroValue3
 t28 := Tryz.underlying334
 a28 := Tryz.isAgg334
 z28 := Tryz.sizeOf334
 v28 := Tryz.zeroValue334
 i26 := by kernel_rfl }
def YtlmpjdionndncaaGreatDoor.sortL_ren : Go.Shelf.Ren := ⟨fun | 5 => 303 | 8 => 125 | 7 => 319 | 19 => 197 | 20 => 198 | 10 => 328 | 11 => 329 | 12 => 330 | 13 => 331 | 14 => 332 | 15 => 333 | 16 => 334 | 17 => 335 | 18 => 336 | 30 => 341 | 31 => 250 | 32 => 251 | 33 => 342 | 34 => 343 | 35 => 278 | 40 => 348 | n => n, fun | 23 => 33 | 25 => 3 | 3 => 3 | 32 => 228 | 22 => 33 | 0 => 0 | 44 => 119 | 46 => 113 | 4 => 4 | 36 => 315 | 35 => 314 | 41 => 319 | 5 => 5 | 9 => 9 | 53 => 375 | 57 => 170 | 63 => 411 | 64 => 412 | n => n, fun | n => n⟩
theorem YtlmpjdionndncaaGreatDoor.sortL : Go.Proofs.SlLaysM.n5 Tryz.prog YtlmpjdionndncaaGreatDoor.sortL_ren := {
 mixed := by kernel_rfl
 f5 := ⟨Tryz.f303.name, by decide, Tryz.func303.trans (congrArg some (by kernel_rfl))⟩
 f7 := ⟨Tryz.f319.name, by decide, Tryz.func319.trans (congrArg some (by kernel_rfl))⟩
 f8 := Tryz.func125.trans (congrArg some (by kernel_rfl))
 f10 := ⟨Tryz.f328.name, by decide, Tryz.func328.trans (congrArg some (by kernel_rfl))⟩
 f11 := ⟨Tryz.f329.name, by decide, Tryz.func329.trans (congrArg some (by kernel_rfl))⟩
 f12 := ⟨Tryz.f330.name, by decide, Tryz.func330.trans (congrArg some (by kernel_rfl))⟩
 f13 := ⟨Tryz.f331.name, by decide, Tryz.func331.trans (congrArg some (by kernel_rfl))⟩
 f14 := ⟨Tryz.f332.name, by decide, Tryz.func332.trans (congrArg some (by kernel_rfl))⟩
 f15 := ⟨Tryz.f333.name, by decide, Tryz.func333.trans (congrArg some (by kernel_rfl))⟩
 f16 := ⟨Tryz.f334.name, by decide, Tryz.func334.trans (congrArg some (by kernel_rfl))⟩
 f17 := ⟨Tryz.f335.name, by decide, Tryz.func335.trans (congrArg some (by kernel_rfl))⟩
 f18 := ⟨Tryz.f336.name, by decide, Tryz.func336.trans (congrArg some (by kernel_rfl))⟩
 f19 := Tryz.func197.trans (congrArg some (by kernel_rfl))
 f20 := Tryz.func198.trans (congrArg some (by kernel_rfl))
 f30 := ⟨Tryz.f341.name, by decide, Tryz.func341.trans (congrArg some (by kernel_rfl))⟩
 f31 := Tryz.func250.trans (congrArg some (by kernel_rfl))
 f32 := Tryz.func251.trans (congrArg some (by kernel_rfl))
 f33 := ⟨Tryz.f342.name, by decide, Tryz.func342.trans (congrArg some (by kernel_rfl))⟩
 f34 := ⟨Tryz.f343.name, by decide, Tryz.func343.trans (congrArg some (by kernel_rfl))⟩
 f35 := ⟨Tryz.f278.name, by decide, Tryz.func278.trans (congrArg some (by kernel_rfl))⟩
 f40 := ⟨Tryz.f348.name, by decide, Tryz.func348.trans (congrArg some (by kernel_rfl))⟩
 t0 := Tryz.underlying0
 a0 := Tryz.isAgg0
 z0 := Tryz.sizeOf0
 v0 := Tryz.zeroValue0
 t3 := Tryz.underlying3
 a3 := Tryz.isAgg3
 z3 := Tryz.sizeOf3
 v3 := Tryz.zeroValue3
 t4 := Tryz.underlying4
 a4 := Tryz.isAgg4
 z4 := Tryz.sizeOf4
 v4 := Tryz.zeroValue4
 t5 := Tryz.underlying5
 a5 := Tryz.isAgg5
 z5 := Tryz.sizeOf5
 v5 := Tryz.zeroValue5
 t9 := Tryz.underlying9
 a9 := Tryz.isAgg9
 z9 := Tryz.sizeOf9
 v9 := Tryz.zeroValue9
 t22 := Tryz.underlying33
 a22 := Tryz.isAgg33
 z22 := Tryz.sizeOf33
 v22 := Tryz.zeroValue33
 t23 := Tryz.underlying33
 a23 := Tryz.isAgg33
 z23 := Tryz.sizeOf33
 v23 := Tryz.zeroValue33
 t25 := Tryz.underlying3
 a25 := Tryz.isAgg3
 z25 := Tryz.sizeOf3
 v25 := Tryz.zeroValue3
 t32 := Tryz.underlying228
 a32 := Tryz.isAgg228
 z32 := Tryz.sizeOf228
 v32 := Tryz.zeroValue228
 t35 := Tryz.underlying314
 a35 := Tryz.isAgg314
 z35 := Tryz.sizeOf314
 v35 := Tryz.zeroValue314
 t36 := Tryz.underlying315
 a36 := Tryz.isAgg315
 z36 := Tryz.sizeOf315
 v36 := Tryz.zeroValue315
 t41 := Tryz.underlying319
 a41 := Tryz.isAgg319
 z41 := Tryz.sizeOf319
 v41 := Tryz.zeroValue319
 t44 := Tryz.underlying119
 a44 := Tryz.isAgg119
 z44 := Tryz.sizeOf119
 v44 := Tryz.zeroValue119
 t46 := Tryz.underlying113
 a46 := Tryz.isAgg113
 z46 := Tryz.sizeOf113
 v46 := Tryz.zeroValue113
 t53 := Tryz.underlying375
 a53 := Tryz.isAgg375
 z53 := Tryz.sizeOf375
 v53 := Tryz.zeroValue375
 t57 := Tryz.underlying170
 a57 := Tryz.isAgg170
 z57 := Tryz.sizeOf170
 v57 := Tryz.zeroValue170
 t63 := Tryz.underlying411
 a63 := Tryz.isAgg411
 z63 := Tryz.sizeOf411
 v63 := Tryz.zeroValue411
 t64 := Tryz.underlying412
 a64 := Tryz.isAgg412
 z64 := Tryz.sizeOf412
 v64 := Tryz.zeroValue412 }
end Go.Proofs
namespace Go.Proofs.YtlmpjdionndncaaGreatDoor
open Go.RowKit Go.Maps Go.Sort Go.Shelf Go.MapKept Go.WideShapes
def MapZ (w : World) (b : Nat) (ks : List Int) : Prop := ∃ es clock, w.heap[b]? = some (.map es clock) ∧ Stamped es clock ∧ es.toList.map (·.key) = ks.map encZ ∧ es.size ≤ 1000000 ∧ ∀ k ∈ ks, (Lit.int .i64 k).wf = true
def rAny (_ : Value) : Option (DataW Unit × List MemPlace) := some (.lit (.bool true), [])
theorem MapZ.own {w : World} {b : Nat} {ks : List Int} (h : MapZ w b ks) : ∃ D : DataW Unit, w.ownsMap Tryz.prog 3 rAny b ks.length D ∧ (intKeys D).Perm ks ∧ Maps.size D = ks.length := by
 obtain ⟨es, clock, hb, hs, hk, hsz, hwf⟩ := h
 have hlen : es.size = ks.length := by
   have := congrArg List.length hk
   simpa using this
 have hrd : ∀ x ∈ es.toList, ∃ k : Int, x.key = encZ k ∧ k ∈ ks := by
   intro x hx
   have : x.key ∈ es.toList.map (·.key) := List.mem_map.2 ⟨x, hx, rfl⟩
   rw [hk] at this
   obtain ⟨k, hk, e⟩ := List.mem_map.1 this
   exact ⟨k, e.symm, hk⟩
 have hread : ∀ x ∈ es.toList, ∀ k : Int, x.key = encZ k → k ∈ ks → Go.WideElems.rd Tryz.prog 3 rAny x = some (.int .i64 k, .lit (.bool true)) := by
   intro x hx k e hk
   have hkey : keyOf Tryz.prog 3 x.key = some (.int .i64 k) := by
     rw [e]
     exact keyOf_int_mk Tryz.underlying3 (hwf k hk)
   unfold Go.WideElems.rd rAny
   simp [hkey]
 refine ⟨_, ⟨es, clock, hb, ⟨by unfold maxLen; omega, hs, fun x hx => ?_⟩, by omega, rfl⟩, ?_, ?_⟩
 · obtain ⟨k, e, hk⟩ := hrd x hx
   exact ⟨_, hread x hx k e hk⟩
 · have hp := sorted_perm (es.toList.map (Go.WideElems.rg Tryz.prog 3 rAny))
   have : intKeys (H := Unit) (DataW.map ((es.toList.map (Go.WideElems.rg Tryz.prog 3 rAny)).foldr DataW.insert [])) = ((es.toList.map (Go.WideElems.rg Tryz.prog 3 rAny)).foldr DataW.insert []).map (fun p : Lit × DataW Unit => Go.intOf p.1) := rfl
   rw [this]
   refine (hp.map _).trans (List.Perm.of_eq ?_)
   have hmap : (es.toList.map (Go.WideElems.rg Tryz.prog 3 rAny)).map (fun p => encZ (Go.intOf p.1)) = es.toList.map (·.key) := by
     rw [List.map_map]
     refine List.map_congr_left fun x hx => ?_
     obtain ⟨k, e, hk⟩ := hrd x hx
     have := hread x hx k e hk
     simp [Function.comp, Go.WideElems.rg_of this, Go.intOf, e]
   have h2 : (((es.toList.map (Go.WideElems.rg Tryz.prog 3 rAny)).map fun p => Go.intOf p.1).map encZ) = ks.map encZ := by
     rw [← hk, ← hmap]
     simp
   exact (List.map_inj_right (fun x y e => encZ_inj e)).1 h2
 · have hp := (sorted_perm (es.toList.map (Go.WideElems.rg Tryz.prog 3 rAny))).length_eq
   show ((es.toList.map (Go.WideElems.rg Tryz.prog 3 rAny)).foldr DataW.insert []).length = _
   rw [hp]
   simpa using hlen
theorem sortsA (m : Nat) : AnyZI.SortsIn Tryz.prog YtlmpjdionndncaaGreatDoor.sortedL_ren Fence.wide m :=
 ⟨fun blk off cap ss W hH hblk hsz => callsIn_wide.2 (AnyM.slices_Sort_int YtlmpjdionndncaaGreatDoor.sortL blk off cap ss W hH hblk hsz),
  fun p cap W => callsIn_wide.2 (AnyM.slices_Sort_int_none YtlmpjdionndncaaGreatDoor.sortL p cap W)⟩
def sortZ (ks : List Int) : List Int := ks.mergeSort leI
theorem noneD_ok (b n c : Nat) (a : Option Addr) (w : World) (h0 : w.cell? ⟨b, 0, none⟩ = some (.slice a n c)) (_hn : n ≤ 100000) :
   Calls Tryz.prog 158 #[.pointer (some ⟨b, 0, none⟩)] w fun e w' => e = .returned (.bool (n == 0)) ∧ w = w' := by
 have hn' : ((n : Int) == 0) = (n == 0) := by
   rw [Bool.eq_iff_iff]; simp
 go_enter Tryz.func158, Tryz.ntmps158
 go_wp2
 go_ret
 exact ⟨by simp, rfl⟩
set_option maxHeartbeats 2000000 in
theorem waits_ok (b m n c : Nat) (a : Option Addr) (ks : List Int) (w : World) (h0 : w.cell? ⟨b, 0, none⟩ = some (.slice a n c)) (hn0 : 0 < n) (hn : n ≤ 100000) (h1 : w.cell? ⟨b, 1, none⟩ = some (.map (some m))) (hm : MapZ w m ks) :
   Calls Tryz.prog 248 #[.pointer (some ⟨b, 0, none⟩)] w fun e w' => ∃ v, e = .returned v ∧ Own w' 3 1 v ks.length ((sortZ ks).map encZ) ∧ (v = .slice none 0 0 ↔ ks = []) ∧ (∀ k, v.ownBlock = some k → w.heap.size ≤ k) ∧ Fr No w w' := by
 refine (callsIn_wide (n := 6)).1 ?_
 obtain ⟨D0, hown, hperm, hsize⟩ := hm.own
 have hksz : ks.length ≤ 1000000 := by
   obtain ⟨es, clock, _, _, hk, hsz, _⟩ := hm
   have := congrArg List.length hk
   simp at this
   omega
 have hmax : Maps.size D0 ≤ maxLen := by rw [hsize]; unfold maxLen; omega
 have hbytes : Maps.size D0 * 8 ≤ 140737488355328 := by rw [hsize]; omega
 have hbl := hown.lt
 have hseq : SeqGives Fence.wide 2 Tryz.prog 304 #[.pointer (some ⟨w.heap.size, 0, none⟩)] encZ (fun ss => ss.Perm (intKeys D0)) (Maps.size D0) (w.alloc (.cells #[.map (some m)] 175)) :=
   AnyZI.keys_gives (ρ := YtlmpjdionndncaaGreatDoor.keysL_ren) { YtlmpjdionndncaaGreatDoor.keysL with } Fence.wide _ trivial rfl (by omega) w.heap.size m ks.length D0 _ (by simp) (by simp) (by
     obtain ⟨es, clock, hb, Ft, hs, hD⟩ := hown
     exact ⟨es, clock, (Below.heap_alloc _ _ m hbl).trans hb, Ft, hs, hD⟩)
 have cK : ∀ mb W, CallsIn Fence.wide 5 Tryz.prog 285 #[.map mb] W fun e w' => e = .returned (.func (.func 304) #[] #[.pointer (some ⟨W.heap.size, 0, none⟩)]) ∧ w' = W.alloc (.cells #[.map mb] 175) := fun mb W => AnyZI.keys_in YtlmpjdionndncaaGreatDoor.keysL Fence.wide 5 trivial rfl mb W
 have cS := AnyZI.sorted_in YtlmpjdionndncaaGreatDoor.sortedL Fence.wide 5 trivial trivial trivial trivial rfl (by omega) (sortsA _) (enters_of Tryz.func303 (by kernel_rfl) rfl) 304 #[.pointer (some ⟨w.heap.size, 0, none⟩)] trivial (enters_of Tryz.func304 (by kernel_rfl) rfl) _ _ hmax hbytes _ hseq
 change CallsIn _ _ Tryz.prog 284 _ _ _ at cS
 have cN : CallsIn Fence.wide 5 Tryz.prog 158 #[.pointer (some ⟨b, 0, none⟩)] w fun e w' => e = .returned (.bool false) ∧ w = w' :=
   callsIn_wide.2 ((noneD_ok b n c a w h0 hn).mono fun e w' ⟨he, hw⟩ => ⟨by rw [he]; congr 2; simp; omega, hw⟩)
 have hfK : Fence.wide.fn 285 := trivial
 have hfS : Fence.wide.fn 284 := trivial
 have hfN : Fence.wide.fn 158 := trivial
 refine callsIn_of_wp Tryz.func248 rfl trivial ?_ rfl
 simp only [Tryz.ntmps248, List.size_toArray, List.length_cons, List.length_nil, Nat.reduceAdd, Nat.reduceSub, Array.replicate_succ, Array.replicate_zero, List.push_toArray, List.append_toArray, List.nil_append, List.cons_append]
 gi_wp2_with (first
   | (gi_at_call 158; refine cN.mono ?_; rintro e w' ⟨rfl, rfl⟩)
   | (gi_at_call 285; refine (cK _ _).mono ?_; rintro e w' ⟨rfl, rfl⟩)
   | (gi_at_call 284; refine cS.mono ?_; rintro e w' ⟨v, ss, rfl, hS, hrow, hnil, hb⟩))
 go_ret
 have hp : ss.Perm ks := hS.trans hperm
 have hsort : ss.mergeSort (fun x y => decide (x ≤ y)) = sortZ ks := mergeSort_of_perm_i hp
 rw [hsort, hp.length_eq] at hrow
 refine ⟨v, rfl, Own.weak hrow, ?_, fun k hk => ?_, ?_⟩
 · rw [hnil]
   constructor
   · rintro rfl; exact hp.nil_eq.symm
   · rintro rfl; exact hp.eq_nil
 · have := (World.ownsRow.lt hrow k hk).1
   simp at this
   omega
 · exact ((Fr.refl No w).alloc _).thn (Fr.of_below hb)
end Go.Proofs.YtlmpjdionndncaaGreatDoor
namespace Go.Proofs.YtlmpjdionndncaaGreatDoor
open Go Go.RowKit
namespace Ev
noncomputable section
def insZ (x : Int) : List Int → List Int
 | [] => [x]
 | y :: l => cond (decide (x ≤ y)) (x :: y :: l) (y :: insZ x l)
def isortZ : List Int → List Int
 | [] => []
 | x :: l => insZ x (isortZ l)
theorem insZ_perm (x : Int) : ∀ l, (insZ x l).Perm (x :: l)
 | [] => .refl _
 | y :: l => by
   unfold insZ
   cases decide (x ≤ y) with
   | true => exact .refl _
   | false => exact ((insZ_perm x l).cons y).trans (.swap x y l)
theorem isortZ_perm : ∀ l, (isortZ l).Perm l
 | [] => .refl _
 | x :: l => (insZ_perm x _).trans ((isortZ_perm l).cons x)
theorem insZ_sorted (x : Int) : ∀ l, l.Pairwise (· ≤ ·) → (insZ x l).Pairwise (· ≤ ·)
 | [], _ => by simp [insZ]
 | y :: l, h => by
   unfold insZ
   rw [List.pairwise_cons] at h
   cases hd : decide (x ≤ y) with
   | true =>
     have hxy := of_decide_eq_true hd
     rw [cond_true, List.pairwise_cons, List.pairwise_cons]
     refine ⟨fun z hz => ?_, h⟩
     rcases List.mem_cons.1 hz with rfl | hz
     · exact hxy
     · exact Int.le_trans hxy (h.1 z hz)
   | false =>
     have hxy := of_decide_eq_false hd
     rw [cond_false, List.pairwise_cons]
     refine ⟨fun z hz => ?_, insZ_sorted x l h.2⟩
     rcases List.mem_cons.1 ((insZ_perm x l).mem_iff.1 hz) with rfl | hz
     · omega
     · exact h.1 z hz
theorem isortZ_sorted : ∀ l, (isortZ l).Pairwise (· ≤ ·)
 | [] => .nil
 | x :: l => insZ_sorted x _ (isortZ_sorted l)
theorem sortZ_eq (l : List Int) : sortZ l = isortZ l := by
 have tr : ∀ a b c : Int, leI a b = true → leI b c = true → leI a c = true := fun a b c h1 h2 => by simp only [leI, decide_eq_true_eq] at *; exact Int.le_trans h1 h2
 have tot : ∀ a b : Int, (leI a b || leI b a) = true := fun a b => by simp only [leI, Bool.or_eq_true, decide_eq_true_eq]; exact Int.le_total a b
 refine List.Perm.eq_of_pairwise (le := fun a b => a ≤ b) (fun a b _ _ h1 h2 => Int.le_antisymm h1 h2) ((List.pairwise_mergeSort tr tot l).imp (fun h => by simpa [leI] using h)) (isortZ_sorted l) ((List.mergeSort_perm l leI).trans (isortZ_perm l).symm)
def keysZ : List (Value × AV × Nat) → Option (List Int)
 | [] => some []
 | (.int .i64 k, _, _) :: l => match keysZ l with
   | some r => some (k :: r)
   | none => none
 | _ => none
def wfZ (k : Int) : Bool := (Lit.int .i64 k).wf
def memN (b : Nat) : List Nat → Bool
 | [] => false
 | x :: l => cond (Nat.beq b x) true (memN b l)
def nodupN : List Nat → Bool
 | [] => true
 | x :: l => !memN x l && nodupN l
def memZ (b : Int) : List Int → Bool
 | [] => false
 | x :: l => cond (decide (b = x)) true (memZ b l)
def nodupZ : List Int → Bool
 | [] => true
 | x :: l => !memZ x l && nodupZ l
theorem memN_iff (b : Nat) : ∀ l, memN b l = true ↔ b ∈ l
 | [] => by simp [memN]
 | x :: l => by
   unfold memN
   rw [beq_dec]
   by_cases h : b = x
   · simp [h]
   · simp [h, memN_iff b l]
theorem nodupN_spec : ∀ l, nodupN l = true → l.Nodup
 | [], _ => .nil
 | x :: l, h => by
   simp only [nodupN, Bool.and_eq_true, Bool.not_eq_true'] at h
   exact List.nodup_cons.2 ⟨fun hx => by rw [(memN_iff x l).2 hx] at h; exact absurd h.1 (by simp), nodupN_spec l h.2⟩
theorem memZ_iff (b : Int) : ∀ l, memZ b l = true ↔ b ∈ l
 | [] => by simp [memZ]
 | x :: l => by
   unfold memZ
   by_cases h : b = x
   · simp [h]
   · simp [h, memZ_iff b l]
theorem nodupZ_spec : ∀ l, nodupZ l = true → l.Nodup
 | [], _ => .nil
 | x :: l, h => by
   simp only [nodupZ, Bool.and_eq_true, Bool.not_eq_true'] at h
   exact List.nodup_cons.2 ⟨fun hx => by rw [(memZ_iff x l).2 hx] at h; exact absurd h.1 (by simp), nodupZ_spec l h.2⟩
theorem keysZ_sound {ρ : Env} {l : List (Value × AV × Nat)} {m : List MapEntry} (h : ERs ρ l m) : ∀ {ks : List Int}, keysZ l = some ks → m.map (·.key) = ks.map encZ ∧ m.map (·.born) = l.map (·.2.2) ∧ m.length = ks.length := by
 induction h with
 | nil => intro ks h; simp [keysZ] at h; subst h; exact ⟨rfl, rfl, rfl⟩
 | cons hx t ih =>
   intro ks h
   unfold keysZ at h
   split at h
   · rename_i heq; cases heq
   · rename_i k x' b' l' heq
     cases heq
     split at h
     · rename_i r hr
       cases h
       obtain ⟨h1, h2, h3⟩ := ih hr
       exact ⟨by simp [h1, encZ], by simp [h2], by simp [h3]⟩
     · cases h
   · cases h
def someLen : AV → Bool
 | .sl _ _ n _ => Nat.ble 1 n && Nat.ble n 100000
 | .su _ _ n _ _ => Nat.ble 1 n && Nat.ble n 100000
 | _ => false
theorem someLen_sound {ρ : Env} {x : AV} {u : Value} (h : someLen x = true) (hx : VR ρ x u) : ∃ a n c, u = .slice a n c ∧ 0 < n ∧ n ≤ 100000 := by
 unfold someLen at h
 split at h
 · simp only [Bool.and_eq_true, Nat.ble_eq] at h
   cases hx; exact ⟨_, _, _, rfl, h.1, h.2⟩
 · simp only [Bool.and_eq_true, Nat.ble_eq] at h
   cases hx; exact ⟨_, _, _, rfl, h.1, h.2⟩
 · cases h
def waitsHook : Hook := fun f args H n =>
 cond (Nat.beq f 248) (match args with
   | [.ptr i 0] => match H.get i with
     | some (.mem _ _ r0) => match r0.toList with
      | x0 :: .mp j :: _ => match H.get j with
       | some (.map l c) => match keysZ l with
         | some ks => cond (someLen x0 && ks.all wfZ && nodupZ ks && nodupN (l.map (·.2.2)) && (l.all fun e => Nat.blt e.2.2 c) && Nat.ble ks.length 100000)
           (match ks with
            | [] => some (.v (.slice none 0 0), H, n)
            | _ => some (.su n 0 ks.length 0 ks.length, tput H n (.mem 3 (some 1) (.leaf (((isortZ ks).map encZ).map .v))), n + 1)) none
         | none => none
       | _ => none
      | _ => none
     | _ => none
   | _ => none) none
theorem tab : (Tryz.prog.funcs.toList.all fun fn => !(fn.name == "runtime.NumGoroutine")) = true := by kernel_rfl
theorem waitsHook_ok : HKok Tryz.prog waitsHook := by
 intro f args H n x H' n' h
 unfold waitsHook at h
 cases hf : Nat.beq f 248 with
 | false => simp [hf] at h
 | true =>
   simp only [hf, cond_true] at h
   have hf' : f = 248 := by simpa using hf
   subst hf'
   refine ⟨fun xs w => hook_call tab Tryz.func248 (by kernel_rfl) xs w, ?_⟩
   intro w0 ρ w vs hr hvs
   split at h
   · rename_i i
     split at h
     · rename_i T z r0 hB
       split at h
       rotate_left
       · cases h
       rename_i x0 j rest hr0
       split at h
       · rename_i l c hM
         split at h
         · rename_i ks hks
           cases hc : (someLen x0 && ks.all wfZ && nodupZ ks && nodupN (l.map (·.2.2)) && (l.all fun e => Nat.blt e.2.2 c) && Nat.ble ks.length 100000) with
           | false => rw [hc] at h; cases h
           | true =>
             rw [hc, cond_true] at h
             simp only [Bool.and_eq_true, Nat.ble_eq, List.all_eq_true, Nat.blt_eq] at hc
             obtain ⟨⟨⟨⟨⟨c1, c2⟩, c3⟩, c4⟩, c5⟩, c6⟩ := hc
             cases hvs with
             | cons e1 t1 =>
             cases t1
             cases e1 with
             | @ptr _ b d _ hi =>
             obtain ⟨o, hob, us, sp, fz, hv, rfl, _, _⟩ := hr.blk hi hB
             rw [hr0] at hv
             cases hv with
             | @cons _ u0 _ _ y0 s1 =>
             cases s1 with
             | @cons _ u1 _ us' y1 s2 =>
             cases y1 with
             | @mp _ mb md hj =>
             obtain ⟨om, hom, es, hes, rfl⟩ := hr.blk hj hM
             obtain ⟨a, nn, cc, rfl, hn0, hn⟩ := someLen_sound c1 y0
             obtain ⟨hk1, hk2, hk3⟩ := keysZ_sound hes hks
             have hm : MapZ w mb ks := by
               refine ⟨es.toArray, c, hom, ⟨fun q hq => ?_, ?_, ?_⟩, ?_, ?_, fun k hk => c2 k hk⟩
               · have : q.born ∈ es.map (·.born) := List.mem_map.2 ⟨q, by simpa using hq, rfl⟩
                 rw [hk2] at this
                 obtain ⟨e, he, hq⟩ := List.mem_map.1 this
                 rw [← hq]; exact c5 e he
               · simp only [hk2]; exact nodupN_spec _ c4
               · simp only [hk1]
                 exact List.Pairwise.map _ (fun x y hxy e => hxy (encZ_inj e)) (nodupZ_spec _ c3)
               · simpa using hk1
               · simp [hk3]; omega
             have h0 : w.cell? ⟨b, 0, none⟩ = some (.slice a nn cc) := by rw [cells_cell hob]; rfl
             have h1 : w.cell? ⟨b, 1, none⟩ = some (.map (some mb)) := by rw [cells_cell hob]; rfl
             refine (waits_ok b mb nn cc a ks w h0 hn0 hn h1 hm).mono ?_
             rintro e w' ⟨v, rfl, hown, hnil, hnew, hfr⟩
             rw [sortZ_eq] at hown
             cases ks with
             | nil =>
               simp only [Option.some.injEq, Prod.mk.injEq] at h
               obtain ⟨rfl, rfl, rfl⟩ := h
               obtain rfl := hnil.2 rfl
               exact ⟨ρ, _, rfl, .v _, hr.old hfr, Ext.refl _ _ _⟩
             | cons k0 kr =>
               simp only [Option.some.injEq, Prod.mk.injEq] at h
               obtain ⟨rfl, rfl, rfl⟩ := h
               rcases hown.cases with ⟨_, e0, _⟩ | ⟨g, cg, rfl⟩
               · cases e0
               · obtain ⟨q1, q2, q3⟩ := hr.newOwn hfr hown (hnew g rfl) (VRs.of_vals _)
                 exact ⟨_, _, rfl, q3, q1, q2⟩
         · cases h
       · cases h
     · cases h
   · cases h
end
end Ev
end Go.Proofs.YtlmpjdionndncaaGreatDoor
namespace Go.Proofs.YtlmpjdionndncaaGreatDoor
open Go.RowKit
theorem Tryz.infoU8 : (Tryz.prog.info? 5).map (fun i => (i.zero, i.size, i.bytes)) = some (some (.int .u8 0), 1, 1) := by kernel_rfl
theorem sized_yes (n : Nat) (hs : n = 1 ∨ n = 2 ∨ n = 4 ∨ n = 8) (w : World) : Calls Tryz.prog 219 #[.int .i64 n] w fun e w' => e = .returned (.bool true) ∧ w = w' := by
 rcases hs with rfl | rfl | rfl | rfl
 all_goals
   go_enter Tryz.func219, Tryz.ntmps219
   go_wp2
   go_ret
   exact ⟨rfl, rfl⟩
structure WrAt (w : World) (b : Nat) (v : Value) (bs : List UInt8) : Prop where
 blk : Blk w b 325 [v]
 own : Own w 5 1 v bs.length (bs.map byt)
def numByte (size n i : Nat) : UInt8 := UInt8.ofNat (n / 2 ^ (8 * (size - 1 - i)))
def numTo (size n k : Nat) : List UInt8 := (List.range k).map (numByte size n)
def num (size n : Nat) : List UInt8 := numTo size n size
theorem numTo_succ (size n k : Nat) : numTo size n (k + 1) = numTo size n k ++ [numByte size n k] := by simp [numTo, List.range_succ]
theorem num_len (size n : Nat) : (num size n).length = size := by simp [num, numTo]
theorem byte_u8 (x : Nat) : Value.int .u8 (IntKind.u8.wrap (x : Int)) = byt (UInt8.ofNat x) := by
 unfold byt
 congr 1
theorem new_cell {w : World} {T : TypeId} {x : Value} : ∀ (j : Nat) (u : Value), [x][j]? = some u → (w.alloc (.cells #[x] T)).cell? ((⟨w.heap.size, 0, none⟩ : Addr).add j) = some u := by
 intro j u hj
 match j, hj with
 | 0, hj => simp at hj; subst hj; simp [Addr.add]
theorem app_keep {w0 w w' : World} {T T' : TypeId} {size n m b : Nat} {v v' : Value} {l l' : List Value} (hap : Appended w T size v n m l v' w') (h0 : Fr No w0 w) (hB : Blk w0 b T' l') (hn : ∀ k, v.ownBlock = some k → k ≠ b) : Blk w' b T' l' :=
 (hB.fr h0 (No.no _)).fr hap.fr (fun e => hn _ e rfl)
theorem WrAt.ne {w : World} {b : Nat} {v : Value} {bs : List UInt8} (h : WrAt w b v bs) : ∀ k, v.ownBlock = some k → k ≠ b := h.blk.neOwn h.own (by decide)
theorem WrAt.app {w0 w w' : World} {b m : Nat} {v v' : Value} {bs cs : List UInt8} (h : WrAt w0 b v bs) (h0 : Fr No w0 w) (hap : Appended w 5 1 v bs.length m (bs.map byt ++ cs.map byt) v' w') (hm : cs.length = m) :
   WrAt (w'.setCell ⟨b, 0, none⟩ v') b v' (bs ++ cs) ∧ Fr (fun k => k = b ∨ v.ownBlock = some k) w0 (w'.setCell ⟨b, 0, none⟩ v') ∧ AtOr w0 v v' := by
 subst hm
 have hB := app_keep hap h0 h.blk h.ne
 have hb := h.blk.lt
 have hz := h0.size
 have ha := hap.atOr hz
 refine ⟨⟨hB.set 0 _, ?_⟩, ?_, ha⟩
 · have ho := hap.own
   rw [← List.map_append, ← List.length_append] at ho
   refine ho.other (fun e => ?_) _
   rcases ha _ e with e' | e'
   · exact h.ne _ e' rfl
   · have e2 : w0.heap.size ≤ b := e'
     omega
 · exact ((h0.no_any.trans hap.fr (fun k hk => .inl (.inr hk))).setCell (.inl (.inl rfl)) _)
set_option maxHeartbeats 1000000 in
set_option maxRecDepth 100000 in
theorem wnum_any (b : Nat) (v : Value) (bs : List UInt8) (size n : Nat) (hs : size = 1 ∨ size = 2 ∨ size = 4 ∨ size = 8) (hn : n < 2 ^ (8 * size)) (hl : bs.length ≤ 1000000) (w : World) (h : WrAt w b v bs) :
   Calls Tryz.prog 200 #[.pointer (some ⟨b, 0, none⟩), .int .i64 size, .int .u64 n] w fun e w' => ∃ v', e = .returned (.int .i64 0) ∧ WrAt w' b v' (bs ++ num size n) ∧ Fr (fun k => k = b ∨ v.ownBlock = some k) w w' ∧ AtOr w v v' := by
 have hs8 : size ≤ 8 := by omega
 have hs1 : 1 ≤ size := by omega
 have hq : (n : Int) / 2 ^ (8 * size) = 0 := by
   have : n / 2 ^ (8 * size) = 0 := Nat.div_eq_of_lt hn
   exact_mod_cast this
 have hd : decide (0 < (n : Int) / 2 ^ (8 * size)) = false := by rw [hq]; rfl
 have HD : decide (0 < (n : Int) / 2 ^ (8 * size)) = false := hd
 obtain ⟨i0, hi0, hz0, hz1, hz2⟩ := info_parts Tryz.infoU8
 clear hq hd hn
 by_cases h8 : size < 8
 all_goals
   go_enter Tryz.func200, Tryz.ntmps200
   go_wp2_with (go_at_call 219; refine (sized_yes _ hs _).mono ?_; rintro e w1 ⟨rfl, rfl⟩)
   go_loopw [7] (fun s wr => ∃ (k : Nat) (v' : Value), k ≤ size ∧ s = .int .i64 ((size : Int) - 1 - (k : Nat)) ∧ WrAt wr b v' (bs ++ numTo size n k) ∧ Fr (fun k => k = b ∨ v.ownBlock = some k) w wr ∧ AtOr w v v') (fun s _ => (intOf s + 1).toNat)
   case atStart => exact ⟨0, v, Nat.zero_le _, by simp, by simpa [numTo] using h, Fr.refl _ _, AtOr.refl _ _⟩
   case round =>
     obtain ⟨k, v', hk, rfl, hW, hfr, hat⟩ := hrel
     by_cases hlt : k < size
     · obtain ⟨i, hi⟩ : ∃ i : Nat, i = size - 1 - k := ⟨_, rfl⟩
       have e1 : (size : Int) - 1 - (k : Nat) = (i : Nat) := by omega
       rw [e1]
       have HI := Lib.hid hi
       have HE := Lib.hid e1
       have hib : i ≤ 7 := by omega
       have hwr : IntKind.i64.wrap (8 * (i : Int)) = 8 * (i : Int) := by rw [IntKind.wrap_i64]; omega
       have hp0 : (0 : Int) ≤ 8 * (i : Int) := by omega
       have hp2 : (8 * (i : Int)).toNat = 8 * i := by omega
       clear hi e1
       have hB := hW.blk
       have c0 := hB.cell (j := 0) rfl
       have hBl := hB.lt
       have hBf := hB.free
       have hlb : (bs ++ numTo size n k).length ≤ 1000008 := by simp [numTo]; omega
       obtain ⟨cs, hcs⟩ : ∃ cs, cs = bs ++ numTo size n k := ⟨_, rfl⟩
       rw [← hcs] at hW hlb
       have HCS := Lib.hid hcs
       clear hcs
       have hval : Hid (Value.int .u8 (IntKind.u8.wrap ((n : Int) / 2 ^ (8 * i))) = byt (numByte size n k)) := by
         have e2 : (n : Int) / 2 ^ (8 * i) = ((n / 2 ^ (8 * i) : Nat) : Int) := by simp
         rw [e2, byte_u8]
         unfold numByte
         rw [HI.out]
         exact rfl
       have hO := hW.own
       have hl1 : Hid ([Value.int .u8 (IntKind.u8.wrap ((n : Int) / 2 ^ (8 * i)))].length = 1 * 1) := rfl
       have h1c : Hid (∀ u ∈ [Value.int .u8 (IntKind.u8.wrap ((n : Int) / 2 ^ (8 * i)))], u.oneCell' = true) := fun u hu => by simp at hu; subst hu; rfl
       have hm1 : cs.length + 1 ≤ maxLen := by unfold maxLen; omega
       have hm2 : (cs.length + 1) * 1 ≤ 140737488355328 := by omega
       go_wp2_with fail
       go_region_law (refine step_app _ rfl (.tmp 35) (.tmp 41) 183 rfl 5 i0 (.int .u8 0) 1 1 Tryz.underlying183 hi0 hz0 hz1 hz2 rfl v' _ _ (by simp [Act.eval]) (by first | exact hO.drew.alloc _ | exact (hO.alloc _).drew) ⟨wr.heap.size, 0, none⟩ 1 1 [Value.int .u8 (IntKind.u8.wrap ((n : Int) / 2 ^ (8 * i)))] (by simp [Act.eval]) hl1.out (by first | exact new_cell | exact new_cell (w := wr)) h1c.out hm1 hm2 ?_; intro v2 w2 hap; obtain ⟨g2, c2, rfl⟩ := hap.some (by omega); have hB2 := app_keep hap (w0 := wr) (by first | exact ((Fr.refl No wr).drew).alloc _ | exact ((Fr.refl No wr).alloc _).drew) hB hW.ne; have d0 := hB2.cell (j := 0) rfl; have dl := hB2.lt; have df := hB2.free)
       all_goals
         rw [show [Value.int .u8 (IntKind.u8.wrap ((n : Int) / 2 ^ (8 * i)))] = [numByte size n k].map byt from by rw [hval.out]; rfl] at hap
         have hfin := hW.app (by first | exact ((Fr.refl No wr).drew).alloc _ | exact ((Fr.refl No wr).alloc _).drew) hap rfl
         have HF := Lib.hid hfin
         clear hfin hap d0 dl df hB2 hO hW
         go_wp2
         go_roundw
         case rel =>
           refine ⟨k + 1, _, by omega, ?_, by rw [numTo_succ, ← List.append_assoc, ← HCS.out]; exact HF.out.1, hfr.trans HF.out.2.1 ?_, hat.trans HF.out.2.2 hfr.size⟩
           · have := HE.out
             congr 1
             omega
           · rintro x (hx | hx)
             · exact .inl (.inl hx)
             · rcases hat x hx with h1 | h1
               · exact .inl (.inr h1)
               · exact .inr h1
         case measure => (simp [intOf]; try omega)
     · obtain rfl : k = size := by omega
       have e1 : (k : Int) - 1 - (k : Nat) = -1 := by omega
       rw [e1]
       go_wp2
       go_ret
       exact ⟨v', rfl, hW, hfr, hat⟩
theorem Tryz.eqU8 (w : World) (a : Option Addr) (n c n' c' : Nat) : (binOp .eql 183 (.slice a n c) (.slice none n' c')).run Tryz.prog w = .ok (.bool a.isNone) w :=
 Lib.run_eql_slice_nil w 183 5 a n c n' c' Tryz.underlying183
set_option maxRecDepth 100000 in
set_option maxHeartbeats 400000 in
theorem cloneB_any (a : Option Addr) (n c : Nat) (bs : List UInt8) (w : World) (h : Win w a n c (bs.map byt)) (hb : n ≤ 1000000) :
   Calls Tryz.prog 168 #[.slice a n c] w fun e w' => ∃ v, e = .returned v ∧ IsClone 5 w a n (bs.map byt) v w' := by
 have hnil := Tryz.eqU8
 obtain ⟨i0, hi, hz0, hz1, hz2⟩ := info_parts Tryz.infoU8
 cases a with
 | none =>
   obtain ⟨rfl, rfl, hx⟩ := h.nil_inv
   rw [hx]
   clear hx
   go_enter Tryz.func168, Tryz.ntmps168
   go_wp2
   go_ret
   exact ⟨_, rfl, World.ownsRow_nil _ _ _ _, fun k hk => by simp [Value.ownBlock] at hk, by simp, Fr.refl _ _⟩
 | some ad =>
   have hm : Hid (Own (w.alloc (.cells #[] 5)) 5 1 (.slice (some ⟨w.heap.size, 0, none⟩) 0 0) 0 []) := Own.weak (World.ownsRow_made w #[] 0 (Nat.le_refl _) (Nat.zero_le _) rfl)
   have hw : Hid (Win (w.alloc (.cells #[] 5)) (some ad) n c (bs.map byt)) := h.no ((Fr.refl No w).alloc _)
   have HK : Hid (∀ u ∈ bs.map byt, u.oneCell' = true) := byt_one bs
   have hm1 : 0 + n ≤ maxLen := by unfold maxLen; omega
   have hm2 : (0 + n) * 1 ≤ 140737488355328 := by omega
   go_enter Tryz.func168, Tryz.ntmps168
   go_wp2_with (at_builtin; refine wpList_appW _ rfl (.tmp 5) (.tmp 6) 183 rfl 5 i0 (.int .u8 0) 1 Tryz.underlying183 hi hz0 hz1 hz2 rfl (.slice (some ⟨w.heap.size, 0, none⟩) 0 0) 0 [] rfl hm.out (some ad) n c (bs.map byt) rfl hw.out HK.out hm1 hm2 ?_; intro v' w' hap)
   go_ret
   have ho := hap.own
   rw [Nat.zero_add, List.nil_append] at ho
   refine ⟨v', rfl, ho, fun k hk => ?_, ?_, ((Fr.refl No w).alloc _).trans hap.fr (fun k hk => .inr ?_)⟩
   · rcases hap.blk with e | ⟨k', e, hk'⟩
     · rw [e] at hk
       simp [Value.ownBlock] at hk
       omega
     · rw [e] at hk
       cases hk
       simp at hk'
       omega
   · rw [hap.isNil]; simp
   · simp [Value.ownBlock] at hk; omega
set_option maxRecDepth 100000 in
set_option maxHeartbeats 400000 in
theorem twin_any (a : Option Addr) (n c : Nat) (bs : List UInt8) (w : World) (h : Win w a n c (bs.map byt)) (hb : n ≤ 1000000) :
   Calls Tryz.prog 153 #[.slice a n c] w fun e w' => ∃ v, e = .returned v ∧ Own w' 5 1 v n (bs.map byt) ∧ (∀ k, v.ownBlock = some k → w.heap.size ≤ k) ∧ (v = .slice none 0 0 ↔ n = 0) ∧ Fr No w w' := by
 obtain ⟨i0, hi, hz0, hz1, hz2⟩ := info_parts Tryz.infoU8
 have hw := Lib.hid h
 have HK : Hid (∀ u ∈ bs.map byt, u.oneCell' = true) := byt_one bs
 have hm1 : 0 + n ≤ maxLen := by unfold maxLen; omega
 have hm2 : (0 + n) * 1 ≤ 140737488355328 := by omega
 have hm : Hid (Own w 5 1 (.slice none 0 0) 0 []) := World.ownsRow_nil _ _ _ _
 clear h
 go_enter Tryz.func153, Tryz.ntmps153
 go_wp2_with (at_builtin; refine wpList_appW _ rfl (.tmp 4) (.tmp 5) 183 rfl 5 i0 (.int .u8 0) 1 Tryz.underlying183 hi hz0 hz1 hz2 rfl (.slice none 0 0) 0 [] rfl hm.out a n c (bs.map byt) rfl hw.out HK.out hm1 hm2 ?_; intro v' w' hap)
 go_ret
 have ho := hap.own
 rw [Nat.zero_add, List.nil_append] at ho
 refine ⟨v', rfl, ho, fun k hk => ?_, ?_, (Fr.refl No w).trans hap.fr (fun k hk => ?_)⟩
 · rcases hap.blk with e | ⟨k', e, hk'⟩
   · rw [e] at hk
     simp [Value.ownBlock] at hk
   · rw [e] at hk
     cases hk
     exact hk'
 · rw [hap.isNil]; simp
 · simp [Value.ownBlock] at hk
set_option maxRecDepth 100000 in
set_option maxHeartbeats 400000 in
theorem wraw_any (b : Nat) (v : Value) (bs cs : List UInt8) (a : Option Addr) (n c : Nat) (hl : bs.length + n ≤ 1000000) (w : World) (h : WrAt w b v bs) (hw : Win w a n c (cs.map byt)) :
   Calls Tryz.prog 222 #[.pointer (some ⟨b, 0, none⟩), .slice a n c] w fun e w' => ∃ v', e = .returned (.int .i64 0) ∧ WrAt w' b v' (bs ++ cs) ∧ Fr (fun k => k = b ∨ v.ownBlock = some k) w w' ∧ AtOr w v v' := by
 obtain ⟨i0, hi, hz0, hz1, hz2⟩ := info_parts Tryz.infoU8
 have hB := h.blk
 have c0 := hB.cell (j := 0) rfl
 have hBl := hB.lt
 have hBf := hB.free
 have HW := Lib.hid hw
 have HO := Lib.hid h.own
 have HK : Hid (∀ u ∈ cs.map byt, u.oneCell' = true) := byt_one cs
 have hm1 : bs.length + n ≤ maxLen := by unfold maxLen; omega
 have hm2 : (bs.length + n) * 1 ≤ 140737488355328 := by omega
 have hcl : cs.length = n := by have := hw.len; simpa using this
 have HCL := Lib.hid hcl
 have HH := Lib.hid h
 clear hw hcl h
 go_enter Tryz.func222, Tryz.ntmps222
 go_wp2_with (at_builtin; refine wpList_appW _ rfl (.tmp 11) (.tmp 12) 183 rfl 5 i0 (.int .u8 0) 1 Tryz.underlying183 hi hz0 hz1 hz2 rfl v _ _ rfl HO.out a n c (cs.map byt) rfl HW.out HK.out hm1 hm2 ?_; intro v2 w2 hap; obtain ⟨a2, c2, rfl⟩ := app_slice hap; have hB2 := app_keep hap (w0 := w) (Fr.refl No w) hB HH.out.ne; have d0 := hB2.cell (j := 0) rfl; have dl := hB2.lt; have df := hB2.free)
 go_ret
 have hfin := HH.out.app (Fr.refl No w) hap HCL.out
 exact ⟨_, rfl, hfin.1, hfin.2.1, hfin.2.2⟩
set_option maxRecDepth 100000 in
set_option maxHeartbeats 400000 in
theorem wlen_any (b : Nat) (v : Value) (bs : List UInt8) (w : World) (h : WrAt w b v bs) :
   Calls Tryz.prog 223 #[.pointer (some ⟨b, 0, none⟩)] w fun e w' => e = .returned (.int .i64 (bs.length : Nat)) ∧ w = w' := by
 have hB := h.blk
 have c0 := hB.cell (j := 0) rfl
 have hBl := hB.lt
 obtain ⟨a, c, rfl⟩ := own_slice h.own
 clear h hB
 go_enter Tryz.func223, Tryz.ntmps223
 go_wp2
 go_ret
 exact ⟨rfl, rfl⟩
set_option maxRecDepth 100000 in
set_option maxHeartbeats 400000 in
theorem wbytes_any (b : Nat) (v : Value) (bs : List UInt8) (w : World) (h : WrAt w b v bs) (hl : bs.length ≤ 1000000) :
   Calls Tryz.prog 202 #[.pointer (some ⟨b, 0, none⟩)] w fun e w' => ∃ v', e = .returned v' ∧ Own w' 5 1 v' bs.length (bs.map byt) ∧ (∀ k, v'.ownBlock = some k → w.heap.size ≤ k) ∧ (v' = .slice none 0 0 ↔ v = .slice none 0 0) ∧ Fr No w w' := by
 have hB := h.blk
 have c0 := hB.cell (j := 0) rfl
 have hBl := hB.lt
 obtain ⟨a, c, rfl, hw⟩ := Win.of_own h.own
 clear h hB
 go_enter Tryz.func202, Tryz.ntmps202
 go_wp2_with (go_at_call 168; refine (cloneB_any a _ c bs _ hw hl).mono ?_; rintro e w1 ⟨v1, rfl, hc⟩)
 go_ret
 refine ⟨v1, rfl, hc.own, hc.new, ?_, hc.fr⟩
 rw [hc.nil]
 constructor
 · rintro rfl
   obtain ⟨h1, h2, _⟩ := hw.nil_inv
   rw [h1, h2]
 · intro e
   injection e
end Go.Proofs.YtlmpjdionndncaaGreatDoor
namespace Go.Proofs.YtlmpjdionndncaaGreatDoor
open Go.RowKit Go.Shelf
theorem Fr.putObj {S : Nat → Prop} {a w : World} (h : Fr S a w) {D : Nat} (hD : S D ∨ a.heap.size ≤ D) (o : Obj) : Fr S a (w.putObj D o) :=
 h.grown (grownBy_putObj' w D o) (fun k hk => by cases hk; exact hD)
theorem Blk.putObj {w : World} {b : Nat} {T : TypeId} {l : List Value} (h : Blk w b T l) {D : Nat} (hD : b ≠ D) (o : Obj) : Blk (w.putObj D o) b T l := (World.putObj_heap_other (fun e => hD e)).trans h
theorem Blk.neDef {w : World} {b D : Nat} {T : TypeId} {l : List Value} {o : Option (List Deferred)} (h : Blk w b T l) (hD : w.heap[D]? = some (.deferred o)) : b ≠ D := by
 intro e
 subst e
 have := h.symm.trans hD
 simp at this
variable {P : Program}
theorem wp_range {α : Type} {g : Operand} {ps : Array Tmp} {assign body : Code} {Q : Exit → Act → World → Prop} {a : Act} {w : World}
   {gf : Nat} {lb : Array Value} (hg : a.eval g = .func (.func gf) #[] lb) (eg : ∀ args w, (callFunc gf args).run P w = .ok (.enter gf args) w)
   {encs : α → Array Value} {Kp : World → World → Prop} {S Sp : List α → Prop} {N : Nat} {w0 : World} (hseq : SeqStopsK Fence.wide 4 P gf lb encs Kp S Sp N w0)
   (hKt : ∀ {A B C : World}, Kp A B → Kp B C → Kp A C) (hKb : ∀ (W : World) (l : Nat) (o o' : Obj), w.heap.size ≤ l → W.heap[l]? = some o → o.isCells = false → o.isWalk = false → Kp W (W.putObj l o')) (hb0 : Below w0.heap.size w0 w) (hps : ∀ x, (encs x).size = ps.size)
   (I : List α → World → Prop) (Ix : Code → List α → World → Prop) (hI : OwnFrom w.heap.size I) (hIx : ∀ c, OwnFrom w.heap.size (Ix c)) (h0 : I [] w) (a₁ : α → Act)
   (hassign : ∀ (l : Nat) (x : α) (W : World) (K : Act → World → Prop), K (a₁ x) W →
     assign.wpIn (Fence.wide.inRound l) 3 P (Exit.then K (fun _ _ _ => False)) { tmps := (ps.zip (encs x)).foldl (fun t (p, v) => t.setIfInBounds p v) a.tmps, defers := [] } W)
   (hbody : ∀ (l : Nat) (pre : List α) (x : α) (W : World), I pre W → pre.length < N → body.wpIn (Fence.wide.inRound l) 3 P (ownPostK Kp I Ix (pre ++ [x]) W) (a₁ x) W)
   (hdone : ∀ (D : Nat) (xs : List α) (W : World), w.heap.size ≤ D → S xs → I xs W → W.heap[D]? = some (.deferred (some [])) → Q .normal { a with defers := { target := .collected D, args := #[] } :: a.defers } W)
   (hstop : ∀ (D : Nat) (c : Code) (pre : List α) (W : World), w.heap.size ≤ D → Sp pre → Ix c pre W → W.heap[D]? = some (.deferred (some [])) → c.wp P Q { a with defers := { target := .collected D, args := #[] } :: a.defers } W) :
   (Code.rangeFunc g ps assign body).wp P Q a w :=
 wpIn_wide.1 (wpIn_rangeFunc_ownF (n := 5) rfl (by omega) hg trivial eg hseq hKt hKb hb0 hps I Ix hI hIx h0 a₁ hassign hbody hdone (fun D c pre W h1 h2 h3 h4 => wpIn_wide.2 (hstop D c pre W h1 h2 h3 h4)))
def noPanic (Q : Exit → Act → World → Prop) : Exit → Act → World → Prop
 | .panic _, _, _ => False
 | e, a, w => Q e a w
theorem noPanic_le {Q : Exit → Act → World → Prop} (e : Exit) (a : Act) (w : World) (h : noPanic Q e a w) : Q e a w := by
 cases e <;> first | exact h | exact h.elim
theorem calls_of_marks {f : FuncId} {fn : Func} {c : Code} {args : Array Value} {w : World} {R : Ending → World → Prop} (hf : P.funcs[f]? = some fn) (hb : fn.body = some c)
   (h : c.wp P (noPanic (bodyPostM Fence.wide 5 P fn R)) { tmps := args ++ Array.replicate (fn.ntmps - args.size) undef, defers := [] } w) : Calls P f args w R :=
 callsIn_wide.1 (callsIn_of_wp_marks (F := Fence.wide) (n := 5) hf hb trivial (wpIn_wide.2 (wp_mono h noPanic_le)) rfl)
theorem end_marks {fn : Func} {R : Ending → World → Prop} {tmps : Array Value} {D : Nat} {w : World} {v : Value} (hK : w.heap[D]? = some (.deferred (some [])))
   (hr : (results fn tmps).run P (w.putObj D (.deferred none)) = .ok v (w.putObj D (.deferred none))) (h : R (.returned v) (w.putObj D (.deferred none))) :
   noPanic (bodyPostM Fence.wide 5 P fn R) .ret { tmps := tmps, defers := [{ target := .collected D, args := #[] }] } w := by
 show LeavesInM Fence.wide 5 P fn tmps R [_] .returning w
 refine ⟨by simp, .inl ⟨_, _, rfl, run_takeDeferred hK, ?_⟩⟩
 exact ⟨v, hr, h⟩
end Go.Proofs.YtlmpjdionndncaaGreatDoor
namespace Go.Proofs.YtlmpjdionndncaaGreatDoor
open Go.RowKit Go.Shelf
attribute [local go_sem] Oper.semAt_some
structure RdAt (w : World) (rb : Nat) (v : Value) (bs : List UInt8) (pos : Nat) : Prop where
 blk : Blk w rb 344 [v, .int .i64 pos, .bool true]
 own : Own w 5 1 v bs.length (bs.map byt)
theorem RdAt.fr {S : Nat → Prop} {w w' : World} {rb pos : Nat} {v : Value} {bs : List UInt8} (h : RdAt w rb v bs pos) (hf : Fr S w w') (h1 : ¬ S rb) (h2 : ∀ k, v.ownBlock = some k → ¬ S k) : RdAt w' rb v bs pos :=
 ⟨h.blk.fr hf h1, h.own.fr hf h2⟩
theorem RdAt.no {w w' : World} {rb pos : Nat} {v : Value} {bs : List UInt8} (h : RdAt w rb v bs pos) (hf : Fr No w w') : RdAt w' rb v bs pos := h.fr hf (No.no _) (fun _ _ => No.no _)
theorem RdAt.ne {w : World} {rb pos : Nat} {v : Value} {bs : List UInt8} (h : RdAt w rb v bs pos) : ∀ k, v.ownBlock = some k → k ≠ rb := h.blk.neOwn h.own (by decide)
def told (l : List UInt8) (k : Nat) : List (Nat × UInt8) := (List.range k).map fun i => (i, l[i]?.getD 0)
def toldAll (l : List UInt8) : List (Nat × UInt8) := told l l.length
theorem told_succ (l : List UInt8) (k : Nat) : told l (k + 1) = told l k ++ [(k, l[k]?.getD 0)] := by simp [told, List.range_succ]
theorem told_len (l : List UInt8) (k : Nat) : (told l k).length = k := by simp [told]
theorem told_prefix {l : List UInt8} {k : Nat} (hk : k ≤ l.length) : told l k <+: toldAll l := by
 unfold toldAll told
 obtain ⟨d, hd⟩ := Nat.exists_eq_add_of_le hk
 rw [hd, List.range_add, List.map_append]
 exact List.prefix_append _ _
set_option maxRecDepth 100000 in
set_option maxHeartbeats 2000000 in
theorem ahead1_in (n : Nat) (hn : 1 ≤ n) (l Bs n₀ rb pos : Nat) (v : Value) (bs : List UInt8) (hpos : pos ≤ bs.length) (hlen : bs.length ≤ 1000000) (J Jx : List (Nat × UInt8) → World → Prop)
   (hY : ∀ pre x W, J pre W → pre.length < (bs.drop pos).length → YieldAt Fence.wide (n - 1) Tryz.prog l #[.int .i64 (x.1 : Nat), byt x.2] W fun e W' =>
     (e = .returned (.bool true) ∧ J (pre ++ [x]) W' ∧ Below n₀ W W') ∨ (e = .returned (.bool false) ∧ Jx (pre ++ [x]) W'))
   (W : World) (hBs : Blk W Bs 269 [.pointer (some ⟨rb, 0, none⟩)]) (hR : RdAt W rb v bs pos) (hn0 : ∀ k, v.ownBlock = some k → k < n₀) (hN : ∀ N, J [] (W.drewN N)) :
   CallsIn Fence.wide n Tryz.prog 295 #[.func (.yield l) #[] #[], .pointer (some ⟨Bs, 0, none⟩)] W fun e W' => (∃ v, e = .returned v) ∧
     ((∃ ys, ys = toldAll (bs.drop pos) ∧ J ys W') ∨ (∃ pre, pre <+: toldAll (bs.drop pos) ∧ Jx pre W')) := by
 have b0 := hBs.cell (j := 0) rfl
 have r0 := hR.blk.cell (j := 0) rfl
 have r1 := hR.blk.cell (j := 1) rfl
 obtain ⟨a, c, rfl, hw⟩ := Win.of_own hR.own
 have hcap := hw.cap
 have hmax := hw.max
 unfold maxLen at hmax
 have hbl := hBs.lt
 have hrl := hR.blk.lt
 refine callsIn_of_wp Tryz.func295 rfl trivial ?_ rfl
 simp only [Tryz.ntmps295, List.size_toArray, List.length_cons, List.length_nil, Nat.reduceAdd, Nat.reduceSub, Array.replicate_succ, Array.replicate_zero, List.push_toArray, List.append_toArray, List.nil_append, List.cons_append]
 gi_wp2
 gi_quiet_th (fail)
 have hwd := hw.drop hpos
 rw [← List.map_drop] at hwd
 obtain ⟨a', ha'⟩ : ∃ a', a' = (if c = pos then a else Option.map (fun x => x.add pos) a) := ⟨_, rfl⟩
 obtain ⟨m, hm⟩ : ∃ m, m = bs.length - pos := ⟨_, rfl⟩
 have hwd : Win W a' m (c - pos) ((bs.drop pos).map byt) := by rw [ha', hm]; exact hwd
 have hlm : (bs.drop pos).length = m := by rw [List.length_drop, hm]
 have hbk : ∀ ad, a' = some ad → ad.block < n₀ := by
   intro ad hd
   rw [ha'] at hd
   split at hd
   · exact hn0 ad.block (by rw [hd]; rfl)
   · cases a with
     | none => cases hd
     | some ad0 => cases hd; rw [add_block]; exact hn0 ad0.block rfl
 rw [← ha', ← hm]
 obtain ⟨ds, hds⟩ : ∃ ds, ds = bs.drop pos := ⟨_, rfl⟩
 rw [← hds] at hwd hlm hY
 have HDS := Lib.hid hds
 have hml : m ≤ 1000000 := by omega
 have HL := Lib.hid hlm
 have HNN := Lib.hid (hN nq)
 clear hds ha' hm b0 r0 r1 hN hlm hcap hmax hbl hrl hw hpos hlen hBs hR hn0
 gi_wp2
 gi_loopw [15] (fun t wr => ∃ k : Nat, k ≤ m ∧ t = .int .i64 k ∧ J (told ds k) wr ∧ Below n₀ (W.drewN nq) wr) (fun t _ => m - (intOf t).toNat)
 case atStart => exact ⟨0, Nat.zero_le _, rfl, HNN.out, Below.refl _ _⟩
 case round =>
   obtain ⟨k, hk, rfl, hJs, hnx⟩ := hrel
   by_cases hlt : k < m
   · have hkd : k < ds.length := by rw [HL.out]; exact hlt
     obtain ⟨ad, u, rfl, hu, hcell⟩ := hwd.at hlt
     have hu' : u = byt (ds[k]?.getD 0) := by
       rw [List.getElem?_map, List.getElem?_eq_getElem hkd] at hu
       rw [List.getElem?_eq_getElem hkd]
       exact (Option.some.inj hu).symm
     subst hu'
     have hc1 : wr.cell? (ad.add k) = some (byt (ds[k]?.getD 0)) := by
       have h1 : (W.drewN nq).cell? (ad.add k) = some (byt (ds[k]?.getD 0)) := hcell
       exact (hnx.cell (p := ad.add k) (by rw [add_block]; exact hbk ad rfl)).trans h1
     obtain ⟨fn, tmps, assign, body, hy, hR⟩ := hY _ (k, ds[k]?.getD 0) wr hJs (by rw [told_len]; exact hkd)
     dsimp only at hy
     have HT : Hid (told ds (k + 1) = told ds k ++ [(k, ds[k]?.getD 0)]) := told_succ ds k
     generalize ds[k]?.getD 0 = x at *
     clear hcell hu
     gi_wp2
     refine hR.mono ?_
     rintro e W3 (⟨rfl, hJ3, hk3⟩ | ⟨rfl, hJx3⟩)
     · gi_wp2
       go_roundw
       case rel => exact ⟨k + 1, by omega, by simp, by rw [HT.out]; exact hJ3, hnx.trans hk3⟩
       case measure => (simp [intOf]; try omega)
     · gi_wp2
       refine bodyPost_ret (results_none rfl _ _ _) rfl ?_
       exact ⟨⟨_, rfl⟩, .inr ⟨_, by rw [← HDS.out, ← HT.out]; exact told_prefix (by omega), hJx3⟩⟩
   · obtain rfl : k = m := by omega
     gi_wp2
     go_end0
     exact ⟨⟨_, rfl⟩, .inl ⟨_, by unfold toldAll; rw [← HDS.out, HL.out], hJs⟩⟩
end Go.Proofs.YtlmpjdionndncaaGreatDoor
namespace Go.Proofs.YtlmpjdionndncaaGreatDoor
open Go.RowKit Go.Shelf
attribute [local go_sem] Oper.semAt_some
theorem ahead_in (n : Nat) (a : Option Addr) (w : World) :
   CallsIn Fence.wide n Tryz.prog 271 #[.pointer a] w fun e w' => e = .returned (.func (.func 295) #[] #[.pointer (some ⟨w.heap.size, 0, none⟩)]) ∧ w.alloc (.cells #[.pointer a] 269) = w' := by
 refine callsIn_of_wp Tryz.func271 rfl trivial ?_ rfl
 simp only [Tryz.ntmps271, List.size_toArray, List.length_cons, List.length_nil, Nat.reduceAdd, Nat.reduceSub, Array.replicate_succ, Array.replicate_zero, List.push_toArray, List.append_toArray, List.nil_append, List.cons_append]
 gi_wp2
 go_ret
 exact ⟨rfl, rfl⟩
theorem ahead_stops (n : Nat) (hn : 1 ≤ n) (Bs n₀ rb pos : Nat) (v : Value) (bs : List UInt8) (hpos : pos ≤ bs.length) (hlen : bs.length ≤ 1000000) (w : World)
   (hBs : Blk w Bs 269 [.pointer (some ⟨rb, 0, none⟩)]) (hR : RdAt w rb v bs pos) (hn0 : ∀ k, v.ownBlock = some k → k < n₀) :
   SeqStopsK Fence.wide n Tryz.prog 295 #[.pointer (some ⟨Bs, 0, none⟩)] (fun x : Nat × UInt8 => #[Value.int .i64 (x.1 : Nat), byt x.2]) (Below n₀) (fun ys => ys = toldAll (bs.drop pos)) (fun pre => pre <+: toldAll (bs.drop pos)) (bs.drop pos).length w := fun l J Jx W hW hJ _ hY h0 => by
 have hB' : Blk W Bs 269 [.pointer (some ⟨rb, 0, none⟩)] := (hW.block Bs hBs.lt).trans hBs
 have hR' : RdAt W rb v bs pos := hR.fr (S := fun k => w.heap.size ≤ k) ⟨hW.os, hW.tape, hW.output, hW.size, fun k hk hn => hW.block k hk⟩ (by have := hR.blk.lt; omega) (fun k hk => by have := hR.own.lt hk; omega)
 refine ahead1_in n hn l Bs n₀ rb pos v bs hpos hlen J Jx hY W hB' hR' hn0 (fun N => ?_)
 exact hJ [] W (W.drewN N) none h0 ⟨rfl, rfl, rfl, Nat.le_refl _, fun _ _ _ => rfl⟩ (fun k hk => by cases hk)
def wh (l : List UInt8) : Nat := l.foldl (fun n c => n * 256 + c.toNat) 0
def accS (m : Int) (c : UInt8) : Int := bits .or .u64 (IntKind.u64.wrap (m * 256)) (IntKind.u64.wrap (c.toNat : Int))
def accN (l : List (Nat × UInt8)) : Int := l.foldl (fun n x => accS n x.2) 0
theorem accN_snoc (l : List (Nat × UInt8)) (x : Nat × UInt8) : accN (l ++ [x]) = accS (accN l) x.2 := by simp [accN]
theorem wh_snoc (l : List UInt8) (c : UInt8) : wh (l ++ [c]) = wh l * 256 + c.toNat := by simp [wh]
theorem wh_lt (l : List UInt8) : wh l < 256 ^ l.length := by
 induction hn : l.length generalizing l with
 | zero =>
   have : l = [] := List.eq_nil_of_length_eq_zero hn
   subst this
   simp [wh]
 | succ n ih =>
   rcases List.eq_nil_or_concat l with rfl | ⟨l', c, rfl⟩
   · simp at hn
   · rw [List.concat_eq_append] at *
     simp at hn
     have h1 := ih l' hn
     have h2 : c.toNat < 256 := c.toNat_lt
     rw [wh_snoc, Nat.pow_succ]
     omega
theorem wrap_u64 (a : Nat) (h : a < 2 ^ 64) : IntKind.u64.wrap (a : Int) = a := by
 simp [IntKind.wrap, IntKind.signed, IntKind.bits]
 omega
theorem accS_nat (m : Nat) (c : UInt8) (hm : m < 2 ^ 56) : accS m c = ((m * 256 + c.toNat : Nat) : Int) := by
 have hc : c.toNat < 256 := c.toNat_lt
 unfold accS
 rw [show (m : Int) * 256 = ((m * 256 : Nat) : Int) by simp, wrap_u64 _ (by omega), wrap_u64 _ (by omega), bits_or_u64_nat _ _ (by omega) (by omega)]
 congr 1
 have := Nat.shiftLeft_add_eq_or_of_lt (i := 8) (b := c.toNat) hc m
 rw [Nat.shiftLeft_eq, show (2 : Nat) ^ 8 = 256 from rfl] at this
 omega
theorem accN_eq (l : List (Nat × UInt8)) : l.length ≤ 8 → accN l = (wh (l.map (·.2)) : Nat) := by
 induction hn : l.length generalizing l with
 | zero =>
   intro _
   have : l = [] := List.eq_nil_of_length_eq_zero hn
   subst this
   rfl
 | succ n ih =>
   intro h8
   rcases List.eq_nil_or_concat l with rfl | ⟨l', c, rfl⟩
   · simp at hn
   · rw [List.concat_eq_append] at *
     simp at hn
     have h1 := ih l' hn (by omega)
     have h2 := wh_lt (l'.map (·.2))
     rw [List.length_map, hn] at h2
     have h3 : 256 ^ n ≤ 256 ^ 7 := Nat.pow_le_pow_right (by decide) (by omega)
     rw [accN_snoc, h1, accS_nat _ _ (by omega), List.map_append]
     show _ = ((wh (l'.map (·.2) ++ [c.2]) : Nat) : Int)
     rw [wh_snoc]
theorem told_snd (l : List UInt8) (k : Nat) (hk : k ≤ l.length) : (told l k).map (·.2) = l.take k := by
 apply List.ext_getElem
 · simp [told]; omega
 · intro i h1 h2
   simp [told] at h1 ⊢
   have : i < l.length := by omega
   simp [this]
theorem told_mem (l : List UInt8) {k i : Nat} (hi : i < k) : (i, l[i]?.getD 0) ∈ told l k := List.mem_map.2 ⟨i, by simpa using hi, rfl⟩
theorem two_boxes {w W : World} {N1 N2 D : Nat} {T1 T2 : TypeId} {x1 x2 y1 y2 : Value} (h1 : Blk W N1 T1 [x1]) (h2 : Blk W N2 T2 [x2]) (hne : N1 ≠ N2) (hK : W.heap[D]? = some (.deferred (some []))) (hf : Fr (fun k => k = N1 ∨ k = N2) w W) (hD : w.heap.size ≤ D) (o : Obj) :
   (((W.setCell ⟨N1, 0, none⟩ y1).setCell ⟨N2, 0, none⟩ y2).drew).heap[D]? = some (.deferred (some [])) ∧ Blk ((((W.setCell ⟨N1, 0, none⟩ y1).setCell ⟨N2, 0, none⟩ y2).drew).putObj D o) N1 T1 [y1] ∧ Blk ((((W.setCell ⟨N1, 0, none⟩ y1).setCell ⟨N2, 0, none⟩ y2).drew).putObj D o) N2 T2 [y2] ∧ Fr (fun k => k = N1 ∨ k = N2) w ((((W.setCell ⟨N1, 0, none⟩ y1).setCell ⟨N2, 0, none⟩ y2).drew).putObj D o) := by
 have n1 := h1.neDef hK
 have n2 := h2.neDef hK
 have b1 : Blk (((W.setCell ⟨N1, 0, none⟩ y1).setCell ⟨N2, 0, none⟩ y2).drew) N1 T1 [y1] := ((h1.set 0 y1).other (by show N1 ≠ N2; exact hne) y2).drew
 have b2 : Blk (((W.setCell ⟨N1, 0, none⟩ y1).setCell ⟨N2, 0, none⟩ y2).drew) N2 T2 [y2] := ((h2.other (by show N2 ≠ N1; exact fun e => hne e.symm) y1).set 0 y2).drew
 have hk : (((W.setCell ⟨N1, 0, none⟩ y1).setCell ⟨N2, 0, none⟩ y2).drew).heap[D]? = some (.deferred (some [])) := by
   refine Eq.trans (Below.heap_setCell _ ⟨N2, 0, none⟩ y2 D (fun e => n2 e.symm)) ?_
   exact Eq.trans (Below.heap_setCell _ ⟨N1, 0, none⟩ y1 D (fun e => n1 e.symm)) hK
 refine ⟨hk, b1.putObj n1 o, b2.putObj n2 o, ?_⟩
 exact (((hf.setCell (p := ⟨N1, 0, none⟩) (.inl (.inl rfl)) y1).setCell (p := ⟨N2, 0, none⟩) (.inl (.inr rfl)) y2).drew).putObj (.inr hD) o
set_option maxRecDepth 100000 in
set_option maxHeartbeats 4000000 in
theorem number_any (rb pos size : Nat) (v : Value) (bs : List UInt8) (hpos : pos ≤ bs.length) (hlen : bs.length ≤ 1000000) (hs1 : 1 ≤ size) (hs8 : size ≤ 8) (w : World) (h : RdAt w rb v bs pos) :
   Calls Tryz.prog 220 #[.pointer (some ⟨rb, 0, none⟩), .int .i64 size] w fun e w' =>
     (∃ x : Int, e = .returned (.tuple #[.int .u64 x, .bool (decide (pos + size ≤ bs.length))]) ∧ (pos + size ≤ bs.length → x = wh ((bs.drop pos).take size))) ∧ Fr No w w' := by
 refine calls_of_marks Tryz.func220 rfl ?_
 simp only [Tryz.ntmps220, List.size_toArray, List.length_cons, List.length_nil, Nat.reduceAdd, Nat.reduceSub, Array.replicate_succ, Array.replicate_zero, List.push_toArray, List.append_toArray, List.nil_append, List.cons_append]
 go_wp2
 go_step3
 go_wp2
 go_step3
 go_wp2_with (go_at_call 271; refine (callsIn_wide.1 (ahead_in 5 _ _)).mono ?_; rintro e w1 ⟨rfl, rfl⟩)
 have hS : Blk ((((w.alloc (.cells #[.int .i64 size] 3)).alloc (.cells #[.int .u64 0] 113)).alloc (.cells #[.bool false] 4)).alloc (.cells #[.pointer (some ⟨rb, 0, none⟩)] 269)) w.heap.size 3 [.int .i64 size] := (((Blk.new w _ _).alloc _).alloc _).alloc _
 have hN : Blk ((((w.alloc (.cells #[.int .i64 size] 3)).alloc (.cells #[.int .u64 0] 113)).alloc (.cells #[.bool false] 4)).alloc (.cells #[.pointer (some ⟨rb, 0, none⟩)] 269)) (w.heap.size + 1) 113 [.int .u64 0] := by
   have := Blk.new (w.alloc (.cells #[.int .i64 size] 3)) 113 [.int .u64 0]
   rw [World.size_alloc] at this
   exact (this.alloc _).alloc _
 have hI : Blk ((((w.alloc (.cells #[.int .i64 size] 3)).alloc (.cells #[.int .u64 0] 113)).alloc (.cells #[.bool false] 4)).alloc (.cells #[.pointer (some ⟨rb, 0, none⟩)] 269)) (w.heap.size + 1 + 1) 4 [.bool false] := by
   have := Blk.new ((w.alloc (.cells #[.int .i64 size] 3)).alloc (.cells #[.int .u64 0] 113)) 4 [.bool false]
   rw [World.size_alloc, World.size_alloc] at this
   exact this.alloc _
 have hX : Blk ((((w.alloc (.cells #[.int .i64 size] 3)).alloc (.cells #[.int .u64 0] 113)).alloc (.cells #[.bool false] 4)).alloc (.cells #[.pointer (some ⟨rb, 0, none⟩)] 269)) (w.heap.size + 1 + 1 + 1) 269 [.pointer (some ⟨rb, 0, none⟩)] := by
   have := Blk.new (((w.alloc (.cells #[.int .i64 size] 3)).alloc (.cells #[.int .u64 0] 113)).alloc (.cells #[.bool false] 4)) 269 [.pointer (some ⟨rb, 0, none⟩)]
   rwa [World.size_alloc, World.size_alloc, World.size_alloc] at this
 have hfr1 : Fr No w ((((w.alloc (.cells #[.int .i64 size] 3)).alloc (.cells #[.int .u64 0] 113)).alloc (.cells #[.bool false] 4)).alloc (.cells #[.pointer (some ⟨rb, 0, none⟩)] 269)) := ((((Fr.refl No w).alloc _).alloc _).alloc _).alloc _
 generalize (((w.alloc (.cells #[.int .i64 size] 3)).alloc (.cells #[.int .u64 0] 113)).alloc (.cells #[.bool false] 4)).alloc (.cells #[.pointer (some ⟨rb, 0, none⟩)] 269) = w1 at *
 have h1 := h.no hfr1
 have hz := hX.lt
 have hrl := h.blk.lt
 have hvl : ∀ k, v.ownBlock = some k → k < w.heap.size := fun k hk => h.own.lt hk
 refine wp_range (gf := 295) (lb := #[.pointer (some ⟨w.heap.size + 1 + 1 + 1, 0, none⟩)]) rfl (enters_of Tryz.func295 (by kernel_rfl) rfl)
   (ahead_stops 4 (by omega) (w.heap.size + 1 + 1 + 1) w.heap.size rb pos v bs hpos hlen w1 hX h1 hvl) belowK_t (belowK_b (by omega)) (Below.refl _ _) (fun _ => rfl)
   (fun pre W => Blk W (w.heap.size + 1) 113 [.int .u64 (accN pre)] ∧ (∀ x ∈ pre, x.1 + 1 ≠ size) ∧ Fr (fun k => k = w.heap.size + 1) w1 W)
   (fun c pre W => c = .exit 0 ∧ ∃ pre' x, pre = pre' ++ [x] ∧ x.1 + 1 = size ∧ (∀ x ∈ pre', x.1 + 1 ≠ size) ∧ Blk W (w.heap.size + 1) 113 [.int .u64 (accN pre)] ∧ Blk W (w.heap.size + 1 + 1) 4 [.bool true] ∧ Fr (fun k => k = w.heap.size + 1 ∨ k = w.heap.size + 1 + 1) w1 W)
   ?hI ?hIx ⟨hN, by simp, Fr.refl _ _⟩ (fun x : Nat × UInt8 => { tmps := #[.pointer (some ⟨rb, 0, none⟩), .int .i64 size, undef, .pointer (some ⟨w.heap.size, 0, none⟩), .pointer (some ⟨w.heap.size + 1, 0, none⟩), .pointer (some ⟨w.heap.size + 1 + 1, 0, none⟩), .int .i64 (x.1 : Nat), byt x.2, .pointer (some ⟨rb, 0, none⟩), .func (.func 295) #[] #[.pointer (some ⟨w.heap.size + 1 + 1 + 1, 0, none⟩)], .int .i64 (x.1 : Nat), byt x.2, undef, undef, undef, undef, undef, undef, undef, undef, undef, undef, undef], defers := [] }) ?assign ?body ?done ?stop
 case hI =>
   rintro s A B row ⟨h1, h2, h3⟩ hg hr
   exact ⟨h1.fr ((Fr.refl (fun k => w1.heap.size ≤ k) A).grown hg (fun k hk => .inl (hr k hk).1)) (by omega), h2, h3.grown hg (fun k hk => .inr (hr k hk).1)⟩
 case hIx =>
   rintro cc s A B row ⟨h0, pre', x, h1, h2, h3, h4, h5, h6⟩ hg hr
   exact ⟨h0, pre', x, h1, h2, h3, h4.fr ((Fr.refl (fun k => w1.heap.size ≤ k) A).grown hg (fun k hk => .inl (hr k hk).1)) (by omega), h5.fr ((Fr.refl (fun k => w1.heap.size ≤ k) A).grown hg (fun k hk => .inl (hr k hk).1)) (by omega), h6.grown hg (fun k hk => .inr (hr k hk).1)⟩
 case assign =>
   intro ll x W K hK
   gi_wp2
   exact hK
 case body =>
   rintro ll pre x W ⟨hW1, hW2, hW3⟩ _
   have hb0 := hW1.cell (j := 0) rfl
   have hbf := hW1.free
   have hbl := hW1.lt
   have hSW := hS.fr hW3 (by omega)
   have hIW := hI.fr hW3 (by omega)
   have s0 := hSW.cell (j := 0) rfl
   have i0 := hIW.cell (j := 0) rfl
   have if' := hIW.free
   have il := hIW.lt
   have hw1 : IntKind.i64.wrap ((size : Int) - 1) = (size : Int) - 1 := by rw [IntKind.wrap_i64]; omega
   obtain ⟨i, c⟩ := x
   obtain ⟨m, hm⟩ : ∃ m, m = accN pre := ⟨_, rfl⟩
   rw [← hm] at hb0
   have HM := Lib.hid hm
   clear hm
   by_cases hi : i + 1 = size
   · have ht : ((i : Int) == (size : Int) - 1) = true := by simp; omega
     unfold byt
     gi_wp2
     refine ⟨((KeepsOthers.setCell _ _ _).trans (KeepsOthers.setCell _ _ _)), rfl, pre, (i, c), rfl, hi, hW2, ?_, ?_, ?_⟩
     · rw [accN_snoc, ← HM.out]
       exact (hW1.set 0 _).other (by show w.heap.size + 1 ≠ w.heap.size + 1 + 1; omega) _
     · exact (hIW.other (by show w.heap.size + 1 + 1 ≠ w.heap.size + 1; omega) _).set 0 _
     · exact ((hW3.mono (fun k hk => .inl hk)).setCell (p := ⟨w.heap.size + 1, 0, none⟩) (.inl (.inl rfl)) _).setCell (p := ⟨w.heap.size + 1 + 1, 0, none⟩) (.inl (.inr rfl)) _
   · have ht : ((i : Int) == (size : Int) - 1) = false := by simp; omega
     unfold byt
     gi_wp2
     refine ⟨KeepsOthers.setCell _ _ _, (Below.refl _ _).setCell (p := ⟨w.heap.size + 1, 0, none⟩) (by show w.heap.size ≤ w.heap.size + 1; omega) _, ?_, ?_, hW3.setCell (p := ⟨w.heap.size + 1, 0, none⟩) (.inl rfl) _⟩
     · rw [accN_snoc, ← HM.out]
       exact hW1.set 0 _
     · intro x hx
       rcases List.mem_append.1 hx with hx | hx
       · exact hW2 x hx
       · simp at hx; subst hx; exact hi
 case done =>
   rintro D ys W hD rfl ⟨hW1, hW2, hW3⟩ hK
   have hno : ¬ pos + size ≤ bs.length := by
     intro hle
     have h1 : size - 1 < (bs.drop pos).length := by rw [List.length_drop]; omega
     exact hW2 _ (told_mem (bs.drop pos) h1) (by show size - 1 + 1 = size; omega)
   have hb0 := hW1.cell (j := 0) rfl
   have hbf := hW1.free
   have hbl := hW1.lt
   have hIW := hI.fr hW3 (by omega)
   have i0 := hIW.cell (j := 0) rfl
   have if' := hIW.free
   have il := hIW.lt
   go_wp2
   go_region
   all_goals go_wp2
   all_goals
     rw [Exit.noGoto_ret]
     obtain ⟨hk2, q1, q2, q3⟩ := two_boxes hW1 hIW (by omega) hK (hW3.mono (fun k hk => .inl hk)) hD (.deferred none) (y1 := .int .u64 (accN (toldAll (List.drop pos bs)))) (y2 := .bool false)
     have z1 := q1.cell (j := 0) rfl
     have z2 := q2.cell (j := 0) rfl
     have l1 := q1.lt
     have l2 := q2.lt
     refine end_marks (v := .tuple #[.int .u64 (accN (toldAll (List.drop pos bs))), .bool false]) hk2 (by simp [results, Tryz.results220, go_sem, z1, z2]) ⟨⟨_, by rw [decide_eq_false hno], fun hc => absurd hc hno⟩, ?_⟩
     exact hfr1.trans q3 (fun k hk => .inr (by omega))
 case stop =>
   rintro D cc pre W hD hSp ⟨rfl, pre', x, rfl, hx, hpre, hW1, hIW, hW3⟩ hK
   have hpl := hSp.length_le
   obtain ⟨k, hk⟩ : ∃ k, pre' ++ [x] = told (bs.drop pos) k ∧ k ≤ (bs.drop pos).length := by
     refine ⟨(pre' ++ [x]).length, ?_, ?_⟩
     · have h2 := told_prefix (l := bs.drop pos) (k := (pre' ++ [x]).length) (by unfold toldAll at hpl; rwa [told_len] at hpl)
       exact (List.prefix_of_prefix_length_le hSp h2 (by rw [told_len]; exact Nat.le_refl _)).eq_of_length (by rw [told_len])
     · unfold toldAll at hpl; rwa [told_len] at hpl
   obtain ⟨hk, hkl⟩ := hk
   have hk1 : k = pre'.length + 1 := by
     have := congrArg List.length hk
     rw [told_len] at this
     simpa using this.symm
   have hxl : x = (pre'.length, (bs.drop pos)[pre'.length]?.getD 0) := by
     rw [hk1, told_succ] at hk
     have := List.append_inj_right hk (by rw [told_len])
     simpa using this
   have hsz : k = size := by rw [hxl] at hx; omega
   have hyes : pos + size ≤ bs.length := by rw [List.length_drop] at hkl; omega
   have hval : accN (pre' ++ [x]) = (wh ((bs.drop pos).take size) : Nat) := by
     rw [hk, accN_eq _ (by rw [told_len]; omega), told_snd _ _ hkl, hsz]
   have hb0 := hW1.cell (j := 0) rfl
   have hbf := hW1.free
   have hbl := hW1.lt
   have i0 := hIW.cell (j := 0) rfl
   have if' := hIW.free
   have il := hIW.lt
   have HV := Lib.hid hval
   clear hval hxl hk hSp
   generalize accN (pre' ++ [x]) = m at *
   go_wp2
   go_region
   all_goals go_wp2
   all_goals
     rw [Exit.noGoto_ret]
     obtain ⟨hk2, q1, q2, q3⟩ := two_boxes hW1 hIW (by omega) hK hW3 hD (.deferred none) (y1 := .int .u64 m) (y2 := .bool true)
     have z1 := q1.cell (j := 0) rfl
     have z2 := q2.cell (j := 0) rfl
     refine end_marks (v := .tuple #[.int .u64 m, .bool true]) hk2 (by simp [results, Tryz.results220, go_sem, z1, z2]) ⟨⟨_, by rw [decide_eq_true hyes], fun _ => HV.out⟩, ?_⟩
     exact hfr1.trans q3 (fun k hk => .inr (by omega))
end Go.Proofs.YtlmpjdionndncaaGreatDoor
namespace Go.Proofs.YtlmpjdionndncaaGreatDoor
open Go.RowKit Go.Shelf
attribute [local go_sem] Oper.semAt_some
theorem rnone_no (rb pos : Nat) (v : Value) (bs : List UInt8) (w : World) (h : RdAt w rb v bs pos) :
   Calls Tryz.prog 217 #[.pointer (some ⟨rb, 0, none⟩)] w fun e w' => e = .returned (.bool false) ∧ w = w' := by
 have r2 := h.blk.cell (j := 2) rfl
 go_enter Tryz.func217, Tryz.ntmps217
 go_wp2
 go_ret
 exact ⟨rfl, rfl⟩
theorem rleft_any (rb pos : Nat) (v : Value) (bs : List UInt8) (hpos : pos ≤ bs.length) (hl : bs.length ≤ 1000000) (w : World) (h : RdAt w rb v bs pos) :
   Calls Tryz.prog 218 #[.pointer (some ⟨rb, 0, none⟩)] w fun e w' => e = .returned (.int .i64 ((bs.length - pos : Nat) : Int)) ∧ Fr No w w' := by
 have r0 := h.blk.cell (j := 0) rfl
 have r1 := h.blk.cell (j := 1) rfl
 obtain ⟨a, c, rfl⟩ := own_slice h.own
 have hw : IntKind.i64.wrap ((bs.length : Int) - (pos : Int)) = ((bs.length - pos : Nat) : Int) := by rw [IntKind.wrap_i64]; omega
 have hrl := h.blk.lt
 go_enter Tryz.func218, Tryz.ntmps218
 go_wp2_with (go_at_call 217; refine (rnone_no rb pos _ bs _ h).mono ?_; rintro e w1 ⟨rfl, rfl⟩)
 go_quiet (fail)
 go_wp2
 go_ret
 exact ⟨rfl, (Fr.refl No w).drewN _⟩
theorem RdAt.moved {w : World} {rb pos : Nat} {v : Value} {bs : List UInt8} (h : RdAt w rb v bs pos) (q : Nat) : RdAt (w.setCell ⟨rb, 1, none⟩ (.int .i64 q)) rb v bs q :=
 ⟨h.blk.set 1 _, h.own.other (fun e => h.ne _ e rfl) _⟩
set_option maxHeartbeats 1000000 in
theorem rnum_yes (rb pos size : Nat) (v : Value) (bs : List UInt8) (hpos : pos + size ≤ bs.length) (hl : bs.length ≤ 1000000) (hs : size = 1 ∨ size = 2 ∨ size = 4 ∨ size = 8) (w : World) (h : RdAt w rb v bs pos) :
   Calls Tryz.prog 147 #[.pointer (some ⟨rb, 0, none⟩), .int .i64 size] w fun e w' => e = .returned (.tuple #[.int .u64 (wh ((bs.drop pos).take size) : Nat), .int .i64 0]) ∧ RdAt w' rb v bs (pos + size) ∧ Fr (fun k => k = rb) w w' := by
 have hd : decide (pos + size ≤ bs.length) = true := decide_eq_true hpos
 have hw : IntKind.i64.wrap ((pos : Int) + (size : Int)) = ((pos + size : Nat) : Int) := by rw [IntKind.wrap_i64]; omega
 have HP := Lib.hid hpos
 clear hpos
 go_enter Tryz.func147, Tryz.ntmps147
 go_wp2_with (first | (go_at_call 217; refine (rnone_no rb pos _ bs _ h).mono ?_; rintro e w1 ⟨rfl, rfl⟩) | (go_at_call 219; refine (sized_yes _ hs _).mono ?_; rintro e w1 ⟨rfl, rfl⟩) | (go_at_call 220; refine (number_any rb pos size v bs (by have := HP.out; omega) hl (by omega) (by omega) _ h).mono ?_; rintro e w1 ⟨⟨x, rfl, hx⟩, hf1⟩; rw [hd]; have h1 := h.no hf1; have r1 := h1.blk.cell (j := 1) rfl; have rl := h1.blk.lt; have rf := h1.blk.free))
 go_ret2
 exact ⟨by rw [hx HP.out]; rfl, h1.moved (pos + size), (hf1.no_any (S := fun k => k = rb)).setCell (p := ⟨rb, 1, none⟩) (.inl rfl) _⟩
set_option maxHeartbeats 1000000 in
theorem rnum_no (rb pos size : Nat) (v : Value) (bs : List UInt8) (hpos : pos ≤ bs.length) (hno : ¬ pos + size ≤ bs.length) (hl : bs.length ≤ 1000000) (hs : size = 1 ∨ size = 2 ∨ size = 4 ∨ size = 8) (w : World) (h : RdAt w rb v bs pos) :
   Calls Tryz.prog 147 #[.pointer (some ⟨rb, 0, none⟩), .int .i64 size] w fun e w' => e = .returned (.tuple #[.int .u64 0, .int .i64 10]) ∧ Fr No w w' := by
 have hd : decide (pos + size ≤ bs.length) = false := decide_eq_false hno
 have HN := Lib.hid hno
 clear hno
 go_enter Tryz.func147, Tryz.ntmps147
 go_wp2_with (first | (go_at_call 217; refine (rnone_no rb pos _ bs _ h).mono ?_; rintro e w1 ⟨rfl, rfl⟩) | (go_at_call 219; refine (sized_yes _ hs _).mono ?_; rintro e w1 ⟨rfl, rfl⟩) | (go_at_call 220; refine (number_any rb pos size v bs hpos hl (by omega) (by omega) _ h).mono ?_; rintro e w1 ⟨⟨x, rfl, hx⟩, hf1⟩; rw [hd]))
 go_ret2
 exact ⟨rfl, hf1⟩
set_option maxHeartbeats 1000000 in
theorem rraw_yes (rb pos n : Nat) (v : Value) (bs : List UInt8) (hpos : pos + n ≤ bs.length) (hl : bs.length ≤ 1000000) (w : World) (h : RdAt w rb v bs pos) :
   Calls Tryz.prog 146 #[.pointer (some ⟨rb, 0, none⟩), .int .i64 n] w fun e w' => ∃ v', e = .returned (.tuple #[v', .int .i64 0]) ∧ Own w' 5 1 v' n (((bs.drop pos).take n).map byt) ∧ (∀ k, v'.ownBlock = some k → w.heap.size ≤ k) ∧ RdAt w' rb v bs (pos + n) ∧ Fr (fun k => k = rb) w w' := by
 have hw : IntKind.i64.wrap ((pos : Int) + (n : Int)) = ((pos + n : Nat) : Int) := by rw [IntKind.wrap_i64]; omega
 have hgt : decide (bs.length - pos < n) = false := by simp; omega
 obtain ⟨a, c, rfl, hwin⟩ := Win.of_own h.own
 have hcap := hwin.cap
 have hmax := hwin.max
 unfold maxLen at hmax
 have hp0 : pos ≤ bs.length := by omega
 have hwd := (hwin.drop hp0).take (k := n) (by omega)
 rw [← List.map_drop, ← List.map_take] at hwd
 obtain ⟨a', ha'⟩ : ∃ a', a' = (if c = pos then a else Option.map (fun x => x.add pos) a) := ⟨_, rfl⟩
 have HA := Lib.hid ha'
 have hwd : Win w a' n (c - pos) (((bs.drop pos).take n).map byt) := by rw [ha']; exact hwd
 have HW := Lib.hid hwd
 have hle1 : (pos : Int) ≤ ((pos + n : Nat) : Int) := by omega
 have hle2 : ((pos + n : Nat) : Int) ≤ (c : Int) := by omega
 have hsub : pos + n - pos = n := by omega
 have r0 := h.blk.cell (j := 0) rfl
 have r1 := h.blk.cell (j := 1) rfl
 have rl := h.blk.lt
 have rf := h.blk.free
 have HH := Lib.hid h
 have hnl : n ≤ 1000000 := by omega
 clear hwd ha' hwin hpos h
 go_enter Tryz.func146, Tryz.ntmps146
 go_wp2_with (first | (go_at_call 217; refine (rnone_no rb pos _ bs _ HH.out).mono ?_; rintro e w1 ⟨rfl, rfl⟩) | (go_at_call 218; refine (rleft_any rb pos _ bs hp0 hl _ HH.out).mono ?_; rintro e w1 ⟨rfl, hf1⟩; have h1 := HH.out.no hf1; have s0 := h1.blk.cell (j := 0) rfl; have s1 := h1.blk.cell (j := 1) rfl; have sl := h1.blk.lt; have sf := h1.blk.free))
 go_quiet (fail)
 rw [← HA.out]
 rename Nat => nq
 obtain ⟨w2, hw2⟩ : ∃ w2, w2 = w1.drewN nq := ⟨_, rfl⟩
 rw [← hw2]
 have hf2 : Fr No w w2 := by rw [hw2]; exact hf1.drewN _
 clear hw2 h1 s0 s1 sl sf
 have h2 := HH.out.no hf2
 have s0 := h2.blk.cell (j := 0) rfl
 have s1 := h2.blk.cell (j := 1) rfl
 have sl := h2.blk.lt
 have sf := h2.blk.free
 have hf3 : Fr (fun k => k = rb) w (w2.setCell ⟨rb, 1, none⟩ (.int .i64 ((pos + n : Nat) : Int))) := (hf2.no_any (S := fun k => k = rb)).setCell (p := ⟨rb, 1, none⟩) (.inl rfl) _
 have hb' : ∀ ad, a' = some ad → ad.block ≠ rb := by
   intro ad hd
   rw [HA.out] at hd
   split at hd
   · exact HH.out.ne ad.block (by rw [hd]; rfl)
   · cases a with
     | none => cases hd
     | some ad0 => cases hd; rw [add_block]; exact HH.out.ne ad0.block rfl
 go_wp2_with (go_at_call 168; refine (cloneB_any a' n (c - pos) ((bs.drop pos).take n) _ ?_ hnl).mono ?_; exact HW.out.fr hf3 hb'; rintro e w3 ⟨v3, rfl, hc3⟩)
 go_ret2
 exact ⟨v3, rfl, hc3.own, fun k hk => Nat.le_trans hf3.size (hc3.new k hk), (h2.moved (pos + n)).no hc3.fr, hf3.thn hc3.fr⟩
set_option maxHeartbeats 1000000 in
theorem rraw_no (rb pos n : Nat) (v : Value) (bs : List UInt8) (hpos : pos ≤ bs.length) (hno : ¬ pos + n ≤ bs.length) (hl : bs.length ≤ 1000000) (w : World) (h : RdAt w rb v bs pos) :
   Calls Tryz.prog 146 #[.pointer (some ⟨rb, 0, none⟩), .int .i64 n] w fun e w' => e = .returned (.tuple #[.slice none 0 0, .int .i64 10]) ∧ Fr No w w' := by
 have hgt : decide (bs.length - pos < n) = true := by simp; omega
 have HH := Lib.hid h
 clear h
 go_enter Tryz.func146, Tryz.ntmps146
 go_wp2_with (first | (go_at_call 217; refine (rnone_no rb pos _ bs _ HH.out).mono ?_; rintro e w1 ⟨rfl, rfl⟩) | (go_at_call 218; refine (rleft_any rb pos _ bs hpos hl _ HH.out).mono ?_; rintro e w1 ⟨rfl, hf1⟩))
 go_ret2
 exact ⟨rfl, hf1⟩
set_option maxHeartbeats 1000000 in
theorem read_any (a : Option Addr) (n c : Nat) (bs : List UInt8) (w : World) (h : Win w a n c (bs.map byt)) (hb : n ≤ 1000000) :
   Calls Tryz.prog 145 #[.slice a n c] w fun e w' => ∃ rb v, e = .returned (.pointer (some ⟨rb, 0, none⟩)) ∧ RdAt w' rb v bs 0 ∧ w.heap.size ≤ rb ∧ (∀ k, v.ownBlock = some k → w.heap.size ≤ k) ∧ Fr No w w' := by
 have hl : bs.length = n := by have := h.len; simpa using this
 have HL := Lib.hid hl
 clear hl
 go_enter Tryz.func145, Tryz.ntmps145
 go_wp2_with (go_at_call 168; refine (cloneB_any a n c bs _ ?_ hb).mono ?_; exact h; rintro e w1 ⟨v1, rfl, hc⟩; obtain ⟨a1, c1, rfl⟩ := own_slice hc.own)
 go_ret
 have hf := hc.fr.thn ((Fr.refl No w1).alloc (.cells #[.slice a1 n c1, .int .i64 0, .bool true] 344))
 refine ⟨w1.heap.size, _, rfl, ⟨Blk.new w1 _ _, ?_⟩, hc.fr.size, hc.new, hf⟩
 rw [HL.out]
 exact hc.own.alloc _
end Go.Proofs.YtlmpjdionndncaaGreatDoor
