/-
  What the keys of a pool come to.
-/
import Derived.Test.YthjejgepdbonpaaWt
import Derived.Stop.RegionWithIn
namespace Go.Proofs.Ythjejgepdbonpaa
open Go.RowKit Go.Shelf
attribute [local go_sem] Oper.semAt_some

theorem Try.infoKey : (Try.prog.info? 31).map (fun i => (i.zero, i.size, i.bytes)) = some (some (.agg #[.int .i64 0, .int .i64 0]), 2, 16) := by kernel_rfl
def keyCells (l : List (Int × Int)) : List Value := l.flatMap fun k => [.int .i64 k.1, .int .i64 k.2]
theorem keyCells_snoc (l : List (Int × Int)) (k : Int × Int) : keyCells (l ++ [k]) = keyCells l ++ [.int .i64 k.1, .int .i64 k.2] := by simp [keyCells]

/-- The keys of these places. -/
def keysOf (fs : List Frm) (pre : List Nat) : List (Int × Int) := pre.map fun i => match fs[i]? with | some x => (x.t.f, x.t.n) | none => (0, 0)
def keysAt (fs : List Frm) (pre : List (Fin fs.length)) : List (Int × Int) := pre.map fun i => ((fs[i.val]).t.f, (fs[i.val]).t.n)
theorem keysAt_eq (fs : List Frm) (pre : List (Fin fs.length)) : keysAt fs pre = keysOf fs (pre.map (·.val)) := by simp [keysAt, keysOf]

/-- What the loop keeps: the keys in memory of their own, the variable that holds them. -/
structure KeysI (s : St) (w : World) (ob : Nat) (pre : List (Fin s.fs.length)) (W : World) : Prop where
  fr : Fr (fun k => k = ob) w W
  own : ∃ v, Blk W ob 22 [v] ∧ Own W 31 2 v pre.length (keyCells (keysAt s.fs pre)) ∧ (∀ k, v.ownBlock = some k → w.heap.size ≤ k) ∧ ∃ a c, v = .slice a pre.length c

theorem KeysI.from {s : St} {w : World} {ob : Nat} (ho : ob < w.heap.size) : OwnFrom w.heap.size (KeysI s w ob) := by
  rintro pre A B row ⟨h1, v, h2, h3, h4, h5⟩ hg hr
  have hgr : Fr (fun k => row = some k) A B := (Fr.refl _ A).grown hg (fun k hk => .inl hk)
  refine ⟨h1.grown hg (fun k hk => .inr (hr k hk).1), v, h2.fr hgr ?_, h3.fr hgr ?_, h4, h5⟩
  · intro e
    have := (hr _ e).1
    omega
  · intro k hk e
    obtain ⟨o, hA, hc⟩ := (hr _ e).2
    obtain ⟨l, hl⟩ := h3.someBlk hk
    have e2 := hl.symm.trans hA
    cases e2
    simp [Obj.isCells] at hc


/-- An append met in a region that draws its order, inside a fence (the kit's laws hold for a plain walk). -/
theorem step_appIn {P : Program} (F : Fence) (n0 : Nat) (w : World) {ops : Array Oper} {o : Oper} {a : Act} {K : Act → World → Prop} {Q : Exit → Act → World → Prop} {E : Prop} (hgd : o.guard = none) (s x : Operand) (t : TypeId)
    (ho : o.op = .call { callee := .builtin .append, args := #[s, x], argTypes := #[t, t] })
    (e : TypeId) (i : TypeInfo) (z : Value) (size bytes : Nat) (ht : P.underlying t = some (.slice e)) (hi : P.info? e = some i) (hz : i.zero = some z)
    (hsize : i.size = size) (hby : i.bytes = bytes) (hzs : z.cells.size = size)
    (v : Value) (n : Nat) (xs : List Value) (hs : a.eval s = v) (hown : Own w e size v n xs)
    (ad : Addr) (m c : Nat) (news : List Value) (hx : a.eval x = .slice (some ad) m c) (hl : news.length = m * size) (hnews : ∀ j u, news[j]? = some u → w.cell? (ad.add j) = some u) (h1 : ∀ u ∈ news, u.oneCell' = true)
    (hm : n + m ≤ maxLen) (hbytes : (n + m) * bytes ≤ 140737488355328)
    (h : ∀ v' w', Appended w e size v n m (xs ++ news) v' w' → K (a.put o.dst v') w') :
    if Region.wanted o (yielded ops a.tmps) = true then Oper.wpIn F n0 P o a w K Q else E := by
  have hw : Region.wanted o (yielded ops a.tmps) = true := by simp [Region.wanted, hgd]
  rw [if_pos hw]
  obtain ⟨v', w', hr, h2⟩ := run_app (P := P) w t o.type e i z size bytes ht hi hz hsize hby hzs v n xs hown ad m c news hl hnews h1 hm hbytes
  unfold Oper.wpIn
  refine ⟨?_, ?_⟩
  · intro f hf
    simp [Oper.about, ho, resolve, invoke, Sem.run_bind, Target.leads] at hf
  · rw [Oper.semAt_eq _ _ _ (by rw [ho]; simp)]
    unfold execOp
    simp only [ho, resolve, invoke, builtin, Sem.run_bind, Sem.run_pure, Result.andThen_ok, List.map_toArray, List.map_cons, List.map_nil, hs, hx, hr]
    exact h v' w' h2

/-- One round of the loop, as to memory. -/
theorem KeysI.step {s : St} {w W w2 w3 : World} {ob : Nat} {pre : List (Fin s.fs.length)} (hob : ob < w.heap.size) (hK : KeysI s w ob pre W) (h12 : Fr No W w2) (x : Fin s.fs.length) {v v' : Value} (hv : Blk W ob 22 [v])
    (hap : Appended w2 31 2 v pre.length 1 (keyCells (keysAt s.fs pre) ++ [.int .i64 (s.fs[x.val]).t.f, .int .i64 (s.fs[x.val]).t.n]) v' w3) :
    KeepsOthers W (w3.setCell ⟨ob, 0, none⟩ v') ∧ KpB w.heap.size ob W (w3.setCell ⟨ob, 0, none⟩ v') ∧ KeysI s w ob (pre ++ [x]) (w3.setCell ⟨ob, 0, none⟩ v') := by
  obtain ⟨hf, u, hb, ho, hg, -⟩ := hK
  obtain rfl : u = v := by have := (hb.inj hv).2; simpa using this
  have ho2 : Own w2 31 2 u pre.length _ := ho.fr h12 (fun _ _ => No.no _)
  have hb2 : Blk w2 ob 22 [u] := hb.fr h12 (No.no _)
  have hne : u.ownBlock ≠ some ob := fun e => hb2.neOwn ho2 (by decide) _ e rfl
  have hb3 := hb2.fr hap.fr hne
  have hne' : ∀ k, v'.ownBlock = some k → k ≠ ob := hb3.neOwn hap.own (by decide)
  have hfr : Fr (fun k => k = ob ∨ u.ownBlock = some k) W (w3.setCell ⟨ob, 0, none⟩ v') := ((h12.no_any.trans hap.fr (fun k h => .inl (.inr h)))).setCell (.inl (.inl rfl)) _
  obtain ⟨a', c', he⟩ := hap.some (by omega)
  refine ⟨⟨hfr.size, fun l o hl hc => ?_⟩, fun k hk hn => ?_, ?_, v', hb3.set 0 _, ?_, ?_, some ⟨a', 0, none⟩, c', ?_⟩
  · have hl' : l < W.heap.size := (Array.getElem?_eq_some_iff.1 hl).1
    rw [hfr.block l hl' ?_]
    · exact hl
    · rintro (rfl | h)
      · have := hl.symm.trans hb; cases this; simp [Obj.isCells] at hc
      · obtain ⟨q, hq⟩ := ho.someBlk h; have := hl.symm.trans hq; cases this; simp [Obj.isCells] at hc
  · refine hfr.block k (Nat.lt_of_lt_of_le hk hf.size) ?_
    rintro (h | h)
    · exact hn h
    · have := hg k h; omega
  · exact hf.trans hfr (fun k h => h.elim (fun h => .inl h) (fun h => .inr (hg k h)))
  · have := hap.own.other (p := ⟨ob, 0, none⟩) (fun e => hne' _ e rfl) v'
    simpa [keysAt, keyCells] using this
  · intro k hk
    rcases hap.blk with h | ⟨k', h, hk'⟩
    · exact hg k (by rw [← h]; exact hk)
    · rw [h] at hk; cases hk
      have := hf.size; have := h12.size; omega
  · rw [he]; simp
theorem key_at {W : World} {y : Frm} (hx : FrmAt W y) {W' : World} (hW : Fr No W W') : Calls Try.prog 27 #[.pointer (some ⟨y.b, 0, none⟩)] W' fun e w' => e = .returned (.agg #[.int .i64 y.t.f, .int .i64 y.t.n]) ∧ Fr No W' w' := by
  have hx' := hx.no hW
  exact key_any _ _ _ _ hx'.blk.lt (hx'.blk.cell rfl) (hx'.blk.cell rfl)
set_option maxRecDepth 100000 in
set_option maxHeartbeats 4000000 in
theorem keys_st (s : St) (w : World) (h : PoolAt w s) :
    Calls Try.prog 13 #[.pointer (some ⟨s.pb, 0, none⟩)] w fun e w' => ∃ v, e = .returned v ∧ Own w' 31 2 v s.fs.length (keyCells (keysOf s.fs (downTo s.fs.length s.fs.length))) ∧ Fr No w w' ∧ (∀ k, v.ownBlock = some k → w.heap.size ≤ k) := by
  have hl := h.fine.len
  have hl2 := h.fine.most2
  obtain ⟨a, c, hv⟩ : ∃ a c, s.fv = .slice a s.fs.length c := by
    rcases h.F.row.cases with ⟨e, h1, _⟩ | ⟨g, c, e⟩
    · exact ⟨none, 0, by rw [h1, e]⟩
    · exact ⟨_, _, e⟩
  have hP : Blk w s.pb 64 [.int .i64 s.most, backV s.mb, .slice a s.fs.length c] := by rw [← hv]; exact h.F.blk
  have hO : Own w 68 1 (.slice a s.fs.length c) s.fs.length (s.fs.map Frm.ptr) := by rw [← hv]; exact h.F.row
  have c2 := hP.cell (j := 2) rfl
  have hpl := hP.lt
  clear hv
  refine calls_of_marks Try.func13 rfl ?_
  simp only [Try.ntmps13, List.size_toArray, List.length_cons, List.length_nil, Nat.reduceAdd, Nat.reduceSub, Array.replicate_succ, Array.replicate_zero, List.push_toArray, List.append_toArray, List.nil_append, List.cons_append]
  go_wp2_with (first | (go_at_call 22; refine (none_st s _ h).mono ?_; rintro e w1 ⟨rfl, rfl⟩) | (go_at_call 29; refine (callsIn_wide.1 (backward_in Fence.wide 5 trivial rfl _ _ _ _)).mono ?_; rintro e w1 ⟨rfl, rfl⟩))
  have hob : Blk (w.alloc (.cells #[.slice none 0 0] 22)) w.heap.size 22 [.slice none 0 0] := Blk.new w _ _
  have hbs : Blk ((w.alloc (.cells #[.slice none 0 0] 22)).alloc (.cells #[.slice a s.fs.length c] 62)) (w.heap.size + 1) 62 [.slice a s.fs.length c] := by
    have := Blk.new (w.alloc (.cells #[.slice none 0 0] 22)) 62 [.slice a s.fs.length c]
    rwa [World.size_alloc] at this
  have hob2 := hob.alloc (.cells #[.slice a s.fs.length c] 62)
  have hfr1 : Fr No w ((w.alloc (.cells #[.slice none 0 0] 22)).alloc (.cells #[.slice a s.fs.length c] 62)) := ((Fr.refl No w).alloc _).alloc _
  have hsz : ((w.alloc (.cells #[.slice none 0 0] 22)).alloc (.cells #[.slice a s.fs.length c] 62)).heap.size = w.heap.size + 2 := by simp
  clear hob
  generalize (w.alloc (.cells #[.slice none 0 0] 22)).alloc (.cells #[.slice a s.fs.length c] 62) = w1 at *
  have hO1 := hO.fr hfr1 (fun _ _ => No.no _)
  have h1 := h.no hfr1
  refine wp_range (gf := 36) (lb := #[.pointer (some ⟨w.heap.size + 1, 0, none⟩)]) rfl (enters_of Try.func36 (by kernel_rfl) rfl)
    (backward_stops Fence.wide 4 trivial rfl (by omega) (w.heap.size + 1) w.heap.size s.fs.length _ (s.fs.map Frm.ptr) (by omega) w1 hbs hO1 (by omega) (fun k hk => by have := hO.lt hk; omega)) KpB.t (KpB.b (Nat.le_refl _)) (Below.refl _ _) (fun _ => rfl)
    (KeysI s w1 w.heap.size) (fun _ _ _ => False) (KeysI.from (by omega)) (fun _ _ _ _ _ hs _ _ => hs) ⟨Fr.refl _ _, _, hob2, World.ownsRow_nil _ _ _ _, fun k hk => by simp [Value.ownBlock] at hk, none, 0, rfl⟩
    (fun x : Fin s.fs.length => { tmps := #[.pointer (some ⟨s.pb, 0, none⟩), undef, .slice none 0 0, .pointer (some ⟨w.heap.size, 0, none⟩), undef, s.fs[x.val].ptr, .pointer (some ⟨s.pb, 0, none⟩), .bool false, .pointer (some ⟨s.pb, 0, none⟩), .pointer (some ⟨s.pb, 0, none⟩), .pointer (some ⟨s.pb, 2, none⟩), .slice a s.fs.length c, .func (.func 36) #[] #[.pointer (some ⟨w.heap.size + 1, 0, none⟩)], .int .i64 (x.val : Int), s.fs[x.val].ptr, undef, undef, undef, undef, undef, undef], defers := [] }) ?assign ?body ?done ?stop
  case stop =>
    intro D cc pre W hD _ hs
    exact hs.elim
  case assign =>
    intro ll x W K hK
    gi_wp2
    exact hK
  case done =>
    rintro D ys W hD hys ⟨hf, v, hb, ho, hg, _⟩ hK
    have b0 := hb.cell (j := 0) rfl
    go_wp2
    have hyl : ys.length = s.fs.length := by rw [← List.length_map (·.val), hys, downTo_length]
    rw [keysAt_eq, hys, hyl] at ho
    refine end_marks hK (results_tmp rfl _ _ _) ⟨v, rfl, ?_, ?_, fun k hk => by have := hg k hk; omega⟩
    · exact ho.fr (S := fun k => k = D) ((Fr.refl (fun k => k = D) W).putObj (D := D) (.inl rfl) _) (fun k hk e => by subst e; obtain ⟨l, hl⟩ := ho.someBlk hk; exact hl.neDef hK rfl)
    · exact (hfr1.trans hf (fun x hx => .inr (by omega))).putObj (.inr (by omega)) _
  case body =>
    rintro ll pre x W hKI hlen
    have HKI := Lib.hid hKI
    obtain ⟨hf, v, hb, ho, hg, a', c', rfl⟩ := hKI
    have hobl : w.heap.size < w1.heap.size := by omega
    obtain ⟨i0, hi0, hz0, hz1, hz2⟩ := info_parts Try.infoKey
    have b0 := hb.cell (j := 0) rfl
    obtain ⟨i, hi⟩ := x
    obtain ⟨y, hy⟩ : ∃ y, y = s.fs[i] := ⟨_, rfl⟩
    have hxw := h.F.frm y (by rw [hy]; exact List.getElem_mem hi)
    have hx : FrmAt W y := (h1.F.frm y (by rw [hy]; exact List.getElem_mem hi)).fr hf (by have := hxw.blk.lt; omega) (by have := hxw.els.lt (k := y.t.g) rfl; omega)
    simp only [← hy, Frm.ptr]
    have HY := Lib.hid hy
    clear hy hxw
    gi_wp2
    refine wpIn_region_any (by kernel_rfl) ?_
    change wpAnyIn _ _ _ _ _ _ _ _ _ (World.drew _)
    (refine wpAnyIn_ready (rs := [0, 1]) (by kernel_rfl) (by simp) ?_; refine AllReadyIn.cons rfl (fun K hK => ?_) (AllReadyIn.cons rfl (fun K hK => ?_) AllReadyIn.nil))
    · (go_simp; refine hK _ _ ?_; clear hK K)
      (refine wpAnyIn_ready (rs := [1]) (by kernel_rfl) (by simp) ?_; refine AllReadyIn.cons rfl (fun K hK => ?_) AllReadyIn.nil)
      (go_simp; refine hK _ _ ?_; clear hK K)
      (refine wpAnyIn_ready (rs := [2]) (by kernel_rfl) (by simp) ?_; refine AllReadyIn.cons rfl (fun K hK => ?_) AllReadyIn.nil)
      (go_simp; refine ⟨trivial, (CallsIn.inRound _ (callsIn_wide.2 (key_at ‹FrmAt _ _› ((Fr.refl No _).drew)))).mono ?_⟩; rintro e w2 ⟨he, hw2⟩; subst he; dsimp only; refine hK _ _ ?_; clear hK K; have h12 : Fr No W w2 := ((Fr.refl No W).drew).thn hw2; have b2 := (hb.fr h12 (No.no _)).cell (j := 0) rfl; have b2l := (hb.fr h12 (No.no _)).lt)
      (refine wpAnyIn_ready (rs := [3]) (by kernel_rfl) (by simp) ?_; refine AllReadyIn.cons rfl (fun K hK => ?_) AllReadyIn.nil)
      (go_simp; refine hK _ _ ?_; clear hK K)
      ((refine wpAnyIn_ready (rs := [4]) (by kernel_rfl) (by simp) ?_; refine AllReadyIn.cons rfl (fun K hK => ?_) AllReadyIn.nil); refine step_appIn _ _ _ rfl (.tmp 15) (.tmp 18) 22 rfl 31 i0 _ 2 16 Try.underlying22 hi0 hz0 hz1 hz2 rfl _ _ _ (by simp [Act.eval, Act.put]) ((ho.fr h12 (fun _ _ => No.no _)).fr ((Fr.refl No _).alloc _) (fun _ _ => No.no _)) ⟨w2.heap.size, 0, none⟩ 1 1 [.int .i64 y.t.f, .int .i64 y.t.n] (by simp [Act.eval, Act.put]) rfl ?_ ?_ ?_ ?_ ?_; (intro j u hj; match j, hj with | 0, hj => (simp at hj; subst hj; simp [Addr.add]) | 1, hj => (simp at hj; subst hj; simp [Addr.add])); (intro u hu; simp at hu; rcases hu with rfl | rfl <;> rfl); (unfold maxLen; omega); omega; intro v' w7 hap; refine hK _ _ ?_; clear hK K; obtain ⟨g', c7, rfl⟩ := hap.some (by omega); obtain ⟨e1, e2, e3⟩ := KeysI.step (w2 := w2.alloc (.cells #[.int .i64 y.t.f, .int .i64 y.t.n] 31)) hobl HKI.out (h12.alloc _) ⟨i, hi⟩ hb (by rw [← HY.out]; exact hap); have hb7 : Blk w7 w.heap.size 22 _ := ((hb.fr h12 (No.no _)).alloc _).fr hap.fr (fun e => hb.neOwn ho (by decide) _ e rfl); have b7 := hb7.cell (j := 0) rfl; have b7f := hb7.free; have b7l := hb7.lt)
      ((refine wpAnyIn_ready (rs := [5]) (by kernel_rfl) (by simp) ?_; refine AllReadyIn.cons rfl (fun K hK => ?_) AllReadyIn.nil); (go_simp; refine hK _ _ ?_; clear hK K); refine wpAnyIn_done (by kernel_rfl) ?_ _; exact ⟨e1, e2, e3⟩)
    · (go_simp; refine hK _ _ ?_; clear hK K)
      (refine wpAnyIn_ready (rs := [0, 2]) (by kernel_rfl) (by simp) ?_; refine AllReadyIn.cons rfl (fun K hK => ?_) (AllReadyIn.cons rfl (fun K hK => ?_) AllReadyIn.nil))
      · (go_simp; refine hK _ _ ?_; clear hK K)
        (refine wpAnyIn_ready (rs := [2]) (by kernel_rfl) (by simp) ?_; refine AllReadyIn.cons rfl (fun K hK => ?_) AllReadyIn.nil)
        (go_simp; refine ⟨trivial, (CallsIn.inRound _ (callsIn_wide.2 (key_at ‹FrmAt _ _› ((Fr.refl No _).drew)))).mono ?_⟩; rintro e w2 ⟨he, hw2⟩; subst he; dsimp only; refine hK _ _ ?_; clear hK K; have h12 : Fr No W w2 := ((Fr.refl No W).drew).thn hw2; have b2 := (hb.fr h12 (No.no _)).cell (j := 0) rfl; have b2l := (hb.fr h12 (No.no _)).lt)
        (refine wpAnyIn_ready (rs := [3]) (by kernel_rfl) (by simp) ?_; refine AllReadyIn.cons rfl (fun K hK => ?_) AllReadyIn.nil)
        (go_simp; refine hK _ _ ?_; clear hK K)
        ((refine wpAnyIn_ready (rs := [4]) (by kernel_rfl) (by simp) ?_; refine AllReadyIn.cons rfl (fun K hK => ?_) AllReadyIn.nil); refine step_appIn _ _ _ rfl (.tmp 15) (.tmp 18) 22 rfl 31 i0 _ 2 16 Try.underlying22 hi0 hz0 hz1 hz2 rfl _ _ _ (by simp [Act.eval, Act.put]) ((ho.fr h12 (fun _ _ => No.no _)).fr ((Fr.refl No _).alloc _) (fun _ _ => No.no _)) ⟨w2.heap.size, 0, none⟩ 1 1 [.int .i64 y.t.f, .int .i64 y.t.n] (by simp [Act.eval, Act.put]) rfl ?_ ?_ ?_ ?_ ?_; (intro j u hj; match j, hj with | 0, hj => (simp at hj; subst hj; simp [Addr.add]) | 1, hj => (simp at hj; subst hj; simp [Addr.add])); (intro u hu; simp at hu; rcases hu with rfl | rfl <;> rfl); (unfold maxLen; omega); omega; intro v' w7 hap; refine hK _ _ ?_; clear hK K; obtain ⟨g', c7, rfl⟩ := hap.some (by omega); obtain ⟨e1, e2, e3⟩ := KeysI.step (w2 := w2.alloc (.cells #[.int .i64 y.t.f, .int .i64 y.t.n] 31)) hobl HKI.out (h12.alloc _) ⟨i, hi⟩ hb (by rw [← HY.out]; exact hap); have hb7 : Blk w7 w.heap.size 22 _ := ((hb.fr h12 (No.no _)).alloc _).fr hap.fr (fun e => hb.neOwn ho (by decide) _ e rfl); have b7 := hb7.cell (j := 0) rfl; have b7f := hb7.free; have b7l := hb7.lt)
        ((refine wpAnyIn_ready (rs := [5]) (by kernel_rfl) (by simp) ?_; refine AllReadyIn.cons rfl (fun K hK => ?_) AllReadyIn.nil); (go_simp; refine hK _ _ ?_; clear hK K); refine wpAnyIn_done (by kernel_rfl) ?_ _; exact ⟨e1, e2, e3⟩)
      · (go_simp; refine ⟨trivial, (CallsIn.inRound _ (callsIn_wide.2 (key_at ‹FrmAt _ _› ((Fr.refl No _).drew)))).mono ?_⟩; rintro e w2 ⟨he, hw2⟩; subst he; dsimp only; refine hK _ _ ?_; clear hK K; have h12 : Fr No W w2 := ((Fr.refl No W).drew).thn hw2; have b2 := (hb.fr h12 (No.no _)).cell (j := 0) rfl; have b2l := (hb.fr h12 (No.no _)).lt)
        (refine wpAnyIn_ready (rs := [0, 3]) (by kernel_rfl) (by simp) ?_; refine AllReadyIn.cons rfl (fun K hK => ?_) (AllReadyIn.cons rfl (fun K hK => ?_) AllReadyIn.nil))
        · (go_simp; refine hK _ _ ?_; clear hK K)
          (refine wpAnyIn_ready (rs := [3]) (by kernel_rfl) (by simp) ?_; refine AllReadyIn.cons rfl (fun K hK => ?_) AllReadyIn.nil)
          (go_simp; refine hK _ _ ?_; clear hK K)
          ((refine wpAnyIn_ready (rs := [4]) (by kernel_rfl) (by simp) ?_; refine AllReadyIn.cons rfl (fun K hK => ?_) AllReadyIn.nil); refine step_appIn _ _ _ rfl (.tmp 15) (.tmp 18) 22 rfl 31 i0 _ 2 16 Try.underlying22 hi0 hz0 hz1 hz2 rfl _ _ _ (by simp [Act.eval, Act.put]) ((ho.fr h12 (fun _ _ => No.no _)).fr ((Fr.refl No _).alloc _) (fun _ _ => No.no _)) ⟨w2.heap.size, 0, none⟩ 1 1 [.int .i64 y.t.f, .int .i64 y.t.n] (by simp [Act.eval, Act.put]) rfl ?_ ?_ ?_ ?_ ?_; (intro j u hj; match j, hj with | 0, hj => (simp at hj; subst hj; simp [Addr.add]) | 1, hj => (simp at hj; subst hj; simp [Addr.add])); (intro u hu; simp at hu; rcases hu with rfl | rfl <;> rfl); (unfold maxLen; omega); omega; intro v' w7 hap; refine hK _ _ ?_; clear hK K; obtain ⟨g', c7, rfl⟩ := hap.some (by omega); obtain ⟨e1, e2, e3⟩ := KeysI.step (w2 := w2.alloc (.cells #[.int .i64 y.t.f, .int .i64 y.t.n] 31)) hobl HKI.out (h12.alloc _) ⟨i, hi⟩ hb (by rw [← HY.out]; exact hap); have hb7 : Blk w7 w.heap.size 22 _ := ((hb.fr h12 (No.no _)).alloc _).fr hap.fr (fun e => hb.neOwn ho (by decide) _ e rfl); have b7 := hb7.cell (j := 0) rfl; have b7f := hb7.free; have b7l := hb7.lt)
          ((refine wpAnyIn_ready (rs := [5]) (by kernel_rfl) (by simp) ?_; refine AllReadyIn.cons rfl (fun K hK => ?_) AllReadyIn.nil); (go_simp; refine hK _ _ ?_; clear hK K); refine wpAnyIn_done (by kernel_rfl) ?_ _; exact ⟨e1, e2, e3⟩)
        · (go_simp; refine hK _ _ ?_; clear hK K)
          (refine wpAnyIn_ready (rs := [0]) (by kernel_rfl) (by simp) ?_; refine AllReadyIn.cons rfl (fun K hK => ?_) AllReadyIn.nil)
          (go_simp; refine hK _ _ ?_; clear hK K)
          ((refine wpAnyIn_ready (rs := [4]) (by kernel_rfl) (by simp) ?_; refine AllReadyIn.cons rfl (fun K hK => ?_) AllReadyIn.nil); refine step_appIn _ _ _ rfl (.tmp 15) (.tmp 18) 22 rfl 31 i0 _ 2 16 Try.underlying22 hi0 hz0 hz1 hz2 rfl _ _ _ (by simp [Act.eval, Act.put]) ((ho.fr h12 (fun _ _ => No.no _)).fr ((Fr.refl No _).alloc _) (fun _ _ => No.no _)) ⟨w2.heap.size, 0, none⟩ 1 1 [.int .i64 y.t.f, .int .i64 y.t.n] (by simp [Act.eval, Act.put]) rfl ?_ ?_ ?_ ?_ ?_; (intro j u hj; match j, hj with | 0, hj => (simp at hj; subst hj; simp [Addr.add]) | 1, hj => (simp at hj; subst hj; simp [Addr.add])); (intro u hu; simp at hu; rcases hu with rfl | rfl <;> rfl); (unfold maxLen; omega); omega; intro v' w7 hap; refine hK _ _ ?_; clear hK K; obtain ⟨g', c7, rfl⟩ := hap.some (by omega); obtain ⟨e1, e2, e3⟩ := KeysI.step (w2 := w2.alloc (.cells #[.int .i64 y.t.f, .int .i64 y.t.n] 31)) hobl HKI.out (h12.alloc _) ⟨i, hi⟩ hb (by rw [← HY.out]; exact hap); have hb7 : Blk w7 w.heap.size 22 _ := ((hb.fr h12 (No.no _)).alloc _).fr hap.fr (fun e => hb.neOwn ho (by decide) _ e rfl); have b7 := hb7.cell (j := 0) rfl; have b7f := hb7.free; have b7l := hb7.lt)
          ((refine wpAnyIn_ready (rs := [5]) (by kernel_rfl) (by simp) ?_; refine AllReadyIn.cons rfl (fun K hK => ?_) AllReadyIn.nil); (go_simp; refine hK _ _ ?_; clear hK K); refine wpAnyIn_done (by kernel_rfl) ?_ _; exact ⟨e1, e2, e3⟩)

end Go.Proofs.Ythjejgepdbonpaa
