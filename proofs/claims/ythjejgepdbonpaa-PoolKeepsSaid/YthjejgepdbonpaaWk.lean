/-
  What making room comes to where there is none.
-/
import Derived.Test.YthjejgepdbonpaaWj
namespace Go.Proofs.Ythjejgepdbonpaa
open Go.RowKit Go.Shelf
attribute [local go_sem] Oper.semAt_some

set_option maxRecDepth 100000 in
set_option maxHeartbeats 4000000 in
theorem room_full (pb mb lb lc most : Nat) (fv logv : Value) (fs : List Frm) (ts : List TilM) (l : List NoteD) (w : World) (hF : FramesAt w pb (.int .i64 most) (backV mb) fv fs) (hM : MemAt w mb lb lc logv ts l) (hlt : ¬ fs.length < most) (hm0 : fs.length ≤ 64) 
    (hm : l.length ≤ 999990) (ht : ts.length ≤ 1000000) (hk : ∀ x ∈ fs, ∃ i, First ts x.t.f x.t.n i) (hel : ∀ x ∈ fs, 0 < x.t.el.length ∧ x.t.el.length ≤ 1000000) (hnb : (fs.map (·.b)).Nodup) :
    Calls Try.prog 25 #[.pointer (some ⟨pb, 0, none⟩)] w (Roomed pb mb lb lc (.int .i64 most) (backV mb) fv logv fs ts l w) := by
  obtain ⟨a, c, rfl⟩ : ∃ a c, fv = .slice a fs.length c := by
    rcases hF.row.cases with ⟨rfl, h, _⟩ | ⟨g, c, rfl⟩
    · exact ⟨none, 0, by rw [h]⟩
    · exact ⟨_, _, rfl⟩
  have HK := Lib.hid hk
  have HE := Lib.hid hel
  have HN := Lib.hid hnb
  clear hk hel hnb
  have p0 := hF.blk.cell (j := 0) rfl
  have p2 := hF.blk.cell (j := 2) rfl
  refine calls_of_marks Try.func25 rfl ?_
  simp only [Try.ntmps25, List.size_toArray, List.length_cons, List.length_nil, Nat.reduceAdd, Nat.reduceSub, Array.replicate_succ, Array.replicate_zero, List.push_toArray, List.append_toArray, List.nil_append, List.cons_append]
  go_wp2
  go_step3
  go_wp2_with fail
  go_quiet (fail)
  have hF0 := hF.no ((Fr.refl No w).drewN nq)
  have hM0 := hM.no ((Fr.refl No w).drewN nq)
  have hfr0 := (Fr.refl No w).drewN nq
  generalize w.drewN nq = w0 at *
  clear p0 p2
  go_wp2
  go_step3
  go_wp2_with (go_at_call 34; refine (callsIn_wide.1 (loose_in Fence.wide 5 trivial rfl _ _)).mono ?_; rintro e w1 ⟨rfl, rfl⟩)
  have hbox : Blk (w0.alloc (.cells #[.int .i64 (-1)] 3)) w0.heap.size 3 [.int .i64 (-1)] := Blk.new w0 _ _
  have hpbx : Blk ((w0.alloc (.cells #[.int .i64 (-1)] 3)).alloc (.cells #[.pointer (some ⟨pb, 0, none⟩)] 24)) (w0.heap.size + 1) 24 [.pointer (some ⟨pb, 0, none⟩)] := by
    have := Blk.new (w0.alloc (.cells #[.int .i64 (-1)] 3)) 24 [.pointer (some ⟨pb, 0, none⟩)]
    rwa [World.size_alloc] at this
  have hbox2 := hbox.alloc (.cells #[.pointer (some ⟨pb, 0, none⟩)] 24)
  have hfr1 : Fr No w0 ((w0.alloc (.cells #[.int .i64 (-1)] 3)).alloc (.cells #[.pointer (some ⟨pb, 0, none⟩)] 24)) := ((Fr.refl No w0).alloc _).alloc _
  have hsz : ((w0.alloc (.cells #[.int .i64 (-1)] 3)).alloc (.cells #[.pointer (some ⟨pb, 0, none⟩)] 24)).heap.size = w0.heap.size + 2 := by simp
  have hF1 := hF0.no hfr1
  have hM1 := hM0.no hfr1
  clear hbox
  generalize (w0.alloc (.cells #[.int .i64 (-1)] 3)).alloc (.cells #[.pointer (some ⟨pb, 0, none⟩)] 24) = w1 at *
  refine wp_range (gf := 37) (lb := #[.pointer (some ⟨w0.heap.size + 1, 0, none⟩)]) rfl (enters_of Try.func37 (by kernel_rfl) rfl)
    (loose_stops Fence.wide 4 trivial rfl (by omega) (w0.heap.size + 1) w1.heap.size pb _ _ _ fs (by omega) w1 hpbx hF1 (Nat.le_refl _) (by omega) (fun k hk _ => hk)) belowK_t (belowK_b (Nat.le_refl _)) (Below.refl _ _) (fun _ => rfl)
    (fun pre W => pre = [] ∧ Fr No w1 W) (fun c pre W => c = .exit 0 ∧ ∃ x : Nat, pre = [x] ∧ Blk W w0.heap.size 3 [.int .i64 (x : Int)] ∧ Fr (fun k => k = w0.heap.size) w1 W)
    ?hI ?hIx ⟨rfl, Fr.refl _ _⟩ (fun x : Nat => { tmps := #[.pointer (some ⟨pb, 0, none⟩), undef, .int .i64 0, .pointer (some ⟨w0.heap.size, 0, none⟩), .int .i64 (x : Int), undef, .pointer (some ⟨pb, 0, none⟩), .pointer (some ⟨pb, 0, none⟩), .pointer (some ⟨pb, 2, none⟩), .slice a fs.length c, .int .i64 fs.length, .pointer (some ⟨pb, 0, none⟩), .pointer (some ⟨pb, 0, none⟩), .pointer (some ⟨pb, 0, none⟩), .int .i64 most, .bool false, .pointer (some ⟨pb, 0, none⟩), .func (.func 37) #[] #[.pointer (some ⟨w0.heap.size + 1, 0, none⟩)], .int .i64 (x : Int), undef, undef, undef, undef, undef, undef, undef, undef, undef, undef, undef, undef, undef, undef, undef, undef, undef, undef, undef, undef, undef, undef, undef, undef, undef, undef], defers := [] }) ?assign ?body ?done ?stop
  case hI =>
    rintro s A B row ⟨h1, h2⟩ hg hr
    exact ⟨h1, h2.grown hg (fun k hk => .inr (hr k hk).1)⟩
  case hIx =>
    rintro cc s A B row ⟨h1, x, h2, h3, h4⟩ hg hr
    refine ⟨h1, x, h2, h3.fr ((Fr.refl (fun k => w1.heap.size ≤ k) A).grown hg (fun k hk => .inl (hr k hk).1)) (by omega), h4.grown hg (fun k hk => .inr (hr k hk).1)⟩
  case assign =>
    intro ll x W K hK
    gi_wp2
    exact hK
  case body =>
    rintro ll pre x W ⟨rfl, hW⟩ _
    have hb := hbox2.fr hW (No.no _)
    have hb0 := hb.cell (j := 0) rfl
    have hbf := hb.free
    gi_wp2
    exact ⟨KeepsOthers.setCell _ _ _, rfl, x, rfl, hb.set 0 _, ((hW.no_any (S := fun k => k = w0.heap.size))).setCell (p := ⟨w0.heap.size, 0, none⟩) (.inl rfl) _⟩
  case done =>
    rintro D ys W hD rfl ⟨hnil, hW⟩ hK
    have hb := hbox2.fr hW (No.no _)
    have hb0 := hb.cell (j := 0) rfl
    go_wp2
    rw [Exit.noGoto_ret]
    refine end_marks hK (results_tmp rfl _ _ _) (.inl ⟨by rw [← hnil], rfl, ?_⟩)
    exact (((hfr0.thn hfr1).thn hW)).putObj (.inr (by have := hfr0.size; omega)) _
  case stop =>
    rintro D cc pre W hD hSp ⟨rfl, x, rfl, hbx, hW⟩ hK
    obtain ⟨r, hr⟩ : ∃ r, loosePlaces fs = x :: r := by
      obtain ⟨r, hr⟩ := hSp
      exact ⟨r, by rw [← hr]; rfl⟩
    obtain ⟨_, hx, _⟩ := looseTo_mem (fs := fs) (k := fs.length) (i := x) (by have h : loosePlaces fs = _ := hr; unfold loosePlaces at h; rw [h]; simp)
    obtain ⟨g, rfl⟩ : ∃ g, a = some ⟨g, 0, none⟩ := by
      rcases hF.row.cases with ⟨_, h, _⟩ | ⟨g, c', h⟩
      · omega
      · cases h; exact ⟨g, rfl⟩
    have hFW : FramesAt W pb _ _ _ fs := hF1.fr hW (by have := hF0.blk.lt; omega) (fun k hk => by have := hF0.row.lt hk; omega) (fun y hy => ⟨by have := (hF0.frm y hy).blk.lt; omega, by have := (hF0.frm y hy).els.lt (k := y.t.g) rfl; omega⟩)
    have hMW : MemAt W mb lb lc logv ts l := hM1.fr hW (by have := hM0.blk.lt; omega) (by have := hM0.row.ltg; omega) (fun k hk => by have := hM0.log.lt hk; omega) (fun y hy => by have := (hM0.els y hy).lt (k := y.g) rfl; omega)
    have hfx := hFW.frm _ (List.getElem_mem hx)
    have e1 : W.cell? ⟨g, x, none⟩ = some (.pointer (some ⟨(fs[x]'hx).b, 0, none⟩)) := by
      have := hFW.row.cells (g := g) rfl x ((fs[x]'hx).ptr) (by simp [hx])
      rwa [Addr.add_lit, Nat.zero_add] at this
    have b0 := hbx.cell (j := 0) rfl
    have p2 := hFW.blk.cell (j := 2) rfl
    obtain ⟨y, hy⟩ : ∃ y, y = fs[x]'hx := ⟨_, rfl⟩
    have hky := HK.out _ (List.getElem_mem hx)
    have hey := HE.out _ (List.getElem_mem hx)
    rw [← hy] at hfx e1 hky hey
    have HKY := Lib.hid hky
    have HEY := Lib.hid hey
    have HY := Lib.hid hy
    have HR := Lib.hid hr
    clear hky hey hy hr hSp
    go_wp2_with fail
    go_region_with (go_at_call 30; refine (written_any pb mb lb lc (.int .i64 most) (.slice (some ⟨g, 0, none⟩) fs.length c) logv ts l y _ ?_ ?_ ?_ hm ht HKY.out HEY.out).mono ?_; exact hFW.blk; exact hfx.no ((Fr.refl No _).drew); exact hMW.no ((Fr.refl No _).drew); rintro e w2 ⟨logv', ts', l', rfl, h21, h22, h23, h24, h25⟩)
    all_goals
      have hPr : Blk W pb 64 _ := hFW.blk
      have hrow : Own W 68 1 _ _ _ := hFW.row
      have h24' : Fr (fun k => k = mb ∨ k = lb ∨ logv.ownBlock = some k ∨ k = y.b) W w2 := ((Fr.refl _ W).drew).trans h24 (fun _ h => .inl h)
      have hP2 : Blk w2 pb 64 _ := hPr.fr h24' (notS hMW hfx hPr (by decide) (by decide) (by decide) (by decide))
      have hO2 : Own w2 68 1 _ _ _ := hrow.fr h24' (fun k hk => by
        simp [Value.ownBlock] at hk; subst hk
        obtain ⟨sp, hB, _⟩ := hrow.blk
        exact notS hMW hfx hB (by decide) (by decide) (by decide) (by decide))
      have hb2 : Blk w2 w0.heap.size 3 _ := hbx.fr h24' (notS hMW hfx hbx (by decide) (by decide) (by decide) (by decide))
      have hD2 : w2.heap[D]? = some (.deferred (some [])) := keepDef h24' hK (fun h => inS hMW hfx h)
      have p22 := hP2.cell (j := 2) rfl
      have b20 := hb2.cell (j := 0) rfl
      have hP2l := hP2.lt
      have hb2l := hb2.lt
      have hone : Hid (∀ u ∈ fs.map Frm.ptr, u.oneCell' = true) := by
        intro u hu
        obtain ⟨z, _, rfl⟩ := List.mem_map.1 hu
        rfl
      have hwr : IntKind.i64.wrap ((x : Int) + 1) = (x : Int) + 1 := by rw [IntKind.wrap_i64]; omega
      clear e1 b0 p2
    all_goals go_wp2_with fail
    all_goals go_region_with (go_at_call 31; refine (delete_any g fs.length c x (fs.map Frm.ptr) _ ?_ hone.out hx (by omega)).mono ?_; exact hO2; rintro e w3 ⟨rfl, h31, h32⟩; have hpg := hP2.neOwn hO2 (by decide) g rfl; have hP3 : Blk w3 pb 64 _ := hP2.drew.fr h32 (fun e => hpg e.symm); have p32 := hP3.cell (j := 2) rfl; have p3f := hP3.free; have p3l := hP3.lt)
    all_goals
      have hD3 : w3.heap[D]? = some (.deferred (some [])) := keepDef h32 (show w2.drew.heap[D]? = _ from hD2) (fun h => by
        subst h
        obtain ⟨sp, hB, _⟩ := hO2.blk
        exact ⟨_, _, hB.drew⟩)
      have hWW : Fr No w W := (hfr0.thn hfr1).trans hW (fun k hk => .inr (by have := hfr0.size; omega))
      have hDz : w.heap.size ≤ D := by have := hfr0.size; omega
      go_wp2
      rw [Exit.noGoto_ret]
      refine end_marks (D := D) ((Below.heap_setCell _ _ _ _ (hP3.neDef hD3).symm).trans hD3) (results_tmp rfl _ _ _) ?_
      exact room_end hx HY.out HR.out HN.out hWW hFW hMW hfx h21 h22 h24' h25 h31 h32 hP3 hDz ((Below.heap_setCell _ _ _ _ (hP3.neDef hD3).symm).trans hD3)

end Go.Proofs.Ythjejgepdbonpaa
