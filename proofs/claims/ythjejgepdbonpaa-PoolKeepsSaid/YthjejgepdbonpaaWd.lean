/-
  What a note in the memory's log comes to.
-/
import Derived.Test.YthjejgepdbonpaaWc
namespace Go.Proofs.Ythjejgepdbonpaa
open Go.RowKit

theorem Try.infoNote : (Try.prog.info? 54).map (fun i => (i.zero, i.size, i.bytes)) = some (some (.agg #[.int .i64 0, .int .i64 0, .int .i64 0, .int .i64 0]), 4, 32) := by kernel_rfl

/-- A note's cells: kind, A, B (0), N. -/
structure NoteD where
  k : Int
  a : Int
  n : Int
def NoteD.cells (x : NoteD) : List Value := [.int .i64 x.k, .int .i64 x.a, .int .i64 0, .int .i64 x.n]
def noteCells (l : List NoteD) : List Value := l.flatMap NoteD.cells

/-- The memory's log has a note more. -/
def Counted (mb : Nat) (lv logv : Value) (l : List NoteD) (x : NoteD) (w : World) (e : Ending) (w' : World) : Prop :=
  ∃ logv', e = .returned (.int .i64 0) ∧ Blk w' mb 47 [lv, logv', .int .i64 0] ∧ Own w' 54 4 logv' (l ++ [x]).length (noteCells (l ++ [x])) ∧
    Fr (fun k => k = mb ∨ logv.ownBlock = some k) w w' ∧ AtOr w logv logv'

set_option maxHeartbeats 1600000 in
theorem count_any (mb : Nat) (lv logv : Value) (l : List NoteD) (x : NoteD) (w : World) (hM : Blk w mb 47 [lv, logv, .int .i64 0]) (ho : Own w 54 4 logv l.length (noteCells l)) (hm : l.length ≤ 1000000) :
    Calls Try.prog 56 #[.pointer (some ⟨mb, 0, none⟩), .agg #[.int .i64 x.k, .int .i64 x.a, .int .i64 0, .int .i64 x.n]] w (Counted mb lv logv l x w) := by
  obtain ⟨i0, hi0, hz0, hz1, hz2⟩ := info_parts Try.infoNote
  obtain ⟨xk, xa, xn⟩ := x
  have c1 := hM.cell (j := 1) rfl
  have c2 := hM.cell (j := 2) rfl
  have hf := hM.free
  have hl := hM.lt
  have hO : Hid (Own ((w.alloc (.cells #[.int .i64 xk, .int .i64 xa, .int .i64 0, .int .i64 xn] 54)).alloc (.cells #[.int .i64 xk, .int .i64 xa, .int .i64 0, .int .i64 xn] 54)).drew 54 4 logv l.length (noteCells l)) := ho.fr (((Fr.refl No w).alloc _).alloc _).drew (fun _ _ => No.no _)
  have hN : Blk ((w.alloc (.cells #[.int .i64 xk, .int .i64 xa, .int .i64 0, .int .i64 xn] 54)).alloc (.cells #[.int .i64 xk, .int .i64 xa, .int .i64 0, .int .i64 xn] 54)).drew (w.heap.size + 1) 54 [.int .i64 xk, .int .i64 xa, .int .i64 0, .int .i64 xn] := by
    have := Blk.new (w.alloc (.cells #[.int .i64 xk, .int .i64 xa, .int .i64 0, .int .i64 xn] 54)) 54 [.int .i64 xk, .int .i64 xa, .int .i64 0, .int .i64 xn]
    simpa using this.drew
  have hN1 : Hid (∀ j u, [Value.int .i64 xk, .int .i64 xa, .int .i64 0, .int .i64 xn][j]? = some u → ((w.alloc (.cells #[.int .i64 xk, .int .i64 xa, .int .i64 0, .int .i64 xn] 54)).alloc (.cells #[.int .i64 xk, .int .i64 xa, .int .i64 0, .int .i64 xn] 54)).drew.cell? ((⟨w.heap.size + 1, 0, none⟩ : Addr).add j) = some u) := by
    intro j u hu
    rw [Addr.add_lit, Nat.zero_add]
    exact hN.cell hu
  have h1c : Hid (∀ u ∈ [Value.int .i64 xk, .int .i64 xa, .int .i64 0, .int .i64 xn], u.oneCell' = true) := by intro u hu; simp at hu; rcases hu with rfl | rfl | rfl | rfl <;> rfl
  have hb1 : Hid (l.length + 1 ≤ maxLen) := by unfold maxLen; unfold Hid; omega
  have hb2 : Hid ((l.length + 1) * 32 ≤ 140737488355328) := by unfold Hid; omega
  have hM2 : Hid (Blk ((w.alloc (.cells #[.int .i64 xk, .int .i64 xa, .int .i64 0, .int .i64 xn] 54)).alloc (.cells #[.int .i64 xk, .int .i64 xa, .int .i64 0, .int .i64 xn] 54)).drew mb 47 [lv, logv, .int .i64 0]) := ((hM.alloc _).alloc _).drew
  have hne := hM.neOwn ho (by decide)
  have HNE := Lib.hid hne
  clear hne hN
  have hd : decide ((0 : Int) < 0) = false := by decide
  go_enter Try.func56, Try.ntmps56
  go_wp2_with fail
  go_region_law (refine step_app _ rfl (.tmp 9) (.tmp 11) 45 rfl 54 i0 _ 4 32 Try.underlying45 hi0 hz0 hz1 hz2 rfl logv l.length (noteCells l) (by simp [Act.eval, Act.put]) hO.out ⟨w.heap.size + 1, 0, none⟩ 1 1 [.int .i64 xk, .int .i64 xa, .int .i64 0, .int .i64 xn] (by simp [Act.eval, Act.put]) rfl hN1.out h1c.out hb1.out hb2.out ?_; intro v' w2 hap; obtain ⟨g', c', rfl⟩ := hap.some (by omega); have hM3 := hM2.out.fr hap.fr (fun hk => HNE.out _ hk rfl); have c31 := hM3.cell (j := 1) rfl; have c32 := hM3.cell (j := 2) rfl; have hf3 := hM3.free; have hl3 := hM3.lt)
  all_goals go_wp2_with fail
  all_goals go_quiet (fail)
  all_goals go_wp2
  all_goals go_ret
  all_goals
    refine ⟨_, rfl, (hM3.set 1 _).drewN _, ?_, ?_, ?_⟩
    · have h := (hap.own.other (p := ⟨mb, 1, none⟩) (by rintro h; rcases hap.atOr (w0 := w) (by simp; omega) mb h with h | h; exact HNE.out _ h rfl; omega) (.slice (some ⟨g', 0, none⟩) (l.length + 1) c')).drewN nq
      have e1 : noteCells (l ++ [⟨xk, xa, xn⟩]) = noteCells l ++ [.int .i64 xk, .int .i64 xa, .int .i64 0, .int .i64 xn] := by simp [noteCells, NoteD.cells]
      rw [e1, List.length_append]
      exact h
    · exact (((((((Fr.refl _ w).alloc _).alloc _).drew).trans hap.fr (fun k hk => .inl (.inr hk))).setCell (.inl (.inl rfl)) _)).drewN _
    · exact hap.atOr (by simp; omega)

end Go.Proofs.Ythjejgepdbonpaa
