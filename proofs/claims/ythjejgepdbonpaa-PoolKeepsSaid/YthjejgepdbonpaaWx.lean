/-
  The document's comparison of keys, of the same keys.
-/
import Derived.Test.YthjejgepdbonpaaWv
namespace Go.Proofs.Ythjejgepdbonpaa
open Go.RowKit Go.Shelf
attribute [local go_sem] Oper.semAt_some

theorem keyCells_get (l : List (Int × Int)) : ∀ (i : Nat) (hi : i < l.length), (keyCells l)[i * 2]? = some (.int .i64 (l[i]).1) ∧ (keyCells l)[i * 2 + 1]? = some (.int .i64 (l[i]).2) := by
  induction l with
  | nil => intro i hi; simp at hi
  | cons x l ih =>
    intro i hi
    have e : keyCells (x :: l) = .int .i64 x.1 :: .int .i64 x.2 :: keyCells l := rfl
    rw [e]
    cases i with
    | zero => simp
    | succ i =>
      rw [show (i + 1) * 2 = i * 2 + 2 by omega]
      simpa using ih i (by simpa using hi)

theorem Own.sl {w : World} {T : TypeId} {size n : Nat} {v : Value} {xs : List Value} (h : Own w T size v n xs) : ∃ a c, v = .slice a n c := by
  rcases h.cases with ⟨e, h1, _⟩ | ⟨g, c, e⟩
  · exact ⟨none, 0, by rw [e, h1]⟩
  · exact ⟨_, _, e⟩

set_option maxHeartbeats 1000000 in
/-- Two rows of the same keys are told to be the same. -/
theorem refKeys_same (u v : Value) (l : List (Int × Int)) (hl : l.length ≤ 1000) (w : World) (hu : Own w 31 2 u l.length (keyCells l)) (hv : Own w 31 2 v l.length (keyCells l)) :
    Calls Try.prog 15 #[u, v] w fun e w' => e = .returned (.bool true) ∧ Fr No w w' := by
  obtain ⟨n, hn⟩ : ∃ n, n = l.length := ⟨_, rfl⟩
  obtain ⟨a, c, rfl⟩ := hu.sl
  obtain ⟨b, d, rfl⟩ := hv.sl
  rw [← hn] at hu hv hl ⊢
  have HN := Lib.hid hn
  clear hn
  go_enter Try.func15, Try.ntmps15
  go_wp2
  go_loopw [5] (fun s wr => ∃ k : Nat, k ≤ n ∧ s = .int .i64 k ∧ Fr No w wr) (fun s _ => n - (intOf s).toNat)
  case atStart => exact ⟨0, Nat.zero_le _, rfl, Fr.refl _ _⟩
  case round =>
    obtain ⟨k, hk, rfl, hfr⟩ := hrel
    by_cases hlt : k < n
    · have hkl : k < l.length := by rw [← HN.out]; exact hlt
      obtain ⟨g, rfl⟩ : ∃ g, a = some ⟨g, 0, none⟩ := by
        rcases hu.cases with ⟨e, h, _⟩ | ⟨g, c', h⟩
        · omega
        · cases h; exact ⟨g, rfl⟩
      obtain ⟨h, rfl⟩ : ∃ h, b = some ⟨h, 0, none⟩ := by
        rcases hv.cases with ⟨e, h, _⟩ | ⟨g, c', h⟩
        · omega
        · cases h; exact ⟨g, rfl⟩
      have hur := hu.fr hfr (fun _ _ => No.no _)
      have hvr := hv.fr hfr (fun _ _ => No.no _)
      obtain ⟨q0, q1⟩ := keyCells_get l k hkl
      obtain ⟨x, y⟩ : Int × Int := l[k]
      obtain ⟨x, hx⟩ : ∃ x, x = (l[k]'hkl).1 := ⟨_, rfl⟩
      obtain ⟨y, hy⟩ : ∃ y, y = (l[k]'hkl).2 := ⟨_, rfl⟩
      rw [← hx] at q0
      rw [← hy] at q1
      clear hx hy
      have e0 : wr.cell? ⟨g, k * 2, none⟩ = some (.int .i64 x) := by
        have := hur.cells (g := g) rfl (k * 2) _ q0
        rwa [Addr.add_lit, Nat.zero_add] at this
      have e1 : wr.cell? ⟨g, k * 2 + 1, none⟩ = some (.int .i64 y) := by
        have := hur.cells (g := g) rfl (k * 2 + 1) _ q1
        rwa [Addr.add_lit, Nat.zero_add] at this
      have f0 : wr.cell? ⟨h, k * 2, none⟩ = some (.int .i64 x) := by
        have := hvr.cells (g := h) rfl (k * 2) _ q0
        rwa [Addr.add_lit, Nat.zero_add] at this
      have f1 : wr.cell? ⟨h, k * 2 + 1, none⟩ = some (.int .i64 y) := by
        have := hvr.cells (g := h) rfl (k * 2 + 1) _ q1
        rwa [Addr.add_lit, Nat.zero_add] at this
      have hq : (x == x) = true := by simp
      have hq' : (y == y) = true := by simp
      clear q0 q1 hu hv hur hvr
      go_wp2_with fail
      go_quiet (fail)
      go_wp2
      go_roundw
      case rel => exact ⟨k + 1, by omega, by go_num, hfr.drewN _⟩
      case measure => simp [intOf]; omega
    · go_wp2
      go_ret
      exact ⟨rfl, hfr⟩

end Go.Proofs.Ythjejgepdbonpaa
