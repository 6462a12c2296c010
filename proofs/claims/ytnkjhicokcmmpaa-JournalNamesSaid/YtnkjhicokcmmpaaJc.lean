/-
  A sector's record: what the program's Decode comes to.
-/
import Derived.Test.YtnkjhicokcmmpaaJb
import Derived.Test.YtnkjhicokcmmpaaRd
namespace Go.Proofs.Ytnkjhicokcmmpaa
open Go.RowKit Go.Shelf

/-- A record. -/
structure RecD where
  e : Nat
  n : Nat
  p : List UInt8
/-- How many bytes a payload could have. -/
def recSize (b : List UInt8) : Nat := wh ((b.drop 3).take 1)
/-- The record that a sector could be. -/
def recAt (b : List UInt8) : RecD := ⟨wh ((b.drop 4).take 8), wh ((b.drop 12).take 8), (b.drop 20).take (recSize b)⟩
def decRec (b : List UInt8) : Option RecD := if b.length = 128 ∧ recSize b ≤ 64 ∧ (recAt b).n ≠ 0 ∧ recBytes (recAt b).e (recAt b).n (recAt b).p = b then some (recAt b) else none
def RecD.zero : RecD := ⟨0, 0, []⟩
def decRecOf (b : List UInt8) : RecD := (decRec b).getD .zero
def decRecE (b : List UInt8) : Int := if (decRec b).isSome then 0 else 80

theorem wh_one (k : Nat) (hk : k < 256) : wh (num 1 k) = k := by
  have e1 : num 1 k = [UInt8.ofNat k] := by rw [num_succ 0 k]; simp [num, numTo]
  rw [e1]
  simp [wh]
  omega
theorem recSize_of (e n : Nat) (p : List UInt8) (hp : p.length ≤ 64) : recSize (recBytes e n p) = p.length := by
  have e1 : ∀ R : List UInt8, ((([81, 74, 1] ++ (num 1 p.length ++ R) : List UInt8).drop 3).take 1) = num 1 p.length := by
    intro R
    show ((num 1 p.length ++ R).take 1) = num 1 p.length
    rw [List.take_append_of_le_length (by rw [num_len]; omega)]
    exact List.take_of_length_le (by rw [num_len]; omega)
  have e2 : ∃ R, recBytes e n p = [81, 74, 1] ++ (num 1 p.length ++ R) := by
    unfold recBytes recFront
    simp only [List.append_assoc]
    exact ⟨_, rfl⟩
  obtain ⟨R, hR⟩ := e2
  unfold recSize
  rw [hR, e1]
  exact wh_one _ (by omega)

/-- What was read is the record. -/
theorem rec_some {b : List UInt8} {s e n : Nat} {p : List UInt8} (hX : b.length = 128 → s = recSize b ∧ e = wh ((b.drop 4).take 8) ∧ n = wh ((b.drop 12).take 8)) (hP : b.length = 128 → 20 + s ≤ 128 → p = (b.drop 20).take s) (h0 : n ≠ 0) (hp : p.length ≤ 64) (h : recBytes e n p = b) : decRec b = some ⟨e, n, p⟩ := by
  have hl : b.length = 128 := by rw [← h]; exact recBytes_len e n p hp
  obtain ⟨h1, h2, h3⟩ := hX hl
  have hs : recSize b = p.length := by rw [← h]; exact recSize_of e n p hp
  have h4 := hP hl (by omega)
  have hr : recAt b = ⟨e, n, p⟩ := by unfold recAt; rw [← h2, ← h3, ← h1, ← h4]
  unfold decRec
  rw [hr, if_pos ⟨hl, by omega, h0, h⟩]
theorem rec_none {b : List UInt8} {s e n : Nat} {p : List UInt8} (hX : b.length = 128 → s = recSize b ∧ e = wh ((b.drop 4).take 8) ∧ n = wh ((b.drop 12).take 8)) (hP : b.length = 128 → 20 + s ≤ 128 → p = (b.drop 20).take s) (h : recOk n p.length = false ∨ recBytes e n p ≠ b) : decRec b = none := by
  unfold decRec
  refine if_neg (fun ⟨hl, hs, h0, hb⟩ => ?_)
  obtain ⟨h1, h2, h3⟩ := hX hl
  have h4 := hP hl (by omega)
  have hr : recAt b = ⟨e, n, p⟩ := by unfold recAt; rw [← h2, ← h3, ← h1, ← h4]
  rw [hr] at h0 hb
  rcases h with h | h
  · have hpl : p.length ≤ 64 := by rw [h4, List.length_take]; omega
    have h0' : n ≠ 0 := h0
    simp [recOk, h0'] at h
    omega
  · exact h hb

end Go.Proofs.Ytnkjhicokcmmpaa
