/-
  The plain law of the checksum: a table's step is eight steps of a bit. No program in sight.
-/
import Derived.Test.YtnkjhicokcmmpaaBytes
namespace Go.Proofs.Ytnkjhicokcmmpaa

def poly : Nat := 3988292384
/-- One step of the register. -/
def cs1 (c : Nat) : Nat := if c % 2 = 1 then (c / 2) ^^^ poly else c / 2
def csN : Nat → Nat → Nat
  | 0, c => c
  | k + 1, c => cs1 (csN k c)
/-- The table's entry. -/
def tab (i : Nat) : Nat := csN 8 i

theorem half_xor (a b : Nat) : (a ^^^ b) / 2 = a / 2 ^^^ b / 2 := by
  apply Nat.eq_of_testBit_eq
  intro i
  have h : ∀ x : Nat, (x / 2).testBit i = x.testBit (i + 1) := fun x => by
    have := Nat.testBit_div_two_pow (n := 1) x (i := i)
    simpa [Nat.add_comm] using this
  rw [h, Nat.testBit_xor, Nat.testBit_xor, h, h]
theorem odd_xor (a b : Nat) : (a ^^^ 2 * b) % 2 = a % 2 := by
  have h : ∀ x : Nat, x % 2 = (x.testBit 0).toNat := fun x => by
    rw [Nat.testBit_zero]
    have := Nat.mod_two_eq_zero_or_one x
    rcases this with h | h <;> simp [h]
  rw [h, h, Nat.testBit_xor]
  simp [Nat.testBit_zero]
theorem cs1_xor (a y : Nat) : cs1 (a ^^^ 2 * y) = cs1 a ^^^ y := by
  unfold cs1
  rw [odd_xor, half_xor, Nat.mul_div_cancel_left _ (by decide)]
  split
  · rw [Nat.xor_assoc, Nat.xor_assoc, Nat.xor_comm y poly]
  · rfl
theorem csN_xor (k a y : Nat) : csN k (a ^^^ 2 ^ k * y) = csN k a ^^^ y := by
  induction k generalizing y with
  | zero => simp [csN]
  | succ k ih =>
    show cs1 (csN k _) = cs1 (csN k a) ^^^ y
    rw [show 2 ^ (k + 1) * y = 2 ^ k * (2 * y) by rw [Nat.pow_succ]; simp [Nat.mul_assoc], ih, cs1_xor]
theorem split_xor (d k : Nat) : d = d % 2 ^ k ^^^ 2 ^ k * (d / 2 ^ k) := by
  apply Nat.eq_of_testBit_eq
  intro i
  rw [Nat.testBit_xor, Nat.testBit_mod_two_pow, Nat.testBit_two_pow_mul]
  by_cases h : i < k
  · simp [h, Nat.not_le.2 h]
  · have h' : k ≤ i := by omega
    simp [h, h', Nat.testBit_div_two_pow]
/-- Eight steps at once. -/
theorem csN_8 (d : Nat) : csN 8 d = (d / 256) ^^^ tab (d % 256) := by
  have h1 := csN_xor 8 (d % 2 ^ 8) (d / 2 ^ 8)
  rw [← split_xor d 8] at h1
  rw [h1, Nat.xor_comm]
  rfl

/-- A step of the register with a bit, as the document has it. -/
def rs1 (c b : Nat) : Nat := if (c ^^^ b) % 2 = 1 then (c / 2) ^^^ poly else c / 2
theorem rs1_eq (c b : Nat) (hb : b < 2) : rs1 c b = cs1 (c ^^^ b) := by
  unfold rs1 cs1
  have : (c ^^^ b) / 2 = c / 2 := by rw [half_xor, Nat.div_eq_of_lt hb, Nat.xor_zero]
  rw [this]
def rsN (x : Nat) : Nat → Nat → Nat
  | 0, c => c
  | k + 1, c => rs1 (rsN x k c) (x / 2 ^ k % 2)
theorem rsN_eq (x k c : Nat) : csN k (c ^^^ x) = rsN x k c ^^^ x / 2 ^ k := by
  induction k with
  | zero => simp [csN, rsN]
  | succ k ih =>
    show cs1 (csN k _) = rs1 (rsN x k c) _ ^^^ _
    rw [ih, rs1_eq _ _ (Nat.mod_lt _ (by decide))]
    obtain ⟨y, hy⟩ : ∃ y, y = x / 2 ^ k := ⟨_, rfl⟩
    have e : x / 2 ^ (k + 1) = y / 2 := by rw [hy, Nat.pow_succ, Nat.div_div_eq_div_mul]
    rw [e, ← hy]
    have h1 := split_xor y 1
    have h2 : y = y % 2 ^^^ 2 * (y / 2) := by simpa using h1
    have h3 : rsN x k c ^^^ y = (rsN x k c ^^^ y % 2) ^^^ 2 * (y / 2) := by
      rw [Nat.xor_assoc, ← h2]
    rw [h3, cs1_xor]
/-- A byte's step. -/
def csB (c x : Nat) : Nat := (c / 256) ^^^ tab ((c % 256) ^^^ x)
theorem csB_eq (c x : Nat) (hx : x < 256) : csB c x = rsN x 8 c := by
  have h1 := rsN_eq x 8 c
  rw [Nat.div_eq_of_lt (show x < 2 ^ 8 from hx), Nat.xor_zero] at h1
  rw [← h1, csN_8]
  unfold csB
  have hd : (c ^^^ x) / 256 = c / 256 := by
    apply Nat.eq_of_testBit_eq
    intro i
    have h : ∀ y : Nat, (y / 256).testBit i = y.testBit (i + 8) := fun y => by
      have := Nat.testBit_div_two_pow (n := 8) y (i := i)
      simpa [Nat.add_comm] using this
    rw [h, h, Nat.testBit_xor]
    have : x.testBit (i + 8) = false := Nat.testBit_lt_two_pow (Nat.lt_of_lt_of_le hx (by
      have : 2 ^ 8 ≤ 2 ^ (i + 8) := Nat.pow_le_pow_right (by decide) (by omega)
      simpa using this))
    simp [this]
  have hm : (c ^^^ x) % 256 = c % 256 ^^^ x := by
    have h2 : (c ^^^ x) % 2 ^ 8 = c % 2 ^ 8 ^^^ x % 2 ^ 8 := Nat.xor_mod_two_pow
    have h3 : x % 256 = x := Nat.mod_eq_of_lt hx
    simpa [h3] using h2
  rw [hd, hm]

theorem poly_lt : poly < 2 ^ 32 := by decide
theorem cs1_lt {c : Nat} (h : c < 2 ^ 32) : cs1 c < 2 ^ 32 := by
  unfold cs1
  split
  · exact Nat.xor_lt_two_pow (by omega) poly_lt
  · omega
theorem csN_lt {c : Nat} (h : c < 2 ^ 32) : ∀ k, csN k c < 2 ^ 32
  | 0 => h
  | k + 1 => cs1_lt (csN_lt h k)
theorem tab_lt {i : Nat} (h : i < 2 ^ 32) : tab i < 2 ^ 32 := csN_lt h 8
theorem csB_lt {c x : Nat} (h : c < 2 ^ 32) (hx : x < 256) : csB c x < 2 ^ 32 := by
  unfold csB
  refine Nat.xor_lt_two_pow (by omega) (tab_lt ?_)
  exact Nat.lt_of_lt_of_le (Nat.xor_lt_two_pow (n := 8) (Nat.mod_lt _ (by decide)) hx) (by decide)
theorem rs1_lt {c b : Nat} (h : c < 2 ^ 32) : rs1 c b < 2 ^ 32 := by
  unfold rs1
  split
  · exact Nat.xor_lt_two_pow (by omega) poly_lt
  · omega
theorem rsN_lt {c x : Nat} (h : c < 2 ^ 32) : ∀ k, rsN x k c < 2 ^ 32
  | 0 => h
  | k + 1 => rs1_lt (rsN_lt h k)

/-- The register behind bytes. -/
def regTo (l : List UInt8) (c : Nat) : Nat := l.foldl (fun c x => csB c x.toNat) c
theorem regTo_snoc (l : List UInt8) (x : UInt8) (c : Nat) : regTo (l ++ [x]) c = csB (regTo l c) x.toNat := by simp [regTo]
theorem regTo_lt {l : List UInt8} {c : Nat} (h : c < 2 ^ 32) : regTo l c < 2 ^ 32 := by
  unfold regTo
  induction l generalizing c with
  | nil => exact h
  | cons x l ih => exact ih (csB_lt h x.toNat_lt)
/-- The sum of bytes. -/
def sumOf (l : List UInt8) : Nat := 4294967295 - regTo l 4294967295
theorem sumOf_lt (l : List UInt8) : sumOf l < 2 ^ 32 := by unfold sumOf; omega

end Go.Proofs.Ytnkjhicokcmmpaa
