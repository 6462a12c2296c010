/-
  What PoolKeeps keeps beside the pool: two arrays.
-/
import Derived.Test.YthjejgepdbonpaaXk
import Derived.Test.YthjejgepdbonpaaXi
namespace Go.Proofs.Ythjejgepdbonpaa

def now0 (j : Nat) : List Int := [j, 10 * j, -1, 7]
/-- The cells of the array of elements, of which the first j are filled. -/
def nowC (now : Nat → List Int) (j : Nat) : List Value := (List.range 48).map fun c => .int .i64 (if c < j then (now (c / 4))[c % 4]?.getD 0 else 0)
def numC (num : Nat → Int) : List Value := (List.range 12).map fun j => .int .i64 (num j)

theorem nowC_len (now : Nat → List Int) (j : Nat) : (nowC now j).length = 48 := by simp [nowC]
theorem numC_len (num : Nat → Int) : (numC num).length = 12 := by simp [numC]
theorem nowC_at (now : Nat → List Int) (j i : Nat) (h : i < (nowC now j).length) : (nowC now j)[i] = .int .i64 (if i < j then (now (i / 4))[i % 4]?.getD 0 else 0) := by simp [nowC]
theorem numC_at (num : Nat → Int) (i : Nat) (h : i < (numC num).length) : (numC num)[i] = .int .i64 (num i) := by simp [numC]
theorem nowC_zero (now : Nat → List Int) : nowC now 0 = List.replicate 48 (.int .i64 0) := by
  rw [List.eq_replicate_iff]
  refine ⟨nowC_len now 0, fun b hb => ?_⟩
  obtain ⟨c, _, rfl⟩ := List.mem_map.1 hb
  rw [if_neg (Nat.not_lt_zero c)]
theorem numC_zero : numC (fun _ => 0) = List.replicate 12 (.int .i64 0) := by
  rw [List.eq_replicate_iff]
  refine ⟨numC_len _, fun b hb => ?_⟩
  obtain ⟨c, _, rfl⟩ := List.mem_map.1 hb
  rfl
theorem nowC_get (now : Nat → List Int) {j n : Nat} (hj : j < 12) (hn : n < 4) (hl : (now j).length = 4) {v : Int} (hv : (now j)[n]? = some v) : (nowC now 48)[j * 4 + n]? = some (.int .i64 v) := by
  unfold nowC
  rw [List.getElem?_map, List.getElem?_range (by omega)]
  have e1 : (j * 4 + n) / 4 = j := by omega
  have e2 : (j * 4 + n) % 4 = n := by omega
  simp only [Option.map_some]
  rw [if_pos (by omega), e1, e2, hv]
  rfl
theorem numC_get (num : Nat → Int) {j : Nat} (hj : j < 12) : (numC num)[j]? = some (.int .i64 (num j)) := by
  unfold numC
  rw [List.getElem?_map, List.getElem?_range hj]
  rfl
theorem nowC_step (now : Nat → List Int) {j : Nat} (hj : j < 48) {v : Int} (hv : (now (j / 4))[j % 4]? = some v) : (nowC now j).set j (.int .i64 v) = nowC now (j + 1) := by
  apply List.ext_getElem
  · simp [nowC]
  · intro i h1 h2
    rw [List.getElem_set, nowC_at, nowC_at]
    by_cases e : j = i
    · subst e
      rw [if_pos rfl, if_pos (by omega), hv]
      rfl
    · rw [if_neg e]
      by_cases h : i < j
      · rw [if_pos h, if_pos (by omega)]
      · rw [if_neg h, if_neg (by omega)]
theorem nowC_upd (now : Nat → List Int) {j n : Nat} (hj : j < 12) (hn : n < 4) (hl : (now j).length = 4) (v : Int) : (nowC now 48).set (j * 4 + n) (.int .i64 v) = nowC (upd now j ((now j).set n v)) 48 := by
  apply List.ext_getElem
  · simp [nowC]
  · intro i h1 h2
    have hi : i < 48 := by simpa [nowC] using h2
    rw [List.getElem_set, nowC_at, nowC_at]
    rw [if_pos hi, if_pos hi]
    unfold upd
    by_cases e : j * 4 + n = i
    · subst e
      have e1 : (j * 4 + n) / 4 = j := by omega
      have e2 : (j * 4 + n) % 4 = n := by omega
      rw [if_pos rfl, e1, e2, if_pos rfl, List.getElem?_set_self (by omega)]
      rfl
    · rw [if_neg e]
      by_cases h : i / 4 = j
      · rw [if_pos h, h, List.getElem?_set_ne (by omega)]
      · rw [if_neg h]
theorem numC_upd (num : Nat → Int) {j : Nat} (hj : j < 12) (v : Int) : (numC num).set j (.int .i64 v) = numC (upd num j v) := by
  apply List.ext_getElem
  · simp [numC]
  · intro i h1 h2
    rw [List.getElem_set, numC_at, numC_at]
    unfold upd
    by_cases e : j = i
    · rw [if_pos e, if_pos e.symm]
    · rw [if_neg e, if_neg (fun h => e h.symm)]

/-- What is kept, within bounds. -/
structure KB (mx : Nat) (now : Nat → List Int) (num : Nat → Int) (k : Nat) (A : AS) : Prop where
  keeps : Keeps mx now num A
  log : A.l.length ≤ 3 * k
  pins : ∀ x ∈ A.fs, x.pins ≤ k
  len : ∀ j, (now j).length = 4

section
variable {mx : Nat} {now : Nat → List Int} {num : Nat → Int} {k : Nat} {A : AS}
theorem KB.ok (h : KB mx now num k A) (hk : k ≤ 1000) : A.Ok :=
  ⟨fun x hx => by
    have h1 := h.pins x hx
    obtain ⟨j, _, _, _, hp, _⟩ := h.keeps.fr x hx
    omega, by have := h.log; omega⟩
theorem KB.succ (h : KB mx now num k A) : KB mx now num (k + 1) A := ⟨h.keeps, by have := h.log; omega, fun x hx => by have := h.pins x hx; omega, h.len⟩
theorem KB.start (mx : Nat) : KB mx now0 (fun _ => 0) 0 (start mx) := by
  refine ⟨⟨rfl, Nat.zero_le _, by simp [Proofs.Ythjejgepdbonpaa.start], by simp [Proofs.Ythjejgepdbonpaa.start, tils0], ?_, fun x hx => by simp [Proofs.Ythjejgepdbonpaa.start] at hx, ?_, fun _ => Int.le_refl _, fun i n hn => by simp [Proofs.Ythjejgepdbonpaa.start] at hn⟩, by simp [Proofs.Ythjejgepdbonpaa.start], fun x hx => by simp [Proofs.Ythjejgepdbonpaa.start] at hx, fun j => rfl⟩
  · intro j t ht
    have : (tils0 12)[j]? = some t := ht
    unfold tils0 at this
    rw [List.getElem?_map, Option.map_eq_some_iff] at this
    obtain ⟨i, hi, rfl⟩ := this
    rw [List.getElem?_eq_some_iff] at hi
    obtain ⟨_, hi⟩ := hi
    rw [List.getElem_range] at hi
    subst hi
    rfl
  · intro j t ht _
    have : (tils0 12)[j]? = some t := ht
    unfold tils0 at this
    rw [List.getElem?_map, Option.map_eq_some_iff] at this
    obtain ⟨i, hi, rfl⟩ := this
    rw [List.getElem?_eq_some_iff] at hi
    obtain ⟨_, hi⟩ := hi
    rw [List.getElem_range] at hi
    subst hi
    rfl
theorem KB.pin (h : KB mx now num k A) (h0 : 0 < mx) {j : Nat} (hj : j < 12) {p q : Int} (hk : kj j = (p, q)) :
    (A.pin p q = (101, A) ∧ A.fs.length = mx ∧ (mx : Int) ≤ A.pins) ∨
    ∃ L x A', A.pin p q = (0, A') ∧ KB mx now num (k + 1) A' ∧ A'.fs = L ++ [x] ∧ x.key = (p, q) ∧ 0 < x.pins ∧ (∀ y ∈ L, y.key ≠ (p, q)) ∧ x.el = now j := by
  rcases h.keeps.pin h0 hj hk with h1 | ⟨L, x, A', h1, h2, h3, h4, h5, h6, h7, h8, h9⟩
  · exact .inl h1
  · refine .inr ⟨L, x, A', h1, ⟨h2, by have := h.log; omega, fun y hy => ?_, h.len⟩, h3, h4, h5, h6, h8⟩
    rcases h9 y hy with h10 | ⟨z, hz, h10⟩
    · omega
    · have := h.pins z hz
      omega
theorem KB.put (h : KB mx now num k A) {L : List AF} {x : AF} (hfs : A.fs = L ++ [x]) {j : Nat} (hj : j < 12) (hk : x.key = kj j) (n : Nat) (v nb : Int) (hnb : 0 ≤ nb) :
    KB mx (upd now j ((now j).set n v)) (upd num j (max (num j) nb)) k { A with fs := L ++ [{ x with el := x.el.set n v, dirty := true, num := max x.num nb }] } := by
  refine ⟨h.keeps.put hfs hj hk n v nb hnb, h.log, fun y hy => ?_, fun i => ?_⟩
  · rcases List.mem_append.1 hy with hy | hy
    · exact h.pins y (by rw [hfs]; simp [hy])
    · simp at hy
      subst hy
      exact h.pins x (by rw [hfs]; simp)
  · unfold upd
    split
    · rw [List.length_set]; exact h.len j
    · exact h.len i
theorem KB.unpin (h : KB mx now num k A) {L : List AF} {x : AF} (hfs : A.fs = L ++ [x]) (hp : 0 < x.pins) : KB mx now num k { A with fs := L ++ [{ x with pins := x.pins - 1 }] } := by
  refine ⟨h.keeps.unpin hfs hp, h.log, fun y hy => ?_, h.len⟩
  rcases List.mem_append.1 hy with hy | hy
  · exact h.pins y (by rw [hfs]; simp [hy])
  · simp at hy
    subst hy
    have := h.pins x (by rw [hfs]; simp)
    show x.pins - 1 ≤ k
    omega
end

/-- The arrays while the first is filled. -/
structure Fill (w0 : World) (nb j : Nat) (W : World) : Prop where
  fr : Fr (fun b => b = nb) w0 W
  blk : Blk W nb 39 (nowC now0 j)

/-- Where the loop over the calls stands. -/
structure SK (w0 : World) (mx pb mb nb ab k : Nat) (W : World) : Prop where
  ex : ∃ s now num, PoolAt W s ∧ s.pb = pb ∧ s.mb = mb ∧ KB mx now num k s.a ∧ Blk W nb 39 (nowC now 48) ∧ Blk W ab 40 (numC num) ∧ Out W s nb ∧ Out W s ab ∧ Fr No w0 W ∧ (∀ b, Foot s b → w0.heap.size ≤ b)

end Go.Proofs.Ythjejgepdbonpaa
