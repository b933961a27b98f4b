/- Plain laws: traffic between nodes (no program in sight). -/
import Derived.Test.YtipbbfeimdobeaaU3
namespace Go.Proofs.Ytipbbfeimdobeaa
open Go.RowKit

/-- The traffic from a node to another one among the first demands. -/
def tr (L : List Fib) : Nat → Nat → Nat → Int
  | 0, _, _ => 0
  | k + 1, i, j => match L[k]? with
    | some d => tr L k i j + (if d.a = i ∧ d.b = j then d.len else 0) + (if d.b = i ∧ d.a = j then d.len else 0)
    | none => tr L k i j
theorem tr_step {L : List Fib} {k : Nat} {d : Fib} (h : L[k]? = some d) (i j : Nat) : tr L (k + 1) i j = tr L k i j + (if d.a = i ∧ d.b = j then d.len else 0) + (if d.b = i ∧ d.a = j then d.len else 0) := by
  show (match L[k]? with
    | some d => tr L k i j + (if d.a = i ∧ d.b = j then d.len else 0) + (if d.b = i ∧ d.a = j then d.len else 0)
    | none => tr L k i j) = _
  rw [h]
def trRow (L : List Fib) (k n i : Nat) : List Int := (List.range n).map fun j => tr L k i j
theorem trRow_len (L : List Fib) (k n i : Nat) : (trRow L k n i).length = n := by unfold trRow; simp
theorem trRow_get {L : List Fib} {k n i j : Nat} (h : j < n) : (trRow L k n i)[j]? = some (tr L k i j) := by unfold trRow; simp [h]
theorem trRow_zero (L : List Fib) (n i : Nat) : trRow L 0 n i = List.replicate n 0 := by
  apply List.ext_getElem?
  intro j
  by_cases h : j < n
  · rw [trRow_get h, List.getElem?_replicate, if_pos h]; rfl
  · rw [List.getElem?_eq_none (by rw [trRow_len]; omega), List.getElem?_eq_none (by simp; omega)]
theorem trRow_ext {L : List Fib} {k k' n i : Nat} {l : List Int} (hl : l.length = n) (h : ∀ j, j < n → l[j]? = some (tr L k' i j)) : l = trRow L k' n i := by
  apply List.ext_getElem?
  intro j
  by_cases hj : j < n
  · rw [h j hj, trRow_get hj]
  · rw [List.getElem?_eq_none (by omega), List.getElem?_eq_none (by rw [trRow_len]; omega)]
theorem trRow_from {L : List Fib} {k n i a b : Nat} {d : Fib} (h : L[k]? = some d) (ha : d.a = (a : Int)) (hb : d.b = (b : Int)) (hi : a = i) (hne : a ≠ b) (hbn : b < n) : (trRow L k n i).set b (tr L k i b + d.len) = trRow L (k + 1) n i := by
  refine trRow_ext (k := k) (by simp [trRow_len]) fun j hj => ?_
  rw [tr_step h, List.getElem?_set, ha, hb]
  by_cases e : b = j
  · subst e
    rw [if_pos rfl, if_pos (by rw [trRow_len]; exact hbn), if_pos ⟨by omega, rfl⟩, if_neg (by omega)]
    simp
  · rw [if_neg e, trRow_get hj, if_neg (by omega), if_neg (by omega)]
    simp
theorem trRow_to {L : List Fib} {k n i a b : Nat} {d : Fib} (h : L[k]? = some d) (ha : d.a = (a : Int)) (hb : d.b = (b : Int)) (hi : b = i) (hne : a ≠ b) (han : a < n) : (trRow L k n i).set a (tr L k i a + d.len) = trRow L (k + 1) n i := by
  refine trRow_ext (k := k) (by simp [trRow_len]) fun j hj => ?_
  rw [tr_step h, List.getElem?_set, ha, hb]
  by_cases e : a = j
  · subst e
    rw [if_pos rfl, if_pos (by rw [trRow_len]; exact han), if_neg (by omega), if_pos ⟨by omega, rfl⟩]
    simp
  · rw [if_neg e, trRow_get hj, if_neg (by omega), if_neg (by omega)]
    simp
theorem trRow_none {L : List Fib} {k n i a b : Nat} {d : Fib} (h : L[k]? = some d) (ha : d.a = (a : Int)) (hb : d.b = (b : Int)) (h1 : a ≠ i) (h2 : b ≠ i) : trRow L (k + 1) n i = trRow L k n i := by
  refine (trRow_ext (k := k) (trRow_len _ _ _ _) fun j hj => ?_).symm
  rw [tr_step h, ha, hb, trRow_get hj, if_neg (by omega), if_neg (by omega)]
  simp
theorem dems_at {n : Net} {L : List Fib} (h : demsB n L = true) : L.length ≤ 12 ∧ netB n = true ∧ ∀ d ∈ L, demB n.nodes.length d = true := by
  unfold demsB at h
  simp only [Bool.and_eq_true, decide_eq_true_eq, List.all_eq_true] at h
  exact ⟨h.1.1, h.1.2, h.2⟩
theorem dem_at {m : Nat} {d : Fib} (h : demB m d = true) : ∃ a b : Nat, d.a = (a : Int) ∧ d.b = (b : Int) ∧ a < m ∧ b < m ∧ a ≠ b ∧ 1 ≤ d.len ∧ d.len ≤ 1000 := by
  unfold demB at h
  simp only [Bool.and_eq_true, inB_iff, Bool.not_eq_true', beq_eq_false_iff_ne, ne_eq] at h
  obtain ⟨⟨⟨⟨h1, h2⟩, h3⟩, h4⟩, _⟩ := h
  exact ⟨d.a.toNat, d.b.toNat, by omega, by omega, by omega, by omega, by omega, by omega, by omega⟩
theorem tr_bound {n : Net} {L : List Fib} (h : ∀ d ∈ L, demB n.nodes.length d = true) (k i j : Nat) : 0 ≤ tr L k i j ∧ tr L k i j ≤ 2000 * k := by
  induction k with
  | zero => exact ⟨Int.le_refl _, by simp [tr]⟩
  | succ k ih =>
    cases hx : L[k]? with
    | none =>
      have e : tr L (k + 1) i j = tr L k i j := by
        show (match L[k]? with
          | some d => tr L k i j + (if d.a = i ∧ d.b = j then d.len else 0) + (if d.b = i ∧ d.a = j then d.len else 0)
          | none => tr L k i j) = _
        rw [hx]
      rw [e]; omega
    | some d =>
      obtain ⟨_, _, _, _, _, _, _, h1, h2⟩ := dem_at (h d (List.mem_of_getElem? hx))
      rw [tr_step hx]
      split <;> split <;> omega
def trM (n : Net) (L : List Fib) (m : Nat) : List (List Int) := (List.range m).map fun i => trRow L L.length n.nodes.length i
def trF (n : Net) (L : List Fib) : List (List Int) × Bool := if demsB n L = true then (trM n L n.nodes.length, true) else ([], false)
theorem trF_no {n : Net} {L : List Fib} (h : demsB n L = false) : trF n L = ([], false) := by unfold trF; rw [if_neg (by rw [h]; simp)]
theorem trF_yes {n : Net} {L : List Fib} (h : demsB n L = true) : trF n L = (trM n L n.nodes.length, true) := by unfold trF; rw [if_pos h]
theorem trM_get {n : Net} {L : List Fib} {m i : Nat} (h : i < m) : (trM n L m)[i]? = some (trRow L L.length n.nodes.length i) := by unfold trM; simp [h]
theorem trM_succ (n : Net) (L : List Fib) (m : Nat) : trM n L (m + 1) = trM n L m ++ [trRow L L.length n.nodes.length m] := by unfold trM; simp [List.range_succ]
theorem trM_len (n : Net) (L : List Fib) (m : Nat) : (trM n L m).length = m := by unfold trM; simp
theorem netB_8 {n : Net} (h : netB n = true) : n.nodes.length ≤ 1024 := by
  unfold netB at h
  simp only [Bool.and_eq_true, decide_eq_true_eq, inB_iff] at h
  omega
end Go.Proofs.Ytipbbfeimdobeaa
