/- Contracts: assignment by an order: the reference's answer; the program's look at the order. -/
import Derived.Test.YtmpdljcihiidaaaGreatAg2
namespace Go.Proofs.YtmpdljcihiidaaaGreat
open Go.RowKit Go.PlainAid

def okAt (s : List Int) (n k : Nat) : Bool := match s[k]? with | some x => inB x 0 ((n : Int) - 1) && (decide (k = 0) || (match s[k - 1]? with | some y => decide (y < x) | none => true)) | none => true
theorem rises_end {s : List Int} {n : Nat} (h : ∀ k, k < s.length → okAt s n k = true) : risesB s n = true := by
  unfold risesB; rw [List.all_eq_true]; intro k hk; exact h k (List.mem_range.1 hk)
theorem rises_bad {s : List Int} {n k : Nat} (hk : k < s.length) (h : okAt s n k = false) : risesB s n = false := by
  unfold risesB; rw [List.all_eq_false]; exact ⟨k, List.mem_range.2 hk, by rw [Bool.not_eq_true]; exact h⟩
theorem okAt_out {s : List Int} {n k : Nat} {x : Int} (hx : s[k]? = some x) (h : inB x 0 ((n : Int) - 1) = false) : okAt s n k = false := by unfold okAt; simp only [hx, h]; rfl
theorem okAt_first {s : List Int} {n : Nat} {x : Int} (hx : s[0]? = some x) (h : inB x 0 ((n : Int) - 1) = true) : okAt s n 0 = true := by unfold okAt; simp only [hx, h]; rfl
theorem okAt_next {s : List Int} {n k : Nat} {x y : Int} (h0 : k ≠ 0) (hx : s[k]? = some x) (hy : s[k - 1]? = some y) (h : inB x 0 ((n : Int) - 1) = true) : okAt s n k = decide (y < x) := by
  unfold okAt; simp only [hx, hy, h, decide_eq_false h0, Bool.false_or, Bool.true_and]

end Go.Proofs.YtmpdljcihiidaaaGreat
