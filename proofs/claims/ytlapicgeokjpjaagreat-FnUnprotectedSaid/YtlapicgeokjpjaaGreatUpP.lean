/- The pairs of nodes without a pair of routes: the plain law (no program in sight). -/
import Derived.Test.YtlapicgeokjpjaaGreatCt2
import Derived.Test.YtlapicgeokjpjaaGreatSs
namespace Go.Proofs.YtlapicgeokjpjaaGreat
open Go.RowKit

def dU (n : Net) (k : Int) (a b : Nat) : Bool := decide ((countF n a b k).1 = 0)
def okU (n : Net) (k : Int) (a b : Nat) : Bool := (countF n a b k).2
def upB (n : Net) (k : Int) : Bool := netB n && kindB k
def allU (n : Net) (k : Int) : Bool := (List.range n.nodes.length).all fun a => (List.range n.nodes.length).all fun b => !decide (a < b) || okU n k a b
def upL (n : Net) (k : Int) : List (List Int) := (toI (dU n k) n.nodes.length n.nodes.length).map pI
def upF (n : Net) (k : Int) : List (List Int) × Bool := if upB n k && allU n k then (upL n k, true) else ([], false)
theorem upF_no {n : Net} {k : Int} (h : upB n k = false) : upF n k = ([], false) := by unfold upF; rw [h]; rfl
theorem upF_bad {n : Net} {k : Int} {a b : Nat} (hab : a < b) (hb : b < n.nodes.length) (h : okU n k a b = false) : upF n k = ([], false) := by
  have : allU n k = false := by
    unfold allU
    rw [List.all_eq_false]
    refine ⟨a, List.mem_range.2 (by omega), ?_⟩
    rw [Bool.not_eq_true, List.all_eq_false]
    exact ⟨b, List.mem_range.2 hb, by rw [h]; simp [hab]⟩
  unfold upF; rw [this, Bool.and_false]; rfl
theorem upF_yes {n : Net} {k : Int} (h : upB n k = true) (h2 : ∀ a b : Nat, a < b → b < n.nodes.length → okU n k a b = true) : upF n k = (upL n k, true) := by
  have : allU n k = true := by
    unfold allU
    rw [List.all_eq_true]
    intro a ha
    rw [List.all_eq_true]
    intro b hb
    by_cases hab : a < b
    · rw [h2 a b hab (List.mem_range.1 hb)]; simp
    · simp [hab]
  unfold upF; rw [h, this]; rfl
theorem upF_small (n : Net) (k : Int) : SmSS (upF n k).1 := by
  cases h : upB n k && allU n k
  · unfold upF; rw [h]; exact ⟨by simp, by simp⟩
  · have hn : netB n = true := by unfold upB at h; simp only [Bool.and_eq_true] at h; exact h.1.1
    have h8 : n.nodes.length ≤ 8 := (net_at hn).1
    unfold upF; rw [h]
    refine ⟨?_, fun r hr => ?_⟩
    · show (upL n k).length ≤ 1024
      unfold upL
      rw [List.length_map]
      have h1 := toI_len (dU n k) n.nodes.length n.nodes.length
      have h2 : n.nodes.length * n.nodes.length ≤ 8 * 8 := Nat.mul_le_mul h8 h8
      omega
    · have hr' : r ∈ upL n k := hr
      unfold upL at hr'
      obtain ⟨x, _, rfl⟩ := List.mem_map.1 hr'
      simp [pI]
end Go.Proofs.YtlapicgeokjpjaaGreat
