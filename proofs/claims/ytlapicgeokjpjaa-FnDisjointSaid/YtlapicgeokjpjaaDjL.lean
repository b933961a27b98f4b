/- Plain: routes without common risks or inner nodes have no fiber in common (no program in sight). -/
import Derived.Test.YtlapicgeokjpjaaPo2
namespace Go.Proofs.Ytlapicgeokjpjaa
open Go.RowKit

/-- Whether two routes are good and lead between the same nodes. -/
def adB (n : Net) (A B : Int × List Int) : Bool := (netB n && (isVis n A.1 A.2 && isVis n B.1 B.2)) && (decide (A.1 = B.1) && decide (endW n A = endW n B))
def adF (n : Net) (A B : Int × List Int) (k : Int) : Bool × Bool := if adB n A B && kindB k then (disjB n A.1 A.2 B.2 k, true) else (false, false)
def crB (n : Net) (A B : Int × List Int) : Bool := netB n && (isVis n A.1 A.2 && isVis n B.1 B.2)
theorem adB_cr {n : Net} {A B : Int × List Int} (h : adB n A B = true) : crB n A B = true := by
  unfold adB at h; rw [Bool.and_eq_true] at h; exact h.1
theorem adB_good {n : Net} {A B : Int × List Int} (h : adB n A B = true) : netB n = true ∧ (0 ≤ A.1 ∧ A.1 < (n.nodes.length : Int)) ∧ RtGood n A.1 (endW n A) A.2 ∧ RtGood n A.1 (endW n A) B.2 ∧ A.1 = B.1 := by
  unfold adB at h
  simp only [Bool.and_eq_true, decide_eq_true_eq] at h
  obtain ⟨⟨h1, h2, h3⟩, h4, h5⟩ := h
  obtain ⟨a1, a2⟩ := vis_good h2
  obtain ⟨_, b2⟩ := vis_good h3
  refine ⟨h1, a1, a2, ?_, h4⟩
  rw [h5, h4]; exact b2
theorem apart_uses {F : List Fib} {a b : List Int} (h : apartF F a b = true) : usesB a b = false := by
  unfold apartF at h
  unfold usesB
  rw [Bool.not_eq_true', List.any_eq_false] at h
  rw [List.any_eq_false]
  intro x hx hb
  refine h x hx (List.any_eq_true.2 ⟨x, by simpa using hb, by simp [sameG]⟩)
theorem disj_one_of {n : Net} {s : Int} {a b : List Int} {k : Int} (h : disjB n s a b k = true) : disjB n s a b 1 = true := by
  unfold disjB at h ⊢
  rw [if_neg (by decide)]
  by_cases hk : k = 2
  · rw [if_pos hk] at h
    rw [apart_uses h]; rfl
  · rw [if_neg hk] at h
    rw [Bool.and_eq_true] at h
    rw [h.1]; rfl
theorem adF_law {n : Net} {A B : Int × List Int} {k : Int} (h : (adF n A B k).1 = true) : (adF n A B 1).1 = true := by
  unfold adF at h ⊢
  split at h
  · next hc =>
    rw [Bool.and_eq_true] at hc
    rw [hc.1]
    exact disj_one_of h
  · cases h
theorem adF_ok {n : Net} {A B : Int × List Int} {k : Int} (hk : kindB k = true) : (adF n A B k).2 = adB n A B := by
  unfold adF
  rw [hk, Bool.and_true]
  split
  · next h => exact h.symm
  · next h => exact (Bool.eq_false_iff.2 h).symm
/-- No common risk exactly where the routes are disjoint in risks. -/
theorem risks_law {n : Net} {A B : Int × List Int} (h : adB n A B = true) : (!usesB (A.2.map (gIdx n.fibers)) (B.2.map (gIdx n.fibers))) = (adF n A B 2).1 := by
  obtain ⟨h1, h2, h3, h4, _⟩ := adB_good h
  obtain ⟨a1, _⟩ := rt_ok h1 h2 h3
  obtain ⟨b1, _⟩ := rt_ok h1 h2 h4
  rw [apart_law (risk_ok h1) a1 b1]
  unfold adF
  rw [h]
  rfl
end Go.Proofs.Ytlapicgeokjpjaa
