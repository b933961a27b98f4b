/- Contracts: assignment by an order, the reference's side. -/
import Derived.Test.YtmpdljcihiidaaaGreatAgP
namespace Go.Proofs.YtmpdljcihiidaaaGreat
open Go.RowKit Go.PlainAid

theorem ordB_len {order : List Int} {n : Nat} (h : order.length ≠ n) : ordB order n = false := by unfold ordB; rw [decide_eq_false h]; simp
theorem ordB_bad {order : List Int} {n k : Nat} {x : Int} (hx : order[k]? = some x) (h : inB x 0 ((n : Int) - 1) = false) : ordB order n = false := by
  unfold ordB; rw [all_false hx h]; simp
theorem ordB_dup {order : List Int} {n k : Nat} {x : Int} (hx : order[k]? = some x) (h : x ∈ order.take k) : ordB order n = false := by
  have hnd : ¬ order.Nodup := by
    intro hn
    have hk : k < order.length := by
      rcases Nat.lt_or_ge k order.length with h' | h'
      · exact h'
      · rw [List.getElem?_eq_none h'] at hx; cases hx
    obtain ⟨j, hj⟩ := List.mem_iff_getElem?.1 h
    have hjk : j < k := by
      rcases Nat.lt_or_ge j k with h' | h'
      · exact h'
      · rw [List.getElem?_eq_none (by simp; omega)] at hj; cases hj
    rw [List.getElem?_take_of_lt hjk] at hj
    have h3 : order[j]? = order[k]? := by rw [hj, hx]
    rw [List.getElem?_eq_getElem (show j < order.length by omega), List.getElem?_eq_getElem hk] at h3
    exact List.pairwise_iff_getElem.1 hn j k (by omega) hk hjk (Option.some.inj h3)
  unfold ordB; rw [decide_eq_false hnd]; simp
theorem nodup_snoc {l : List Int} {k : Nat} {x : Int} (hx : l[k]? = some x) (h : (l.take k).Nodup) (h2 : x ∉ l.take k) : (l.take (k + 1)).Nodup := by
  rw [List.take_add_one, hx]
  simp only [Option.toList_some]
  rw [List.nodup_append]
  exact ⟨h, by simp, by intro a ha b hb; simp at hb; subst hb; intro he; subst he; exact h2 ha⟩

end Go.Proofs.YtmpdljcihiidaaaGreat
