/- Disjoint routes: the plain law (no program in sight). -/
import Derived.Test.YtlcppdbpajdnlaaGreatRe5
import Derived.Test.YtlcppdbpajdnlaaGreatGrP
namespace Go.Proofs.YtlcppdbpajdnlaaGreat
open Go.RowKit

/-- An element of both lists, the first and the last of the first one apart. -/
def shareB (x y : List Int) : Bool := (x.drop 1).dropLast.any fun i => decide (i ∈ y)
def nodesR (n : Net) (s : Int) (a : List Int) : List Int := (walkR n.fibers s a).getD []
def disjB (n : Net) (s : Int) (a b : List Int) (k : Int) : Bool := if k = 2 then apartF n.fibers a b else !usesB a b && (k == 1 || !shareB (nodesR n s a) (nodesR n s b))
/-- A route of a network between two nodes. -/
def RtGood (n : Net) (s t : Int) (a : List Int) : Prop := a ≠ [] ∧ ∃ out, walkR n.fibers s a = some out ∧ lastI out = t
theorem risk_ok {n : Net} (h : netB n = true) : RiskOk n.fibers := by
  intro f hf
  have := (net_at h).2.2 f hf
  unfold fibB at this
  simp only [Bool.and_eq_true, inB_iff] at this
  exact this.2
theorem compact_nodup {zs : List Int} (h : zs.Nodup) : Lib.compact zs = zs := by
  refine Lib.compact_all zs fun j hj => ?_
  unfold Lib.keeps
  simp only [decide_eq_true_eq]
  rcases Nat.eq_zero_or_pos j with h0 | h0
  · left; exact h0
  · right
    simp only [List.getElem!_toArray]
    rw [List.getElem!_eq_getElem?_getD, List.getElem!_eq_getElem?_getD, List.getElem?_eq_getElem hj, List.getElem?_eq_getElem (show j - 1 < zs.length by omega)]
    simp only [Option.getD_some]
    intro e
    exact List.pairwise_iff_getElem.1 h (j - 1) j (by omega) hj (by omega) e.symm
theorem common_nodup {x y : List Int} (h : x.Nodup) : (commonF x y).length = (x.filter fun k => decide (k ∈ y)).length := by
  unfold commonF
  have hn : (sortI (x.filter fun k => decide (k ∈ y))).Nodup := by
    unfold sortI
    exact (List.Perm.nodup_iff (List.mergeSort_perm _ _)).2 (h.filter _)
  rw [compact_nodup hn, sortI_len]
theorem common_zero (a b : List Int) : (((commonF a b).length : Int) == 0) = !usesB a b := by
  have := common_pos a b
  cases hu : usesB a b <;> rw [hu] at this
  · simp only [decide_eq_false_iff_not] at this
    rw [Bool.not_false, beq_iff_eq]; omega
  · simp only [decide_eq_true_eq] at this
    rw [Bool.not_true, beq_eq_false_iff_ne]; omega
theorem common_two {x y : List Int} {s t : Int} (hx : x.Nodup) (h2 : 2 ≤ x.length) (hs : x.head? = some s) (ht : lastI x = t) (sy : s ∈ y) (ty : t ∈ y) : (((commonF x y).length : Int) == 2) = !shareB x y := by
  rw [common_nodup hx]
  match x, hx, h2, hs, ht with
  | a :: l, _, h2, hs, ht =>
    simp only [List.head?_cons, Option.some.injEq] at hs
    subst hs
    have hl : l ≠ [] := by intro e; subst e; simp at h2
    have e : l = l.dropLast ++ [l.getLast hl] := (List.dropLast_concat_getLast hl).symm
    have htl : l.getLast hl = t := by
      rw [← ht]; unfold lastI
      rw [List.getLast?_eq_some_getLast (by simp), List.getLast_cons hl]; rfl
    rw [htl] at e
    unfold shareB
    simp only [List.drop_succ_cons, List.drop_zero]
    have hc : ((a :: l).filter fun k => decide (k ∈ y)).length = (l.dropLast.filter fun k => decide (k ∈ y)).length + 2 := by
      rw [List.filter_cons_of_pos (by simpa using sy)]
      conv => lhs; rw [e]
      rw [List.filter_append, List.length_cons, List.length_append, List.filter_cons_of_pos (by simpa using ty)]
      simp
    rw [hc]
    cases ha : l.dropLast.any fun i => decide (i ∈ y)
    · have : (l.dropLast.filter fun k => decide (k ∈ y)) = [] := by
        rw [List.filter_eq_nil_iff]
        intro z hz
        rw [List.any_eq_false] at ha
        exact ha z hz
      rw [this]; rfl
    · rw [List.any_eq_true] at ha
      obtain ⟨z, hz, hzy⟩ := ha
      have hpos : 0 < (l.dropLast.filter fun k => decide (k ∈ y)).length := List.length_pos_of_mem (List.mem_filter.2 ⟨hz, hzy⟩)
      rw [Bool.not_true, beq_eq_false_iff_ne]
      omega
theorem walk_head {F : List Fib} {s : Int} : ∀ {l out : List Int}, walkR F s l = some out → out.head? = some s := by
  intro l
  induction hn : l.length generalizing l with
  | zero =>
    intro out h
    have : l = [] := List.eq_nil_of_length_eq_zero hn
    subst this
    simp only [walkR, List.foldl_nil, Option.some.injEq] at h
    subst h; rfl
  | succ n ih =>
    intro out h
    have hne : l ≠ [] := by intro e; subst e; simp at hn
    have hl : l = l.dropLast ++ [l.getLast hne] := (List.dropLast_concat_getLast hne).symm
    rw [hl, walkR_snoc] at h
    cases hw : walkR F s l.dropLast with
    | none => rw [hw] at h; cases h
    | some o =>
      rw [hw] at h
      have h1 := ih (l := l.dropLast) (by simp [hn]) hw
      simp only [Option.bind_some] at h
      unfold stepR at h
      split at h
      · split at h
        · split at h
          · cases h
          · simp only [Option.some.injEq] at h
            rw [← h, List.head?_append, h1]; rfl
        · cases h
      · cases h
theorem last_mem {l : List Int} (h : l ≠ []) : lastI l ∈ l := by
  unfold lastI
  rw [List.getLast?_eq_some_getLast h]
  exact List.getLast_mem h
theorem nodes_at {n : Net} {s t : Int} {a : List Int} (hn : netB n = true) (hs : 0 ≤ s ∧ s < (n.nodes.length : Int)) (h : RtGood n s t a) :
    walkR n.fibers s a = some (nodesR n s a) ∧ (nodesR n s a).Nodup ∧ (nodesR n s a).length = a.length + 1 ∧ (nodesR n s a).length ≤ 8 ∧ 2 ≤ (nodesR n s a).length ∧ (nodesR n s a).head? = some s ∧ lastI (nodesR n s a) = t ∧ s ∈ nodesR n s a ∧ t ∈ nodesR n s a := by
  obtain ⟨h0, out, h1, h2⟩ := h
  have e : nodesR n s a = out := by unfold nodesR; rw [h1]; rfl
  rw [e]
  obtain ⟨a1, a2, a3⟩ := wkIn (net_fib hn) hs h1
  have h8 := nodup_le a1 a2
  have hN := (net_at hn).1
  have hl : 0 < a.length := List.length_pos_iff.2 h0
  have hh := walk_head h1
  have hne : out ≠ [] := by intro e; rw [e] at a3; simp at a3
  exact ⟨h1, a1, a3, by omega, by omega, hh, h2, List.mem_of_mem_head? (by rw [hh]; rfl), by rw [← h2]; exact last_mem hne⟩
theorem disj_two {n : Net} {s t : Int} {a b : List Int} (hn : netB n = true) (hs : 0 ≤ s ∧ s < (n.nodes.length : Int)) (ha : RtGood n s t a) (hb : RtGood n s t b) : (((commonF (nodesR n s a) (nodesR n s b)).length : Int) == 2) = !shareB (nodesR n s a) (nodesR n s b) := by
  obtain ⟨_, a2, _, _, a5, a6, a7, _, _⟩ := nodes_at hn hs ha
  obtain ⟨_, _, _, _, _, _, _, b8, b9⟩ := nodes_at hn hs hb
  exact common_two a2 a5 a6 a7 b8 b9
theorem rt_ok {n : Net} {s t : Int} {a : List Int} (hn : netB n = true) (hs : 0 ≤ s ∧ s < (n.nodes.length : Int)) (h : RtGood n s t a) : RtOk n a := by
  obtain ⟨a1, _, a3, a4, _⟩ := nodes_at hn hs h
  exact ⟨walk_idx a1, by omega⟩
theorem good_mem {n : Net} {s t : Int} {R : Int × List Int} (h : R ∈ allR n s t) : R.1 = s ∧ RtGood n s t R.2 := by
  obtain ⟨h1, h2, out, h3, h4⟩ := rawR_mem (allR_mem.1 h)
  exact ⟨h1, h2, out, h3, h4⟩
end Go.Proofs.YtlcppdbpajdnlaaGreat
