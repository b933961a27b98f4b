/- Plain: the usable routes of a demand with their slots. -/
import Derived.Test.YtlcppdbpajdnlaaGreatAl2
import Derived.Test.YtlcppdbpajdnlaaGreatDjP
import Derived.Test.YtlcppdbpajdnlaaGreatFq
namespace Go.Proofs.YtlcppdbpajdnlaaGreat
open Go.RowKit

/-- A format that reaches far enough is one of the list's. -/
theorem bestTo_reach (l : List (Int × Int)) (n : Int) : ∀ k, k ≤ l.length → 0 ≤ bestTo l n k → ∃ (i : Nat) (x y : Int), i < k ∧ l[i]? = some (x, y) ∧ n ≤ x
  | 0, _, h => by simp [bestTo] at h
  | k + 1, hk, h => by
    obtain ⟨x, y, hx⟩ : ∃ x y, l[k]? = some (x, y) := ⟨l[k].1, l[k].2, by simp [show k < l.length by omega]⟩
    by_cases hn : n ≤ x
    · exact ⟨k, x, y, by omega, hx, hn⟩
    · rw [bestTo_no hx hn] at h
      obtain ⟨i, x', y', h1, h2, h3⟩ := bestTo_reach l n k (by omega) h
      exact ⟨i, x', y', by omega, h2, h3⟩
theorem fmts_reach {l : List (Int × Int)} (h : fmtsB l = true) {i : Nat} {x y : Int} (hx : l[i]? = some (x, y)) : 1 ≤ x ∧ x ≤ 20000 := by
  unfold fmtsB at h
  rw [Bool.and_eq_true, List.all_eq_true] at h
  have hlt : i < l.length := (List.getElem?_eq_some_iff.1 hx).1
  have hk := h.1 i (List.mem_range.2 hlt)
  simp only [okAt, hx, Bool.and_eq_true] at hk
  exact inB_iff.1 hk.1.1
theorem slotsN_far {l : List (Int × Int)} {n r : Int} (h : fmtsB l = true) (hn : 20000 < n) : slotsN l n r = 0 := by
  refine slotsN_none ?_
  by_cases hb : bestI l n < 0
  · exact hb
  · obtain ⟨i, x, y, _, hx, hle⟩ := bestTo_reach l n l.length (Nat.le_refl _) (by show 0 ≤ bestI l n; omega)
    have := fmts_reach h hx
    omega
theorem slotsF_all {l : List (Int × Int)} {n r : Int} (h : fmtsB l = true) (hn : 0 ≤ n) (hr : inB r 1 1000 = true) : slotsF l n r = (slotsN l n r, !(slotsN l n r == 0)) := by
  by_cases hfar : n ≤ 20000
  · have hi : inB n 0 20000 = true := inB_iff.2 ⟨hn, hfar⟩
    by_cases hz : slotsN l n r = 0
    · rw [slotsF_zero hz, hz]; rfl
    · rw [slotsF_yes (by rw [h, hi, hr]; rfl) hz]; simp [hz]
  · have hz := slotsN_far (r := r) h (by omega : 20000 < n)
    rw [slotsF_zero hz, hz]; rfl
abbrev ChV := (Int × List Int) × Int
def useS (n : Net) (fm : List (Int × Int)) (r : Int) (R : Int × List Int) : Int := slotsN fm (lenR n.fibers R.2) r
def usL (n : Net) (fm : List (Int × Int)) (r : Int) (l : List (Int × List Int)) : List ChV := (l.filter fun R => !(useS n fm r R == 0)).map fun R => (R, useS n fm r R)
theorem usL_no {n : Net} {fm : List (Int × Int)} {r : Int} {l : List (Int × List Int)} {R : Int × List Int} (h : useS n fm r R = 0) : usL n fm r (l ++ [R]) = usL n fm r l := by
  unfold usL
  rw [List.filter_append]
  simp [h]
theorem usL_yes {n : Net} {fm : List (Int × Int)} {r : Int} {l : List (Int × List Int)} {R : Int × List Int} (h : ¬ useS n fm r R = 0) : usL n fm r (l ++ [R]) = usL n fm r l ++ [(R, useS n fm r R)] := by
  unfold usL
  rw [List.filter_append]
  simp [h]
theorem usL_len (n : Net) (fm : List (Int × Int)) (r : Int) (l : List (Int × List Int)) : (usL n fm r l).length ≤ l.length := by
  unfold usL
  rw [List.length_map]
  exact List.length_filter_le _ _
theorem usL_mem {n : Net} {fm : List (Int × Int)} {r : Int} {l : List (Int × List Int)} {c : ChV} (hf : fmtsB fm = true) (hr : 1 ≤ r) (h : c ∈ usL n fm r l) : c.1 ∈ l ∧ 1 ≤ c.2 ∧ c.2 ≤ 24 := by
  unfold usL at h
  obtain ⟨R, hR, rfl⟩ := List.mem_map.1 h
  obtain ⟨h1, h2⟩ := List.mem_filter.1 hR
  have h3 : useS n fm r R ≠ 0 := by simpa using h2
  exact ⟨h1, slotsN_pos hf hr h3⟩
def usB (n : Net) (fm : List (Int × Int)) (d : Fib) : Bool := netB n && fmtsB fm && demB n.nodes.length d
def usOk (n : Net) (fm : List (Int × Int)) (d : Fib) : Bool := usB n fm d && okA n d.a d.b
def usF (n : Net) (fm : List (Int × Int)) (d : Fib) : List ChV × Bool := if usOk n fm d then (usL n fm d.len (allR n d.a d.b), true) else ([], false)
theorem usF_no {n : Net} {fm : List (Int × Int)} {d : Fib} (h : usOk n fm d = false) : usF n fm d = ([], false) := by unfold usF; rw [h]; rfl
theorem usF_yes {n : Net} {fm : List (Int × Int)} {d : Fib} (h : usOk n fm d = true) : usF n fm d = (usL n fm d.len (allR n d.a d.b), true) := by unfold usF; rw [h]; rfl
theorem usB_at {n : Net} {fm : List (Int × Int)} {d : Fib} (h : usB n fm d = true) : netB n = true ∧ fmtsB fm = true ∧ demB n.nodes.length d = true ∧ 1 ≤ d.len ∧ d.len ≤ 1000 ∧ (0 ≤ d.a ∧ d.a < (n.nodes.length : Int)) ∧ (0 ≤ d.b ∧ d.b < (n.nodes.length : Int)) ∧ d.a ≠ d.b := by
  unfold usB at h
  simp only [Bool.and_eq_true] at h
  obtain ⟨⟨h1, h2⟩, h3⟩ := h
  have h4 := h3
  unfold demB at h4
  simp only [Bool.and_eq_true, inB_iff] at h4
  obtain ⟨⟨⟨⟨a1, a2⟩, a3⟩, a4⟩, a5⟩ := h4
  have a3' : ¬ d.a = d.b := by simpa using a3
  exact ⟨h1, h2, h3, by omega, by omega, by omega, by omega, a3'⟩
theorem usB_pair {n : Net} {fm : List (Int × Int)} {d : Fib} (h : usB n fm d = true) : pairB n d.a d.b = true := by
  obtain ⟨h1, _, _, _, _, h2, h3, h4⟩ := usB_at h
  unfold pairB
  rw [h1, inB_iff.2 ⟨h2.1, by omega⟩, inB_iff.2 ⟨h3.1, by omega⟩]
  simp [h4]
theorem dem_one (n : Net) (d : Fib) : demsB n [d] = (netB n && demB n.nodes.length d) := by simp [demsB]
theorem usF_len (n : Net) (fm : List (Int × Int)) (d : Fib) : (usF n fm d).1.length ≤ 200 := by
  cases h : usOk n fm d
  · rw [usF_no h]; simp
  · rw [usF_yes h]
    have h2 := usL_len n fm d.len (allR n d.a d.b)
    unfold usOk okA at h
    simp only [Bool.and_eq_true, decide_eq_true_eq] at h
    have := h.2.2
    show (usL n fm d.len (allR n d.a d.b)).length ≤ 200
    omega
end Go.Proofs.YtlcppdbpajdnlaaGreat
