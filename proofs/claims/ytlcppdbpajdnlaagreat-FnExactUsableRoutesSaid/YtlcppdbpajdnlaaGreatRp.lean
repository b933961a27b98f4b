/- Results of pairs ([][2]int): compared, marked, asked again. -/
import Derived.Test.YtlcppdbpajdnlaaGreatU1
import Derived.Test.YtlcppdbpajdnlaaGreatU4
namespace Go.Proofs.YtlcppdbpajdnlaaGreat
open Go.RowKit Go.PlainAid

/-- The pairs of numbers from k on. -/
def marks2 (k : Int) (n : Nat) : List (Int × Int) := (List.range n).map fun (j : Nat) => (k + 2 * (j : Int), k + 2 * (j : Int) + 1)
theorem marks2_len (k : Int) (n : Nat) : (marks2 k n).length = n := by simp [marks2]
theorem marks2_succ (k : Int) (n : Nat) : marks2 k (n + 1) = marks2 k n ++ [(k + 2 * (n : Int), k + 2 * (n : Int) + 1)] := by simp [marks2, List.range_succ]
theorem marks2_get {k : Int} {n j : Nat} {x y : Int} (h : (marks2 k n)[j]? = some (x, y)) : x = k + 2 * (j : Int) ∧ y = k + 2 * (j : Int) + 1 := by
  have hj : j < n := by
    rcases Nat.lt_or_ge j n with h' | h'
    · exact h'
    · rw [List.getElem?_eq_none (by rw [marks2_len]; exact h')] at h; cases h
  simp [marks2, hj] at h
  exact ⟨h.1.symm, h.2.symm⟩
theorem set_marks2 (k : Int) (l : List (Int × Int)) (sp : List Value) (j : Nat) (hj : j < l.length) (u v : Int) (hu : u = k + 2 * (j : Int)) (hv : v = k + 2 * (j : Int) + 1) :
    (((pcs (marks2 k j ++ l.drop j) ++ sp).set (j * 2) (iv u)).set (j * 2 + 1) (iv v)) = pcs (marks2 k (j + 1) ++ l.drop (j + 1)) ++ sp := by
  subst hu hv
  have hl : (pcs (marks2 k j)).length = j * 2 := by rw [pcs_len, marks2_len]
  rw [List.drop_eq_getElem_cons hj, pcs_app, pcs_cons, List.append_assoc, List.set_append, if_neg (by omega), hl, Nat.sub_self, List.cons_append, List.set_cons_zero, List.set_append, if_neg (by omega), hl]
  have e : j * 2 + 1 - j * 2 = 0 + 1 := by omega
  rw [e, List.set_cons_succ, List.cons_append, List.set_cons_zero, marks2_succ, pcs_app, pcs_app, pcs_cons, pcs_nil]
  simp
theorem get_marks2 (k : Int) (l : List (Int × Int)) (sp : List Value) (j : Nat) (hj : j < l.length) :
    (pcs (marks2 k j ++ l.drop j) ++ sp)[j * 2]? = some (iv l[j].1) ∧ (pcs (marks2 k j ++ l.drop j) ++ sp)[j * 2 + 1]? = some (iv l[j].2) := by
  have hx : (marks2 k j ++ l.drop j)[j]? = some (l[j].1, l[j].2) := by
    rw [List.getElem?_append_right (by rw [marks2_len]; omega), marks2_len, Nat.sub_self, List.getElem?_drop]
    simp [hj]
  have hlen : (pcs (marks2 k j ++ l.drop j)).length = (j + (l.length - j)) * 2 := by rw [pcs_len]; simp [marks2_len]
  obtain ⟨h1, h2⟩ := pcs_get hx
  exact ⟨by rw [List.getElem?_append_left (by omega)]; exact h1, by rw [List.getElem?_append_left (by omega)]; exact h2⟩

def updA (C : List Value) (j : Nat) (a b : Int) : Nat → List Value
  | 0 => C
  | 1 => C.set (j * 2) (iv a)
  | _ => (C.set (j * 2) (iv a)).set (j * 2 + 1) (iv b)
end Go.Proofs.YtlcppdbpajdnlaaGreat
