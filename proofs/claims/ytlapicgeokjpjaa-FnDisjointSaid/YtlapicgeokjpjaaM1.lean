/- Texts of mine laid together (Rp, Rk2, Fq). -/
import Derived.Test.YtlapicgeokjpjaaU1
import Derived.Test.YtlapicgeokjpjaaU4
import Derived.StillTailTactics
import Derived.Deep.RegionHeld3
/- Results of pairs ([][2]int): compared, marked, asked again. -/
namespace Go.Proofs.Ytlapicgeokjpjaa
open Go.RowKit Go.PlainAid

/-- The pairs of numbers from k on. -/
def marks2 (k : Int) (n : Nat) : List (Int × Int) := (List.range n).map fun (j : Nat) => (k + 2 * (j : Int), k + 2 * (j : Int) + 1)
theorem marks2_len (k : Int) (n : Nat) : (marks2 k n).length = n := by simp [marks2]
theorem marks2_succ (k : Int) (n : Nat) : marks2 k (n + 1) = marks2 k n ++ [(k + 2 * (n : Int), k + 2 * (n : Int) + 1)] := by simp [marks2, List.range_succ]
theorem marks2_get {k : Int} {n j : Nat} {x y : Int} (h : (marks2 k n)[j]? = some (x, y)) : x = k + 2 * (j : Int) ∧ y = k + 2 * (j : Int) + 1 := by
  have hj : j < n := by
    rcases Nat.lt_or_ge j n with h' | h'
    · exact h'
    · rw [List.getElem?_eq_none (by rw [marks2_len]; exact h')] at h; cases h
  simp [marks2, hj] at h
  exact ⟨h.1.symm, h.2.symm⟩
theorem set_marks2 (k : Int) (l : List (Int × Int)) (sp : List Value) (j : Nat) (hj : j < l.length) (u v : Int) (hu : u = k + 2 * (j : Int)) (hv : v = k + 2 * (j : Int) + 1) :
    (((pcs (marks2 k j ++ l.drop j) ++ sp).set (j * 2) (iv u)).set (j * 2 + 1) (iv v)) = pcs (marks2 k (j + 1) ++ l.drop (j + 1)) ++ sp := by
  subst hu hv
  have hl : (pcs (marks2 k j)).length = j * 2 := by rw [pcs_len, marks2_len]
  rw [List.drop_eq_getElem_cons hj, pcs_app, pcs_cons, List.append_assoc, List.set_append, if_neg (by omega), hl, Nat.sub_self, List.cons_append, List.set_cons_zero, List.set_append, if_neg (by omega), hl]
  have e : j * 2 + 1 - j * 2 = 0 + 1 := by omega
  rw [e, List.set_cons_succ, List.cons_append, List.set_cons_zero, marks2_succ, pcs_app, pcs_app, pcs_cons, pcs_nil]
  simp
theorem get_marks2 (k : Int) (l : List (Int × Int)) (sp : List Value) (j : Nat) (hj : j < l.length) :
    (pcs (marks2 k j ++ l.drop j) ++ sp)[j * 2]? = some (iv l[j].1) ∧ (pcs (marks2 k j ++ l.drop j) ++ sp)[j * 2 + 1]? = some (iv l[j].2) := by
  have hx : (marks2 k j ++ l.drop j)[j]? = some (l[j].1, l[j].2) := by
    rw [List.getElem?_append_right (by rw [marks2_len]; omega), marks2_len, Nat.sub_self, List.getElem?_drop]
    simp [hj]
  have hlen : (pcs (marks2 k j ++ l.drop j)).length = (j + (l.length - j)) * 2 := by rw [pcs_len]; simp [marks2_len]
  obtain ⟨h1, h2⟩ := pcs_get hx
  exact ⟨by rw [List.getElem?_append_left (by omega)]; exact h1, by rw [List.getElem?_append_left (by omega)]; exact h2⟩

def updA (C : List Value) (j : Nat) (a b : Int) : Nat → List Value
  | 0 => C
  | 1 => C.set (j * 2) (iv a)
  | _ => (C.set (j * 2) (iv a)).set (j * 2 + 1) (iv b)
end Go.Proofs.Ytlapicgeokjpjaa

/- Contracts: a result that is a list of blocks, compared, marked, asked again. -/
namespace Go.Proofs.Ytlapicgeokjpjaa
open Go.RowKit Go.PlainAid

end Go.Proofs.Ytlapicgeokjpjaa

/- Contracts: lists of formats, on top of the joined texts. (Laid together by gen_fq.py.) -/
namespace Go.Proofs.Ytlapicgeokjpjaa
open Go.RowKit

/-- Format k of a list is in range, and in order behind the one ahead of it. -/
def okAt (l : List (Int × Int)) (k : Nat) : Bool :=
  match l[k]? with
  | none => false
  | some (x, y) => (inB x 1 20000 && inB y 1 1000) && (decide (k = 0) || (match l[k - 1]? with | none => false | some (u, v) => decide (x < u) && decide (v < y)))
theorem okAt_range {l : List (Int × Int)} {k : Nat} {x y : Int} (hx : l[k]? = some (x, y)) (h : (inB x 1 20000 && inB y 1 1000) = false) : okAt l k = false := by simp only [okAt, hx, h, Bool.false_and]
theorem okAt_first {l : List (Int × Int)} {k : Nat} {x y : Int} (hx : l[k]? = some (x, y)) (h : (inB x 1 20000 && inB y 1 1000) = true) (hk : k = 0) : okAt l k = true := by
  have h0 : decide (k = 0) = true := decide_eq_true hk
  simp only [okAt, hx, h, h0, Bool.true_or, Bool.and_self]
theorem okAt_next {l : List (Int × Int)} {k : Nat} {x y u v : Int} (hx : l[k]? = some (x, y)) (hp : l[k - 1]? = some (u, v)) (h : (inB x 1 20000 && inB y 1 1000) = true) (hk : 0 < k) : okAt l k = (decide (x < u) && decide (v < y)) := by
  have : k ≠ 0 := by omega
  simp [okAt, hx, hp, h, this]
/-- A list of formats is valid. -/
def fmtsB (l : List (Int × Int)) : Bool := (List.range l.length).all (okAt l) && inB l.length 1 6
theorem fmtsB_bad {l : List (Int × Int)} {k : Nat} (hk : k < l.length) (h : okAt l k = false) : fmtsB l = false := by
  unfold fmtsB
  have : (List.range l.length).all (okAt l) = false := by rw [List.all_eq_false]; exact ⟨k, List.mem_range.2 hk, by simp [h]⟩
  rw [this, Bool.false_and]
theorem fmtsB_end {l : List (Int × Int)} (h : ∀ j, j < l.length → okAt l j = true) : fmtsB l = inB l.length 1 6 := by
  unfold fmtsB
  have : (List.range l.length).all (okAt l) = true := by rw [List.all_eq_true]; intro j hj; exact h j (List.mem_range.1 hj)
  rw [this, Bool.true_and]
theorem fmtsB_long {l : List (Int × Int)} (h : 6 < l.length) : fmtsB l = false := by
  unfold fmtsB; rw [inB_f (by omega), Bool.and_false]
theorem okStep {l : List (Int × Int)} {k : Nat} (h : ∀ j, j < k → okAt l j = true) (hk : okAt l k = true) : ∀ j, j < k + 1 → okAt l j = true := by
  intro j hj
  rcases Nat.lt_or_ge j k with h' | h'
  · exact h j h'
  · have : j = k := by omega
    subst this; exact hk
theorem l1In_qf (x a b : Int) (w : World) (n : Nat) : Calls Try.prog 42 #[.int .i64 x, .int .i64 a, .int .i64 b] (w.drewN n) fun e w' => e = .returned (.bool (inB x a b)) ∧ w' = w.drewN n :=
  (l1In_any x a b _).mono fun _ _ ⟨h1, h2⟩ => ⟨h1, h2.symm⟩
theorem within_qf (x a b : Int) (w : World) (n : Nat) : Calls Try.prog 39 #[.int .i64 x, .int .i64 a, .int .i64 b] (w.drewN n) fun e w' => e = .returned (.bool (inB x a b)) ∧ w' = w.drewN n :=
  (within_any x a b _).mono fun _ _ ⟨h1, h2⟩ => ⟨h1, h2.symm⟩
theorem prs_prev {w : World} {b off : Nat} {l : List (Int × Int)} (h : Prs w (some ⟨b, off, none⟩) l) {k : Nat} (hk : k < l.length) (h0 : 0 < k) :
    ∃ u v, l[k - 1]? = some (u, v) ∧ w.cell? ⟨b, off + (k - 1) * 2, none⟩ = some (.int .i64 u) ∧ w.cell? ⟨b, off + (k - 1) * 2 + 1, none⟩ = some (.int .i64 v) := by
  obtain ⟨b', off', u, v, he, hx, h1, h2⟩ := h.at (k := k - 1) (by omega)
  simp at he
  obtain ⟨rfl, rfl⟩ := he
  exact ⟨u, v, hx, h1, h2⟩
/-- The last of the first k formats whose reach is enough, or -1. -/
def bestTo (l : List (Int × Int)) (n : Int) : Nat → Int
  | 0 => -1
  | k + 1 => if n ≤ (l.getD k (0, 0)).1 then (k : Int) else bestTo l n k
def bestI (l : List (Int × Int)) (n : Int) : Int := bestTo l n l.length
theorem bestTo_yes {l : List (Int × Int)} {n : Int} {k : Nat} {x y : Int} (hx : l[k]? = some (x, y)) (h : n ≤ x) : bestTo l n (k + 1) = (k : Int) := by simp [bestTo, List.getD, hx, h]
theorem bestTo_no {l : List (Int × Int)} {n : Int} {k : Nat} {x y : Int} (hx : l[k]? = some (x, y)) (h : ¬ n ≤ x) : bestTo l n (k + 1) = bestTo l n k := by simp [bestTo, List.getD, hx, h]
theorem bestTo_bound (l : List (Int × Int)) (n : Int) : ∀ k, -1 ≤ bestTo l n k ∧ bestTo l n k < k := by
  intro k
  induction k with
  | zero => simp [bestTo]
  | succ k ih => unfold bestTo; split <;> omega
theorem bestI_bound (l : List (Int × Int)) (n : Int) : -1 ≤ bestI l n ∧ bestI l n < l.length := bestTo_bound l n l.length
def fmtFor (l : List (Int × Int)) (n : Int) : Int × Bool := if fmtsB l && inB n 0 20000 && decide (0 ≤ bestI l n) then (bestI l n, true) else (0, false)
theorem fmtFor_no {l : List (Int × Int)} {n : Int} (h : (fmtsB l && inB n 0 20000) = false) : fmtFor l n = (0, false) := by simp [fmtFor, h]
theorem fmtFor_none {l : List (Int × Int)} {n : Int} (h : bestI l n < 0) : fmtFor l n = (0, false) := by
  have : decide (0 ≤ bestI l n) = false := decide_eq_false (by omega)
  simp [fmtFor, this]
theorem fmtFor_yes {l : List (Int × Int)} {n : Int} (h : (fmtsB l && inB n 0 20000) = true) (hb : 0 ≤ bestI l n) : fmtFor l n = (bestI l n, true) := by simp [fmtFor, h, hb]
/-- The rate of format i. -/
def rateAt (l : List (Int × Int)) (i : Int) : Int := (l.getD i.toNat (0, 0)).2
theorem rateAt_range {l : List (Int × Int)} {i : Int} (h : fmtsB l = true) (h0 : 0 ≤ i) (h1 : i < l.length) : 1 ≤ rateAt l i ∧ rateAt l i ≤ 1000 := by
  unfold fmtsB at h
  rw [Bool.and_eq_true, List.all_eq_true] at h
  have hk := h.1 i.toNat (List.mem_range.2 (by omega))
  have hlt : i.toNat < l.length := by omega
  have hx : l[i.toNat]? = some l[i.toNat] := List.getElem?_eq_getElem hlt
  unfold rateAt
  simp only [List.getD, hx, Option.getD_some]
  simp only [okAt, hx, Bool.and_eq_true] at hk
  exact inB_iff.1 hk.1.2
/-- The slots for a rate on a length, or 0. -/
def slotsN (l : List (Int × Int)) (n r : Int) : Int :=
  if bestI l n < 0 then 0 else (if 24 < (r + rateAt l (bestI l n) - 1) / rateAt l (bestI l n) then 0 else (r + rateAt l (bestI l n) - 1) / rateAt l (bestI l n))
def slotsF (l : List (Int × Int)) (n r : Int) : Int × Bool := if ((fmtsB l && inB n 0 20000) && inB r 1 1000) && !(slotsN l n r == 0) then (slotsN l n r, true) else (0, false)
theorem slotsF_no {l : List (Int × Int)} {n r : Int} (h : ((fmtsB l && inB n 0 20000) && inB r 1 1000) = false) : slotsF l n r = (0, false) := by simp [slotsF, h]
theorem slotsF_zero {l : List (Int × Int)} {n r : Int} (h : slotsN l n r = 0) : slotsF l n r = (0, false) := by simp [slotsF, h]
theorem slotsF_yes {l : List (Int × Int)} {n r : Int} (h : ((fmtsB l && inB n 0 20000) && inB r 1 1000) = true) (hs : slotsN l n r ≠ 0) : slotsF l n r = (slotsN l n r, true) := by simp [slotsF, h, hs]
theorem slotsN_none {l : List (Int × Int)} {n r : Int} (h : bestI l n < 0) : slotsN l n r = 0 := by simp [slotsN, h]
theorem slotsN_many {l : List (Int × Int)} {n r : Int} (h : 24 < (r + rateAt l (bestI l n) - 1) / rateAt l (bestI l n)) : slotsN l n r = 0 := by simp [slotsN, h]
theorem slotsN_some {l : List (Int × Int)} {n r : Int} (h0 : ¬ bestI l n < 0) (h : ¬ 24 < (r + rateAt l (bestI l n) - 1) / rateAt l (bestI l n)) : slotsN l n r = (r + rateAt l (bestI l n) - 1) / rateAt l (bestI l n) := by
  unfold slotsN; rw [if_neg h0, if_neg h]
theorem quo_pos {r q : Int} (hr : 1 ≤ r) (hq : 1 ≤ q) : 1 ≤ (r + q - 1) / q := by
  apply Int.le_ediv_of_mul_le (by omega); omega
theorem prs_rate {w : World} {p : Option Addr} {l : List (Int × Int)} {i : Int} (h : Prs w p l) (h0 : 0 ≤ i) (h1 : i < l.length) :
    ∃ b off, p = some ⟨b, off, none⟩ ∧ w.cell? ⟨b, off + i.toNat * 2 + 1, none⟩ = some (.int .i64 (rateAt l i)) := by
  obtain ⟨b, off, x, y, hp, hx, _, hc⟩ := h.at (k := i.toNat) (by omega)
  refine ⟨b, off, hp, ?_⟩
  unfold rateAt
  simp only [List.getD, hx, Option.getD_some]
  exact hc
theorem slotsN_pos {l : List (Int × Int)} {n r : Int} (hv : fmtsB l = true) (hr : 1 ≤ r) (h : slotsN l n r ≠ 0) : 1 ≤ slotsN l n r ∧ slotsN l n r ≤ 24 := by
  unfold slotsN at *
  split at h
  · exact absurd rfl h
  · rename_i h0
    split at h
    · exact absurd rfl h
    · rename_i h1
      rw [if_neg h0, if_neg h1]
      have hb := bestI_bound l n
      exact ⟨quo_pos hr (rateAt_range hv (by omega) hb.2).1, by omega⟩
end Go.Proofs.Ytlapicgeokjpjaa

