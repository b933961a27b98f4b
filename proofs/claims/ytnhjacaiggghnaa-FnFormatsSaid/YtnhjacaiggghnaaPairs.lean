/- Slices of structs of two ints: what they read as, appending one, numbers laid into them. No program's function here. -/
import Derived.Test.YtnhjacaiggghnaaU1
import Derived.StillTailTactics
import Derived.Deep.RegionHeld3
namespace Go.Proofs.Ytnhjacaiggghnaa
open Go.RowKit

/-- The two cells of a pair. -/
def pc (b : Int × Int) : List Value := [iv b.1, iv b.2]
def pcs (l : List (Int × Int)) : List Value := l.flatMap pc
theorem pcs_nil : pcs [] = [] := rfl
theorem pcs_app (l r : List (Int × Int)) : pcs (l ++ r) = pcs l ++ pcs r := by simp [pcs]
theorem pcs_cons (b : Int × Int) (l : List (Int × Int)) : pcs (b :: l) = iv b.1 :: iv b.2 :: pcs l := rfl
theorem pcs_len (l : List (Int × Int)) : (pcs l).length = l.length * 2 := by
  induction l with
  | nil => rfl
  | cons b l ih => rw [pcs_cons, List.length_cons, List.length_cons, ih, List.length_cons]; omega
theorem pcs_get {l : List (Int × Int)} {k : Nat} {b : Int × Int} (h : l[k]? = some b) : (pcs l)[k * 2]? = some (iv b.1) ∧ (pcs l)[k * 2 + 1]? = some (iv b.2) := by
  induction l generalizing k with
  | nil => simp at h
  | cons c l ih =>
    rw [pcs_cons]
    cases k with
    | zero => simp at h; subst h; exact ⟨rfl, rfl⟩
    | succ k =>
      have h' : l[k]? = some b := by simpa using h
      have e : (k + 1) * 2 = k * 2 + 1 + 1 := by omega
      obtain ⟨i1, i2⟩ := ih h'
      rw [e]
      exact ⟨by rw [List.getElem?_cons_succ, List.getElem?_cons_succ]; exact i1, by rw [List.getElem?_cons_succ, List.getElem?_cons_succ]; exact i2⟩
/-- A slice of pairs. -/
def Prs (w : World) (p : Option Addr) (l : List (Int × Int)) : Prop := Cells w p (pcs l)
theorem Prs.keep {w w' : World} {p : Option Addr} {l : List (Int × Int)} (h : Prs w p l) (hb : Fresh w w') : Prs w' p l := Cells.keep h hb
theorem Prs.at {w : World} {p : Option Addr} {l : List (Int × Int)} (h : Prs w p l) {k : Nat} (hk : k < l.length) :
    ∃ b off x y, p = some ⟨b, off, none⟩ ∧ l[k]? = some (x, y) ∧ w.cell? ⟨b, off + k * 2, none⟩ = some (.int .i64 x) ∧ w.cell? ⟨b, off + k * 2 + 1, none⟩ = some (.int .i64 y) := by
  obtain ⟨b, off, rfl, hc⟩ := Cells.at h (k := 0) (by rw [pcs_len]; omega)
  have hx : l[k]? = some (l[k].1, l[k].2) := by simp [hk]
  obtain ⟨h1, h2⟩ := pcs_get hx
  exact ⟨b, off, l[k].1, l[k].2, rfl, hx, hc _ _ h1, by rw [Nat.add_assoc]; exact hc _ _ h2⟩
theorem Own.prs {w : World} {base : Nat} {t : TypeId} {p : Option Addr} {l : List (Int × Int)} (h : Own w base t p (pcs l)) : Prs w p l := h.cells

/-- One pair appended to a row of the call's own. -/
theorem wpList_app_prs {T E : TypeId} (hu : Try.prog.underlying T = some (.slice E)) (hinfo : (Try.prog.info? E).map (fun i => (i.zero, i.size, i.bytes)) = some (some (.agg #[.int .i64 0, .int .i64 0]), 2, 16))
    {ops : Array Oper} {rest : List Oper} {o : Oper} {a : Act} {Q : Exit → Act → World → Prop} (w0 w1 : World) (v : Value) (l : List (Int × Int)) (x y : Int) (hgd : o.guard = none) (s t : Operand)
    (ho : o.op = .call { callee := .builtin .append, args := #[s, t], argTypes := #[T, T] }) (hs : a.eval s = v) (hown : w1.ownsRow w0.heap.size E 2 v l.length (pcs l))
    (hx : a.eval t = .slice (some ⟨w1.heap.size, 0, none⟩) 1 1) (hn : l.length ≤ 1099511627776) (hf : Fresh w0 w1)
    (h : ∀ v' w', w'.ownsRow w0.heap.size E 2 v' (l ++ [(x, y)]).length (pcs (l ++ [(x, y)])) → Fresh w0 w' → wpList Try.prog ops Q rest (a.put o.dst v') w') :
    wpList Try.prog ops Q (o :: rest) a (w1.alloc (.cells #[.int .i64 x, .int .i64 y] E)) := by
  obtain ⟨i0, hi, hz0, hz1, hz2⟩ := info_parts hinfo
  refine wpList_append_own _ hgd s t T ho w0.heap.size E i0 (.agg #[.int .i64 0, .int .i64 0]) 2 16 hu hi hz0 hz1 hz2 rfl (by decide) v l.length (pcs l) hs (hown.alloc _) ⟨w1.heap.size, 0, none⟩ 1 1 [iv x, iv y] hx rfl (cell_two_new _ _ _ _)
    (by intro u hu; simp at hu; rcases hu with rfl | rfl <;> rfl) (by unfold maxLen; omega) (by omega) (Nat.le_trans hf.size (by simp)) ?_
  intro v' w' hown' hgrow _
  refine h v' w' ?_ (fgrown (fnew hf _) hgrow (own_block hown))
  rw [pcs_app, List.length_append]
  exact hown'

/-- The pairs of numbers from k on. -/
def marks2 (k : Int) (n : Nat) : List (Int × Int) := (List.range n).map fun (j : Nat) => (k + 2 * (j : Int), k + 2 * (j : Int) + 1)
theorem marks2_len (k : Int) (n : Nat) : (marks2 k n).length = n := by simp [marks2]
theorem marks2_succ (k : Int) (n : Nat) : marks2 k (n + 1) = marks2 k n ++ [(k + 2 * (n : Int), k + 2 * (n : Int) + 1)] := by simp [marks2, List.range_succ]
theorem marks2_get {k : Int} {n j : Nat} {x y : Int} (h : (marks2 k n)[j]? = some (x, y)) : x = k + 2 * (j : Int) ∧ y = k + 2 * (j : Int) + 1 := by
  have hj : j < n := by
    rcases Nat.lt_or_ge j n with h' | h'
    · exact h'
    · rw [List.getElem?_eq_none (by rw [marks2_len]; exact h')] at h; cases h
  simp [marks2, hj] at h
  exact ⟨h.1.symm, h.2.symm⟩
theorem set_marks2 (k : Int) (l : List (Int × Int)) (sp : List Value) (j : Nat) (hj : j < l.length) (u v : Int) (hu : u = k + 2 * (j : Int)) (hv : v = k + 2 * (j : Int) + 1) :
    (((pcs (marks2 k j ++ l.drop j) ++ sp).set (j * 2) (iv u)).set (j * 2 + 1) (iv v)) = pcs (marks2 k (j + 1) ++ l.drop (j + 1)) ++ sp := by
  subst hu hv
  have hl : (pcs (marks2 k j)).length = j * 2 := by rw [pcs_len, marks2_len]
  rw [List.drop_eq_getElem_cons hj, pcs_app, pcs_cons, List.append_assoc, List.set_append, if_neg (by omega), hl, Nat.sub_self, List.cons_append, List.set_cons_zero, List.set_append, if_neg (by omega), hl]
  have e : j * 2 + 1 - j * 2 = 0 + 1 := by omega
  rw [e, List.set_cons_succ, List.cons_append, List.set_cons_zero, marks2_succ, pcs_app, pcs_app, pcs_cons, pcs_nil]
  simp
theorem get_marks2 (k : Int) (l : List (Int × Int)) (sp : List Value) (j : Nat) (hj : j < l.length) :
    (pcs (marks2 k j ++ l.drop j) ++ sp)[j * 2]? = some (iv l[j].1) ∧ (pcs (marks2 k j ++ l.drop j) ++ sp)[j * 2 + 1]? = some (iv l[j].2) := by
  have hx : (marks2 k j ++ l.drop j)[j]? = some (l[j].1, l[j].2) := by
    rw [List.getElem?_append_right (by rw [marks2_len]; omega), marks2_len, Nat.sub_self, List.getElem?_drop]
    simp [hj]
  have hlen : (pcs (marks2 k j ++ l.drop j)).length = (j + (l.length - j)) * 2 := by rw [pcs_len]; simp [marks2_len]
  obtain ⟨h1, h2⟩ := pcs_get hx
  exact ⟨by rw [List.getElem?_append_left (by omega)]; exact h1, by rw [List.getElem?_append_left (by omega)]; exact h2⟩
end Go.Proofs.Ytnhjacaiggghnaa
