/- Contracts: one light taken out of a row of the call's own (slices.Delete). -/
import Derived.Test.YteckjlkhopkogaaGreatPc6
import Derived.Deep.RegionLaw
import Derived.Lib.SliceRun
namespace Go.Proofs.YteckjlkhopkogaaGreat
open Go.RowKit Go.PlainAid

/-- Cells laid over a row's own, from a place on. -/
def spl (cs : List Value) : Nat → List Value → List Value
  | _, [] => cs
  | o, v :: r => spl (cs.set o v) (o + 1) r
theorem spl_len (vs : List Value) : ∀ (o : Nat) (cs : List Value), (spl cs o vs).length = cs.length := by
  induction vs with
  | nil => intro o cs; rfl
  | cons v r ih => intro o cs; show (spl (cs.set o v) (o + 1) r).length = _; rw [ih]; simp
theorem spl_out (vs : List Value) : ∀ (o : Nat) (cs : List Value) (t : Nat), (t < o ∨ o + vs.length ≤ t) → (spl cs o vs)[t]? = cs[t]? := by
  induction vs with
  | nil => intro o cs t _; rfl
  | cons v r ih =>
    intro o cs t h
    show (spl (cs.set o v) (o + 1) r)[t]? = _
    simp only [List.length_cons] at h
    rw [ih (o + 1) _ t (by omega), List.getElem?_set_ne (by omega)]
theorem spl_in (vs : List Value) : ∀ (o : Nat) (cs : List Value) (j : Nat), j < vs.length → o + vs.length ≤ cs.length → (spl cs o vs)[o + j]? = vs[j]? := by
  induction vs with
  | nil => intro o cs j hj _; simp at hj
  | cons v r ih =>
    intro o cs j hj hl
    show (spl (cs.set o v) (o + 1) r)[o + j]? = _
    simp only [List.length_cons] at hj hl
    cases j with
    | zero =>
      rw [spl_out r (o + 1) _ (o + 0) (by omega), Nat.add_zero, List.getElem?_set, if_pos rfl, if_pos (by omega)]; rfl
    | succ j =>
      have := ih (o + 1) (cs.set o v) j (by omega) (by simp; omega)
      rw [show o + (j + 1) = o + 1 + j by omega, this]; rfl
theorem row_setCells (g : Nat) (t : TypeId) (vs : List Value) : ∀ (o : Nat) (w : World) (cs : List Value), RowAt w g t cs → RowAt (w.setCells g o vs) g t (spl cs o vs) := by
  induction vs with
  | nil => intro o w cs h; exact h
  | cons v r ih => intro o w cs h; exact ih (o + 1) _ _ (h.set o v)
theorem row_setCells_ne (g : Nat) (vs : List Value) : ∀ (o : Nat) (w : World) {h : Nat} {t : TypeId} {cs : List Value}, RowAt w h t cs → h ≠ g → RowAt (w.setCells g o vs) h t cs := by
  induction vs with
  | nil => intro o w h t cs hr _; exact hr
  | cons v r ih => intro o w h t cs hr hne; exact ih (o + 1) _ (hr.setOther hne _) hne
theorem fresh_setCells {w0 : World} (g : Nat) (hg : w0.heap.size ≤ g) (vs : List Value) : ∀ (o : Nat) (w : World), Fresh w0 w → Fresh w0 (w.setCells g o vs) := by
  induction vs with
  | nil => intro o w h; exact h
  | cons v r ih => intro o w h; exact ih (o + 1) _ (fset h hg _)
abbrev zLt5 : List Value := [.int .i64 0, .int .i64 0, .slice none 0 0, .int .i64 0, .int .i64 0]
theorem erase_split {l : List LL} {i : Nat} : (l.eraseIdx i).flatMap llC = (l.take i).flatMap llC ++ (l.drop (i + 1)).flatMap llC := by
  rw [List.eraseIdx_eq_take_drop_succ, List.flatMap_append]
/-- What the row holds when the lights behind the i-th have moved. -/
theorem del_row {l : List LL} {sp : List Value} {i : Nat} (hi : i < l.length) : ∃ sp', spl (spl (l.flatMap llC ++ sp) (i * 5) ((l.drop (i + 1)).flatMap llC)) ((l.length - 1) * 5) zLt5 = (l.eraseIdx i).flatMap llC ++ sp' := by
  have hl5 : (l.flatMap llC).length = l.length * 5 := flat_len llC 5 (fun _ => rfl) l
  have ht5 : ((l.take i).flatMap llC).length = i * 5 := by rw [flat_len llC 5 (fun _ => rfl)]; simp; omega
  have hd5 : ((l.drop (i + 1)).flatMap llC).length = (l.length - (i + 1)) * 5 := by rw [flat_len llC 5 (fun _ => rfl)]; simp
  have he5 : ((l.eraseIdx i).flatMap llC).length = (l.length - 1) * 5 := by rw [erase_split, List.length_append, ht5, hd5]; omega
  refine ⟨(spl (spl (l.flatMap llC ++ sp) (i * 5) ((l.drop (i + 1)).flatMap llC)) ((l.length - 1) * 5) zLt5).drop ((l.length - 1) * 5), ?_⟩
  apply List.ext_getElem?
  intro t
  rcases Nat.lt_or_ge t ((l.length - 1) * 5) with h | h
  · rw [List.getElem?_append_left (by omega), spl_out _ _ _ _ (Or.inl h), erase_split]
    rcases Nat.lt_or_ge t (i * 5) with h2 | h2
    · rw [spl_out _ _ _ _ (Or.inl h2), List.getElem?_append_left (by omega), List.getElem?_append_left (by omega)]
      have e : l.flatMap llC = (l.take i).flatMap llC ++ (l.drop i).flatMap llC := by rw [← List.flatMap_append, List.take_append_drop]
      rw [e, List.getElem?_append_left (by omega)]
    · rw [List.getElem?_append_right (by omega), ht5]
      have := spl_in ((l.drop (i + 1)).flatMap llC) (i * 5) (l.flatMap llC ++ sp) (t - i * 5) (by omega) (by rw [List.length_append]; omega)
      rw [show i * 5 + (t - i * 5) = t by omega] at this
      exact this
  · rw [List.getElem?_append_right (by omega), he5, List.getElem?_drop]
    congr 1; omega
theorem run_clear_lt (w : World) (ty : TypeId) (g o c : Nat) (hc : ∀ j, j < 5 → (w.cell? ⟨g, o + j, none⟩).isSome = true) (hf : ∀ j, j < 5 → w.frozen? ⟨g, o + j, none⟩ = false) :
    (Builtin.clear_ #[36] ty #[.slice (some ⟨g, o, none⟩) 1 c]).run Tryz.prog w = .ok (.tuple #[]) (w.setCells g o zLt5) := by
  obtain ⟨i0, hi, hz0, hz1, hz2⟩ := info_parts infoLt
  have hst := run_storeCells_cells (P := Tryz.prog) g o zLt5 0 w (by simpa using hc) (by simpa using hf) (by intro v hv; simp at hv; rcases hv with rfl | rfl | rfl | rfl | rfl <;> rfl)
  simp only [Nat.add_zero] at hst
  have hv : ∀ w, (zeroValue 94).run Tryz.prog w = .ok (.agg #[iv 0, iv 0, .slice none 0 0, iv 0, iv 0]) w := by
    intro w
    simp [zeroValue, typeInfo, hi, hz0]
  have hzc : (Builtin.zeroCells (Value.agg #[iv 0, iv 0, .slice none 0 0, iv 0, iv 0]).cells 1).toList = zLt5 := by
    simp [Builtin.zeroCells, Value.cells]
    apply List.ext_getElem
    · simp
    · intro i h1 h2
      simp at h1 h2
      match i, h1 with
      | 0, _ => simp
      | 1, _ => simp
      | 2, _ => simp
      | 3, _ => simp
      | 4, _ => simp
  simp [Builtin.clear_, run_underlying Tryz.underlying36, hv, hzc, hst]
end Go.Proofs.YteckjlkhopkogaaGreat
