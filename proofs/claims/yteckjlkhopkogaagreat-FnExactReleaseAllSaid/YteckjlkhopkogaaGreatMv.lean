/- Contracts: MoveLight, the program's side. -/
import Derived.Test.YteckjlkhopkogaaGreatMvP
import Derived.Test.YteckjlkhopkogaaGreatHd
namespace Go.Proofs.YteckjlkhopkogaaGreat
open Go.RowKit Go.PlainAid

theorem RtIn.isSm {w : World} {v : Value} {R : Int × List Int} (h : RtIn w v R) : R.2.length ≤ 1048576 := by
  obtain ⟨_, _, _, l, _, _, h3, rfl⟩ := h
  exact h3
theorem four_rows (w : World) (xs ys zs us : List Value) (t1 t2 t3 t4 : TypeId) : ∃ W4, W4 = (((w.alloc (.cells xs.toArray t1)).alloc (.cells ys.toArray t2)).alloc (.cells zs.toArray t3)).alloc (.cells us.toArray t4) ∧ W4.heap.size = w.heap.size + 1 + 1 + 1 + 1 ∧ Fresh w W4 ∧ RowAt W4 w.heap.size t1 xs ∧ RowAt W4 (w.heap.size + 1) t2 ys ∧ RowAt W4 (w.heap.size + 1 + 1) t3 zs ∧ RowAt W4 (w.heap.size + 1 + 1 + 1) t4 us := by
  obtain ⟨W3, h3, hz, hf, a, b, c⟩ := three_rows w xs ys zs t1 t2 t3
  refine ⟨_, rfl, by simp, ?_, ?_, ?_, ?_, ?_⟩ <;> rw [← h3]
  · exact fnew hf _
  · exact a.alloc _
  · exact b.alloc _
  · exact c.alloc _
  · have := RowAt.new W3 t4 us
    rwa [hz] at this
theorem set_row {l : List LL} {sp : List Value} {i : Nat} (x : LL) (hi : i < l.length) : spl (l.flatMap llC ++ sp) (i * 5) (llC x) = (l.set i x).flatMap llC ++ sp := by
  have hl5 : (l.flatMap llC).length = l.length * 5 := flat_len llC 5 (fun _ => rfl) l
  have ht5 : ((l.take i).flatMap llC).length = i * 5 := by rw [flat_len llC 5 (fun _ => rfl)]; simp; omega
  have hx5 : (llC x).length = 5 := rfl
  have e1 : l.flatMap llC = (l.take i).flatMap llC ++ (llC l[i] ++ (l.drop (i + 1)).flatMap llC) := by
    have h : l = l.take i ++ l[i] :: l.drop (i + 1) := by rw [List.getElem_cons_drop, List.take_append_drop]
    have h2 : l.flatMap llC = (l.take i ++ l[i] :: l.drop (i + 1)).flatMap llC := congrArg (fun z => z.flatMap llC) h
    rw [h2, List.flatMap_append, List.flatMap_cons]
  have e2 : (l.set i x).flatMap llC = (l.take i).flatMap llC ++ (llC x ++ (l.drop (i + 1)).flatMap llC) := by
    rw [List.set_eq_take_append_cons_drop, if_pos hi, List.flatMap_append, List.flatMap_cons]
  have hy5 : (llC l[i]).length = 5 := rfl
  have hd5 : ((l.drop (i + 1)).flatMap llC).length = (l.length - (i + 1)) * 5 := by rw [flat_len llC 5 (fun _ => rfl)]; simp
  apply List.ext_getElem?
  intro t
  have r1 := get3 (C := (l.drop (i + 1)).flatMap llC ++ sp) ht5 hx5 t
  have r2 := get3 (C := (l.drop (i + 1)).flatMap llC ++ sp) ht5 hy5 t
  rw [e2]
  simp only [List.append_assoc] at r1 r2 ⊢
  rw [r1]
  rcases Nat.lt_or_ge t (i * 5) with h | h
  · rw [spl_out _ _ _ _ (Or.inl h), if_pos h, e1]
    simp only [List.append_assoc]
    rw [r2, if_pos h]
  · rcases Nat.lt_or_ge t (i * 5 + 5) with h2 | h2
    · have := spl_in (llC x) (i * 5) (l.flatMap llC ++ sp) (t - i * 5) (by omega) (by rw [List.length_append]; omega)
      rw [show i * 5 + (t - i * 5) = t by omega] at this
      rw [this, if_neg (by omega), if_pos h2]
    · rw [spl_out _ _ _ _ (Or.inr (by omega)), if_neg (by omega), if_neg (by omega), e1]
      simp only [List.append_assoc]
      rw [r2, if_neg (by omega), if_neg (by omega)]
theorem DistL.set {l : List LL} (h : DistL l) (i : Nat) {x : LL} (hx : ∀ y ∈ l, ∀ g o h' o', x.r.q = some ⟨g, o, none⟩ → y.r.q = some ⟨h', o', none⟩ → g ≠ h') : DistL (l.set i x) := by
  intro a b y z hab hy hz g o h' o' e1 e2
  rw [List.getElem?_set] at hy hz
  split at hy
  · next ha =>
    split at hy
    · cases hy
      split at hz
      · next hb => omega
      · exact hx z (List.mem_of_getElem? hz) g o h' o' e1 e2
    · cases hy
  · split at hz
    · split at hz
      · cases hz
        exact (hx y (List.mem_of_getElem? hy) h' o' g o e2 e1).symm
      · cases hz
    · exact h a b y z hab hy hz g o h' o' e1 e2
theorem map_setL {α β : Type} (f : α → β) (l : List α) (i : Nat) (x : α) : (l.set i x).map f = (l.map f).set i (f x) := by rw [List.map_set]
theorem mem_setL {α : Type} {l : List α} {i : Nat} {x y : α} (h : y ∈ l.set i x) : y ∈ l ∨ y = x := List.mem_or_eq_of_mem_set h
theorem Own.blk2 {w : World} {base : Nat} {t : TypeId} {q : Option Addr} {xs : List Value} (h : Own w base t q xs) : ∀ g o, q = some ⟨g, o, none⟩ → base ≤ g ∧ g < w.heap.size := by
  intro g o e
  rcases h with ⟨h0, _⟩ | ⟨b, sp, h1, h2, h3⟩
  · rw [h0] at e; cases e
  · rw [h1] at e; cases e; exact ⟨h2, h3.lt⟩
theorem kq5 {w1 w2 : World} {a b d : Nat} {v v0 v1 v2 v3 : Value} (h : w1.cell? ⟨a, 2, none⟩ = some v ∧ w1.cell? ⟨b, 0, none⟩ = some v0 ∧ w1.cell? ⟨b, 1, none⟩ = some v1 ∧ w1.cell? ⟨d, 0, none⟩ = some v2 ∧ w1.cell? ⟨d, 1, none⟩ = some v3) (hb : Fresh w1 w2) :
    w2.cell? ⟨a, 2, none⟩ = some v ∧ w2.cell? ⟨b, 0, none⟩ = some v0 ∧ w2.cell? ⟨b, 1, none⟩ = some v1 ∧ w2.cell? ⟨d, 0, none⟩ = some v2 ∧ w2.cell? ⟨d, 1, none⟩ = some v3 :=
  ⟨fkeep hb h.1, fkeep hb h.2.1, fkeep hb h.2.2.1, fkeep hb h.2.2.2.1, fkeep hb h.2.2.2.2⟩
end Go.Proofs.YteckjlkhopkogaaGreat
