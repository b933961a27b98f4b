/- Contracts: the best pair of routes, the reference's side. -/
import Derived.Test.YtlapicgeokjpjaaBp3
namespace Go.Proofs.Ytlapicgeokjpjaa
open Go.RowKit Go.PlainAid

theorem two_res {w : World} {A B : Nat} {t : TypeId} {u0 u1 u2 u3 : Value} (hA : RowAt w A t [u0, u1]) (hB : RowAt w B t [u2, u3]) (hne : A ≠ B) (a0 a1 b0 b1 : Value) :
    (w.cell? ⟨A, 0, none⟩ = some u0 ∧ w.cell? ⟨A, 1, none⟩ = some u1 ∧ w.frozen? ⟨A, 0, none⟩ = false ∧ w.frozen? ⟨A, 1, none⟩ = false) ∧
    (((w.setCell ⟨A, 0, none⟩ a0).setCell ⟨A, 1, none⟩ a1).cell? ⟨B, 0, none⟩ = some u2 ∧ ((w.setCell ⟨A, 0, none⟩ a0).setCell ⟨A, 1, none⟩ a1).cell? ⟨B, 1, none⟩ = some u3 ∧ ((w.setCell ⟨A, 0, none⟩ a0).setCell ⟨A, 1, none⟩ a1).frozen? ⟨B, 0, none⟩ = false ∧ ((w.setCell ⟨A, 0, none⟩ a0).setCell ⟨A, 1, none⟩ a1).frozen? ⟨B, 1, none⟩ = false) ∧
    ((((w.setCell ⟨A, 0, none⟩ a0).setCell ⟨A, 1, none⟩ a1).setCell ⟨B, 0, none⟩ b0).setCell ⟨B, 1, none⟩ b1).cell? ⟨A, 0, none⟩ = some a0 ∧ ((((w.setCell ⟨A, 0, none⟩ a0).setCell ⟨A, 1, none⟩ a1).setCell ⟨B, 0, none⟩ b0).setCell ⟨B, 1, none⟩ b1).cell? ⟨A, 1, none⟩ = some a1 ∧
    ((((w.setCell ⟨A, 0, none⟩ a0).setCell ⟨A, 1, none⟩ a1).setCell ⟨B, 0, none⟩ b0).setCell ⟨B, 1, none⟩ b1).cell? ⟨B, 0, none⟩ = some b0 ∧ ((((w.setCell ⟨A, 0, none⟩ a0).setCell ⟨A, 1, none⟩ a1).setCell ⟨B, 0, none⟩ b0).setCell ⟨B, 1, none⟩ b1).cell? ⟨B, 1, none⟩ = some b1 := by
  have hB' := (hB.setOther (Ne.symm hne) (o := 0) a0).setOther (Ne.symm hne) (o := 1) a1
  have hA' := (((hA.set 0 a0).set 1 a1).setOther hne (o := 0) b0).setOther hne (o := 1) b1
  have hB2 := (hB'.set 0 b0).set 1 b1
  exact ⟨⟨hA.cell rfl, hA.cell rfl, hA.frozen 0, hA.frozen 1⟩, ⟨hB'.cell rfl, hB'.cell rfl, hB'.frozen 0, hB'.frozen 1⟩, hA'.cell rfl, hA'.cell rfl, hB2.cell rfl, hB2.cell rfl⟩
/-- What the reference's loop over the pairs knows. -/
def LpB (S : Nat × Nat → Int) (P : List (Nat × Nat)) (j : Nat) (b m : Int) : Prop := (bestQ S (P.take j) = none ∧ b = -1 ∧ m = 0) ∨ ∃ (t : Nat) (z : Nat × Nat), t < j ∧ P[t]? = some z ∧ bestQ S (P.take j) = some z ∧ b = (t : Int) ∧ m = S z
theorem LpB.zero (S : Nat × Nat → Int) (P : List (Nat × Nat)) : LpB S P 0 (-1) 0 := Or.inl ⟨rfl, rfl, rfl⟩
theorem LpB.take {S : Nat × Nat → Int} {P : List (Nat × Nat)} {j : Nat} {b m : Int} {x : Nat × Nat} (h : LpB S P j b m) (hx : P[j]? = some x) (hc : b < 0 ∨ S x < m) : LpB S P (j + 1) (j : Int) (S x) := by
  refine Or.inr ⟨j, x, by omega, hx, ?_, rfl, rfl⟩
  rw [List.take_add_one, hx]
  show bestQ S (P.take j ++ [x]) = some x
  rw [bestQ_snoc]
  rcases h with ⟨e, _, _⟩ | ⟨t, z, _, _, e, hb, hm⟩
  · rw [e]; rfl
  · rw [e]
    unfold bst
    have : S x < S z := by omega
    simp only [if_pos this]
theorem LpB.skip {S : Nat × Nat → Int} {P : List (Nat × Nat)} {j : Nat} {b m : Int} {x : Nat × Nat} (h : LpB S P j b m) (hx : P[j]? = some x) (hc : ¬ (b < 0 ∨ S x < m)) : LpB S P (j + 1) b m := by
  rcases h with ⟨e, hb, _⟩ | ⟨t, z, ht, hz, e, hb, hm⟩
  · exfalso; omega
  · refine Or.inr ⟨t, z, by omega, hz, ?_, hb, hm⟩
    rw [List.take_add_one, hx]
    show bestQ S (P.take j ++ [x]) = some z
    rw [bestQ_snoc, e]
    unfold bst
    have : ¬ S x < S z := by omega
    simp only [if_neg this]
theorem LpB.bd {S : Nat × Nat → Int} {P : List (Nat × Nat)} {j : Nat} {b m : Int} (h : LpB S P j b m) : b = -1 ∨ (0 ≤ b ∧ b < (j : Int)) := by
  rcases h with ⟨_, hb, _⟩ | ⟨t, z, ht, _, _, hb, _⟩ <;> omega
theorem outBp_zero {n : Net} {s t k : Int} {w w' : World} {b : Bool} (h : bestF n s t k = ((0, []), (0, []), false, b)) (hf : Fresh w w') : OutBp n s t k w (.returned (.tuple #[.agg #[.int .i64 0, .slice none 0 0], .agg #[.int .i64 0, .slice none 0 0], .bool false, .bool b])) w' :=
  ⟨_, _, by rw [h], ⟨by rw [h]; exact rt_zero _ _, by rw [h]; exact rt_zero _ _, apart_zero⟩, hf⟩
end Go.Proofs.Ytlapicgeokjpjaa
