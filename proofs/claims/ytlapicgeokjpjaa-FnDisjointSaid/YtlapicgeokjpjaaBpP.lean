/- The best pair of routes: the plain law (no program in sight). -/
import Derived.Test.YtlapicgeokjpjaaCt2
namespace Go.Proofs.Ytlapicgeokjpjaa
open Go.RowKit

def bst (S : Nat × Nat → Int) (b : Option (Nat × Nat)) (x : Nat × Nat) : Option (Nat × Nat) := match b with
  | none => some x
  | some y => if S x < S y then some x else some y
/-- The first of the pairs with the least sum. -/
def bestQ (S : Nat × Nat → Int) (L : List (Nat × Nat)) : Option (Nat × Nat) := L.foldl (bst S) none
theorem bestQ_snoc (S : Nat × Nat → Int) (L : List (Nat × Nat)) (x : Nat × Nat) : bestQ S (L ++ [x]) = bst S (bestQ S L) x := by unfold bestQ; rw [List.foldl_append]; rfl
theorem bst_some (S : Nat × Nat → Int) (b : Option (Nat × Nat)) (x : Nat × Nat) : ∃ y, bst S b x = some y ∧ (y = x ∨ b = some y) := by
  unfold bst
  cases b with
  | none => exact ⟨x, rfl, Or.inl rfl⟩
  | some y =>
    by_cases h : S x < S y
    · exact ⟨x, by simp only [if_pos h], Or.inl rfl⟩
    · exact ⟨y, by simp only [if_neg h], Or.inr rfl⟩
theorem bestQ_mem {S : Nat × Nat → Int} : ∀ {L : List (Nat × Nat)} {y : Nat × Nat}, bestQ S L = some y → y ∈ L := by
  intro L
  induction hn : L.length generalizing L with
  | zero =>
    intro y h
    have : L = [] := List.eq_nil_of_length_eq_zero hn
    subst this; cases h
  | succ n ih =>
    intro y h
    have hne : L ≠ [] := by intro e; subst e; simp at hn
    have hl : L = L.dropLast ++ [L.getLast hne] := (List.dropLast_concat_getLast hne).symm
    rw [hl, bestQ_snoc] at h
    obtain ⟨z, hz, ho⟩ := bst_some S (bestQ S L.dropLast) (L.getLast hne)
    rw [hz] at h
    cases h
    rw [hl]
    rcases ho with rfl | ho
    · simp
    · exact List.mem_append_left _ (ih (by simp [hn]) ho)
theorem bestQ_none {S : Nat × Nat → Int} {L : List (Nat × Nat)} (h : bestQ S L = none) : L = [] := by
  rcases List.eq_nil_or_concat L with h1 | ⟨K, x, h1⟩
  · exact h1
  · rw [h1, List.concat_eq_append, bestQ_snoc] at h
    obtain ⟨z, hz, _⟩ := bst_some S (bestQ S K) x
    rw [hz] at h; cases h
/-- The two routes' length. -/
def sumP (n : Net) (A : List (Int × List Int)) (x : Nat × Nat) : Int := lenR n.fibers ((A[x.1]?).getD (0, [])).2 + lenR n.fibers ((A[x.2]?).getD (0, [])).2
theorem sumP_at {n : Net} {l : List LR} {i k : Nat} {x y : LR} (hx : l[i]? = some x) (hy : l[k]? = some y) : sumP n (l.map LR.val) (i, k) = lenR n.fibers x.fibs + lenR n.fibers y.fibs := by
  unfold sumP; rw [List.getElem?_map, List.getElem?_map, hx, hy]; rfl
def bestP (n : Net) (s t k : Int) : Option (Nat × Nat) := bestQ (sumP n (allR n s t)) (pairsF n s t k)
/-- What is handed back: two routes, whether there is a pair, whether the call is good. -/
def bestF (n : Net) (s t k : Int) : (Int × List Int) × (Int × List Int) × Bool × Bool :=
  if okK n s t k then match bestP n s t k with
    | some x => (((allR n s t)[x.1]?).getD (0, []), ((allR n s t)[x.2]?).getD (0, []), true, true)
    | none => ((0, []), (0, []), false, true)
  else ((0, []), (0, []), false, false)
end Go.Proofs.Ytlapicgeokjpjaa
