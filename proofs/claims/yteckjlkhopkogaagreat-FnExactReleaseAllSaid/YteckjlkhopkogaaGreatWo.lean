/- Contracts: a plan without one of its lights, the program's side. -/
import Derived.Test.YteckjlkhopkogaaGreatDl2
namespace Go.Proofs.YteckjlkhopkogaaGreat
open Go.RowKit Go.PlainAid

theorem DistL.erase {l : List LL} (h : DistL l) (i : Nat) : DistL (l.eraseIdx i) := by
  intro a b x y hab hx hy g o h' o' e1 e2
  rw [List.getElem?_eraseIdx] at hx hy
  have key : (if a < i then a else a + 1) ≠ (if b < i then b else b + 1) := by split <;> split <;> omega
  refine h _ _ x y key ?_ ?_ g o h' o' e1 e2
  · split at hx
    · next hlt => rw [if_pos hlt]; exact hx
    · next hge => rw [if_neg hge]; exact hx
  · split at hy
    · next hlt => rw [if_pos hlt]; exact hy
    · next hge => rw [if_neg hge]; exact hy
theorem map_erase {α β : Type} (f : α → β) (l : List α) (i : Nat) : (l.eraseIdx i).map f = (l.map f).eraseIdx i := by
  rw [List.eraseIdx_eq_take_drop_succ, List.eraseIdx_eq_take_drop_succ, List.map_append, List.map_take, List.map_drop]
theorem mem_erase {α : Type} {l : List α} {i : Nat} {x : α} (h : x ∈ l.eraseIdx i) : x ∈ l := List.mem_of_mem_eraseIdx h
/-- Rows of other types than the one that has changed. -/
theorem Own.ne {w w' : World} {base g : Nat} {t T : TypeId} {q : Option Addr} {xs cs : List Value} (h : Own w base t q xs) (hr : RowAt w g T cs) (hT : t ≠ T) (hk : ∀ h t cs, RowAt w h t cs → h ≠ g → RowAt w' h t cs) : Own w' base t q xs := by
  rcases h with h | ⟨b, sp, h1, h2, h3⟩
  · exact Or.inl h
  · exact Or.inr ⟨b, sp, h1, h2, hk _ _ _ h3 fun e => by subst e; exact hT (h3.inj hr).1⟩
end Go.Proofs.YteckjlkhopkogaaGreat
