/- Contracts: all pairs of routes, the program's side (a function called with each). -/
import Derived.Test.YtlapicgeokjpjaaDj2
namespace Go.Proofs.Ytlapicgeokjpjaa
open Go.RowKit Go.PlainAid

def rowI (d : Nat → Nat → Bool) (i k : Nat) : List (Nat × Nat) := ((List.range k).filter fun m => decide (i < m) && d i m).map fun m => (i, m)
def toI (d : Nat → Nat → Bool) (N i : Nat) : List (Nat × Nat) := (List.range i).flatMap fun m => rowI d m N
theorem rowI_succ (d : Nat → Nat → Bool) (i k : Nat) : rowI d i (k + 1) = rowI d i k ++ if decide (i < k) && d i k then [(i, k)] else [] := by
  unfold rowI
  rw [List.range_succ, List.filter_append, List.map_append]
  congr 1
  cases h : decide (i < k) && d i k <;> simp only [List.filter_cons, h, List.filter_nil] <;> rfl
theorem rowI_low (d : Nat → Nat → Bool) (i : Nat) : rowI d i (i + 1) = [] := by
  unfold rowI
  rw [List.map_eq_nil_iff, List.filter_eq_nil_iff]
  intro m hm
  have := List.mem_range.1 hm
  simp; omega
theorem rowI_none {d : Nat → Nat → Bool} {i k : Nat} (h : d i k = false) : rowI d i (k + 1) = rowI d i k := by rw [rowI_succ, h]; simp
theorem rowI_some {d : Nat → Nat → Bool} {i k : Nat} (hi : i < k) (h : d i k = true) : rowI d i (k + 1) = rowI d i k ++ [(i, k)] := by rw [rowI_succ, h]; simp [hi]
theorem toI_succ (d : Nat → Nat → Bool) (N i : Nat) : toI d N (i + 1) = toI d N i ++ rowI d i N := by unfold toI; rw [List.range_succ, List.flatMap_append]; simp
def dP (n : Net) (s : Int) (A : List (Int × List Int)) (kind : Int) (i k : Nat) : Bool := match A[i]?, A[k]? with | some X, some Y => disjB n s X.2 Y.2 kind | _, _ => false
theorem dP_at {n : Net} {s kind : Int} {l : List LR} {i k : Nat} {x y : LR} (hx : l[i]? = some x) (hy : l[k]? = some y) : dP n s (l.map LR.val) kind i k = disjB n s x.fibs y.fibs kind := by
  unfold dP; rw [List.getElem?_map, List.getElem?_map, hx, hy]; rfl
/-- Rows below lo and from hi on stay. -/
def Kp (lo hi : Nat) (w w' : World) : Prop := ∀ g t cs, RowAt w g t cs → (g < lo ∨ hi ≤ g) → RowAt w' g t cs
theorem Kp.refl (lo hi : Nat) (w : World) : Kp lo hi w w := fun _ _ _ h _ => h
theorem Kp.trans {lo hi : Nat} {a b c : World} (h : Kp lo hi a b) (k : Kp lo hi b c) : Kp lo hi a c := fun g t cs hr n => k g t cs (h g t cs hr n) n
theorem Kp.fresh {lo hi : Nat} {a b : World} (h : Fresh a b) : Kp lo hi a b := fun _ _ _ hr _ => hr.keep h
theorem Kp.owns {lo hi base size n : Nat} {E : TypeId} {v : Value} {xs : List Value} {a b : World} (k : Kp lo hi a b) (h : a.ownsRow base E size v n xs) (hs : a.heap.size ≤ lo) : b.ownsRow base E size v n xs := by
  obtain ⟨hl, h | ⟨g, cap, cur, hv, hg, hh, r⟩⟩ := h
  · exact ⟨hl, Or.inl h⟩
  · have hr : RowAt a g E cur.toList := by unfold RowAt; rw [Array.toArray_toList]; exact hh
    have := k g E _ hr (Or.inl (Nat.lt_of_lt_of_le hr.lt hs))
    unfold RowAt at this
    rw [Array.toArray_toList] at this
    exact ⟨hl, Or.inr ⟨g, cap, cur, hv, hg, this, r⟩⟩
theorem Kp.own {lo hi base : Nat} {t : TypeId} {q : Option Addr} {xs : List Value} {a b : World} (k : Kp lo hi a b) (h : Own a base t q xs) (hs : a.heap.size ≤ lo) : Own b base t q xs := by
  rcases h with h | ⟨g, sp, h1, h2, h3⟩
  · exact Or.inl h
  · exact Or.inr ⟨g, sp, h1, h2, k _ _ _ h3 (Or.inl (Nat.lt_of_lt_of_le h3.lt hs))⟩
theorem Kp.rts {lo hi base : Nat} {V : Value} {l : List LR} {a b : World} (k : Kp lo hi a b) (h : Rts a base V l) (hs : a.heap.size ≤ lo) : Rts b base V l := ⟨k.owns h.row hs, fun x hx => k.own (h.fib x hx) hs, h.dist, h.cap⟩
end Go.Proofs.Ytlapicgeokjpjaa
