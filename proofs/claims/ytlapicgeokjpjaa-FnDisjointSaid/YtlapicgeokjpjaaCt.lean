/- Contracts: the number of pairs of routes, the program's side. -/
import Derived.Test.YtlapicgeokjpjaaPr
namespace Go.Proofs.Ytlapicgeokjpjaa
open Go.RowKit Go.PlainAid

def okK (n : Net) (s t k : Int) : Bool := okA n s t && kindB k
/-- The pairs of routes, by their places. -/
def pairsF (n : Net) (s t k : Int) : List (Nat × Nat) := toI (dP n s (allR n s t) k) (allR n s t).length (allR n s t).length
def countF (n : Net) (s t k : Int) : Int × Bool := if okK n s t k then (((pairsF n s t k).length : Int), true) else (0, false)
theorem rowI_len (d : Nat → Nat → Bool) (i k : Nat) : (rowI d i k).length ≤ k := by
  unfold rowI
  rw [List.length_map]
  exact Nat.le_trans (List.length_filter_le _ _) (by simp)
theorem toI_len (d : Nat → Nat → Bool) (N i : Nat) : (toI d N i).length ≤ i * N := by
  induction i with
  | zero => simp [toI]
  | succ i ih =>
    rw [toI_succ, List.length_append]
    have := rowI_len d i N
    rw [Nat.succ_mul]; omega
theorem okA_len {n : Net} {s t : Int} (h : okA n s t = true) : (allR n s t).length ≤ 200 ∧ allA n s t = allR n s t := by
  refine ⟨?_, by unfold allA; rw [h]; rfl⟩
  unfold okA at h
  simp only [Bool.and_eq_true, decide_eq_true_eq] at h
  exact h.2
theorem pairsF_len {n : Net} {s t k : Int} (h : okA n s t = true) : (pairsF n s t k).length ≤ 40000 := by
  have h1 := (okA_len h).1
  refine Nat.le_trans (toI_len _ _ _) ?_
  exact Nat.le_trans (Nat.mul_le_mul h1 h1) (by decide)
theorem kindB_in {k : Int} (h : kindB k = true) : 1 ≤ k ∧ k ≤ 3 := inB_iff.1 h
theorem rts_good {n : Net} {s t : Int} {l : List LR} (h : l.map LR.val = allR n s t) : ∀ x ∈ l, x.start = s ∧ RtGood n s t x.fibs := fun x hx => good_mem (by rw [← h]; exact List.mem_map_of_mem (f := LR.val) hx)
def OutF (n : Net) (s t k : Int) (w : World) (e : Ending) (w' : World) : Prop := ∃ (V : Value) (l : List LR), e = .returned (.tuple #[V, .bool (okK n s t k)]) ∧ Rts w' w.heap.size V l ∧ l.map LR.val = allA n s t ∧ Fresh w w'
/-- The counting call's own variable. -/
def InvC (w0 : World) (bx : Nat) (L : List (Nat × Nat)) (w : World) : Prop := Fresh w0 w ∧ RowAt w bx 3 [.int .i64 (wrap64 (L.length : Int))]
end Go.Proofs.Ytlapicgeokjpjaa
