/- Small general lemmas (no program in sight): what a call leaves of old memory, ranges as Bool functions, slices that read as lists. -/
import Derived.Test.YtkafmhgnbfofjaaRows
import Derived.WalkKit
import Derived.WalkSpells
import Derived.WalkLawsBesides
import Derived.Deep.QuietTactic
import Derived.BigQuiet
import Derived.BigGuardPart
import Derived.Lib.Hide
import Derived.Deep.WholeRow
namespace Go.Proofs.Ytkafmhgnbfofjaa
open Go.RowKit

theorem bcell {W w1 : World} (hb : Below W.heap.size W w1) : (∀ b o, b < W.heap.size → w1.cell? ⟨b, o, none⟩ = W.cell? ⟨b, o, none⟩) ∧ (∀ b o, b < W.heap.size → w1.frozen? ⟨b, o, none⟩ = W.frozen? ⟨b, o, none⟩) :=
  ⟨fun b o h => hb.cell (p := ⟨b, o, none⟩) h, fun b o h => hb.frozen (p := ⟨b, o, none⟩) h⟩

/-- Below the heap's size at the start the world has not turned. -/
abbrev Fresh (w w' : World) : Prop := Below w.heap.size w w'
theorem fstep {w a b : World} (h : Fresh w a) (k : Fresh a b) : Fresh w b := h.trans (k.mono h.size)
theorem fnew {w a : World} (h : Fresh w a) (o : Obj) : Fresh w (a.alloc o) := h.alloc h.size o
theorem frefl (w : World) : Fresh w w := Below.refl _ _
theorem fset {w a : World} (h : Fresh w a) {b o : Nat} (hp : w.heap.size ≤ b) (u : Value) : Fresh w (a.setCell ⟨b, o, none⟩ u) := h.setCell hp u
theorem fdrewN {w a : World} (h : Fresh w a) (n : Nat) : Fresh w (a.drewN n) := h.trans ⟨rfl, rfl, rfl, Nat.le_refl _, fun _ _ => rfl⟩
theorem fdrew {w a : World} (h : Fresh w a) : Fresh w a.drew := h.drew

/-- A variable that was boxed ahead of a call reads behind it as before. -/
theorem box {w w1 : World} {cs : Array Value} {t : TypeId} (h : Fresh (w.alloc (.cells cs t)) w1) (o : Nat) {v : Value} (hv : cs[o]? = some v) : w1.cell? ⟨w.heap.size, o, none⟩ = some v := by
  rw [h.cell (p := ⟨w.heap.size, o, none⟩) (by simp)]
  unfold World.cell?
  rw [heap_alloc_last]
  simpa using hv
theorem boxsize {w w1 : World} {o : Obj} (h : Fresh (w.alloc o) w1) : w.heap.size < w1.heap.size := by have := h.size; simp at this; omega
theorem fcell {w w1 : World} (h : Fresh w w1) {b o : Nat} {v : Value} (hb : b < w.heap.size) (hv : w.cell? ⟨b, o, none⟩ = some v) : w1.cell? ⟨b, o, none⟩ = some v := by
  rw [h.cell (p := ⟨b, o, none⟩) hb]; exact hv
/-- A cell that is there lies below the heap's size. -/
theorem fkeep {w w1 : World} (h : Fresh w w1) {b o : Nat} {v : Value} (hv : w.cell? ⟨b, o, none⟩ = some v) : w1.cell? ⟨b, o, none⟩ = some v :=
  fcell h (World.block_lt_of_cell? w ⟨b, o, none⟩ hv) hv
theorem ret_bool {a b : Bool} (h : a = b) : Ending.returned (.bool a) = .returned (.bool b) := by rw [h]
theorem ret_int {k : IntKind} {a b : Int} (h : a = b) : Ending.returned (.int k a) = .returned (.int k b) := by rw [h]

def inB (x a b : Int) : Bool := decide (a ≤ x ∧ x ≤ b)
theorem inB_t {x a b : Int} (h1 : a ≤ x) (h2 : x ≤ b) : inB x a b = true := by simp [inB, h1, h2]
theorem inB_f {x a b : Int} (h : ¬ (a ≤ x ∧ x ≤ b)) : inB x a b = false := by simp only [inB, decide_eq_false_iff_not]; exact h
theorem inB_iff {x a b : Int} : inB x a b = true ↔ a ≤ x ∧ x ≤ b := by simp [inB]

end Go.Proofs.Ytkafmhgnbfofjaa
