/- Routes that came in, opened cell by cell. -/
import Derived.Test.YtjlhjkdmpngkbaaOpen
import Derived.Test.YtjlhjkdmpngkbaaLoc
import Derived.Deep.Strs
namespace Go.Proofs.Ytjlhjkdmpngkbaa
open Go.RowKit Go.ChangeShapes Go.WideShapes Go.ChangeAt Go.Joins

instance : Inhabited LR := ⟨⟨0, none, 0, []⟩⟩
theorem cells_is : Try.prog.cellsOf 69 = 1 := by kernel_rfl
theorem cells_rt : Try.prog.cellsOf 71 = 2 := by kernel_rfl
section
variable {H : Type} {enc : TypeId × Value → H}
set_option maxRecDepth 100000 in
theorem ints_of_cells {W : World} {fuel : Nat} {cs : List Value} {x : DataW H × List MemPlace} (hfu : DataW.trod enc Try.prog W 0 (fun _ => true) true fuel 69 cs = some x) :
    ∃ (q : Option Addr) (cap : Nat) (l : List Int), cs = [.slice q l.length cap] ∧ Ints W q l ∧ l.length ≤ 9223372036854775807 := by
  obtain ⟨q, cap, l, h1, h2, h3, h4, _⟩ := slice_of_cells (fun n : Int => [iv n]) In64 Try.underlying69 cells_i (by omega) (fun _ => rfl) (fun fuel cs x hx => by
    obtain ⟨n, rfl, _, hw⟩ := DataW.trod_int Try.underlying3 hx
    exact ⟨n, rfl, bounds_i64 hw⟩) hfu
  refine ⟨q, cap, l, h1, ?_, by omega⟩
  unfold Ints
  have e : l.map iv = l.flatMap fun x : Int => [iv x] := flat_one _ _
  rw [e]; exact h2
set_option maxRecDepth 100000 in
theorem route_of_cells {W : World} {fuel : Nat} {cs : List Value} {x : DataW H × List MemPlace} (h : DataW.trod enc Try.prog W 0 (fun _ => true) true fuel 71 cs = some x) :
    ∃ a : LR, cs = lrC a ∧ Ints W a.q a.fibs ∧ a.fibs.length ≤ 9223372036854775807 := by
  obtain ⟨y0, y1, k, _, hlen, h0, h1⟩ := trod_struct2 Try.underlying71 h
  rw [cells_rt] at hlen
  match cs, hlen with
  | [u0, u1], _ =>
    have h0' : DataW.trod enc Try.prog W 0 (fun _ => true) true k 3 [u0] = some y0 := by
      have := h0; simp only at this; rw [cells_i] at this; exact this
    have h1' : DataW.trod enc Try.prog W 0 (fun _ => true) true k 69 [u1] = some y1 := by
      have := h1; simp only at this; rw [cells_is] at this; exact this
    obtain ⟨s, e0, _, _⟩ := DataW.trod_int Try.underlying3 h0'
    obtain ⟨q, cap, l, e1, hI, hn⟩ := ints_of_cells h1'
    cases e0; cases e1
    exact ⟨⟨s, q, cap, l⟩, rfl, hI, hn⟩
end
end Go.Proofs.Ytjlhjkdmpngkbaa
