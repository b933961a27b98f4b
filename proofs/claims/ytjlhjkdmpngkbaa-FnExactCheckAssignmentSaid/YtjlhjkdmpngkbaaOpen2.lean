/- Requests that came in, opened cell by cell. -/
import Derived.Test.YtjlhjkdmpngkbaaOpenR
import Derived.Test.YtjlhjkdmpngkbaaReq
namespace Go.Proofs.Ytjlhjkdmpngkbaa
open Go.RowKit Go.ChangeShapes Go.WideShapes Go.ChangeAt Go.Joins

instance : Inhabited LQ := ⟨⟨default, 0⟩⟩
theorem cells_rq : Try.prog.cellsOf 126 = 3 := by kernel_rfl
section
variable {H : Type} {enc : TypeId × Value → H}
set_option maxRecDepth 100000 in
theorem req_of_cells {W : World} {fuel : Nat} {cs : List Value} {x : DataW H × List MemPlace} (h : DataW.trod enc Try.prog W 0 (fun _ => true) true fuel 126 cs = some x) :
    ∃ a : LQ, cs = lqC a ∧ (Ints W a.r.q a.r.fibs ∧ a.r.fibs.length ≤ 9223372036854775807) := by
  obtain ⟨y0, y1, k, _, hlen, h0, h1⟩ := trod_struct2 Try.underlying126 h
  rw [cells_rq] at hlen
  match cs, hlen with
  | [u0, u1, u2], _ =>
    have h0' : DataW.trod enc Try.prog W 0 (fun _ => true) true k 71 [u0, u1] = some y0 := by
      have := h0; simp only at this; rw [cells_rt] at this; exact this
    have h1' : DataW.trod enc Try.prog W 0 (fun _ => true) true k 3 [u2] = some y1 := by
      have := h1; simp only at this; rw [cells_i] at this; exact this
    obtain ⟨⟨s, q, cap, l⟩, e0, hI, hn⟩ := route_of_cells h0'
    obtain ⟨c, e1, _, _⟩ := DataW.trod_int Try.underlying3 h1'
    cases e0; cases e1
    exact ⟨⟨⟨s, q, cap, l⟩, c⟩, rfl, hI, hn⟩
set_option maxRecDepth 100000 in
theorem reqs_of_trod {W : World} {r : Reach} {b : Nat} {v : Value} {d : DataW H} {p : List MemPlace} (hok : Value.okWide Try.prog W r b 39 v) (h : DataW.Trod enc Try.prog W 0 (fun _ => true) true 39 v d p) :
    ∃ (q : Option Addr) (cap : Nat) (l : List LQ), v = .slice q l.length cap ∧ Reqs W q l ∧ l.length ≤ 9223372036854775807 ∧ ∀ x ∈ l, x.r.fibs.length ≤ 9223372036854775807 := by
  obtain ⟨a0, len, cap, rfl⟩ := okWide_slice Try.underlying39 hok
  obtain ⟨fuel, hfu⟩ := h
  obtain ⟨q, cap', l, h1, h2, h3, h4, h5⟩ := slice_of_cells lqC (fun a => Ints W a.r.q a.r.fibs ∧ a.r.fibs.length ≤ 9223372036854775807) Try.underlying39 cells_rq (by omega) (fun _ => rfl) (fun _ _ _ hx => req_of_cells hx) hfu
  simp [Value.cells] at h1
  obtain ⟨rfl, rfl, rfl⟩ := h1
  exact ⟨_, _, l, rfl, ⟨h2, fun x hx => (h5 x hx).1⟩, by omega, fun x hx => (h5 x hx).2⟩
end
end Go.Proofs.Ytjlhjkdmpngkbaa
