/- Plans, lights, routes that came in, as one value. -/
import Derived.Test.YtjlhjkdmpngkbaaOpenR
import Derived.Test.YtjlhjkdmpngkbaaPl
import Derived.Test.YtjlhjkdmpngkbaaKRt
namespace Go.Proofs.Ytjlhjkdmpngkbaa
open Go.RowKit Go.ChangeShapes Go.WideShapes Go.ChangeAt Go.Joins

instance : Inhabited LL := ⟨⟨0, default, 0, 0⟩⟩
theorem cells_bk : Try.prog.cellsOf 73 = 2 := by kernel_rfl
theorem cells_lt : Try.prog.cellsOf 183 = 5 := by kernel_rfl
theorem cells_ls : Try.prog.cellsOf 55 = 1 := by kernel_rfl
theorem cells_pl : Try.prog.cellsOf 57 = 3 := by kernel_rfl
section
variable {H : Type} {enc : TypeId × Value → H}
set_option maxRecDepth 100000 in
theorem block_of_cells {W : World} {fuel : Nat} {cs : List Value} {x : DataW H × List MemPlace} (h : DataW.trod enc Try.prog W 0 (fun _ => true) true fuel 73 cs = some x) : ∃ f c : Int, cs = [iv f, iv c] := by
  obtain ⟨y0, y1, k, _, hlen, h0, h1⟩ := trod_struct2 Try.underlying73 h
  rw [cells_bk] at hlen
  match cs, hlen with
  | [u0, u1], _ =>
    have h0' : DataW.trod enc Try.prog W 0 (fun _ => true) true k 3 [u0] = some y0 := by
      have := h0; simp only at this; rw [cells_i] at this; exact this
    have h1' : DataW.trod enc Try.prog W 0 (fun _ => true) true k 3 [u1] = some y1 := by
      have := h1; simp only at this; rw [cells_i] at this; exact this
    obtain ⟨f, e0, _, _⟩ := DataW.trod_int Try.underlying3 h0'
    obtain ⟨c, e1, _, _⟩ := DataW.trod_int Try.underlying3 h1'
    cases e0; cases e1
    exact ⟨f, c, rfl⟩
set_option maxRecDepth 100000 in
theorem light_of_cells {W : World} {fuel : Nat} {cs : List Value} {x : DataW H × List MemPlace} (h : DataW.trod enc Try.prog W 0 (fun _ => true) true fuel 183 cs = some x) :
    ∃ a : LL, cs = llC a ∧ (Ints W a.r.q a.r.fibs ∧ a.r.fibs.length ≤ 9223372036854775807) := by
  obtain ⟨y0, y1, y2, k, _, hlen, h0, h1, h2⟩ := Go.Deep.trod_struct3 Try.underlying183 h
  rw [cells_lt] at hlen
  match cs, hlen with
  | [u0, u1, u2, u3, u4], _ =>
    have h0' : DataW.trod enc Try.prog W 0 (fun _ => true) true k 3 [u0] = some y0 := by
      have := h0; simp only at this; rw [cells_i] at this; exact this
    have h1' : DataW.trod enc Try.prog W 0 (fun _ => true) true k 71 [u1, u2] = some y1 := by
      have := h1; simp only at this; rw [cells_rt] at this; exact this
    have h2' : DataW.trod enc Try.prog W 0 (fun _ => true) true k 73 [u3, u4] = some y2 := by
      have := h2; simp only at this; rw [cells_bk] at this; exact this
    obtain ⟨id, e0, _, _⟩ := DataW.trod_int Try.underlying3 h0'
    obtain ⟨⟨s, q, cap, l⟩, e1, hI, hn⟩ := route_of_cells h1'
    obtain ⟨f, c, e2⟩ := block_of_cells h2'
    cases e0; cases e1; cases e2
    exact ⟨⟨id, ⟨s, q, cap, l⟩, f, c⟩, rfl, hI, hn⟩
set_option maxRecDepth 100000 in
theorem pl_of_cells {W : World} {fuel : Nat} {cs : List Value} {x : DataW H × List MemPlace} (h : DataW.trod enc Try.prog W 0 (fun _ => true) true fuel 57 cs = some x) : ∃ P, PlRaw W (.agg cs.toArray) P := by
  obtain ⟨y0, y1, k, _, hlen, h0, h1⟩ := trod_struct2 Try.underlying57 h
  rw [cells_pl] at hlen
  match cs, hlen with
  | [u0, u1, u2], _ =>
    have h0' : DataW.trod enc Try.prog W 0 (fun _ => true) true k 25 [u0, u1] = some y0 := by
      have := h0; simp only at this; rw [cells_net] at this; exact this
    have h1' : DataW.trod enc Try.prog W 0 (fun _ => true) true k 55 [u2] = some y1 := by
      have := h1; simp only at this; rw [cells_ls] at this; exact this
    obtain ⟨n, hn⟩ := net_of_cells h0'
    obtain ⟨r, e, l, e1, g2, g3, g4, g5⟩ := slice_of_cells llC (fun a => Ints W a.r.q a.r.fibs ∧ a.r.fibs.length ≤ 9223372036854775807) Try.underlying55 cells_lt (by omega) (fun _ => rfl) (fun _ _ _ hx => light_of_cells hx) h1'
    obtain ⟨q, m, c, p, k, d, hs⟩ := hn.shape
    simp at hs
    obtain ⟨rfl, rfl⟩ := hs
    cases e1
    exact ⟨⟨n, l.map LL.val⟩, q, m, c, p, k, d, r, e, l, rfl, hn, ⟨g2, fun x hx => (g5 x hx).1⟩, by omega, fun x hx => (g5 x hx).2, rfl, g3, g4⟩
set_option maxRecDepth 100000 in
theorem pl_of_trod {W : World} {r : Reach} {b : Nat} {v : Value} {d : DataW H} {p : List MemPlace} (hok : Value.okWide Try.prog W r b 57 v)
    (h : DataW.Trod enc Try.prog W 0 (fun _ => true) true 57 v d p) : ∃ P, PlRaw W v P := by
  obtain ⟨cs, rfl, _⟩ := okWide_struct Try.underlying57 hok
  obtain ⟨fuel, hfu⟩ := h
  have := pl_of_cells hfu
  simpa [Value.cells] using this
set_option maxRecDepth 100000 in
theorem rt_of_trod {W : World} {r : Reach} {b : Nat} {v : Value} {d : DataW H} {p : List MemPlace} (hok : Value.okWide Try.prog W r b 71 v)
    (h : DataW.Trod enc Try.prog W 0 (fun _ => true) true 71 v d p) : ∃ R, RtRaw W v R := by
  obtain ⟨cs, rfl, _⟩ := okWide_struct Try.underlying71 hok
  obtain ⟨fuel, hfu⟩ := h
  obtain ⟨⟨s, q, cap, l⟩, e, hI, hn⟩ := route_of_cells (x := (d, p)) (by simpa [Value.cells] using hfu)
  refine ⟨_, s, q, cap, l, ?_, hI, hn, rfl⟩
  rw [← Array.toArray_toList (xs := cs), e]
end
end Go.Proofs.Ytjlhjkdmpngkbaa
