/- Blocks that came in, as one value. -/
import Derived.Test.YtjlhjkdmpngkbaaOpen
import Derived.Test.YtjlhjkdmpngkbaaKBlk
namespace Go.Proofs.Ytjlhjkdmpngkbaa
open Go.RowKit Go.ChangeShapes Go.WideShapes Go.ChangeAt Go.Joins
theorem cellsB : Try.prog.cellsOf 73 = 2 := by kernel_rfl
set_option maxRecDepth 100000 in
theorem bk_of_trod {H : Type} {enc : TypeId × Value → H} {W : World} {r : Reach} {b : Nat} {v : Value} {d : DataW H} {p : List MemPlace} (hok : Value.okWide Try.prog W r b 92 v) (h : DataW.Trod enc Try.prog W 0 (fun _ => true) true 92 v d p) :
    ∃ L, BkRaw W v L := by
  obtain ⟨q, cap, l, h1, h2, h3, _⟩ := pairs_of_trod Try.underlying92 Try.underlying73 cellsB Try.underlying3 cells_i ⟨rfl, rfl, rfl, rfl⟩ hok h
  exact ⟨l, q, cap, h1, h2, h3⟩
end Go.Proofs.Ytjlhjkdmpngkbaa
