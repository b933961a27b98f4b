/- Contracts: UnionMasks on both sides. -/
import Derived.Test.YtnhjacaiggghnaaU1
import Derived.Test.YtnhjacaiggghnaaMk
namespace Go.Proofs.Ytnhjacaiggghnaa
open Go.RowKit

def orAll (xs : List Int) : Int := xs.foldl (fun a m => bits BinOp.or IntKind.i64 a m) 0
theorem orAll_step {xs : List Int} {k : Nat} {x : Int} (hx : xs[k]? = some x) : orAll (xs.take (k + 1)) = bits BinOp.or IntKind.i64 (orAll (xs.take k)) x := by
  unfold orAll; rw [List.take_add_one, hx]; simp
def unionF (xs : List Int) : Int × Bool := if xs.all maskB && decide (xs.length ≤ 40) then (orAll xs, true) else (0, false)
theorem unionF_bad {xs : List Int} (h : xs.all maskB = false) : unionF xs = (0, false) := by simp [unionF, h]
theorem unionF_long {xs : List Int} (h : 40 < xs.length) : unionF xs = (0, false) := by unfold unionF; rw [if_neg]; simp; intro _; exact h
theorem unionF_good {xs : List Int} (h : xs.all maskB = true) (hl : xs.length ≤ 40) : unionF xs = (orAll xs, true) := by simp [unionF, h, hl]
theorem ret_ib {a _b : Int} {x _y : Bool} {r : Int × Bool} (h : r = (a, x)) : Ending.returned (.tuple #[.int .i64 a, .bool x]) = .returned (.tuple #[.int .i64 r.1, .bool r.2]) := by rw [h]

end Go.Proofs.Ytnhjacaiggghnaa
