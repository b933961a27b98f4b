/- Contracts: BestFit of the reference; the walk of its law. -/
import Derived.Test.YtnhjacaiggghnaaBest
namespace Go.Proofs.Ytnhjacaiggghnaa
open Go.RowKit

/-- The best block, or the zero block. -/
def bestB (m c : Int) : Int × Int := if (bestR c (runs m)).2 = 0 then (0, 0) else ((bestR c (runs m)).1, c)
theorem bestB_none {m c : Int} (h : (bestR c (runs m)).2 = 0) : bestB m c = (0, 0) := by simp [bestB, h]
theorem bestB_some {m c : Int} (h : (bestR c (runs m)).2 ≠ 0) : bestB m c = ((bestR c (runs m)).1, c) := by simp [bestB, h]
def agg2 (r : Int × Int) : Value := .agg #[.int .i64 r.1, .int .i64 r.2]

theorem fldBlk1 (a b : Int) (u : World) : (Instr.field 42 (.agg #[.int .i64 a, .int .i64 b]) 1).run Try.prog u = .ok (.int .i64 b) u := by kernel_rfl

end Go.Proofs.Ytnhjacaiggghnaa
