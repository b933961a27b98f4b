/- The closed facts of the statement's card, joined. -/
import Derived.Test.YtlcppdbpajdnlaaGreatL45b
namespace Go.Proofs.YtlcppdbpajdnlaaGreat.lExactCostBound
open Go.RowKit
theorem closed : joinedFacts Tryz.pinned.checked.prog 5 Tryz.f5 Rows.fnExactCostBoundSpec Rows.fnExactCostBoundRow = true := by
  unfold joinedFacts
  rw [show (Rows.fnExactCostBoundRow.inPlace == Tryz.pinned.checked.prog.inPlace 5) = true from d1,
    show (Rows.fnExactCostBoundRow.unfollowed == Tryz.pinned.checked.prog.unfollowed 5) = true from d2,
    show (Rows.fnExactCostBoundRow.recurses == Tryz.pinned.checked.prog.recurses 5) = true from d3,
    show (Rows.fnExactCostBoundRow.named == Tryz.pinned.checked.prog.varsNamed 5) = true from d4]
  kernel_rfl
end Go.Proofs.YtlcppdbpajdnlaaGreat.lExactCostBound
