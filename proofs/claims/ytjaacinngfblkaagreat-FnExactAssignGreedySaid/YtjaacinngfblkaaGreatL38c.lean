/- The closed facts of the statement's card, joined. -/
import Derived.Test.YtjaacinngfblkaaGreatL38b
namespace Go.Proofs.YtjaacinngfblkaaGreat.lExactAssignGreedy
open Go.RowKit
theorem closed : joinedFacts Tryz.pinned.checked.prog 3 Tryz.f3 Rows.fnExactAssignGreedySpec Rows.fnExactAssignGreedyRow = true := by
  unfold joinedFacts
  rw [show (Rows.fnExactAssignGreedyRow.inPlace == Tryz.pinned.checked.prog.inPlace 3) = true from d1,
    show (Rows.fnExactAssignGreedyRow.unfollowed == Tryz.pinned.checked.prog.unfollowed 3) = true from d2,
    show (Rows.fnExactAssignGreedyRow.recurses == Tryz.pinned.checked.prog.recurses 3) = true from d3,
    show (Rows.fnExactAssignGreedyRow.named == Tryz.pinned.checked.prog.varsNamed 3) = true from d4]
  kernel_rfl
end Go.Proofs.YtjaacinngfblkaaGreat.lExactAssignGreedy
