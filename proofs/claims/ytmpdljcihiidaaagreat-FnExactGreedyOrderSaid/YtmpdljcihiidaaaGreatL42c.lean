/- The closed facts of the statement's card, joined. -/
import Derived.Test.YtmpdljcihiidaaaGreatL42b
namespace Go.Proofs.YtmpdljcihiidaaaGreat.lExactGreedyOrder
open Go.RowKit
theorem closed : joinedFacts Tryz.pinned.checked.prog 5 Tryz.f5 Rows.fnExactGreedyOrderSpec Rows.fnExactGreedyOrderRow = true := by
  unfold joinedFacts
  rw [show (Rows.fnExactGreedyOrderRow.inPlace == Tryz.pinned.checked.prog.inPlace 5) = true from d1,
    show (Rows.fnExactGreedyOrderRow.unfollowed == Tryz.pinned.checked.prog.unfollowed 5) = true from d2,
    show (Rows.fnExactGreedyOrderRow.recurses == Tryz.pinned.checked.prog.recurses 5) = true from d3,
    show (Rows.fnExactGreedyOrderRow.named == Tryz.pinned.checked.prog.varsNamed 5) = true from d4]
  kernel_rfl
end Go.Proofs.YtmpdljcihiidaaaGreat.lExactGreedyOrder
