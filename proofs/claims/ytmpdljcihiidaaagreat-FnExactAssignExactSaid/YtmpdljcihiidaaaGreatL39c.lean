/- The closed facts of the statement's card, joined. -/
import Derived.Test.YtmpdljcihiidaaaGreatL39b
namespace Go.Proofs.YtmpdljcihiidaaaGreat.lExactAssignExact
open Go.RowKit
theorem closed : joinedFacts Tryz.pinned.checked.prog 3 Tryz.f3 Rows.fnExactAssignExactSpec Rows.fnExactAssignExactRow = true := by
  unfold joinedFacts
  rw [show (Rows.fnExactAssignExactRow.inPlace == Tryz.pinned.checked.prog.inPlace 3) = true from d1,
    show (Rows.fnExactAssignExactRow.unfollowed == Tryz.pinned.checked.prog.unfollowed 3) = true from d2,
    show (Rows.fnExactAssignExactRow.recurses == Tryz.pinned.checked.prog.recurses 3) = true from d3,
    show (Rows.fnExactAssignExactRow.named == Tryz.pinned.checked.prog.varsNamed 3) = true from d4]
  kernel_rfl
end Go.Proofs.YtmpdljcihiidaaaGreat.lExactAssignExact
