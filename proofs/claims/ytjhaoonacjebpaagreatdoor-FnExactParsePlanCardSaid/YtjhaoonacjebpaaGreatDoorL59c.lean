/- The closed facts of the statement's card, joined. -/
import Derived.Test.YtjhaoonacjebpaaGreatDoorL59b
namespace Go.Proofs.YtjhaoonacjebpaaGreatDoor.lExactParsePlan
open Go.RowKit
theorem closed : joinedFacts Tryz.pinned.checked.prog 4 Tryz.f4 Rows.fnExactParsePlanSpec Rows.fnExactParsePlanRow = true := by
  unfold joinedFacts
  rw [show (Rows.fnExactParsePlanRow.inPlace == Tryz.pinned.checked.prog.inPlace 4) = true from d1,
    show (Rows.fnExactParsePlanRow.unfollowed == Tryz.pinned.checked.prog.unfollowed 4) = true from d2,
    show (Rows.fnExactParsePlanRow.recurses == Tryz.pinned.checked.prog.recurses 4) = true from d3,
    show (Rows.fnExactParsePlanRow.named == Tryz.pinned.checked.prog.varsNamed 4) = true from d4]
  kernel_rfl
end Go.Proofs.YtjhaoonacjebpaaGreatDoor.lExactParsePlan
