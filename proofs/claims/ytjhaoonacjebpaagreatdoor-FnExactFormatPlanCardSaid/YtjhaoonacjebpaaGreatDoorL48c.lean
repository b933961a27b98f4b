/- The closed facts of the statement's card, joined. -/
import Derived.Test.YtjhaoonacjebpaaGreatDoorL48b
namespace Go.Proofs.YtjhaoonacjebpaaGreatDoor.lExactFormatPlan
open Go.RowKit
theorem closed : joinedFacts Tryz.pinned.checked.prog 3 Tryz.f3 Rows.fnExactFormatPlanSpec Rows.fnExactFormatPlanRow = true := by
  unfold joinedFacts
  rw [show (Rows.fnExactFormatPlanRow.inPlace == Tryz.pinned.checked.prog.inPlace 3) = true from d1,
    show (Rows.fnExactFormatPlanRow.unfollowed == Tryz.pinned.checked.prog.unfollowed 3) = true from d2,
    show (Rows.fnExactFormatPlanRow.recurses == Tryz.pinned.checked.prog.recurses 3) = true from d3,
    show (Rows.fnExactFormatPlanRow.named == Tryz.pinned.checked.prog.varsNamed 3) = true from d4]
  kernel_rfl
end Go.Proofs.YtjhaoonacjebpaaGreatDoor.lExactFormatPlan
