/- The closed facts of the statement's card, joined. -/
import Derived.Test.YtjaacinngfblkaaGreatL40b
namespace Go.Proofs.YtjaacinngfblkaaGreat.lExactSharedSaving
open Go.RowKit
theorem closed : joinedFacts Tryz.pinned.checked.prog 5 Tryz.f5 Rows.fnExactSharedSavingSpec Rows.fnExactSharedSavingRow = true := by
  unfold joinedFacts
  rw [show (Rows.fnExactSharedSavingRow.inPlace == Tryz.pinned.checked.prog.inPlace 5) = true from d1,
    show (Rows.fnExactSharedSavingRow.unfollowed == Tryz.pinned.checked.prog.unfollowed 5) = true from d2,
    show (Rows.fnExactSharedSavingRow.recurses == Tryz.pinned.checked.prog.recurses 5) = true from d3,
    show (Rows.fnExactSharedSavingRow.named == Tryz.pinned.checked.prog.varsNamed 5) = true from d4]
  kernel_rfl
end Go.Proofs.YtjaacinngfblkaaGreat.lExactSharedSaving
