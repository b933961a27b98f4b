/- The closed facts of the statement's card, joined. -/
import Derived.Test.YtmpdljcihiidaaaGreatL41b
namespace Go.Proofs.YtmpdljcihiidaaaGreat.lExactRemoveLight
open Go.RowKit
theorem closed : joinedFacts Tryz.pinned.checked.prog 4 Tryz.f4 Rows.fnExactRemoveLightSpec Rows.fnExactRemoveLightRow = true := by
  unfold joinedFacts
  rw [show (Rows.fnExactRemoveLightRow.inPlace == Tryz.pinned.checked.prog.inPlace 4) = true from d1,
    show (Rows.fnExactRemoveLightRow.unfollowed == Tryz.pinned.checked.prog.unfollowed 4) = true from d2,
    show (Rows.fnExactRemoveLightRow.recurses == Tryz.pinned.checked.prog.recurses 4) = true from d3,
    show (Rows.fnExactRemoveLightRow.named == Tryz.pinned.checked.prog.varsNamed 4) = true from d4]
  kernel_rfl
end Go.Proofs.YtmpdljcihiidaaaGreat.lExactRemoveLight
