/- The closed facts of the statement's card, joined. -/
import Derived.Test.YteckjlkhopkogaaGreatL46b
namespace Go.Proofs.YteckjlkhopkogaaGreat.lExactReleaseAll
open Go.RowKit
theorem closed : joinedFacts Tryz.pinned.checked.prog 3 Tryz.f3 Rows.fnExactReleaseAllSpec Rows.fnExactReleaseAllRow = true := by
  unfold joinedFacts
  rw [show (Rows.fnExactReleaseAllRow.inPlace == Tryz.pinned.checked.prog.inPlace 3) = true from d1,
    show (Rows.fnExactReleaseAllRow.unfollowed == Tryz.pinned.checked.prog.unfollowed 3) = true from d2,
    show (Rows.fnExactReleaseAllRow.recurses == Tryz.pinned.checked.prog.recurses 3) = true from d3,
    show (Rows.fnExactReleaseAllRow.named == Tryz.pinned.checked.prog.varsNamed 3) = true from d4]
  kernel_rfl
end Go.Proofs.YteckjlkhopkogaaGreat.lExactReleaseAll
