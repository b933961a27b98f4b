/- The closed facts of the statement's card, joined. -/
import Derived.Test.YtgiinjleehgkoaaGreatL43b
namespace Go.Proofs.YtgiinjleehgkoaaGreat.lExactMoveLight
open Go.RowKit
theorem closed : joinedFacts Tryz.pinned.checked.prog 3 Tryz.f3 Rows.fnExactMoveLightSpec Rows.fnExactMoveLightRow = true := by
  unfold joinedFacts
  rw [show (Rows.fnExactMoveLightRow.inPlace == Tryz.pinned.checked.prog.inPlace 3) = true from d1,
    show (Rows.fnExactMoveLightRow.unfollowed == Tryz.pinned.checked.prog.unfollowed 3) = true from d2,
    show (Rows.fnExactMoveLightRow.recurses == Tryz.pinned.checked.prog.recurses 3) = true from d3,
    show (Rows.fnExactMoveLightRow.named == Tryz.pinned.checked.prog.varsNamed 3) = true from d4]
  kernel_rfl
end Go.Proofs.YtgiinjleehgkoaaGreat.lExactMoveLight
