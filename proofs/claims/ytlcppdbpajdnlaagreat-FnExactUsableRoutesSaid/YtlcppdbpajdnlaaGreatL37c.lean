/- The closed facts of the statement's card, joined. -/
import Derived.Test.YtlcppdbpajdnlaaGreatL37b
namespace Go.Proofs.YtlcppdbpajdnlaaGreat.lExactUsableRoutes
open Go.RowKit
theorem closed : joinedFacts Tryz.pinned.checked.prog 3 Tryz.f3 Rows.fnExactUsableRoutesSpec Rows.fnExactUsableRoutesRow = true := by
  unfold joinedFacts
  rw [show (Rows.fnExactUsableRoutesRow.inPlace == Tryz.pinned.checked.prog.inPlace 3) = true from d1,
    show (Rows.fnExactUsableRoutesRow.unfollowed == Tryz.pinned.checked.prog.unfollowed 3) = true from d2,
    show (Rows.fnExactUsableRoutesRow.recurses == Tryz.pinned.checked.prog.recurses 3) = true from d3,
    show (Rows.fnExactUsableRoutesRow.named == Tryz.pinned.checked.prog.varsNamed 3) = true from d4]
  kernel_rfl
end Go.Proofs.YtlcppdbpajdnlaaGreat.lExactUsableRoutes
