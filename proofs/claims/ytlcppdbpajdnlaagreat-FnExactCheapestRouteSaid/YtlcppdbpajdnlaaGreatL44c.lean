/- The closed facts of the statement's card, joined. -/
import Derived.Test.YtlcppdbpajdnlaaGreatL44b
namespace Go.Proofs.YtlcppdbpajdnlaaGreat.lExactCheapestRoute
open Go.RowKit
theorem closed : joinedFacts Tryz.pinned.checked.prog 4 Tryz.f4 Rows.fnExactCheapestRouteSpec Rows.fnExactCheapestRouteRow = true := by
  unfold joinedFacts
  rw [show (Rows.fnExactCheapestRouteRow.inPlace == Tryz.pinned.checked.prog.inPlace 4) = true from d1,
    show (Rows.fnExactCheapestRouteRow.unfollowed == Tryz.pinned.checked.prog.unfollowed 4) = true from d2,
    show (Rows.fnExactCheapestRouteRow.recurses == Tryz.pinned.checked.prog.recurses 4) = true from d3,
    show (Rows.fnExactCheapestRouteRow.named == Tryz.pinned.checked.prog.varsNamed 4) = true from d4]
  kernel_rfl
end Go.Proofs.YtlcppdbpajdnlaaGreat.lExactCheapestRoute
