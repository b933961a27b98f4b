/- The closed facts of the statement's card, joined. -/
import Derived.Test.YtlcppdbpajdnlaaGreatL50b
namespace Go.Proofs.YtlcppdbpajdnlaaGreat.lExactOrderDemands
open Go.RowKit
theorem closed : joinedFacts Tryz.pinned.checked.prog 6 Tryz.f6 Rows.fnExactOrderDemandsSpec Rows.fnExactOrderDemandsRow = true := by
  unfold joinedFacts
  rw [show (Rows.fnExactOrderDemandsRow.inPlace == Tryz.pinned.checked.prog.inPlace 6) = true from d1,
    show (Rows.fnExactOrderDemandsRow.unfollowed == Tryz.pinned.checked.prog.unfollowed 6) = true from d2,
    show (Rows.fnExactOrderDemandsRow.recurses == Tryz.pinned.checked.prog.recurses 6) = true from d3,
    show (Rows.fnExactOrderDemandsRow.named == Tryz.pinned.checked.prog.varsNamed 6) = true from d4]
  kernel_rfl
end Go.Proofs.YtlcppdbpajdnlaaGreat.lExactOrderDemands
