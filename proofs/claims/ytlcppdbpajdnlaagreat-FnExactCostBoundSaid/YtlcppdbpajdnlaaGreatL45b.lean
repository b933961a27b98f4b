/- The dear closed facts of the statement's card, one by one. -/
import Derived.Test.YtlcppdbpajdnlaaGreatU1
import Derived.JoinedOf
import Derived.OpenShut
namespace Go.Proofs.YtlcppdbpajdnlaaGreat.lExactCostBound
open Go.RowKit
theorem d1 : (Rows.fnExactCostBoundRow.inPlace == Tryz.checked.prog.inPlace 5) = true := by kernel_rfl
theorem d2 : (Rows.fnExactCostBoundRow.unfollowed == Tryz.checked.prog.unfollowed 5) = true := by kernel_rfl
theorem d3 : (Rows.fnExactCostBoundRow.recurses == Tryz.checked.prog.recurses 5) = true := by kernel_rfl
theorem d4 : (Rows.fnExactCostBoundRow.named == Tryz.checked.prog.varsNamed 5) = true := by kernel_rfl
end Go.Proofs.YtlcppdbpajdnlaaGreat.lExactCostBound
