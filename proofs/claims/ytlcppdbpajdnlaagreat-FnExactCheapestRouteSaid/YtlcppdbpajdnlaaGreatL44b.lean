/- The dear closed facts of the statement's card, one by one. -/
import Derived.Test.YtlcppdbpajdnlaaGreatU1
import Derived.JoinedOf
import Derived.OpenShut
namespace Go.Proofs.YtlcppdbpajdnlaaGreat.lExactCheapestRoute
open Go.RowKit
theorem d1 : (Rows.fnExactCheapestRouteRow.inPlace == Tryz.checked.prog.inPlace 4) = true := by kernel_rfl
theorem d2 : (Rows.fnExactCheapestRouteRow.unfollowed == Tryz.checked.prog.unfollowed 4) = true := by kernel_rfl
theorem d3 : (Rows.fnExactCheapestRouteRow.recurses == Tryz.checked.prog.recurses 4) = true := by kernel_rfl
theorem d4 : (Rows.fnExactCheapestRouteRow.named == Tryz.checked.prog.varsNamed 4) = true := by kernel_rfl
end Go.Proofs.YtlcppdbpajdnlaaGreat.lExactCheapestRoute
