/- The dear closed facts of the statement's card, one by one. -/
import Derived.Test.YtlcppdbpajdnlaaGreatU1
import Derived.JoinedOf
import Derived.OpenShut
namespace Go.Proofs.YtlcppdbpajdnlaaGreat.lExactUsableRoutes
open Go.RowKit
theorem d1 : (Rows.fnExactUsableRoutesRow.inPlace == Tryz.checked.prog.inPlace 3) = true := by kernel_rfl
theorem d2 : (Rows.fnExactUsableRoutesRow.unfollowed == Tryz.checked.prog.unfollowed 3) = true := by kernel_rfl
theorem d3 : (Rows.fnExactUsableRoutesRow.recurses == Tryz.checked.prog.recurses 3) = true := by kernel_rfl
theorem d4 : (Rows.fnExactUsableRoutesRow.named == Tryz.checked.prog.varsNamed 3) = true := by kernel_rfl
end Go.Proofs.YtlcppdbpajdnlaaGreat.lExactUsableRoutes
