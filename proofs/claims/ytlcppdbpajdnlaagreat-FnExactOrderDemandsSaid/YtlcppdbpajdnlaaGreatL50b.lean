/- The dear closed facts of the statement's card, one by one. -/
import Derived.Test.YtlcppdbpajdnlaaGreatU1
import Derived.JoinedOf
import Derived.OpenShut
namespace Go.Proofs.YtlcppdbpajdnlaaGreat.lExactOrderDemands
open Go.RowKit
theorem d1 : (Rows.fnExactOrderDemandsRow.inPlace == Tryz.checked.prog.inPlace 6) = true := by kernel_rfl
theorem d2 : (Rows.fnExactOrderDemandsRow.unfollowed == Tryz.checked.prog.unfollowed 6) = true := by kernel_rfl
theorem d3 : (Rows.fnExactOrderDemandsRow.recurses == Tryz.checked.prog.recurses 6) = true := by kernel_rfl
theorem d4 : (Rows.fnExactOrderDemandsRow.named == Tryz.checked.prog.varsNamed 6) = true := by kernel_rfl
end Go.Proofs.YtlcppdbpajdnlaaGreat.lExactOrderDemands
