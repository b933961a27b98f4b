/- The dear closed facts of the statement's card, one by one. -/
import Derived.Test.YtmpdljcihiidaaaGreatU1
import Derived.JoinedOf
import Derived.OpenShut
namespace Go.Proofs.YtmpdljcihiidaaaGreat.lExactGreedyOrder
open Go.RowKit
theorem d1 : (Rows.fnExactGreedyOrderRow.inPlace == Tryz.checked.prog.inPlace 5) = true := by kernel_rfl
theorem d2 : (Rows.fnExactGreedyOrderRow.unfollowed == Tryz.checked.prog.unfollowed 5) = true := by kernel_rfl
theorem d3 : (Rows.fnExactGreedyOrderRow.recurses == Tryz.checked.prog.recurses 5) = true := by kernel_rfl
theorem d4 : (Rows.fnExactGreedyOrderRow.named == Tryz.checked.prog.varsNamed 5) = true := by kernel_rfl
end Go.Proofs.YtmpdljcihiidaaaGreat.lExactGreedyOrder
