/- The dear closed facts of the statement's card, one by one. -/
import Derived.Test.YtjaacinngfblkaaGreatU1
import Derived.JoinedOf
import Derived.OpenShut
namespace Go.Proofs.YtjaacinngfblkaaGreat.lExactAssignGreedy
open Go.RowKit
theorem d1 : (Rows.fnExactAssignGreedyRow.inPlace == Tryz.checked.prog.inPlace 3) = true := by kernel_rfl
theorem d2 : (Rows.fnExactAssignGreedyRow.unfollowed == Tryz.checked.prog.unfollowed 3) = true := by kernel_rfl
theorem d3 : (Rows.fnExactAssignGreedyRow.recurses == Tryz.checked.prog.recurses 3) = true := by kernel_rfl
theorem d4 : (Rows.fnExactAssignGreedyRow.named == Tryz.checked.prog.varsNamed 3) = true := by kernel_rfl
end Go.Proofs.YtjaacinngfblkaaGreat.lExactAssignGreedy
