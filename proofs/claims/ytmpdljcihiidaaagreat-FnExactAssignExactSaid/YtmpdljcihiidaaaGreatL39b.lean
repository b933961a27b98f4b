/- The dear closed facts of the statement's card, one by one. -/
import Derived.Test.YtmpdljcihiidaaaGreatU1
import Derived.JoinedOf
import Derived.OpenShut
namespace Go.Proofs.YtmpdljcihiidaaaGreat.lExactAssignExact
open Go.RowKit
theorem d1 : (Rows.fnExactAssignExactRow.inPlace == Tryz.checked.prog.inPlace 3) = true := by kernel_rfl
theorem d2 : (Rows.fnExactAssignExactRow.unfollowed == Tryz.checked.prog.unfollowed 3) = true := by kernel_rfl
theorem d3 : (Rows.fnExactAssignExactRow.recurses == Tryz.checked.prog.recurses 3) = true := by kernel_rfl
theorem d4 : (Rows.fnExactAssignExactRow.named == Tryz.checked.prog.varsNamed 3) = true := by kernel_rfl
end Go.Proofs.YtmpdljcihiidaaaGreat.lExactAssignExact
