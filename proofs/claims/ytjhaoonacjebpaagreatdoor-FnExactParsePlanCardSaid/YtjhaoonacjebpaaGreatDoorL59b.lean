/- The dear closed facts of the statement's card, one by one. -/
import Derived.Test.YtjhaoonacjebpaaGreatDoorU1
import Derived.JoinedOf
import Derived.OpenShut
namespace Go.Proofs.YtjhaoonacjebpaaGreatDoor.lExactParsePlan
open Go.RowKit
theorem d1 : (Rows.fnExactParsePlanRow.inPlace == Tryz.checked.prog.inPlace 4) = true := by kernel_rfl
theorem d2 : (Rows.fnExactParsePlanRow.unfollowed == Tryz.checked.prog.unfollowed 4) = true := by kernel_rfl
theorem d3 : (Rows.fnExactParsePlanRow.recurses == Tryz.checked.prog.recurses 4) = true := by kernel_rfl
theorem d4 : (Rows.fnExactParsePlanRow.named == Tryz.checked.prog.varsNamed 4) = true := by kernel_rfl
end Go.Proofs.YtjhaoonacjebpaaGreatDoor.lExactParsePlan
