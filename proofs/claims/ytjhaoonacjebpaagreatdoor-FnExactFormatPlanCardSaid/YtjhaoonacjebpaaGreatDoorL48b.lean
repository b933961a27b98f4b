/- The dear closed facts of the statement's card, one by one. -/
import Derived.Test.YtjhaoonacjebpaaGreatDoorU1
import Derived.JoinedOf
import Derived.OpenShut
namespace Go.Proofs.YtjhaoonacjebpaaGreatDoor.lExactFormatPlan
open Go.RowKit
theorem d1 : (Rows.fnExactFormatPlanRow.inPlace == Tryz.checked.prog.inPlace 3) = true := by kernel_rfl
theorem d2 : (Rows.fnExactFormatPlanRow.unfollowed == Tryz.checked.prog.unfollowed 3) = true := by kernel_rfl
theorem d3 : (Rows.fnExactFormatPlanRow.recurses == Tryz.checked.prog.recurses 3) = true := by kernel_rfl
theorem d4 : (Rows.fnExactFormatPlanRow.named == Tryz.checked.prog.varsNamed 3) = true := by kernel_rfl
end Go.Proofs.YtjhaoonacjebpaaGreatDoor.lExactFormatPlan
