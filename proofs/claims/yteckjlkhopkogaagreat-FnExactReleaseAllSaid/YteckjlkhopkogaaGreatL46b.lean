/- The dear closed facts of the statement's card, one by one. -/
import Derived.Test.YteckjlkhopkogaaGreatU1
import Derived.JoinedOf
import Derived.OpenShut
namespace Go.Proofs.YteckjlkhopkogaaGreat.lExactReleaseAll
open Go.RowKit
theorem d1 : (Rows.fnExactReleaseAllRow.inPlace == Tryz.checked.prog.inPlace 3) = true := by kernel_rfl
theorem d2 : (Rows.fnExactReleaseAllRow.unfollowed == Tryz.checked.prog.unfollowed 3) = true := by kernel_rfl
theorem d3 : (Rows.fnExactReleaseAllRow.recurses == Tryz.checked.prog.recurses 3) = true := by kernel_rfl
theorem d4 : (Rows.fnExactReleaseAllRow.named == Tryz.checked.prog.varsNamed 3) = true := by kernel_rfl
end Go.Proofs.YteckjlkhopkogaaGreat.lExactReleaseAll
