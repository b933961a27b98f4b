/- The dear closed facts of the statement's card, one by one. -/
import Derived.Test.YtgiinjleehgkoaaGreatU1
import Derived.JoinedOf
import Derived.OpenShut
namespace Go.Proofs.YtgiinjleehgkoaaGreat.lExactMoveLight
open Go.RowKit
theorem d1 : (Rows.fnExactMoveLightRow.inPlace == Tryz.checked.prog.inPlace 3) = true := by kernel_rfl
theorem d2 : (Rows.fnExactMoveLightRow.unfollowed == Tryz.checked.prog.unfollowed 3) = true := by kernel_rfl
theorem d3 : (Rows.fnExactMoveLightRow.recurses == Tryz.checked.prog.recurses 3) = true := by kernel_rfl
theorem d4 : (Rows.fnExactMoveLightRow.named == Tryz.checked.prog.varsNamed 3) = true := by kernel_rfl
end Go.Proofs.YtgiinjleehgkoaaGreat.lExactMoveLight
