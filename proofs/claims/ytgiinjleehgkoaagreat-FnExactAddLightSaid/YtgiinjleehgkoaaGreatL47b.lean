/- The dear closed facts of the statement's card, one by one. -/
import Derived.Test.YtgiinjleehgkoaaGreatU1
import Derived.JoinedOf
import Derived.OpenShut
namespace Go.Proofs.YtgiinjleehgkoaaGreat.lExactAddLight
open Go.RowKit
theorem d1 : (Rows.fnExactAddLightRow.inPlace == Tryz.checked.prog.inPlace 5) = true := by kernel_rfl
theorem d2 : (Rows.fnExactAddLightRow.unfollowed == Tryz.checked.prog.unfollowed 5) = true := by kernel_rfl
theorem d3 : (Rows.fnExactAddLightRow.recurses == Tryz.checked.prog.recurses 5) = true := by kernel_rfl
theorem d4 : (Rows.fnExactAddLightRow.named == Tryz.checked.prog.varsNamed 5) = true := by kernel_rfl
end Go.Proofs.YtgiinjleehgkoaaGreat.lExactAddLight
