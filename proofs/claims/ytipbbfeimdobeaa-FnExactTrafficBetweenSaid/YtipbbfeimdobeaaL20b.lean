/- The dear closed facts of the statement's card, one by one. -/
import Derived.Test.YtipbbfeimdobeaaU1
import Derived.JoinedOf
import Derived.OpenShut
namespace Go.Proofs.Ytipbbfeimdobeaa.lExactTrafficBetween
open Go.RowKit
theorem d1 : (Rows.fnExactTrafficBetweenRow.inPlace == Try.checked.prog.inPlace 3) = true := by kernel_rfl
theorem d2 : (Rows.fnExactTrafficBetweenRow.unfollowed == Try.checked.prog.unfollowed 3) = true := by kernel_rfl
theorem d3 : (Rows.fnExactTrafficBetweenRow.recurses == Try.checked.prog.recurses 3) = true := by kernel_rfl
theorem d4 : (Rows.fnExactTrafficBetweenRow.named == Try.checked.prog.varsNamed 3) = true := by kernel_rfl
end Go.Proofs.Ytipbbfeimdobeaa.lExactTrafficBetween
