/- The dear closed facts of the statement's card, one by one. -/
import Derived.Test.YtjaacinngfblkaaU1
import Derived.JoinedOf
import Derived.OpenShut
namespace Go.Proofs.Ytjaacinngfblkaa.lExactIsValidServices
open Go.RowKit
theorem d1 : (Rows.fnExactIsValidServicesRow.inPlace == Try.checked.prog.inPlace 3) = true := by kernel_rfl
theorem d2 : (Rows.fnExactIsValidServicesRow.unfollowed == Try.checked.prog.unfollowed 3) = true := by kernel_rfl
theorem d3 : (Rows.fnExactIsValidServicesRow.recurses == Try.checked.prog.recurses 3) = true := by kernel_rfl
theorem d4 : (Rows.fnExactIsValidServicesRow.named == Try.checked.prog.varsNamed 3) = true := by kernel_rfl
end Go.Proofs.Ytjaacinngfblkaa.lExactIsValidServices
