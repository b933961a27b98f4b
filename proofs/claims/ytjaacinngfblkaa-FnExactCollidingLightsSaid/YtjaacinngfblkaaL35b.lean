/- The dear closed facts of the statement's card, one by one. -/
import Derived.Test.YtjaacinngfblkaaU1
import Derived.JoinedOf
import Derived.OpenShut
namespace Go.Proofs.Ytjaacinngfblkaa.lExactCollidingLights
open Go.RowKit
theorem d1 : (Rows.fnExactCollidingLightsRow.inPlace == Try.checked.prog.inPlace 5) = true := by kernel_rfl
theorem d2 : (Rows.fnExactCollidingLightsRow.unfollowed == Try.checked.prog.unfollowed 5) = true := by kernel_rfl
theorem d3 : (Rows.fnExactCollidingLightsRow.recurses == Try.checked.prog.recurses 5) = true := by kernel_rfl
theorem d4 : (Rows.fnExactCollidingLightsRow.named == Try.checked.prog.varsNamed 5) = true := by kernel_rfl
end Go.Proofs.Ytjaacinngfblkaa.lExactCollidingLights
