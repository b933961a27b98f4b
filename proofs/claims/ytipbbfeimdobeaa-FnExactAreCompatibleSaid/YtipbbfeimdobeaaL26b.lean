/- The dear closed facts of the statement's card, one by one. -/
import Derived.Test.YtipbbfeimdobeaaU1
import Derived.JoinedOf
import Derived.OpenShut
namespace Go.Proofs.Ytipbbfeimdobeaa.lExactAreCompatible
open Go.RowKit
theorem d1 : (Rows.fnExactAreCompatibleRow.inPlace == Try.checked.prog.inPlace 4) = true := by kernel_rfl
theorem d2 : (Rows.fnExactAreCompatibleRow.unfollowed == Try.checked.prog.unfollowed 4) = true := by kernel_rfl
theorem d3 : (Rows.fnExactAreCompatibleRow.recurses == Try.checked.prog.recurses 4) = true := by kernel_rfl
theorem d4 : (Rows.fnExactAreCompatibleRow.named == Try.checked.prog.varsNamed 4) = true := by kernel_rfl
end Go.Proofs.Ytipbbfeimdobeaa.lExactAreCompatible
