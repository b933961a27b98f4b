/- The dear closed facts of the statement's card, one by one. -/
import Derived.Test.YtjlhjkdmpngkbaaBase
import Derived.JoinedOf
import Derived.OpenShut
namespace Go.Proofs.Ytjlhjkdmpngkbaa.lExactIsValidPlan
open Go.RowKit
theorem d1 : (Rows.fnExactIsValidPlanRow.inPlace == Try.checked.prog.inPlace 7) = true := by kernel_rfl
theorem d2 : (Rows.fnExactIsValidPlanRow.unfollowed == Try.checked.prog.unfollowed 7) = true := by kernel_rfl
theorem d3 : (Rows.fnExactIsValidPlanRow.recurses == Try.checked.prog.recurses 7) = true := by kernel_rfl
theorem d4 : (Rows.fnExactIsValidPlanRow.named == Try.checked.prog.varsNamed 7) = true := by kernel_rfl
end Go.Proofs.Ytjlhjkdmpngkbaa.lExactIsValidPlan
