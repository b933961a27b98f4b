/- The dear closed facts of the statement's card, one by one. -/
import Derived.Test.YtjlhjkdmpngkbaaBase
import Derived.JoinedOf
import Derived.OpenShut
namespace Go.Proofs.Ytjlhjkdmpngkbaa.lExactPlanUse
open Go.RowKit
theorem d1 : (Rows.fnExactPlanUseRow.inPlace == Try.checked.prog.inPlace 14) = true := by kernel_rfl
theorem d2 : (Rows.fnExactPlanUseRow.unfollowed == Try.checked.prog.unfollowed 14) = true := by kernel_rfl
theorem d3 : (Rows.fnExactPlanUseRow.recurses == Try.checked.prog.recurses 14) = true := by kernel_rfl
theorem d4 : (Rows.fnExactPlanUseRow.named == Try.checked.prog.varsNamed 14) = true := by kernel_rfl
end Go.Proofs.Ytjlhjkdmpngkbaa.lExactPlanUse
