/- The dear closed facts of the statement's card, one by one. -/
import Derived.Test.YtjlhjkdmpngkbaaBase
import Derived.JoinedOf
import Derived.OpenShut
namespace Go.Proofs.Ytjlhjkdmpngkbaa.lExactIsValidRequests
open Go.RowKit
theorem d1 : (Rows.fnExactIsValidRequestsRow.inPlace == Try.checked.prog.inPlace 4) = true := by kernel_rfl
theorem d2 : (Rows.fnExactIsValidRequestsRow.unfollowed == Try.checked.prog.unfollowed 4) = true := by kernel_rfl
theorem d3 : (Rows.fnExactIsValidRequestsRow.recurses == Try.checked.prog.recurses 4) = true := by kernel_rfl
theorem d4 : (Rows.fnExactIsValidRequestsRow.named == Try.checked.prog.varsNamed 4) = true := by kernel_rfl
end Go.Proofs.Ytjlhjkdmpngkbaa.lExactIsValidRequests
