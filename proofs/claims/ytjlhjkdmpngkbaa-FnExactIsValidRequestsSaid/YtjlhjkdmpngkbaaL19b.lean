/- The dear closed facts of the statement's card, one by one. -/
import Derived.Test.YtjlhjkdmpngkbaaBase
import Derived.JoinedOf
import Derived.OpenShut
namespace Go.Proofs.Ytjlhjkdmpngkbaa.lExactIsValidRequests
open Go.RowKit
abbrev theRow := Rows.fnExactIsValidRequestsRow
abbrev theF := 4
theorem d1 : (theRow.inPlace == Try.checked.prog.inPlace theF) = true := by kernel_rfl
theorem d2 : (theRow.unfollowed == Try.checked.prog.unfollowed theF) = true := by kernel_rfl
theorem d3 : (theRow.recurses == Try.checked.prog.recurses theF) = true := by kernel_rfl
theorem d4 : (theRow.named == Try.checked.prog.varsNamed theF) = true := by kernel_rfl
end Go.Proofs.Ytjlhjkdmpngkbaa.lExactIsValidRequests
