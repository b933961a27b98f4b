/- The dear closed facts of the statement's card, one by one. -/
import Derived.Test.YtjlhjkdmpngkbaaBase
import Derived.JoinedOf
import Derived.OpenShut
namespace Go.Proofs.Ytjlhjkdmpngkbaa.lExactCheckAssignment
open Go.RowKit
theorem d1 : (Rows.fnExactCheckAssignmentRow.inPlace == Try.checked.prog.inPlace 11) = true := by kernel_rfl
theorem d2 : (Rows.fnExactCheckAssignmentRow.unfollowed == Try.checked.prog.unfollowed 11) = true := by kernel_rfl
theorem d3 : (Rows.fnExactCheckAssignmentRow.recurses == Try.checked.prog.recurses 11) = true := by kernel_rfl
theorem d4 : (Rows.fnExactCheckAssignmentRow.named == Try.checked.prog.varsNamed 11) = true := by kernel_rfl
end Go.Proofs.Ytjlhjkdmpngkbaa.lExactCheckAssignment
