/- The closed facts of the statement's card, joined. -/
import Derived.Test.YtjlhjkdmpngkbaaL28b
namespace Go.Proofs.Ytjlhjkdmpngkbaa.lExactCheckAssignment
open Go.RowKit
theorem closed : joinedFacts Try.pinned.checked.prog 11 Try.f11 Rows.fnExactCheckAssignmentSpec Rows.fnExactCheckAssignmentRow = true := by
  unfold joinedFacts
  rw [show (Rows.fnExactCheckAssignmentRow.inPlace == Try.pinned.checked.prog.inPlace 11) = true from d1,
    show (Rows.fnExactCheckAssignmentRow.unfollowed == Try.pinned.checked.prog.unfollowed 11) = true from d2,
    show (Rows.fnExactCheckAssignmentRow.recurses == Try.pinned.checked.prog.recurses 11) = true from d3,
    show (Rows.fnExactCheckAssignmentRow.named == Try.pinned.checked.prog.varsNamed 11) = true from d4]
  kernel_rfl
end Go.Proofs.Ytjlhjkdmpngkbaa.lExactCheckAssignment
