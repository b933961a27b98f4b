/- The closed facts of the statement's card, joined. -/
import Derived.Test.YtjlhjkdmpngkbaaL19b
namespace Go.Proofs.Ytjlhjkdmpngkbaa.lExactIsValidRequests
open Go.RowKit
theorem closed : joinedFacts Try.pinned.checked.prog 4 Try.f4 Rows.fnExactIsValidRequestsSpec Rows.fnExactIsValidRequestsRow = true := by
  unfold joinedFacts
  rw [show (Rows.fnExactIsValidRequestsRow.inPlace == Try.pinned.checked.prog.inPlace 4) = true from d1,
    show (Rows.fnExactIsValidRequestsRow.unfollowed == Try.pinned.checked.prog.unfollowed 4) = true from d2,
    show (Rows.fnExactIsValidRequestsRow.recurses == Try.pinned.checked.prog.recurses 4) = true from d3,
    show (Rows.fnExactIsValidRequestsRow.named == Try.pinned.checked.prog.varsNamed 4) = true from d4]
  kernel_rfl
end Go.Proofs.Ytjlhjkdmpngkbaa.lExactIsValidRequests
