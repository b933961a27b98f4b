/- The closed facts of the statement's card, joined. -/
import Derived.Test.YtjlhjkdmpngkbaaL24b
namespace Go.Proofs.Ytjlhjkdmpngkbaa.lExactIsValidPlan
open Go.RowKit
theorem closed : joinedFacts Try.pinned.checked.prog 7 Try.f7 Rows.fnExactIsValidPlanSpec Rows.fnExactIsValidPlanRow = true := by
  unfold joinedFacts
  rw [show (Rows.fnExactIsValidPlanRow.inPlace == Try.pinned.checked.prog.inPlace 7) = true from d1,
    show (Rows.fnExactIsValidPlanRow.unfollowed == Try.pinned.checked.prog.unfollowed 7) = true from d2,
    show (Rows.fnExactIsValidPlanRow.recurses == Try.pinned.checked.prog.recurses 7) = true from d3,
    show (Rows.fnExactIsValidPlanRow.named == Try.pinned.checked.prog.varsNamed 7) = true from d4]
  kernel_rfl
end Go.Proofs.Ytjlhjkdmpngkbaa.lExactIsValidPlan
