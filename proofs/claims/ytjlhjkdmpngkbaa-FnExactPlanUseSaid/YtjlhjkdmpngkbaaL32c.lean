/- The closed facts of the statement's card, joined. -/
import Derived.Test.YtjlhjkdmpngkbaaL32b
namespace Go.Proofs.Ytjlhjkdmpngkbaa.lExactPlanUse
open Go.RowKit
theorem closed : joinedFacts Try.pinned.checked.prog 14 Try.f14 Rows.fnExactPlanUseSpec Rows.fnExactPlanUseRow = true := by
  unfold joinedFacts
  rw [show (Rows.fnExactPlanUseRow.inPlace == Try.pinned.checked.prog.inPlace 14) = true from d1,
    show (Rows.fnExactPlanUseRow.unfollowed == Try.pinned.checked.prog.unfollowed 14) = true from d2,
    show (Rows.fnExactPlanUseRow.recurses == Try.pinned.checked.prog.recurses 14) = true from d3,
    show (Rows.fnExactPlanUseRow.named == Try.pinned.checked.prog.varsNamed 14) = true from d4]
  kernel_rfl
end Go.Proofs.Ytjlhjkdmpngkbaa.lExactPlanUse
