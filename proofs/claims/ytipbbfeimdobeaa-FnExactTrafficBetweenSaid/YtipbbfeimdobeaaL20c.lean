/- The closed facts of the statement's card, joined. -/
import Derived.Test.YtipbbfeimdobeaaL20b
namespace Go.Proofs.Ytipbbfeimdobeaa.lExactTrafficBetween
open Go.RowKit
theorem closed : joinedFacts Try.pinned.checked.prog 3 Try.f3 Rows.fnExactTrafficBetweenSpec Rows.fnExactTrafficBetweenRow = true := by
  unfold joinedFacts
  rw [show (Rows.fnExactTrafficBetweenRow.inPlace == Try.pinned.checked.prog.inPlace 3) = true from d1,
    show (Rows.fnExactTrafficBetweenRow.unfollowed == Try.pinned.checked.prog.unfollowed 3) = true from d2,
    show (Rows.fnExactTrafficBetweenRow.recurses == Try.pinned.checked.prog.recurses 3) = true from d3,
    show (Rows.fnExactTrafficBetweenRow.named == Try.pinned.checked.prog.varsNamed 3) = true from d4]
  kernel_rfl
end Go.Proofs.Ytipbbfeimdobeaa.lExactTrafficBetween
