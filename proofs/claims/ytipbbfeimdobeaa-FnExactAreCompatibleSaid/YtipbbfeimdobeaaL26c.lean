/- The closed facts of the statement's card, joined. -/
import Derived.Test.YtipbbfeimdobeaaL26b
namespace Go.Proofs.Ytipbbfeimdobeaa.lExactAreCompatible
open Go.RowKit
theorem closed : joinedFacts Try.pinned.checked.prog 4 Try.f4 Rows.fnExactAreCompatibleSpec Rows.fnExactAreCompatibleRow = true := by
  unfold joinedFacts
  rw [show (Rows.fnExactAreCompatibleRow.inPlace == Try.pinned.checked.prog.inPlace 4) = true from d1,
    show (Rows.fnExactAreCompatibleRow.unfollowed == Try.pinned.checked.prog.unfollowed 4) = true from d2,
    show (Rows.fnExactAreCompatibleRow.recurses == Try.pinned.checked.prog.recurses 4) = true from d3,
    show (Rows.fnExactAreCompatibleRow.named == Try.pinned.checked.prog.varsNamed 4) = true from d4]
  kernel_rfl
end Go.Proofs.Ytipbbfeimdobeaa.lExactAreCompatible
