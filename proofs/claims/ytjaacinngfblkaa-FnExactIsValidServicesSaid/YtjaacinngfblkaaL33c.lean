/- The closed facts of the statement's card, joined. -/
import Derived.Test.YtjaacinngfblkaaL33b
namespace Go.Proofs.Ytjaacinngfblkaa.lExactIsValidServices
open Go.RowKit
theorem closed : joinedFacts Try.pinned.checked.prog 3 Try.f3 Rows.fnExactIsValidServicesSpec Rows.fnExactIsValidServicesRow = true := by
  unfold joinedFacts
  rw [show (Rows.fnExactIsValidServicesRow.inPlace == Try.pinned.checked.prog.inPlace 3) = true from d1,
    show (Rows.fnExactIsValidServicesRow.unfollowed == Try.pinned.checked.prog.unfollowed 3) = true from d2,
    show (Rows.fnExactIsValidServicesRow.recurses == Try.pinned.checked.prog.recurses 3) = true from d3,
    show (Rows.fnExactIsValidServicesRow.named == Try.pinned.checked.prog.varsNamed 3) = true from d4]
  kernel_rfl
end Go.Proofs.Ytjaacinngfblkaa.lExactIsValidServices
