/- The closed facts of the statement's card, joined. -/
import Derived.Test.YtjaacinngfblkaaL35b
namespace Go.Proofs.Ytjaacinngfblkaa.lExactCollidingLights
open Go.RowKit
theorem closed : joinedFacts Try.pinned.checked.prog 5 Try.f5 Rows.fnExactCollidingLightsSpec Rows.fnExactCollidingLightsRow = true := by
  unfold joinedFacts
  rw [show (Rows.fnExactCollidingLightsRow.inPlace == Try.pinned.checked.prog.inPlace 5) = true from d1,
    show (Rows.fnExactCollidingLightsRow.unfollowed == Try.pinned.checked.prog.unfollowed 5) = true from d2,
    show (Rows.fnExactCollidingLightsRow.recurses == Try.pinned.checked.prog.recurses 5) = true from d3,
    show (Rows.fnExactCollidingLightsRow.named == Try.pinned.checked.prog.varsNamed 5) = true from d4]
  kernel_rfl
end Go.Proofs.Ytjaacinngfblkaa.lExactCollidingLights
