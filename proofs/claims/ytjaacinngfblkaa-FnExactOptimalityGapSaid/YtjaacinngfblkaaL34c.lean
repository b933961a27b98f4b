/- The closed facts of the statement's card, joined. -/
import Derived.Test.YtjaacinngfblkaaL34b
namespace Go.Proofs.Ytjaacinngfblkaa.lExactOptimalityGap
open Go.RowKit
theorem closed : joinedFacts Try.pinned.checked.prog 4 Try.f4 Rows.fnExactOptimalityGapSpec Rows.fnExactOptimalityGapRow = true := by
  unfold joinedFacts
  rw [show (Rows.fnExactOptimalityGapRow.inPlace == Try.pinned.checked.prog.inPlace 4) = true from d1,
    show (Rows.fnExactOptimalityGapRow.unfollowed == Try.pinned.checked.prog.unfollowed 4) = true from d2,
    show (Rows.fnExactOptimalityGapRow.recurses == Try.pinned.checked.prog.recurses 4) = true from d3,
    show (Rows.fnExactOptimalityGapRow.named == Try.pinned.checked.prog.varsNamed 4) = true from d4]
  kernel_rfl
end Go.Proofs.Ytjaacinngfblkaa.lExactOptimalityGap
