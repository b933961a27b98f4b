/- The closed facts of the statement's card, joined. -/
import Derived.Test.YtjaacinngfblkaaL36b
namespace Go.Proofs.Ytjaacinngfblkaa.lExactFiberMasks
open Go.RowKit
theorem closed : joinedFacts Try.pinned.checked.prog 6 Try.f6 Rows.fnExactFiberMasksSpec Rows.fnExactFiberMasksRow = true := by
  unfold joinedFacts
  rw [show (Rows.fnExactFiberMasksRow.inPlace == Try.pinned.checked.prog.inPlace 6) = true from d1,
    show (Rows.fnExactFiberMasksRow.unfollowed == Try.pinned.checked.prog.unfollowed 6) = true from d2,
    show (Rows.fnExactFiberMasksRow.recurses == Try.pinned.checked.prog.recurses 6) = true from d3,
    show (Rows.fnExactFiberMasksRow.named == Try.pinned.checked.prog.varsNamed 6) = true from d4]
  kernel_rfl
end Go.Proofs.Ytjaacinngfblkaa.lExactFiberMasks
