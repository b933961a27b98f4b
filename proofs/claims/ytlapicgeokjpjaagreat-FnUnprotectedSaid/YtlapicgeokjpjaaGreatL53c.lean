/- The closed facts of the statement's card, joined. -/
import Derived.Test.YtlapicgeokjpjaaGreatL53b
namespace Go.Proofs.YtlapicgeokjpjaaGreat.lUnprotected
open Go.RowKit
theorem closed : joinedFacts Tryz.pinned.checked.prog 3 Tryz.f3 Rows.fnUnprotectedSpec Rows.fnUnprotectedRow = true := by
  unfold joinedFacts
  rw [show (Rows.fnUnprotectedRow.inPlace == Tryz.pinned.checked.prog.inPlace 3) = true from d1,
    show (Rows.fnUnprotectedRow.unfollowed == Tryz.pinned.checked.prog.unfollowed 3) = true from d2,
    show (Rows.fnUnprotectedRow.recurses == Tryz.pinned.checked.prog.recurses 3) = true from d3,
    show (Rows.fnUnprotectedRow.named == Tryz.pinned.checked.prog.varsNamed 3) = true from d4]
  kernel_rfl
end Go.Proofs.YtlapicgeokjpjaaGreat.lUnprotected
