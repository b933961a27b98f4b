/- The closed facts of the statement's card, joined. -/
import Derived.Test.YtlapicgeokjpjaaGreatL55b
namespace Go.Proofs.YtlapicgeokjpjaaGreat.lPairs
open Go.RowKit
theorem closed : joinedFacts Tryz.pinned.checked.prog 4 Tryz.f4 Rows.fnPairsSpec Rows.fnPairsRow = true := by
  unfold joinedFacts
  rw [show (Rows.fnPairsRow.inPlace == Tryz.pinned.checked.prog.inPlace 4) = true from d1,
    show (Rows.fnPairsRow.unfollowed == Tryz.pinned.checked.prog.unfollowed 4) = true from d2,
    show (Rows.fnPairsRow.recurses == Tryz.pinned.checked.prog.recurses 4) = true from d3,
    show (Rows.fnPairsRow.named == Tryz.pinned.checked.prog.varsNamed 4) = true from d4]
  kernel_rfl
end Go.Proofs.YtlapicgeokjpjaaGreat.lPairs
