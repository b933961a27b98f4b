/- The closed facts of the statement's card, joined. -/
import Derived.Test.YtgkgcfmmhkknkaaGreatL56b
namespace Go.Proofs.YtgkgcfmmhkknkaaGreat.lExactUnprotectedPairs
open Go.RowKit
theorem closed : joinedFacts Tryz.pinned.checked.prog 9 Tryz.f9 Rows.fnExactUnprotectedPairsSpec Rows.fnExactUnprotectedPairsRow = true := by
  unfold joinedFacts
  rw [show (Rows.fnExactUnprotectedPairsRow.inPlace == Tryz.pinned.checked.prog.inPlace 9) = true from d1,
    show (Rows.fnExactUnprotectedPairsRow.unfollowed == Tryz.pinned.checked.prog.unfollowed 9) = true from d2,
    show (Rows.fnExactUnprotectedPairsRow.recurses == Tryz.pinned.checked.prog.recurses 9) = true from d3,
    show (Rows.fnExactUnprotectedPairsRow.named == Tryz.pinned.checked.prog.varsNamed 9) = true from d4]
  kernel_rfl
end Go.Proofs.YtgkgcfmmhkknkaaGreat.lExactUnprotectedPairs
