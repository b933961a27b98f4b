/- The closed facts of the statement's card, joined. -/
import Derived.Test.YtgkgcfmmhkknkaaGreatL49b
namespace Go.Proofs.YtgkgcfmmhkknkaaGreat.lExactCountPairs
open Go.RowKit
theorem closed : joinedFacts Tryz.pinned.checked.prog 3 Tryz.f3 Rows.fnExactCountPairsSpec Rows.fnExactCountPairsRow = true := by
  unfold joinedFacts
  rw [show (Rows.fnExactCountPairsRow.inPlace == Tryz.pinned.checked.prog.inPlace 3) = true from d1,
    show (Rows.fnExactCountPairsRow.unfollowed == Tryz.pinned.checked.prog.unfollowed 3) = true from d2,
    show (Rows.fnExactCountPairsRow.recurses == Tryz.pinned.checked.prog.recurses 3) = true from d3,
    show (Rows.fnExactCountPairsRow.named == Tryz.pinned.checked.prog.varsNamed 3) = true from d4]
  kernel_rfl
end Go.Proofs.YtgkgcfmmhkknkaaGreat.lExactCountPairs
