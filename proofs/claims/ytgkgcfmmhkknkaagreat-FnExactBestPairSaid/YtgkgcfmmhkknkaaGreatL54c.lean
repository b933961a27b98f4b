/- The closed facts of the statement's card, joined. -/
import Derived.Test.YtgkgcfmmhkknkaaGreatL54b
namespace Go.Proofs.YtgkgcfmmhkknkaaGreat.lExactBestPair
open Go.RowKit
theorem closed : joinedFacts Tryz.pinned.checked.prog 7 Tryz.f7 Rows.fnExactBestPairSpec Rows.fnExactBestPairRow = true := by
  unfold joinedFacts
  rw [show (Rows.fnExactBestPairRow.inPlace == Tryz.pinned.checked.prog.inPlace 7) = true from d1,
    show (Rows.fnExactBestPairRow.unfollowed == Tryz.pinned.checked.prog.unfollowed 7) = true from d2,
    show (Rows.fnExactBestPairRow.recurses == Tryz.pinned.checked.prog.recurses 7) = true from d3,
    show (Rows.fnExactBestPairRow.named == Tryz.pinned.checked.prog.varsNamed 7) = true from d4]
  kernel_rfl
end Go.Proofs.YtgkgcfmmhkknkaaGreat.lExactBestPair
