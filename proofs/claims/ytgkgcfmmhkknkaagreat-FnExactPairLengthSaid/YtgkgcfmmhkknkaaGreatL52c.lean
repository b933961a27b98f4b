/- The closed facts of the statement's card, joined. -/
import Derived.Test.YtgkgcfmmhkknkaaGreatL52b
namespace Go.Proofs.YtgkgcfmmhkknkaaGreat.lExactPairLength
open Go.RowKit
theorem closed : joinedFacts Tryz.pinned.checked.prog 5 Tryz.f5 Rows.fnExactPairLengthSpec Rows.fnExactPairLengthRow = true := by
  unfold joinedFacts
  rw [show (Rows.fnExactPairLengthRow.inPlace == Tryz.pinned.checked.prog.inPlace 5) = true from d1,
    show (Rows.fnExactPairLengthRow.unfollowed == Tryz.pinned.checked.prog.unfollowed 5) = true from d2,
    show (Rows.fnExactPairLengthRow.recurses == Tryz.pinned.checked.prog.recurses 5) = true from d3,
    show (Rows.fnExactPairLengthRow.named == Tryz.pinned.checked.prog.varsNamed 5) = true from d4]
  kernel_rfl
end Go.Proofs.YtgkgcfmmhkknkaaGreat.lExactPairLength
