/- The closed facts of the statement's card, joined. -/
import Derived.Test.YtgkgcfmmhkknkaaGreatL51b
namespace Go.Proofs.YtgkgcfmmhkknkaaGreat.lExactIsTrap
open Go.RowKit
theorem closed : joinedFacts Tryz.pinned.checked.prog 4 Tryz.f4 Rows.fnExactIsTrapSpec Rows.fnExactIsTrapRow = true := by
  unfold joinedFacts
  rw [show (Rows.fnExactIsTrapRow.inPlace == Tryz.pinned.checked.prog.inPlace 4) = true from d1,
    show (Rows.fnExactIsTrapRow.unfollowed == Tryz.pinned.checked.prog.unfollowed 4) = true from d2,
    show (Rows.fnExactIsTrapRow.recurses == Tryz.pinned.checked.prog.recurses 4) = true from d3,
    show (Rows.fnExactIsTrapRow.named == Tryz.pinned.checked.prog.varsNamed 4) = true from d4]
  kernel_rfl
end Go.Proofs.YtgkgcfmmhkknkaaGreat.lExactIsTrap
