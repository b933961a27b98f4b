/- The closed facts of the statement's card, joined. -/
import Derived.Test.YtgkgcfmmhkknkaaGreatL57b
namespace Go.Proofs.YtgkgcfmmhkknkaaGreat.lExactPartnerOf
open Go.RowKit
theorem closed : joinedFacts Tryz.pinned.checked.prog 10 Tryz.f10 Rows.fnExactPartnerOfSpec Rows.fnExactPartnerOfRow = true := by
  unfold joinedFacts
  rw [show (Rows.fnExactPartnerOfRow.inPlace == Tryz.pinned.checked.prog.inPlace 10) = true from d1,
    show (Rows.fnExactPartnerOfRow.unfollowed == Tryz.pinned.checked.prog.unfollowed 10) = true from d2,
    show (Rows.fnExactPartnerOfRow.recurses == Tryz.pinned.checked.prog.recurses 10) = true from d3,
    show (Rows.fnExactPartnerOfRow.named == Tryz.pinned.checked.prog.varsNamed 10) = true from d4]
  kernel_rfl
end Go.Proofs.YtgkgcfmmhkknkaaGreat.lExactPartnerOf
