/- The closed facts of the statement's card, joined. -/
import Derived.Test.YtgiinjleehgkoaaGreatL47b
namespace Go.Proofs.YtgiinjleehgkoaaGreat.lExactAddLight
open Go.RowKit
theorem closed : joinedFacts Tryz.pinned.checked.prog 5 Tryz.f5 Rows.fnExactAddLightSpec Rows.fnExactAddLightRow = true := by
  unfold joinedFacts
  rw [show (Rows.fnExactAddLightRow.inPlace == Tryz.pinned.checked.prog.inPlace 5) = true from d1,
    show (Rows.fnExactAddLightRow.unfollowed == Tryz.pinned.checked.prog.unfollowed 5) = true from d2,
    show (Rows.fnExactAddLightRow.recurses == Tryz.pinned.checked.prog.recurses 5) = true from d3,
    show (Rows.fnExactAddLightRow.named == Tryz.pinned.checked.prog.varsNamed 5) = true from d4]
  kernel_rfl
end Go.Proofs.YtgiinjleehgkoaaGreat.lExactAddLight
