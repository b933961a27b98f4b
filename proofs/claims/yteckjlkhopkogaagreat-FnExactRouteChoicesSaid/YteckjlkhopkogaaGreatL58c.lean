/- The closed facts of the statement's card, joined. -/
import Derived.Test.YteckjlkhopkogaaGreatL58b
namespace Go.Proofs.YteckjlkhopkogaaGreat.lExactRouteChoices
open Go.RowKit
theorem closed:joinedFacts Tryz.pinned.checked.prog 4 Tryz.f4 Rows.fnExactRouteChoicesSpec Rows.fnExactRouteChoicesRow = true:=by
 unfold joinedFacts
 rw [show (Rows.fnExactRouteChoicesRow.inPlace == Tryz.pinned.checked.prog.inPlace 4) = true from d1,
  show (Rows.fnExactRouteChoicesRow.unfollowed == Tryz.pinned.checked.prog.unfollowed 4) = true from d2,
  show (Rows.fnExactRouteChoicesRow.recurses == Tryz.pinned.checked.prog.recurses 4) = true from d3,
  show (Rows.fnExactRouteChoicesRow.named == Tryz.pinned.checked.prog.varsNamed 4) = true from d4]
 kernel_rfl
end Go.Proofs.YteckjlkhopkogaaGreat.lExactRouteChoices
