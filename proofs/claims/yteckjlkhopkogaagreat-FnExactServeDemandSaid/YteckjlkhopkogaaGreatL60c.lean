/- The closed facts of the statement's card, joined. -/
import Derived.Test.YteckjlkhopkogaaGreatL60b
namespace Go.Proofs.YteckjlkhopkogaaGreat.lExactServeDemand
open Go.RowKit
theorem closed:joinedFacts Tryz.pinned.checked.prog 5 Tryz.f5 Rows.fnExactServeDemandSpec Rows.fnExactServeDemandRow = true:=by
 unfold joinedFacts
 rw [show (Rows.fnExactServeDemandRow.inPlace == Tryz.pinned.checked.prog.inPlace 5) = true from d1,
  show (Rows.fnExactServeDemandRow.unfollowed == Tryz.pinned.checked.prog.unfollowed 5) = true from d2,
  show (Rows.fnExactServeDemandRow.recurses == Tryz.pinned.checked.prog.recurses 5) = true from d3,
  show (Rows.fnExactServeDemandRow.named == Tryz.pinned.checked.prog.varsNamed 5) = true from d4]
 kernel_rfl
end Go.Proofs.YteckjlkhopkogaaGreat.lExactServeDemand
