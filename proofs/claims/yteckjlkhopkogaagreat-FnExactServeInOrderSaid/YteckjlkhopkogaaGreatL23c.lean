/- The closed facts of the statement's card, joined. -/
import Derived.Test.YteckjlkhopkogaaGreatL23b
namespace Go.Proofs.YteckjlkhopkogaaGreat.lExactServeInOrder
open Go.RowKit
theorem closed:joinedFacts Tryz.pinned.checked.prog 7 Tryz.f7 Rows.fnExactServeInOrderSpec Rows.fnExactServeInOrderRow=true:=by
 unfold joinedFacts
 rw[show(Rows.fnExactServeInOrderRow.inPlace == Tryz.pinned.checked.prog.inPlace 7)=true from d1,
  show(Rows.fnExactServeInOrderRow.unfollowed == Tryz.pinned.checked.prog.unfollowed 7)=true from d2,
  show(Rows.fnExactServeInOrderRow.recurses == Tryz.pinned.checked.prog.recurses 7)=true from d3,
  show(Rows.fnExactServeInOrderRow.named == Tryz.pinned.checked.prog.varsNamed 7)=true from d4]
 kernel_rfl
end Go.Proofs.YteckjlkhopkogaaGreat.lExactServeInOrder
