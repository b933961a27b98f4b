/- The closed facts of the statement's card, joined. -/
import Derived.Test.YteckjlkhopkogaaGreatL15b
namespace Go.Proofs.YteckjlkhopkogaaGreat.lExactServeAll
open Go.RowKit
theorem closed:joinedFacts Tryz.pinned.checked.prog 6 Tryz.f6 Rows.fnExactServeAllSpec Rows.fnExactServeAllRow=true:=by
 unfold joinedFacts
 rw[show(Rows.fnExactServeAllRow.inPlace == Tryz.pinned.checked.prog.inPlace 6)=true from d1,
  show(Rows.fnExactServeAllRow.unfollowed == Tryz.pinned.checked.prog.unfollowed 6)=true from d2,
  show(Rows.fnExactServeAllRow.recurses == Tryz.pinned.checked.prog.recurses 6)=true from d3,
  show(Rows.fnExactServeAllRow.named == Tryz.pinned.checked.prog.varsNamed 6)=true from d4]
 kernel_rfl
end Go.Proofs.YteckjlkhopkogaaGreat.lExactServeAll
