/- The closed facts of the statement's card, joined. -/
import Derived.Test.YteckjlkhopkogaaGreatL8b
namespace Go.Proofs.YteckjlkhopkogaaGreat.lExactBestRule
open Go.RowKit
theorem closed:joinedFacts Tryz.pinned.checked.prog 8 Tryz.f8 Rows.fnExactBestRuleSpec Rows.fnExactBestRuleRow=true:=by
 unfold joinedFacts
 rw[show(Rows.fnExactBestRuleRow.inPlace == Tryz.pinned.checked.prog.inPlace 8)=true from d1,
  show(Rows.fnExactBestRuleRow.unfollowed == Tryz.pinned.checked.prog.unfollowed 8)=true from d2,
  show(Rows.fnExactBestRuleRow.recurses == Tryz.pinned.checked.prog.recurses 8)=true from d3,
  show(Rows.fnExactBestRuleRow.named == Tryz.pinned.checked.prog.varsNamed 8)=true from d4]
 kernel_rfl
end Go.Proofs.YteckjlkhopkogaaGreat.lExactBestRule
