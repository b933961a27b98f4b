/- The dear closed facts of the statement's card, one by one. -/
import Derived.Test.YteckjlkhopkogaaGreatU1
import Derived.JoinedOf
import Derived.OpenShut
namespace Go.Proofs.YteckjlkhopkogaaGreat.lExactBestRule
open Go.RowKit
theorem d1:(Rows.fnExactBestRuleRow.inPlace == Tryz.checked.prog.inPlace 8)=true:=by kernel_rfl
theorem d2:(Rows.fnExactBestRuleRow.unfollowed == Tryz.checked.prog.unfollowed 8)=true:=by kernel_rfl
theorem d3:(Rows.fnExactBestRuleRow.recurses == Tryz.checked.prog.recurses 8)=true:=by kernel_rfl
theorem d4:(Rows.fnExactBestRuleRow.named == Tryz.checked.prog.varsNamed 8)=true:=by kernel_rfl
end Go.Proofs.YteckjlkhopkogaaGreat.lExactBestRule
