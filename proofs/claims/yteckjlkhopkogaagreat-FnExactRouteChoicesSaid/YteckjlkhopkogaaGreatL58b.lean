/- The dear closed facts of the statement's card, one by one. -/
import Derived.Test.YteckjlkhopkogaaGreatU1
import Derived.JoinedOf
import Derived.OpenShut
namespace Go.Proofs.YteckjlkhopkogaaGreat.lExactRouteChoices
open Go.RowKit
theorem d1:(Rows.fnExactRouteChoicesRow.inPlace == Tryz.checked.prog.inPlace 4) = true:=by kernel_rfl
theorem d2:(Rows.fnExactRouteChoicesRow.unfollowed == Tryz.checked.prog.unfollowed 4) = true:=by kernel_rfl
theorem d3:(Rows.fnExactRouteChoicesRow.recurses == Tryz.checked.prog.recurses 4) = true:=by kernel_rfl
theorem d4:(Rows.fnExactRouteChoicesRow.named == Tryz.checked.prog.varsNamed 4) = true:=by kernel_rfl
end Go.Proofs.YteckjlkhopkogaaGreat.lExactRouteChoices
