/- The dear closed facts of the statement's card, one by one. -/
import Derived.Test.YteckjlkhopkogaaGreatU1
import Derived.JoinedOf
import Derived.OpenShut
namespace Go.Proofs.YteckjlkhopkogaaGreat.lExactServeDemand
open Go.RowKit
theorem d1:(Rows.fnExactServeDemandRow.inPlace == Tryz.checked.prog.inPlace 5) = true:=by kernel_rfl
theorem d2:(Rows.fnExactServeDemandRow.unfollowed == Tryz.checked.prog.unfollowed 5) = true:=by kernel_rfl
theorem d3:(Rows.fnExactServeDemandRow.recurses == Tryz.checked.prog.recurses 5) = true:=by kernel_rfl
theorem d4:(Rows.fnExactServeDemandRow.named == Tryz.checked.prog.varsNamed 5) = true:=by kernel_rfl
end Go.Proofs.YteckjlkhopkogaaGreat.lExactServeDemand
