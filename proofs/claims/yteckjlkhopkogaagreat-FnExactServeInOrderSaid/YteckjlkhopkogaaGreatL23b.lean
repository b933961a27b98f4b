/- The dear closed facts of the statement's card, one by one. -/
import Derived.Test.YteckjlkhopkogaaGreatU1
import Derived.JoinedOf
import Derived.OpenShut
namespace Go.Proofs.YteckjlkhopkogaaGreat.lExactServeInOrder
open Go.RowKit
theorem d1:(Rows.fnExactServeInOrderRow.inPlace == Tryz.checked.prog.inPlace 7)=true:=by kernel_rfl
theorem d2:(Rows.fnExactServeInOrderRow.unfollowed == Tryz.checked.prog.unfollowed 7)=true:=by kernel_rfl
theorem d3:(Rows.fnExactServeInOrderRow.recurses == Tryz.checked.prog.recurses 7)=true:=by kernel_rfl
theorem d4:(Rows.fnExactServeInOrderRow.named == Tryz.checked.prog.varsNamed 7)=true:=by kernel_rfl
end Go.Proofs.YteckjlkhopkogaaGreat.lExactServeInOrder
