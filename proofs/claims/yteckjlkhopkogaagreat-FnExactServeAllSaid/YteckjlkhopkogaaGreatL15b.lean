/- The dear closed facts of the statement's card, one by one. -/
import Derived.Test.YteckjlkhopkogaaGreatU1
import Derived.JoinedOf
import Derived.OpenShut
namespace Go.Proofs.YteckjlkhopkogaaGreat.lExactServeAll
open Go.RowKit
theorem d1:(Rows.fnExactServeAllRow.inPlace == Tryz.checked.prog.inPlace 6)=true:=by kernel_rfl
theorem d2:(Rows.fnExactServeAllRow.unfollowed == Tryz.checked.prog.unfollowed 6)=true:=by kernel_rfl
theorem d3:(Rows.fnExactServeAllRow.recurses == Tryz.checked.prog.recurses 6)=true:=by kernel_rfl
theorem d4:(Rows.fnExactServeAllRow.named == Tryz.checked.prog.varsNamed 6)=true:=by kernel_rfl
end Go.Proofs.YteckjlkhopkogaaGreat.lExactServeAll
