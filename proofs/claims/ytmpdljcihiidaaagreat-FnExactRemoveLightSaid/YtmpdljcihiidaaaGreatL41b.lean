/- The dear closed facts of the statement's card, one by one. -/
import Derived.Test.YtmpdljcihiidaaaGreatU1
import Derived.JoinedOf
import Derived.OpenShut
namespace Go.Proofs.YtmpdljcihiidaaaGreat.lExactRemoveLight
open Go.RowKit
theorem d1 : (Rows.fnExactRemoveLightRow.inPlace == Tryz.checked.prog.inPlace 4) = true := by kernel_rfl
theorem d2 : (Rows.fnExactRemoveLightRow.unfollowed == Tryz.checked.prog.unfollowed 4) = true := by kernel_rfl
theorem d3 : (Rows.fnExactRemoveLightRow.recurses == Tryz.checked.prog.recurses 4) = true := by kernel_rfl
theorem d4 : (Rows.fnExactRemoveLightRow.named == Tryz.checked.prog.varsNamed 4) = true := by kernel_rfl
end Go.Proofs.YtmpdljcihiidaaaGreat.lExactRemoveLight
