/- The dear closed facts of the statement's card, one by one. -/
import Derived.Test.YtjaacinngfblkaaGreatU1
import Derived.JoinedOf
import Derived.OpenShut
namespace Go.Proofs.YtjaacinngfblkaaGreat.lExactSharedSaving
open Go.RowKit
theorem d1 : (Rows.fnExactSharedSavingRow.inPlace == Tryz.checked.prog.inPlace 5) = true := by kernel_rfl
theorem d2 : (Rows.fnExactSharedSavingRow.unfollowed == Tryz.checked.prog.unfollowed 5) = true := by kernel_rfl
theorem d3 : (Rows.fnExactSharedSavingRow.recurses == Tryz.checked.prog.recurses 5) = true := by kernel_rfl
theorem d4 : (Rows.fnExactSharedSavingRow.named == Tryz.checked.prog.varsNamed 5) = true := by kernel_rfl
end Go.Proofs.YtjaacinngfblkaaGreat.lExactSharedSaving
