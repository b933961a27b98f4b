/- The dear closed facts of the statement's card, one by one. -/
import Derived.Test.YtgkgcfmmhkknkaaGreatU1
import Derived.JoinedOf
import Derived.OpenShut
namespace Go.Proofs.YtgkgcfmmhkknkaaGreat.lExactUnprotectedPairs
open Go.RowKit
theorem d1 : (Rows.fnExactUnprotectedPairsRow.inPlace == Tryz.checked.prog.inPlace 9) = true := by kernel_rfl
theorem d2 : (Rows.fnExactUnprotectedPairsRow.unfollowed == Tryz.checked.prog.unfollowed 9) = true := by kernel_rfl
theorem d3 : (Rows.fnExactUnprotectedPairsRow.recurses == Tryz.checked.prog.recurses 9) = true := by kernel_rfl
theorem d4 : (Rows.fnExactUnprotectedPairsRow.named == Tryz.checked.prog.varsNamed 9) = true := by kernel_rfl
end Go.Proofs.YtgkgcfmmhkknkaaGreat.lExactUnprotectedPairs
