/- The dear closed facts of the statement's card, one by one. -/
import Derived.Test.YtgkgcfmmhkknkaaGreatU1
import Derived.JoinedOf
import Derived.OpenShut
namespace Go.Proofs.YtgkgcfmmhkknkaaGreat.lExactCountPairs
open Go.RowKit
theorem d1 : (Rows.fnExactCountPairsRow.inPlace == Tryz.checked.prog.inPlace 3) = true := by kernel_rfl
theorem d2 : (Rows.fnExactCountPairsRow.unfollowed == Tryz.checked.prog.unfollowed 3) = true := by kernel_rfl
theorem d3 : (Rows.fnExactCountPairsRow.recurses == Tryz.checked.prog.recurses 3) = true := by kernel_rfl
theorem d4 : (Rows.fnExactCountPairsRow.named == Tryz.checked.prog.varsNamed 3) = true := by kernel_rfl
end Go.Proofs.YtgkgcfmmhkknkaaGreat.lExactCountPairs
