/- The dear closed facts of the statement's card, one by one. -/
import Derived.Test.YtgkgcfmmhkknkaaGreatU1
import Derived.JoinedOf
import Derived.OpenShut
namespace Go.Proofs.YtgkgcfmmhkknkaaGreat.lExactBestPair
open Go.RowKit
theorem d1 : (Rows.fnExactBestPairRow.inPlace == Tryz.checked.prog.inPlace 7) = true := by kernel_rfl
theorem d2 : (Rows.fnExactBestPairRow.unfollowed == Tryz.checked.prog.unfollowed 7) = true := by kernel_rfl
theorem d3 : (Rows.fnExactBestPairRow.recurses == Tryz.checked.prog.recurses 7) = true := by kernel_rfl
theorem d4 : (Rows.fnExactBestPairRow.named == Tryz.checked.prog.varsNamed 7) = true := by kernel_rfl
end Go.Proofs.YtgkgcfmmhkknkaaGreat.lExactBestPair
