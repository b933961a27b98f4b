/- The dear closed facts of the statement's card, one by one. -/
import Derived.Test.YtgkgcfmmhkknkaaGreatU1
import Derived.JoinedOf
import Derived.OpenShut
namespace Go.Proofs.YtgkgcfmmhkknkaaGreat.lExactPairLength
open Go.RowKit
theorem d1 : (Rows.fnExactPairLengthRow.inPlace == Tryz.checked.prog.inPlace 5) = true := by kernel_rfl
theorem d2 : (Rows.fnExactPairLengthRow.unfollowed == Tryz.checked.prog.unfollowed 5) = true := by kernel_rfl
theorem d3 : (Rows.fnExactPairLengthRow.recurses == Tryz.checked.prog.recurses 5) = true := by kernel_rfl
theorem d4 : (Rows.fnExactPairLengthRow.named == Tryz.checked.prog.varsNamed 5) = true := by kernel_rfl
end Go.Proofs.YtgkgcfmmhkknkaaGreat.lExactPairLength
