/- The dear closed facts of the statement's card, one by one. -/
import Derived.Test.YtgkgcfmmhkknkaaGreatU1
import Derived.JoinedOf
import Derived.OpenShut
namespace Go.Proofs.YtgkgcfmmhkknkaaGreat.lExactIsTrap
open Go.RowKit
theorem d1 : (Rows.fnExactIsTrapRow.inPlace == Tryz.checked.prog.inPlace 4) = true := by kernel_rfl
theorem d2 : (Rows.fnExactIsTrapRow.unfollowed == Tryz.checked.prog.unfollowed 4) = true := by kernel_rfl
theorem d3 : (Rows.fnExactIsTrapRow.recurses == Tryz.checked.prog.recurses 4) = true := by kernel_rfl
theorem d4 : (Rows.fnExactIsTrapRow.named == Tryz.checked.prog.varsNamed 4) = true := by kernel_rfl
end Go.Proofs.YtgkgcfmmhkknkaaGreat.lExactIsTrap
