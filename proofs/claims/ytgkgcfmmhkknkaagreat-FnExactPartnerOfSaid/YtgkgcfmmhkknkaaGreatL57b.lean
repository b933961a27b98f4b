/- The dear closed facts of the statement's card, one by one. -/
import Derived.Test.YtgkgcfmmhkknkaaGreatU1
import Derived.JoinedOf
import Derived.OpenShut
namespace Go.Proofs.YtgkgcfmmhkknkaaGreat.lExactPartnerOf
open Go.RowKit
theorem d1 : (Rows.fnExactPartnerOfRow.inPlace == Tryz.checked.prog.inPlace 10) = true := by kernel_rfl
theorem d2 : (Rows.fnExactPartnerOfRow.unfollowed == Tryz.checked.prog.unfollowed 10) = true := by kernel_rfl
theorem d3 : (Rows.fnExactPartnerOfRow.recurses == Tryz.checked.prog.recurses 10) = true := by kernel_rfl
theorem d4 : (Rows.fnExactPartnerOfRow.named == Tryz.checked.prog.varsNamed 10) = true := by kernel_rfl
end Go.Proofs.YtgkgcfmmhkknkaaGreat.lExactPartnerOf
